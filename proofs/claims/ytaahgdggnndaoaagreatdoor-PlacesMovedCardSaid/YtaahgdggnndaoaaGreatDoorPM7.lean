/-
  PART 7 OF THE PROOF: E75 E76 E77 E14 E15 E26 Kr1 Sz1 Fl1 Fl2 Fl3 Fl4 E78 E79 E27 E80 E81 E9 E82 Cd1 Cs1 Cs2 Cs3 E83 Cd2 (no conditions).
-/
import Derived.Test.YtaahgdggnndaoaaGreatDoorPM6
import Derived.SevenTiedAt
import Derived.Test.YtaahgdggnndaoaaGreatDoorCards
import Derived.Test.YtaahgdggnndaoaaGreatDoorTie
set_option linter.unusedSectionVars false
set_option linter.unusedSimpArgs false
set_option linter.unusedVariables false
set_option linter.constructorNameAsVariable false
set_option linter.defProp false
noncomputable section
/-
 PLACES.RELATIVE told.
-/
set_option maxRecDepth 100000
set_option maxHeartbeats 16000000
namespace Go.Am
open Sx Go.Proofs
def tabCnt:Bool:=(List.range 5).all λw=>(List.range 5).all λv=>tO 64 [.i (.ofNat (w+1)),.i (.ofNat (v+1))] [.i (.ofNat (4*(w+1)*(v+1)))]
theorem cnt_all:tabCnt=true:=by kernel_rfl
theorem cnt_c{w v:Nat}(h:Sh w v):Cc 64 [.i (.ofNat w),.i (.ofNat v)] [.i (.ofNat (4*w*v))]:=by
 have h5:=qab.1 cnt_all (w - 1) (qal.2 (by have:=h.2.1;have:=h.1;omega))
 have h6:=qab.1 h5 (v - 1) (qal.2 (by have:=h.2.2.1;have:=h.2.2.2;omega))
 rw[show w - 1+1=w by have:=h.1;omega,show v - 1+1=v by have:=h.2.2.1;omega]at h6
 exact jX h6 rfl (by kernel_rfl) rfl
theorem r_st1{h:HL}{b e:Nat}{vs new:List Value}{K:List Value->HL->Prop}(hb:h[b]? = some (.o (.cells vs e true)))(hl:new.length=vs.length)(hk:K [] (h.set b (.o (.cells new e true)))):P1.heap (.st (ptrB b) new) h (@hid _ ⟨K⟩):=by
 have hrun:(Hp.st (ptrB b) new).run (getH ac h) h.length=some ([.set b (.cells new e true)],[]):=by
  show stP (ptrB b) new (getH ac h) h.length=_
  unfold stP
  simp only
  rw[bW hb]
  simp only
  unfold splice
  rw[if_pos (by omega)]
  simp[hl]
 exact dl hrun hk
theorem vg{h:HL}{a b:HO}:(h++[a]).set h.length b=h++[b]:=by simp
theorem ch{h:HL}{a:HO}:(h++[a])[h.length]? = some a:=by simp
theorem eqsM{a b:Mv}{K:Bool->Prop}:P1.eqs [(.i (Int.ofNat a.1),.i (Int.ofNat b.1)),(.i a.2.1,.i b.2.1),(.i a.2.2,.i b.2.2)] (@hid _ ⟨K⟩)=K (decide (a=b)):=by
 show K (cf _)=_
 have e:cf [(.i (Int.ofNat a.1),.i (Int.ofNat b.1)),(.i a.2.1,.i b.2.1),(.i a.2.2,.i b.2.2)]=decide (a=b):=by
  rw[qbN]
  simp[cf,gK,qdf]
  intro _ _
  omega
 rw[e]
def RelOk(w v:Nat)(l:List Crs)(H:HL)(rs:List Lf)(h':HL):Prop:=
 Pre H h'/\((∃A id,rs=[.v (.slice (some ⟨id,0,tag 3⟩) (4*w*v) (4*w*v+1)),.i 0]/\H.length<=id/\h'[id]? = some (.o (.cells (A.flatMap encM) 3 true))/\GoodA w v l A)∨
  (rs=[.v (.slice none 0 0),.i 11]/\¬ ∃G,gI w v l G/\G 0=idM))
theorem wg{w v:Nat}(hs:Sh w v){l:List Crs}(hk:(l.map bX).Nodup)(hl0:l.length<=1000){H:HL}{x:Value}(hl:LsH H x 3 encC l) :
  ∃rs h',aW cc ab 43 [.i (.ofNat w),.i (.ofNat v),.v x] (absH ac H) rs (absH ac h')/\RelOk w v l H rs h':=by
 have hN:=sh_N hs
 obtain⟨rs,h',h1,h2⟩:=x43 (K:=λrs h'=>RelOk w v l H rs h') (H:=H) (glsI (glsI (glsV hl.good gls0))) (by
  unfold f43;simp only[qxh]
  simp(disch:=omega)only[↓qXX]
  refine qc (gj ch) rfl ?_
  simp(disch:=omega)only[↓qXX]
  refine cg hl.good ?_
  simp(disch:=omega)only[↓qXX]
  obtain⟨M,hcr,hSM⟩:=creased_c (w:=.ofNat w) (v:=.ofNat v) (hl.pre (h':=H++[HO.o (.cells [.int .i64 (.ofNat w),.int .i64 (.ofNat v),x] 3 true)]) ⟨_,rfl⟩) hk hl0
  rw[show(H++[HO.o (.cells [.int .i64 (.ofNat w),.int .i64 (.ofNat v),x] 3 true)]).length=H.length+1 by simp]at hcr hSM
  have k0:(H++[HO.o (.cells [.int .i64 (.ofNat w),.int .i64 (.ofNat v),x] 3 true)]++[M]).length=H.length+2:=by simp
  have kp:(H++[HO.o (.cells [.int .i64 (.ofNat w),.int .i64 (.ofNat v),x] 3 true)]++[M])[H.length]? = some (HO.o (.cells [.int .i64 (.ofNat w),.int .i64 (.ofNat v),x] 3 true)):=by simp
  have kH:Pre H (H++[HO.o (.cells [.int .i64 (.ofNat w),.int .i64 (.ofNat v),x] 3 true)]++[M]):=⟨_,qaB ..⟩
  refine bZ hcr ?_
  clear hcr
  generalize H++[HO.o (.cells [.int .i64 (.ofNat w),.int .i64 (.ofNat v),x] 3 true)]++[M]=h2 at *
  simp(disch:=omega)only[↓qXX]
  refine r_st1 ch rfl ?_
  rw[vg]
  have m0:(h2++[HO.o (.cells [.map (some (H.length+1))] 1 true)]).length=H.length+3:=by simp[k0]
  have mp:=kp |> (Pre.get (b:=h2++[HO.o (.cells [.map (some (H.length+1))] 1 true)]) ⟨_,rfl⟩)
  have mv:(h2++[HO.o (.cells [.map (some (H.length+1))] 1 true)])[H.length+2]? = some (HO.o (.cells [.map (some (H.length+1))] 1 true)):=by rw[←k0];exact ch
  have mH:Pre H (h2++[HO.o (.cells [.map (some (H.length+1))] 1 true)]):=kH.app _
  have mS:SetM (h2++[HO.o (.cells [.map (some (H.length+1))] 1 true)]) (H.length+1) l:=by
   obtain⟨es,c,a1,a2⟩:=hSM
   exact⟨es,c,Pre.get ⟨_,rfl⟩ a1,a2⟩
  rw[k0]
  generalize h2++[HO.o (.cells [.map (some (H.length+1))] 1 true)]=h3 at *
  clear kp kH hSM k0
  refine uO (p:=ptrB H.length) (cs:=[.int .i64 (.ofNat w),.int .i64 (.ofNat v),x]) (ds:=[.int .i64 (.ofNat w),.int .i64 (.ofNat v)]) (gj mp) (by simp) rfl ?_
  simp(disch:=omega)only[↓qXX]
  refine ah (cnt_c hs) ?_
  simp(disch:=omega)only[↓qXX]
  refine aE (lq (by omega)) ?_
  simp(disch:=omega)only[↓qXX]
  rw[show(Int.ofNat (4*w*v)).toNat=4*w*v from rfl]
  have z0:HO.o (.cells (aU [.int .u8 0,.int .i64 0,.int .i64 0] (4*w*v)) 3 true)=HO.o (.cells ((List.replicate (4*w*v) idM).flatMap encM) 3 true):=by
   rw[←gH (enc:=encM) (z:=idM) (n:=4*w*v)]
   rfl
  rw[z0,m0]
  have n0:(h3++[HO.o (.cells ((List.replicate (4*w*v) idM).flatMap encM) 3 true)]).length=H.length+4:=by simp[m0]
  have np:=mp |> (Pre.get (b:=h3++[HO.o (.cells ((List.replicate (4*w*v) idM).flatMap encM) 3 true)]) ⟨_,rfl⟩)
  have nv:=mv |> (Pre.get (b:=h3++[HO.o (.cells ((List.replicate (4*w*v) idM).flatMap encM) 3 true)]) ⟨_,rfl⟩)
  have na:(h3++[HO.o (.cells ((List.replicate (4*w*v) idM).flatMap encM) 3 true)])[H.length+3]? = some (HO.o (.cells ((List.replicate (4*w*v) idM).flatMap encM) 3 true)):=by rw[←m0];exact ch
  have nH:Pre H (h3++[HO.o (.cells ((List.replicate (4*w*v) idM).flatMap encM) 3 true)]):=mH.app _
  have nS:SetM (h3++[HO.o (.cells ((List.replicate (4*w*v) idM).flatMap encM) 3 true)]) (H.length+1) l:=by
   obtain⟨es,c,a1,a2⟩:=mS
   exact⟨es,c,Pre.get ⟨_,rfl⟩ a1,a2⟩
  generalize h3++[HO.o (.cells ((List.replicate (4*w*v) idM).flatMap encM) 3 true)]=h4 at *
  clear mp mv mH mS m0
  refine r_st1 ch rfl ?_
  rw[vg]
  try simp(disch:=omega)only[↓qXX]
  refine qc (gj ch) rfl ?_
  simp(disch:=omega)only[↓qXX]
  refine cg (by simp[bc,noLoc,aZ,bw,bh,aQ,aD]) ?_
  simp(disch:=omega)only[↓qXX]
  refine aE (x:=Int.ofNat (4*w*v)) rfl ?_
  refine aE (lq (by omega)) ?_
  simp(disch:=omega)only[↓qXX]
  rw[n0,show(Int.ofNat (4*w*v)).toNat=4*w*v from rfl]
  refine cg (by simp[bc,noLoc,aZ,bw,bh,aQ,aD]) ?_
  have o0:(h4++[HO.o (.cells [.slice (some ⟨H.length+3,0,some 13⟩) (4*w*v) (4*w*v+1)] 1 true)]).length=H.length+5:=by simp[n0]
  have op:=np |> (Pre.get (b:=h4++[HO.o (.cells [.slice (some ⟨H.length+3,0,some 13⟩) (4*w*v) (4*w*v+1)] 1 true)]) ⟨_,rfl⟩)
  have om:=nv |> (Pre.get (b:=h4++[HO.o (.cells [.slice (some ⟨H.length+3,0,some 13⟩) (4*w*v) (4*w*v+1)] 1 true)]) ⟨_,rfl⟩)
  have oa:=na |> (Pre.get (b:=h4++[HO.o (.cells [.slice (some ⟨H.length+3,0,some 13⟩) (4*w*v) (4*w*v+1)] 1 true)]) ⟨_,rfl⟩)
  have ov:(h4++[HO.o (.cells [.slice (some ⟨H.length+3,0,some 13⟩) (4*w*v) (4*w*v+1)] 1 true)])[H.length+4]? = some (HO.o (.cells [.slice (some ⟨H.length+3,0,some 13⟩) (4*w*v) (4*w*v+1)] 1 true)):=by rw[←n0];exact ch
  have oH:Pre H (h4++[HO.o (.cells [.slice (some ⟨H.length+3,0,some 13⟩) (4*w*v) (4*w*v+1)] 1 true)]):=nH.app _
  have oS:SetM (h4++[HO.o (.cells [.slice (some ⟨H.length+3,0,some 13⟩) (4*w*v) (4*w*v+1)] 1 true)]) (H.length+1) l:=by
   obtain⟨es,c,a1,a2⟩:=nS
   exact⟨es,c,Pre.get ⟨_,rfl⟩ a1,a2⟩
  generalize h4++[HO.o (.cells [.slice (some ⟨H.length+3,0,some 13⟩) (4*w*v) (4*w*v+1)] 1 true)]=h5 at *
  clear np nv na nH nS n0
  have z1:HO.o (.cells (aU [.bool false] (4*w*v)) 1 true)=HO.o (.cells ((List.replicate (4*w*v) false).flatMap encT) 1 true):=by
   rw[←gH (enc:=encT) (z:=false) (n:=4*w*v)]
   rfl
  rw[z1,o0]
  have r0:RS H (h5++[HO.o (.cells ((List.replicate (4*w*v) false).flatMap encT) 1 true)]) w v x l (List.replicate (4*w*v) idM) (List.replicate (4*w*v) false):=by
   obtain⟨es,c,a1,a2⟩:=oS
   exact⟨oH.app _,by simp[o0],Pre.get ⟨_,rfl⟩ op,⟨es,c,Pre.get ⟨_,rfl⟩ a1,a2⟩,Pre.get ⟨_,rfl⟩ om,Pre.get ⟨_,rfl⟩ oa,Pre.get ⟨_,rfl⟩ ov,by rw[←o0];exact ch,by simp,by simp⟩
  generalize h5++[HO.o (.cells ((List.replicate (4*w*v) false).flatMap encT) 1 true)]=h6 at *
  clear op om oa ov oH oS o0
  refine kD (enc:=encT) (l:=List.replicate (4*w*v) false) (i:=0) (a:=true) kX r0.kn rfl (by simpa using hN.1) (by simp) rfl ?_
  have r1:=r0.putB (B':=(List.replicate (4*w*v) false).set 0 true) (by simp)
  generalize putE h6 (H.length+5) 1 encT ((List.replicate (4*w*v) false).set 0 true)=h7 at *
  try simp(disch:=omega)only[↓qXX]
  have r2:RS H (h7++[HO.o (.cells [.int .i64 0] 1 true)]) w v x l (List.replicate (4*w*v) idM) ((List.replicate (4*w*v) false).set 0 true):=r1.keep (λj o _ ho=>Pre.get ⟨_,rfl⟩ ho) (by simp)
  have hw0:WQ (H.length+6) (h7++[HO.o (.cells [.int .i64 0] 1 true)]) (.slice (some ⟨h7.length,0,some 11⟩) 1 2) [0]:=⟨h7.length,0,2,_,rfl,r1.len,ch,Sx.cut_all rfl,.inr rfl⟩
  have hj0:=JS.start (l:=l) hs
  have hc0:[0].length<=cntT ((List.replicate (4*w*v) false).set 0 true):=by
   rw[iA (by rw[qaZ,if_pos hN.1])]
   simp
  generalize h7++[HO.o (.cells [.int .i64 0] 1 true)]=h8 at *
  generalize Value.slice (some ⟨h7.length,0,some 11⟩) 1 2=v8 at *
  generalize List.replicate (4*w*v) idM=A0 at *
  generalize (List.replicate (4*w*v) false).set 0 true=B0 at *
  clear r0 r1
  refine nY (m:=left B0 [0]) (λm ls h'=>∃A B q vv,ls=[.v vv]/\RS H h' w v x l A B/\WQ (H.length+6) h' vv q/\JS w v l A B q (λ_ _=>True)/\q.length<=cntT B/\m=left B q) ⟨A0,B0,[0],v8,rfl,r2,hw0,hj0,hc0,rfl⟩ ?_
  clear r2 hw0 hj0 hc0
  rintro m ls h' ⟨A,B,q,vv,rfl,hr,hw,hj,hql,rfl⟩ self hself
  refine hidL ?_
  simp(disch:=omega)only[↓qXX]
  refine eC hw.ls ?_
  cases q with
  |nil=>
   rw[p_gtr_f (by show((List.length ([]:List Nat):Nat):Int)<=0;simp)]
   simp(disch:=omega)only[↓qXX]
   refine qc (gj hr.ov) rfl ?_
   simp(disch:=omega)only[↓qXX]
   refine cg hr.lsA.good ?_
   simp(disch:=omega)only[↓qXX]
   exact⟨hr.pre,.inl ⟨A,H.length+3,rfl,by omega,hr.ol,hj.good hs hr.la hr.lb⟩⟩
  |cons c0 q=>
   rw[p_gtr_t (by show(0:Int)<((List.length (c0 :: q):Nat):Int);simp only[qay];omega)]
   simp(disch:=omega)only[↓qXX]
   refine dg hw.ls (i:=0) rfl rfl ?_
   unfold encN
   simp(disch:=omega)only[↓qXX]
   refine r_tail hw ?_
   intro v1 hw1 hv1
   refine cg hv1 ?_
   have hb0:B[c0]? = some true:=hj.q1 c0 qaK
   have hcN:c0<4*w*v:=by have:=bJ hb0;have:=hr.lb;omega
   have hcl:=lN B
   refine de (σ:=Value×HL×List Mv×List Bool×List Nat) 3 (λj s=>[.v s.1,.i (Int.ofNat j)]) (λ_ s=>s.2.1) (λj s=>RS H s.2.1 w v x l s.2.2.1 s.2.2.2.1/\WQ (H.length+6) s.2.1 s.1 s.2.2.2.2/\JS w v l s.2.2.1 s.2.2.2.1 s.2.2.2.2 (λc e=>c=c0->e<j)/\s.2.2.2.2.length<=cntT s.2.2.2.1/\left s.2.2.2.1 s.2.2.2.2=left B q/\s.2.2.2.1[c0]? = some true) (j0:=0) (s0:=(v1,h',A,B,q)) rfl rfl (by omega) ⟨hr,hw1,hj.pop,by show q.length<=cntT B;simp only[qay]at hql;omega,rfl,hb0⟩ ?_
   clear hr hw hj hw1 hv1 hb0
   rintro j ⟨v2,h2',A2,B2,q2⟩ hj3 ⟨hr,hw,hj,hq2,hleft,hb0⟩ self2 hself2
   simp only at hr hw hj hq2 hleft hb0 hself2
   simp(disch:=omega)only[↓qXX]
   by_cases hlt:j<3
   case neg=>
    obtain rfl:j=3:=by omega
    rw[p_lss_f (by show(3:Int)<=((3:Nat):Int);omega)]
    simp(disch:=omega)only[↓qXX]
    refine hself (left B q) _ _ ?_ ⟨A2,B2,q2,v2,rfl,hr,hw,hj.done,hq2,hleft.symm⟩
    unfold left
    simp only[qay];omega
   rw[p_lss_t (by show((j:Nat):Int)<3;omega)]
   simp(disch:=omega)only[↓qXX]
   have next:∀(v3:Value) (h3':HL) (A3:List Mv) (B3:List Bool) (q3:List Nat),RS H h3' w v x l A3 B3->WQ (H.length+6) h3' v3 q3->JS w v l A3 B3 q3 (λc e=>c=c0->e<j+1)->q3.length<=cntT B3->left B3 q3=left B q->B3[c0]? = some true->self2 [.v v3,.i (Int.ofNat j+1)] h3':=λv3 h3' A3 B3 q3 a1 a2 a3 a4 a5 a6=>hself2 (v3,h3',A3,B3,q3) hlt ⟨a1,a2,a3,a4,a5,a6⟩
   have hadd:∀K:Int->Prop,P1.ari .add .u8 (Int.ofNat j) 1 (@hid _ ⟨K⟩)=K (Int.ofNat j+1):=λK=>p_add8 (by show(0:Int)<=(j:Int)+1;omega) (by show(j:Int)+1<=255;omega)
   refine uO (p:=ptrB H.length) (cs:=[.int .i64 (.ofNat w),.int .i64 (.ofNat v),x]) (ds:=[.int .i64 (.ofNat w),.int .i64 (.ofNat v)]) (gj hr.p) (by simp) rfl ?_
   simp(disch:=omega)only[↓qXX]
   refine ah (nb_c hs hcN hlt) ?_
   have hcl2:=lN B2
   have hlb2:=hr.lb
   cases hnb:nbr w v c0 j with
   |none=>
    unfold uE
    rw[hnb]
    simp(disch:=omega)only[↓qXX]
    rw[hadd]
    exact next _ _ _ _ _ hr hw (hj.skip hnb) hq2 hleft hb0
   |some n=>
    unfold uE
    rw[hnb]
    simp(disch:=omega)only[↓qXX]
    obtain⟨a,ha⟩:=bI (l:=A2) (i:=c0) (by rw[hr.la];exact hcN)
    have hok:=hj.bd c0 a hb0 ha
    have hac:=across_c hs (gj hr.p) (gj hr.mv) hr.mp (gj hr.ov) hr.lsA hcN hlt hnb ha hok (by omega)
    refine p_callv (callv_cap (args:=[.int .i64 (Int.ofNat c0),.int .u8 (Int.ofNat j)]) hac rfl [.leaf (.i .i64 (Int.ofNat c0)),.leaf (.i .u8 (Int.ofNat j)),.leaf (.v (ptrB H.length)),.leaf (.v (ptrB (H.length+2))),.leaf (.v (ptrB (H.length+4)))] rfl rfl rfl) ?_
    have hnN:=(pW hs hcN hlt hnb).1
    have hnc:=(pW hs hcN hlt hnb).2.2.2.2
    generalize hm:acM w l a c0 n j=m at *
    simp only[mvl]
    simp(disch:=omega)only[↓qXX]
    obtain⟨t,ht⟩:=bI (l:=B2) (i:=n) (by rw[hr.lb];exact hnN)
    refine dg hr.lsB rfl ht ?_
    unfold encT
    simp(disch:=omega)only[↓qXX]
    cases t with
    |true=>
     simp(disch:=omega)only[↓qXX,qbi]
     refine qc (gj hr.ov) rfl ?_
     simp(disch:=omega)only[↓qXX]
     refine cg hr.lsA.good ?_
     simp(disch:=omega)only[↓qXX]
     obtain⟨b,hb⟩:=bI (l:=A2) (i:=n) (by rw[hr.la];exact hnN)
     refine dg hr.lsA rfl hb ?_
     unfold encM
     simp(disch:=omega)only[↓qXX]
     rw[eqsM]
     by_cases hbm:b=m
     ·rw[decide_eq_true hbm]
      simp(disch:=omega)only[↓qXX,qbi]
      rw[hadd]
      exact next _ _ _ _ _ hr hw (hj.seen hnb ht ha (by rw[hb,hbm,hm])) hq2 hleft hb0
     ·rw[decide_eq_false hbm]
      simp(disch:=omega)only[↓qXX,qcj]
      exact⟨hr.pre,.inr ⟨rfl,hj.tear hs hcN hlt hnb hb0 ht ha hb (by rw[hm];exact hbm)⟩⟩
    |false=>
     simp(disch:=omega)only[↓qXX,qcj]
     refine qc (gj hr.ov) rfl ?_
     simp(disch:=omega)only[↓qXX]
     refine cg hr.lsA.good ?_
     simp(disch:=omega)only[↓qXX]
     refine kD (enc:=encM) (l:=A2) (i:=n) (a:=m) dj hr.ol rfl (by rw[hr.la];exact hnN) hr.la rfl ?_
     have hrA:=hr.putA (A':=A2.set n m) (by simp)
     have hwA:=hw.keep (h':=putE h2' (H.length+3) 3 encM (A2.set n m)) (λj o hjb ho=>by rw[cC (by omega)];exact ho)
     generalize putE h2' (H.length+3) 3 encM (A2.set n m)=h3' at *
     try simp(disch:=omega)only[↓qXX]
     refine kD (enc:=encT) (l:=B2) (i:=n) (a:=true) kX hrA.kn rfl (by rw[hr.lb];exact hnN) hr.lb rfl ?_
     have hrB:=hrA.putB (B':=B2.set n true) (by simp)
     have hwB:=hwA.keep (h':=putE h3' (H.length+5) 1 encT (B2.set n true)) (λj o hjb ho=>by rw[cC (by omega)];exact ho)
     generalize putE h3' (H.length+5) 1 encT (B2.set n true)=h4' at *
     try simp(disch:=omega)only[↓qXX]
     refine r_apQ (n:=n) hwB hrB.len rfl rfl (by omega) ?_
     intro v5 h5' hw5 hv5 hk5 hl5
     have hr5:=hrB.keep hk5 hl5
     simp(disch:=omega)only[↓qXX]
     refine cg hv5 ?_
     simp(disch:=omega)only[↓qXX]
     refine qc (gj hr5.ov) rfl ?_
     simp(disch:=omega)only[↓qXX]
     refine cg hr5.lsA.good ?_
     simp(disch:=omega)only[↓qXX]
     refine dg hr5.lsA (a:=m) rfl (qaW (by rw[hr.la];exact hnN)) ?_
     unfold encM
     simp(disch:=omega)only[↓qXX]
     try rw[eqsM,decide_eq_true rfl]
     simp(disch:=omega)only[↓qXX,qbi]
     rw[hadd]
     refine next _ _ _ _ _ hr5 hw5 ?_ ?_ ?_ ?_
     ·rw[←hm]
      exact hj.fresh hs hr.la hr.lb hcN hlt hnb hb0 ht ha
     ·rw[iA ht];simp;omega
     ·rw[←hleft]
      have:=lN (B2.set n true)
      unfold left
      rw[iA ht]at this ⊢
      simp only[qaO,qay,qaU,qcn]at this ⊢
      omega
     ·rw[qaC hnc];exact hb0)
 exact⟨rs,h',h1,h2⟩
end Go.Am

/-
 PLACES AND IMAGES told,where the places hang together.
-/
set_option maxRecDepth 100000
set_option maxHeartbeats 16000000
namespace Go.Am
open Sx Go.Proofs
def gJ(c:Cl):List Value:=[.int .i64 c.1,.int .i64 c.2.1,.int .u8 (Int.ofNat c.2.2)]
theorem lT(c:Cl):(gJ c).length=3:=rfl
theorem mo{m:Mv}{n:Int}(hm:okM n m){c:Cl}{k:Int}(hc:-k<=c.1/\c.1<=k/\-k<=c.2.1/\c.2.1<=k):-(n+k+1)<=(bf m c).1/\(bf m c).1<=n+k+1/\-(n+k+1)<=(bf m c).2.1/\(bf m c).2.1<=n+k+1/\(bf m c).2.2<4:=by
 have h1:=sU hm.1 hc
 have h2:=hm.2
 unfold bf
 simp only
 refine⟨?_,?_,?_,?_,qT_lt⟩<;>split<;>omega
theorem move_c{m:Mv}(hm:okM 3000 m){c:Cl}(hc:-1000<=c.1/\c.1<=1000/\-1000<=c.2.1/\c.2.1<=1000/\c.2.2<4):Cc 45 (mvl m++cll c) (cll (bf m c)++[.i 0]):=by
 have h1:=mo hm (k:=1000) ⟨hc.1,hc.2.1,hc.2.2.1,hc.2.2.2.1⟩
 refine q45 rfl ?_;unfold f45;simp only[qxh]
 simp only[mvl,cll,qao,qam]
 simp(disch:=omega)only[↓qXX]
 refine ah (vV hm (by omega)) ?_
 simp(disch:=omega)only[↓qXX]
 refine ah (cchk_c (c:=c) ⟨by omega,by omega,by omega,by omega,hc.2.2.2.2⟩) ?_
 simp(disch:=omega)only[↓qXX]
 refine ah (moved_c hm hc) ?_
 simp only[cll]
 simp(disch:=omega)only[↓qXX]
 refine ah (cchk_c (c:=bf m c) ⟨by omega,by omega,by omega,by omega,h1.2.2.2.2⟩) ?_
 simp(disch:=omega)only[↓qXX]
 rfl
theorem GoodA.eq{w v:Nat}{l:List Crs}{A:List Mv}(hs:Sh w v)(hA:GoodA w v l A){G:Nat->Mv}(hG:gI w v l G)(h0:G 0=idM):∀c,c<4*w*v->A[c]? = some (G c):=
 tb hs (by rw[h0];exact hA.a0) λc e n hc he hn h=>by rw[hG c e n hc he hn];exact hA.cons c e n _ hc he hn h
def plL(w v:Nat)(G:Nat->Mv)(r:Mv):List Mv:=(List.range (4*w*v)).map λc=>bp (G c) r
def imL(w v:Nat)(G:Nat->Mv)(r:Mv):List Cl:=(List.range (4*w*v)).map λc=>bf (bp (G c) r) (clN w c)
theorem tt{w v:Nat}{G:Nat->Mv}{r:Mv}{c:Nat}(h:c<4*w*v):(plL w v G r)[c]? = some (bp (G c) r):=by
 unfold plL
 rw[qaw,qbP h];rfl
theorem imL_get{w v:Nat}{G:Nat->Mv}{r:Mv}{c:Nat}(h:c<4*w*v):(imL w v G r)[c]? = some (bf (bp (G c) r) (clN w c)):=by
 unfold imL
 rw[qaw,qbP h];rfl
theorem take_set{α:Type}{L A:List α}{j:Nat}{a:α}(hL:L[j]? = some a)(hlen:L.length=A.length):(L.take j++A.drop j).set j a=L.take (j+1)++A.drop (j+1):=by
 have hj:=bJ hL
 have h1:(L.take j).length=j:=by rw[qaY];omega
 rw[qbL _ _ (by omega),h1,qbp,qbz (by omega),qcF,qcN,hL]
 simp
theorem mid_get{α:Type}{L A:List α}{j:Nat}{a:α}(hA:A[j]? = some a)(hlen:L.length=A.length):(L.take j++A.drop j)[j]? = some a:=by
 have hj:=bJ hA
 rw[qak (by rw[qaY];omega),qaY,qce (by omega),qbp,qbd,qba]
 exact hA
theorem pV{α:Type}{L A:List α}{j:Nat}(hlen:L.length=A.length)(hj:j<=L.length):(L.take j++A.drop j).length=A.length:=by
 rw[qaO,qaY,qbY];omega
theorem gh{α:Type}{e cx n:Nat}{enc:α->List Value}(henc:∀a,(enc a).length=e){h:HL}{id:Nat}{L:List α}(hg:h[id]? = some (.o (.cells (L.flatMap enc) e true)))(hn:n=L.length):LsH h (.slice (some ⟨id,0,tag e⟩) n cx) e enc L:=by
 subst hn
 have hl:=bb (e:=e) (enc:=enc) (l:=L) λa _=>henc a
 exact⟨λa _=>henc a,hl,.inr ⟨id,0,cx,_,true,rfl,hg,Sx.cut_all hl⟩⟩
theorem both_c{w v:Nat}(hs:Sh w v){l:List Crs}(hk:(l.map bX).Nodup)(hl0:l.length<=1000){H:HL}{x:Value}(hl:LsH H x 3 encC l)(hck:aW cc ab 14 [.i (.ofNat w),.i (.ofNat v),.v x] (absH ac H) [.i 0] (absH ac H))
  {G:Nat->Mv} (hG:gI w v l G) (h0:G 0=idM) {r:Mv} (hr:okM 900 r) :
  ∃lx ix h',aW cc ab 20 ([.i (.ofNat w),.i (.ofNat v),.v x]++mvl r) (absH ac H) [.v lx,.v ix,.i 0] (absH ac h')/\Pre H h'/\LsH h' lx 3 encM (plL w v G r)/\LsH h' ix 3 gJ (imL w v G r):=by
 have hN:=sh_N hs
 obtain⟨rs1,h1,c1,hpre1,hrel⟩:=wg hs hk hl0 hl
 rcases hrel with⟨A,id,rfl,hid,hol,hA⟩|⟨_,hno⟩
 case inr=>exact absurd ⟨G,hG,h0⟩ hno
 have hAG:=hA.eq hs hG h0
 have hP:(plL w v G r).length=A.length:=by rw[hA.len];simp[plL]
 have hI:(imL w v G r).length=4*w*v:=by simp[imL]
 have hidl:=bJ hol
 obtain⟨rs,h',hc,lx,ix,rfl,hpre,hp1,hp2⟩:=x20 (ls:=[.i (.ofNat w),.i (.ofNat v),.v x,.i (Int.ofNat r.1),.i r.2.1,.i r.2.2]) (K:=λrs h'=>∃lx ix,rs=[.v lx,.v ix,.i 0]/\Pre H h'/\LsH h' lx 3 encM (plL w v G r)/\LsH h' ix 3 gJ (imL w v G r)) (H:=H) (glsI (glsI (glsV hl.good (glsI (glsI (glsI gls0)))))) (by
  unfold f20;simp only[qxh]
  simp(disch:=omega)only[↓qXX]
  refine bZ hck ?_
  simp(disch:=omega)only[↓qXX]
  refine ah (vV hr (by omega)) ?_
  simp(disch:=omega)only[↓qXX]
  refine bZ c1 ?_
  simp(disch:=omega)only[↓qXX]
  refine aE (x:=Int.ofNat (4*w*v)) rfl ?_
  refine aE (lq (by omega)) ?_
  simp(disch:=omega)only[↓qXX]
  rw[show(Int.ofNat (4*w*v)).toNat=4*w*v from rfl]
  have z0:HO.o (.cells (aU [.int .i64 0,.int .i64 0,.int .u8 0] (4*w*v)) 3 true)=HO.o (.cells ((List.replicate (4*w*v) ((0,0,0):Cl)).flatMap gJ) 3 true):=by
   rw[←gH (enc:=gJ) (z:=((0,0,0):Cl)) (n:=4*w*v)]
   rfl
  rw[z0]
  refine aE (x:=Int.ofNat (4*w*v)) rfl ?_
  have hZ:(imL w v G r).length=(List.replicate (4*w*v) ((0,0,0):Cl)).length:=by rw[hI];simp
  have s1:(h1++[HO.o (.cells ((List.replicate (4*w*v) ((0,0,0):Cl)).flatMap gJ) 3 true)])[id]? = some (.o (.cells (A.flatMap encM) 3 true)):=Pre.get ⟨_,rfl⟩ hol
  have s2:(h1++[HO.o (.cells ((List.replicate (4*w*v) ((0,0,0):Cl)).flatMap gJ) 3 true)])[h1.length]? = some (HO.o (.cells ((List.replicate (4*w*v) ((0,0,0):Cl)).flatMap gJ) 3 true)):=ch
  have s3:Pre H (h1++[HO.o (.cells ((List.replicate (4*w*v) ((0,0,0):Cl)).flatMap gJ) 3 true)]):=hpre1.app _
  have hix:h1.length≠id:=by omega
  have hHi:H.length<=h1.length:=hpre1.len
  generalize List.replicate (4*w*v) ((0,0,0):Cl)=Z at *
  generalize h1++[HO.o (.cells (Z.flatMap gJ) 3 true)]=h2 at *
  generalize h1.length=iX at *
  refine de (σ:=HL) (4*w*v) (λj _=>[.i (Int.ofNat j)]) (λ_ s=>s) (λj s=>Pre H s/\s[id]? = some (.o (.cells (((plL w v G r).take j++A.drop j).flatMap encM) 3 true))/\s[iX]? = some (.o (.cells (((imL w v G r).take j++Z.drop j).flatMap gJ) 3 true))) (j0:=0) (s0:=h2) rfl rfl (qbB _) ⟨s3,by simpa using s1,by simpa using s2⟩ ?_
  clear s1 s2 s3
  rintro j h hj ⟨s3,s1,s2⟩ self hself
  simp(disch:=omega)only[↓qXX]
  by_cases hlt:j<4*w*v
  ·rw[cS hlt]
   simp(disch:=omega)only[↓qXX]
   have ha:=hAG j hlt
   have hLj:=tt (G:=G) (r:=r) hlt
   have hIj:=imL_get (G:=G) (r:=r) hlt
   have lenP:=pV (j:=j) hP (by rw[hP,hA.len];omega)
   have lenI:=pV (j:=j) hZ (by rw[hI];omega)
   refine dg (gh dj s1 (by rw[lenP,hA.len])) rfl (mid_get ha hP) ?_
   unfold encM
   simp(disch:=omega)only[↓qXX]
   refine ah (cellIn (ji w v hs.1 hs.2.1 hs.2.2.1 hs.2.2.2) hlt) ?_
   unfold cellN
   simp(disch:=omega)only[↓qXX]
   have okG:okM 2000 (G j):=hA.ok _ (qag ha)
   have okT:=eH okG hr
   refine ah (vp okG hr (by omega)) ?_
   generalize bp (G j) r=m at *
   simp only[mvl,qao,qam]
   simp(disch:=omega)only[↓qXX]
   refine kD (enc:=encM) (l:=(plL w v G r).take j++A.drop j) (i:=j) (a:=m) dj s1 rfl (by rw[lenP,hA.len];exact hlt) (by rw[lenP,hA.len]) rfl ?_
   rw[take_set hLj hP]
   have s1':(putE h id 3 encM ((plL w v G r).take (j+1)++A.drop (j+1)))[id]? = some (.o (.cells (((plL w v G r).take (j+1)++A.drop (j+1)).flatMap encM) 3 true)):=cV (bJ s1)
   have s2':(putE h id 3 encM ((plL w v G r).take (j+1)++A.drop (j+1)))[iX]? = some (.o (.cells (((imL w v G r).take j++Z.drop j).flatMap gJ) 3 true)):=by rw[cC hix];exact s2
   have s3':Pre H (putE h id 3 encM ((plL w v G r).take (j+1)++A.drop (j+1))):=fq s3 hid
   generalize putE h id 3 encM ((plL w v G r).take (j+1)++A.drop (j+1))=h3 at *
   simp(disch:=omega)only[↓qXX]
   have lenP1:=pV (j:=j+1) hP (by rw[hP,hA.len];omega)
   refine dg (a:=m) (gh dj s1' (by rw[lenP1,hA.len])) rfl ?_ ?_
   ·rw[qae (by rw[qaY,hP,hA.len];omega),qbw,if_pos (by omega)]
    exact hLj
   unfold encM
   simp(disch:=omega)only[↓qXX]
   have hcell:-1000<=(clN w j).1/\(clN w j).1<=1000/\-1000<=(clN w j).2.1/\(clN w j).2.1<=1000/\(clN w j).2.2<4:=by
    have d1:j / 4%w<=j / 4:=qdv _ _
    have d2:j / 4 / w<=j / 4:=qc0 _ _
    refine⟨?_,?_,?_,?_,qb5 _ (by omega)⟩
    ·exact qdr (show(-1000:Int)<=0 by decide) (qa0 _)
    ·exact qdp.2 (show j / 4%w<=1000 by omega)
    ·exact qdr (show(-1000:Int)<=0 by decide) (qa0 _)
    ·exact qdp.2 (show j / 4 / w<=1000 by omega)
   refine ah (move_c (c:=clN w j) (bz okT (by omega)) hcell) ?_
   generalize bf m (clN w j)=ci at *
   simp only[cll,qao,qam]
   simp(disch:=omega)only[↓qXX]
   refine kD (enc:=gJ) (l:=(imL w v G r).take j++Z.drop j) (i:=j) (a:=ci) lT s2' rfl (by rw[lenI,←hZ,hI];exact hlt) (by rw[lenI,←hZ,hI]) rfl ?_
   rw[take_set hIj hZ]
   simp(disch:=omega)only[↓qXX]
   rw[ii (by omega)]
   refine hself _ hlt ⟨fq s3' hHi,by rw[cC (qck hix)];exact s1',cV (bJ s2')⟩
  ·obtain rfl:j=4*w*v:=by omega
   rw[dC (qaA _)]
   simp(disch:=omega)only[↓qXX]
   rw[qaM (by rw[hP,hA.len];exact qaA _),qbr (by rw[hA.len];exact qaA _),qaR]at s1
   rw[qaM (by rw[hI];exact qaA _),qbr (by rw[←hZ,hI];exact qaA _),qaR]at s2
   exact⟨_,_,rfl,s3,gh dj s1 (by rw[hP,hA.len]),gh lT s2 (by rw[hI])⟩)
 exact⟨lx,ix,h',hc,hpre,hp1,hp2⟩
theorem uU{w v:Nat}(hs:Sh w v){l:List Crs}(hk:(l.map bX).Nodup)(hl0:l.length<=1000){H:HL}{x:Value}(hl:LsH H x 3 encC l)(hck:aW cc ab 14 [.i (.ofNat w),.i (.ofNat v),.v x] (absH ac H) [.i 0] (absH ac H))
  {G:Nat->Mv} (hG:gI w v l G) (h0:G 0=idM) {r:Mv} (hr:okM 900 r) :
  ∃lx h',aW cc ab 8 ([.i (.ofNat w),.i (.ofNat v),.v x]++mvl r) (absH ac H) [.v lx,.i 0] (absH ac h')/\Pre H h'/\LsH h' lx 3 encM (plL w v G r):=by
 obtain⟨lx,ix,h1,c1,p1,p2,p3⟩:=both_c hs hk hl0 hl hck hG h0 hr
 obtain⟨rs,h',hc,rfl,rfl⟩:=x8 (ls:=[.i (.ofNat w),.i (.ofNat v),.v x,.i (Int.ofNat r.1),.i r.2.1,.i r.2.2]) (K:=λrs h'=>rs=[.v lx,.i 0]/\h'=h1) (H:=H) (glsI (glsI (glsV hl.good (glsI (glsI (glsI gls0)))))) (by
  unfold f8;simp only[qxh]
  simp(disch:=omega)only[↓qXX]
  refine bZ c1 ?_
  simp(disch:=omega)only[↓qXX]
  exact⟨by trivial,by trivial⟩)
 exact⟨lx,_,hc,p1,p2⟩
end Go.Am

/-
  THE REFERENCE'S MOVES,CELLS AND SIDES told by numbers.
-/
set_option maxRecDepth 100000
set_option maxHeartbeats 16000000
namespace Go.Am
open Sx Go.Proofs
theorem across1:Cc 88 [.i 1] [.i 1,.i 0]:=by
  refine q88 rfl ?_;unfold f88;simp only[qxh]
  simp(disch:=omega)only[↓qXX]
theorem across2:Cc 88 [.i 2] [.i 0,.i 1]:=by
  refine q88 rfl ?_;unfold f88;simp only[qxh]
  simp(disch:=omega)only[↓qXX]
theorem across3:Cc 88 [.i 3] [.i 1,.i 1]:=by
  refine q88 rfl ?_;unfold f88;simp only[qxh]
  simp(disch:=omega)only[↓qXX]
theorem across4:Cc 88 [.i 4] [.i (-1),.i 1]:=by
  refine q88 rfl ?_;unfold f88;simp only[qxh]
  simp(disch:=omega)only[↓qXX]
theorem far1{c x y:Int}(h:-1000000<=c/\c<=1000000/\-1000000<=x/\x<=1000000/\-1000000<=y/\y<=1000000):Cc 54 [.i 1,.i c,.i x,.i y] [.i (x - 2*c)]:=by
  refine q54 rfl ?_;unfold f54;simp only[qxh]
  repeat (first|simp(disch:=omega)only[↓qXX]|refine ah across1 ?_)
  (try simp only[qas,Lf.i.injEq,and_true,true_and]);(try omega)
theorem far2{c x y:Int}(h:-1000000<=c/\c<=1000000/\-1000000<=x/\x<=1000000/\-1000000<=y/\y<=1000000):Cc 54 [.i 2,.i c,.i x,.i y] [.i (y - 2*c)]:=by
  refine q54 rfl ?_;unfold f54;simp only[qxh]
  repeat (first|simp(disch:=omega)only[↓qXX]|refine ah across2 ?_)
  (try simp only[qas,Lf.i.injEq,and_true,true_and]);(try omega)
theorem far3{c x y:Int}(h:-1000000<=c/\c<=1000000/\-1000000<=x/\x<=1000000/\-1000000<=y/\y<=1000000):Cc 54 [.i 3,.i c,.i x,.i y] [.i (x+y - 2*c)]:=by
  refine q54 rfl ?_;unfold f54;simp only[qxh]
  repeat (first|simp(disch:=omega)only[↓qXX]|refine ah across3 ?_)
  (try simp only[qas,Lf.i.injEq,and_true,true_and]);(try omega)
theorem far4{c x y:Int}(h:-1000000<=c/\c<=1000000/\-1000000<=x/\x<=1000000/\-1000000<=y/\y<=1000000):Cc 54 [.i 4,.i c,.i x,.i y] [.i (y - x - 2*c)]:=by
  refine q54 rfl ?_;unfold f54;simp only[qxh]
  repeat (first|simp(disch:=omega)only[↓qXX]|refine ah across4 ?_)
  (try simp only[qas,Lf.i.injEq,and_true,true_and]);(try omega)
theorem refl1{c x y:Int}(h:-1000000<=c/\c<=1000000/\-1000000<=x/\x<=1000000/\-1000000<=y/\y<=1000000):Cc 58 [.i 1,.i c,.i x,.i y] [.i (4*c - x),.i y]:=by
  refine q58 rfl ?_;unfold f58;simp only[qxh]
  repeat (first|simp(disch:=omega)only[↓qXX]|refine qa (by simp only[Int.reduceToNat,Int.reduceAdd,Int.reduceMul,Int.reduceMod,Int.reduceSub,Int.reduceNeg,Int.reduceDiv,Nat.reduceAdd,Nat.reduceMul,Nat.reduceLeDiff,qay,qaU,↓reduceIte,qaJ,qaG,qaH,qaX,qao,qam,qax,qbh,qa1,qba,qbq];exact rfl) ?_|refine ah across1 ?_|refine ah (far1 (by omega)) ?_)
  (try simp only[qas,Lf.i.injEq,and_true,true_and]);(try omega)
theorem refl2{c x y:Int}(h:-1000000<=c/\c<=1000000/\-1000000<=x/\x<=1000000/\-1000000<=y/\y<=1000000):Cc 58 [.i 2,.i c,.i x,.i y] [.i x,.i (4*c - y)]:=by
  refine q58 rfl ?_;unfold f58;simp only[qxh]
  repeat (first|simp(disch:=omega)only[↓qXX]|refine qa (by simp only[Int.reduceToNat,Int.reduceAdd,Int.reduceMul,Int.reduceMod,Int.reduceSub,Int.reduceNeg,Int.reduceDiv,Nat.reduceAdd,Nat.reduceMul,Nat.reduceLeDiff,qay,qaU,↓reduceIte,qaJ,qaG,qaH,qaX,qao,qam,qax,qbh,qa1,qba,qbq];exact rfl) ?_|refine ah across2 ?_|refine ah (far2 (by omega)) ?_)
  (try simp only[qas,Lf.i.injEq,and_true,true_and]);(try omega)
theorem refl3{c x y:Int}(h:-1000000<=c/\c<=1000000/\-1000000<=x/\x<=1000000/\-1000000<=y/\y<=1000000):Cc 58 [.i 3,.i c,.i x,.i y] [.i (2*c - y),.i (2*c - x)]:=by
  refine q58 rfl ?_;unfold f58;simp only[qxh]
  repeat (first|simp(disch:=omega)only[↓qXX]|refine qa (by simp only[Int.reduceToNat,Int.reduceAdd,Int.reduceMul,Int.reduceMod,Int.reduceSub,Int.reduceNeg,Int.reduceDiv,Nat.reduceAdd,Nat.reduceMul,Nat.reduceLeDiff,qay,qaU,↓reduceIte,qaJ,qaG,qaH,qaX,qao,qam,qax,qbh,qa1,qba,qbq];exact rfl) ?_|refine ah across3 ?_|refine ah (far3 (by omega)) ?_)
  (try simp only[qas,Lf.i.injEq,and_true,true_and]);(try omega)
theorem refl4{c x y:Int}(h:-1000000<=c/\c<=1000000/\-1000000<=x/\x<=1000000/\-1000000<=y/\y<=1000000):Cc 58 [.i 4,.i c,.i x,.i y] [.i (y - 2*c),.i (x+2*c)]:=by
  refine q58 rfl ?_;unfold f58;simp only[qxh]
  repeat (first|simp(disch:=omega)only[↓qXX]|refine qa (by simp only[Int.reduceToNat,Int.reduceAdd,Int.reduceMul,Int.reduceMod,Int.reduceSub,Int.reduceNeg,Int.reduceDiv,Nat.reduceAdd,Nat.reduceMul,Nat.reduceLeDiff,qay,qaU,↓reduceIte,qaJ,qaG,qaH,qaX,qao,qam,qax,qbh,qa1,qba,qbq];exact rfl) ?_|refine ah across4 ?_|refine ah (far4 (by omega)) ?_)
  (try simp only[qas,Lf.i.injEq,and_true,true_and]);(try omega)
theorem iZ{x y:Int}(h:-1000000<=x/\x<=1000000/\-1000000<=y/\y<=1000000):Cc 53 [.i x,.i y,.i 0] [.i (2*x+1),.i (2*y+1),.i (2*x),.i (2*y),.i (2*x+2),.i (2*y)]:=by
  refine q53 rfl ?_;unfold f53;simp only[qxh]
  repeat (first|simp(disch:=omega)only[↓qXX]|refine aE (by simp only[cm,putL,offX,Int.reduceToNat,Int.reduceAdd,Int.reduceMul,Int.reduceMod,Int.reduceSub,Int.reduceNeg,Int.reduceDiv,Nat.reduceAdd,Nat.reduceMul,Nat.reduceLeDiff,qay,qaU,↓reduceIte,qaJ,qaG,qaH,qaX,qao,qam,qax,qbh,qa1,qba,qbq];exact rfl) ?_)
  (try simp only[qas,Lf.i.injEq,and_true,true_and]);(try omega)
theorem ja{x y:Int}(h:-1000000<=x/\x<=1000000/\-1000000<=y/\y<=1000000):Cc 53 [.i x,.i y,.i 1] [.i (2*x+1),.i (2*y+1),.i (2*x+2),.i (2*y+2),.i (2*x+2),.i (2*y)]:=by
  refine q53 rfl ?_;unfold f53;simp only[qxh]
  repeat (first|simp(disch:=omega)only[↓qXX]|refine aE (by simp only[cm,putL,offX,Int.reduceToNat,Int.reduceAdd,Int.reduceMul,Int.reduceMod,Int.reduceSub,Int.reduceNeg,Int.reduceDiv,Nat.reduceAdd,Nat.reduceMul,Nat.reduceLeDiff,qay,qaU,↓reduceIte,qaJ,qaG,qaH,qaX,qao,qam,qax,qbh,qa1,qba,qbq];exact rfl) ?_)
  (try simp only[qas,Lf.i.injEq,and_true,true_and]);(try omega)
theorem jb{x y:Int}(h:-1000000<=x/\x<=1000000/\-1000000<=y/\y<=1000000):Cc 53 [.i x,.i y,.i 2] [.i (2*x+1),.i (2*y+1),.i (2*x+2),.i (2*y+2),.i (2*x),.i (2*y+2)]:=by
  refine q53 rfl ?_;unfold f53;simp only[qxh]
  repeat (first|simp(disch:=omega)only[↓qXX]|refine aE (by simp only[cm,putL,offX,Int.reduceToNat,Int.reduceAdd,Int.reduceMul,Int.reduceMod,Int.reduceSub,Int.reduceNeg,Int.reduceDiv,Nat.reduceAdd,Nat.reduceMul,Nat.reduceLeDiff,qay,qaU,↓reduceIte,qaJ,qaG,qaH,qaX,qao,qam,qax,qbh,qa1,qba,qbq];exact rfl) ?_)
  (try simp only[qas,Lf.i.injEq,and_true,true_and]);(try omega)
theorem jc{x y:Int}(h:-1000000<=x/\x<=1000000/\-1000000<=y/\y<=1000000):Cc 53 [.i x,.i y,.i 3] [.i (2*x+1),.i (2*y+1),.i (2*x),.i (2*y),.i (2*x),.i (2*y+2)]:=by
  refine q53 rfl ?_;unfold f53;simp only[qxh]
  repeat (first|simp(disch:=omega)only[↓qXX]|refine aE (by simp only[cm,putL,offX,Int.reduceToNat,Int.reduceAdd,Int.reduceMul,Int.reduceMod,Int.reduceSub,Int.reduceNeg,Int.reduceDiv,Nat.reduceAdd,Nat.reduceMul,Nat.reduceLeDiff,qay,qaU,↓reduceIte,qaJ,qaG,qaH,qaX,qao,qam,qax,qbh,qa1,qba,qbq];exact rfl) ?_)
  (try simp only[qas,Lf.i.injEq,and_true,true_and]);(try omega)
theorem with00{m n a b c d:Int}(h:m%2=1/\n%2=1/\-1000000<=m/\m<=1000000/\-1000000<=n/\n<=1000000/\a=m - 1/\b=n - 1/\c=m+1/\d=n - 1):Cc 56 [.i m,.i n,.i a,.i b,.i c,.i d] [.i ((m - 1) / 2),.i ((n - 1) / 2),.i 0]:=by
  refine q56 rfl ?_;unfold f56;simp only[qxh]
  rcases qbj 0 m with hm|hm<;>rcases qbj 0 n with hn|hn
  all_goals
    (repeat (first|simp(disch:=omega)only[↓qXX]|refine aE (by simp only[cm,putL,offX,Int.reduceToNat,Int.reduceAdd,Int.reduceMul,Int.reduceMod,Int.reduceSub,Int.reduceNeg,Int.reduceDiv,Nat.reduceAdd,Nat.reduceMul,Nat.reduceLeDiff,qay,qaU,↓reduceIte,qaJ,qaG,qaH,qaX,qao,qam,qax,qbh,qa1,qba,qbq];exact rfl) ?_|refine gQ 5 ?_|refine ah (iZ (by omega)) ?_|refine ah (ja (by omega)) ?_|refine ah (jb (by omega)) ?_|refine ah (jc (by omega)) ?_);(try simp only[qas,Lf.i.injEq,and_true,true_and]);(try omega))
theorem with01{m n a b c d:Int}(h:m%2=1/\n%2=1/\-1000000<=m/\m<=1000000/\-1000000<=n/\n<=1000000/\a=m+1/\b=n - 1/\c=m - 1/\d=n - 1):Cc 56 [.i m,.i n,.i a,.i b,.i c,.i d] [.i ((m - 1) / 2),.i ((n - 1) / 2),.i 0]:=by
  refine q56 rfl ?_;unfold f56;simp only[qxh]
  rcases qbj 0 m with hm|hm<;>rcases qbj 0 n with hn|hn
  all_goals
    (repeat (first|simp(disch:=omega)only[↓qXX]|refine aE (by simp only[cm,putL,offX,Int.reduceToNat,Int.reduceAdd,Int.reduceMul,Int.reduceMod,Int.reduceSub,Int.reduceNeg,Int.reduceDiv,Nat.reduceAdd,Nat.reduceMul,Nat.reduceLeDiff,qay,qaU,↓reduceIte,qaJ,qaG,qaH,qaX,qao,qam,qax,qbh,qa1,qba,qbq];exact rfl) ?_|refine gQ 5 ?_|refine ah (iZ (by omega)) ?_|refine ah (ja (by omega)) ?_|refine ah (jb (by omega)) ?_|refine ah (jc (by omega)) ?_);(try simp only[qas,Lf.i.injEq,and_true,true_and]);(try omega))
theorem with10{m n a b c d:Int}(h:m%2=1/\n%2=1/\-1000000<=m/\m<=1000000/\-1000000<=n/\n<=1000000/\a=m+1/\b=n+1/\c=m+1/\d=n - 1):Cc 56 [.i m,.i n,.i a,.i b,.i c,.i d] [.i ((m - 1) / 2),.i ((n - 1) / 2),.i 1]:=by
  refine q56 rfl ?_;unfold f56;simp only[qxh]
  rcases qbj 0 m with hm|hm<;>rcases qbj 0 n with hn|hn
  all_goals
    (repeat (first|simp(disch:=omega)only[↓qXX]|refine aE (by simp only[cm,putL,offX,Int.reduceToNat,Int.reduceAdd,Int.reduceMul,Int.reduceMod,Int.reduceSub,Int.reduceNeg,Int.reduceDiv,Nat.reduceAdd,Nat.reduceMul,Nat.reduceLeDiff,qay,qaU,↓reduceIte,qaJ,qaG,qaH,qaX,qao,qam,qax,qbh,qa1,qba,qbq];exact rfl) ?_|refine gQ 5 ?_|refine ah (iZ (by omega)) ?_|refine ah (ja (by omega)) ?_|refine ah (jb (by omega)) ?_|refine ah (jc (by omega)) ?_);(try simp only[qas,Lf.i.injEq,and_true,true_and]);(try omega))
theorem with11{m n a b c d:Int}(h:m%2=1/\n%2=1/\-1000000<=m/\m<=1000000/\-1000000<=n/\n<=1000000/\a=m+1/\b=n - 1/\c=m+1/\d=n+1):Cc 56 [.i m,.i n,.i a,.i b,.i c,.i d] [.i ((m - 1) / 2),.i ((n - 1) / 2),.i 1]:=by
  refine q56 rfl ?_;unfold f56;simp only[qxh]
  rcases qbj 0 m with hm|hm<;>rcases qbj 0 n with hn|hn
  all_goals
    (repeat (first|simp(disch:=omega)only[↓qXX]|refine aE (by simp only[cm,putL,offX,Int.reduceToNat,Int.reduceAdd,Int.reduceMul,Int.reduceMod,Int.reduceSub,Int.reduceNeg,Int.reduceDiv,Nat.reduceAdd,Nat.reduceMul,Nat.reduceLeDiff,qay,qaU,↓reduceIte,qaJ,qaG,qaH,qaX,qao,qam,qax,qbh,qa1,qba,qbq];exact rfl) ?_|refine gQ 5 ?_|refine ah (iZ (by omega)) ?_|refine ah (ja (by omega)) ?_|refine ah (jb (by omega)) ?_|refine ah (jc (by omega)) ?_);(try simp only[qas,Lf.i.injEq,and_true,true_and]);(try omega))
theorem with20{m n a b c d:Int}(h:m%2=1/\n%2=1/\-1000000<=m/\m<=1000000/\-1000000<=n/\n<=1000000/\a=m+1/\b=n+1/\c=m - 1/\d=n+1):Cc 56 [.i m,.i n,.i a,.i b,.i c,.i d] [.i ((m - 1) / 2),.i ((n - 1) / 2),.i 2]:=by
  refine q56 rfl ?_;unfold f56;simp only[qxh]
  rcases qbj 0 m with hm|hm<;>rcases qbj 0 n with hn|hn
  all_goals
    (repeat (first|simp(disch:=omega)only[↓qXX]|refine aE (by simp only[cm,putL,offX,Int.reduceToNat,Int.reduceAdd,Int.reduceMul,Int.reduceMod,Int.reduceSub,Int.reduceNeg,Int.reduceDiv,Nat.reduceAdd,Nat.reduceMul,Nat.reduceLeDiff,qay,qaU,↓reduceIte,qaJ,qaG,qaH,qaX,qao,qam,qax,qbh,qa1,qba,qbq];exact rfl) ?_|refine gQ 5 ?_|refine ah (iZ (by omega)) ?_|refine ah (ja (by omega)) ?_|refine ah (jb (by omega)) ?_|refine ah (jc (by omega)) ?_);(try simp only[qas,Lf.i.injEq,and_true,true_and]);(try omega))
theorem with21{m n a b c d:Int}(h:m%2=1/\n%2=1/\-1000000<=m/\m<=1000000/\-1000000<=n/\n<=1000000/\a=m - 1/\b=n+1/\c=m+1/\d=n+1):Cc 56 [.i m,.i n,.i a,.i b,.i c,.i d] [.i ((m - 1) / 2),.i ((n - 1) / 2),.i 2]:=by
  refine q56 rfl ?_;unfold f56;simp only[qxh]
  rcases qbj 0 m with hm|hm<;>rcases qbj 0 n with hn|hn
  all_goals
    (repeat (first|simp(disch:=omega)only[↓qXX]|refine aE (by simp only[cm,putL,offX,Int.reduceToNat,Int.reduceAdd,Int.reduceMul,Int.reduceMod,Int.reduceSub,Int.reduceNeg,Int.reduceDiv,Nat.reduceAdd,Nat.reduceMul,Nat.reduceLeDiff,qay,qaU,↓reduceIte,qaJ,qaG,qaH,qaX,qao,qam,qax,qbh,qa1,qba,qbq];exact rfl) ?_|refine gQ 5 ?_|refine ah (iZ (by omega)) ?_|refine ah (ja (by omega)) ?_|refine ah (jb (by omega)) ?_|refine ah (jc (by omega)) ?_);(try simp only[qas,Lf.i.injEq,and_true,true_and]);(try omega))
theorem with30{m n a b c d:Int}(h:m%2=1/\n%2=1/\-1000000<=m/\m<=1000000/\-1000000<=n/\n<=1000000/\a=m - 1/\b=n - 1/\c=m - 1/\d=n+1):Cc 56 [.i m,.i n,.i a,.i b,.i c,.i d] [.i ((m - 1) / 2),.i ((n - 1) / 2),.i 3]:=by
  refine q56 rfl ?_;unfold f56;simp only[qxh]
  rcases qbj 0 m with hm|hm<;>rcases qbj 0 n with hn|hn
  all_goals
    (repeat (first|simp(disch:=omega)only[↓qXX]|refine aE (by simp only[cm,putL,offX,Int.reduceToNat,Int.reduceAdd,Int.reduceMul,Int.reduceMod,Int.reduceSub,Int.reduceNeg,Int.reduceDiv,Nat.reduceAdd,Nat.reduceMul,Nat.reduceLeDiff,qay,qaU,↓reduceIte,qaJ,qaG,qaH,qaX,qao,qam,qax,qbh,qa1,qba,qbq];exact rfl) ?_|refine gQ 5 ?_|refine ah (iZ (by omega)) ?_|refine ah (ja (by omega)) ?_|refine ah (jb (by omega)) ?_|refine ah (jc (by omega)) ?_);(try simp only[qas,Lf.i.injEq,and_true,true_and]);(try omega))
theorem with31{m n a b c d:Int}(h:m%2=1/\n%2=1/\-1000000<=m/\m<=1000000/\-1000000<=n/\n<=1000000/\a=m - 1/\b=n+1/\c=m - 1/\d=n - 1):Cc 56 [.i m,.i n,.i a,.i b,.i c,.i d] [.i ((m - 1) / 2),.i ((n - 1) / 2),.i 3]:=by
  refine q56 rfl ?_;unfold f56;simp only[qxh]
  rcases qbj 0 m with hm|hm<;>rcases qbj 0 n with hn|hn
  all_goals
    (repeat (first|simp(disch:=omega)only[↓qXX]|refine aE (by simp only[cm,putL,offX,Int.reduceToNat,Int.reduceAdd,Int.reduceMul,Int.reduceMod,Int.reduceSub,Int.reduceNeg,Int.reduceDiv,Nat.reduceAdd,Nat.reduceMul,Nat.reduceLeDiff,qay,qaU,↓reduceIte,qaJ,qaG,qaH,qaX,qao,qam,qax,qbh,qa1,qba,qbq];exact rfl) ?_|refine gQ 5 ?_|refine ah (iZ (by omega)) ?_|refine ah (ja (by omega)) ?_|refine ah (jb (by omega)) ?_|refine ah (jc (by omega)) ?_);(try simp only[qas,Lf.i.injEq,and_true,true_and]);(try omega))
theorem rpoint0{m n x y:Int}(h:-1000000<=m/\m<=1000000/\-1000000<=n/\n<=1000000/\-1000000<=x/\x<=1000000/\-1000000<=y/\y<=1000000):Cc 55 [.i 0,.i m,.i n,.i x,.i y] [.i (x+2*m),.i (y+2*n)]:=by
  refine q55 rfl ?_;unfold f55;simp only[qxh]
  repeat (first|simp(disch:=omega)only[↓qXX])
  (try simp only[qas,Lf.i.injEq,and_true,true_and]);(try omega)
theorem rpoint1{m n x y:Int}(h:-1000000<=m/\m<=1000000/\-1000000<=n/\n<=1000000/\-1000000<=x/\x<=1000000/\-1000000<=y/\y<=1000000):Cc 55 [.i 1,.i m,.i n,.i x,.i y] [.i (-(y)+2*m),.i (x+2*n)]:=by
  refine q55 rfl ?_;unfold f55;simp only[qxh]
  repeat (first|simp(disch:=omega)only[↓qXX])
  (try simp only[qas,Lf.i.injEq,and_true,true_and]);(try omega)
theorem rpoint2{m n x y:Int}(h:-1000000<=m/\m<=1000000/\-1000000<=n/\n<=1000000/\-1000000<=x/\x<=1000000/\-1000000<=y/\y<=1000000):Cc 55 [.i 2,.i m,.i n,.i x,.i y] [.i (-(x)+2*m),.i (-(y)+2*n)]:=by
  refine q55 rfl ?_;unfold f55;simp only[qxh]
  repeat (first|simp(disch:=omega)only[↓qXX])
  (try simp only[qas,Lf.i.injEq,and_true,true_and]);(try omega)
theorem rpoint3{m n x y:Int}(h:-1000000<=m/\m<=1000000/\-1000000<=n/\n<=1000000/\-1000000<=x/\x<=1000000/\-1000000<=y/\y<=1000000):Cc 55 [.i 3,.i m,.i n,.i x,.i y] [.i (y+2*m),.i (-(x)+2*n)]:=by
  refine q55 rfl ?_;unfold f55;simp only[qxh]
  repeat (first|simp(disch:=omega)only[↓qXX])
  (try simp only[qas,Lf.i.injEq,and_true,true_and]);(try omega)
theorem rpoint4{m n x y:Int}(h:-1000000<=m/\m<=1000000/\-1000000<=n/\n<=1000000/\-1000000<=x/\x<=1000000/\-1000000<=y/\y<=1000000):Cc 55 [.i 4,.i m,.i n,.i x,.i y] [.i (-(x)+2*m),.i (y+2*n)]:=by
  refine q55 rfl ?_;unfold f55;simp only[qxh]
  repeat (first|simp(disch:=omega)only[↓qXX])
  (try simp only[qas,Lf.i.injEq,and_true,true_and]);(try omega)
theorem rpoint5{m n x y:Int}(h:-1000000<=m/\m<=1000000/\-1000000<=n/\n<=1000000/\-1000000<=x/\x<=1000000/\-1000000<=y/\y<=1000000):Cc 55 [.i 5,.i m,.i n,.i x,.i y] [.i (-(y)+2*m),.i (-(x)+2*n)]:=by
  refine q55 rfl ?_;unfold f55;simp only[qxh]
  repeat (first|simp(disch:=omega)only[↓qXX])
  (try simp only[qas,Lf.i.injEq,and_true,true_and]);(try omega)
theorem rpoint6{m n x y:Int}(h:-1000000<=m/\m<=1000000/\-1000000<=n/\n<=1000000/\-1000000<=x/\x<=1000000/\-1000000<=y/\y<=1000000):Cc 55 [.i 6,.i m,.i n,.i x,.i y] [.i (x+2*m),.i (-(y)+2*n)]:=by
  refine q55 rfl ?_;unfold f55;simp only[qxh]
  repeat (first|simp(disch:=omega)only[↓qXX])
  (try simp only[qas,Lf.i.injEq,and_true,true_and]);(try omega)
theorem rpoint7{m n x y:Int}(h:-1000000<=m/\m<=1000000/\-1000000<=n/\n<=1000000/\-1000000<=x/\x<=1000000/\-1000000<=y/\y<=1000000):Cc 55 [.i 7,.i m,.i n,.i x,.i y] [.i (y+2*m),.i (x+2*n)]:=by
  refine q55 rfl ?_;unfold f55;simp only[qxh]
  repeat (first|simp(disch:=omega)only[↓qXX])
  (try simp only[qas,Lf.i.injEq,and_true,true_and]);(try omega)
theorem eqs2{a b c d:Int}{t:Bool}{K:Bool->Prop}(h:t=(decide (a=c)&&decide (b=d))):P1.eqs [(.i a,.i c),(.i b,.i d)] (@hid _ ⟨K⟩)=K t:=by
  show K (cf _)=K t
  have e:cf [(.i a,.i c),(.i b,.i d)]=t:=by
    rw[h,qbN]
    simp[cf,gK]
  rw[e]
theorem dF{f:FuncId}{ls rs rs':List Lf}(h:Cc f ls rs)(e:rs=rs'):Cc f ls rs':=e▸h
theorem cv{m:Mv}(ht:m.1<8){x y:Int}(h:-100000<=m.2.1/\m.2.1<=100000/\-100000<=m.2.2/\m.2.2<=100000/\-100000<=x/\x<=100000/\-100000<=y/\y<=100000):Cc 55 (mvl m++[.i x,.i y]) [.i (ptM m x y).1,.i (ptM m x y).2]:=by
  obtain⟨t,mx,my⟩:=m
  simp only at ht h
  rcases t8 ht with rfl|rfl|rfl|rfl|rfl|rfl|rfl|rfl
  · exact dF (rpoint0 (m:=mx) (n:=my) (x:=x) (y:=y) (by omega)) (by simp[ptM,mA,mB,mC,mD];try omega)
  · exact dF (rpoint1 (m:=mx) (n:=my) (x:=x) (y:=y) (by omega)) (by simp[ptM,mA,mB,mC,mD];try omega)
  · exact dF (rpoint2 (m:=mx) (n:=my) (x:=x) (y:=y) (by omega)) (by simp[ptM,mA,mB,mC,mD];try omega)
  · exact dF (rpoint3 (m:=mx) (n:=my) (x:=x) (y:=y) (by omega)) (by simp[ptM,mA,mB,mC,mD];try omega)
  · exact dF (rpoint4 (m:=mx) (n:=my) (x:=x) (y:=y) (by omega)) (by simp[ptM,mA,mB,mC,mD];try omega)
  · exact dF (rpoint5 (m:=mx) (n:=my) (x:=x) (y:=y) (by omega)) (by simp[ptM,mA,mB,mC,mD];try omega)
  · exact dF (rpoint6 (m:=mx) (n:=my) (x:=x) (y:=y) (by omega)) (by simp[ptM,mA,mB,mC,mD];try omega)
  · exact dF (rpoint7 (m:=mx) (n:=my) (x:=x) (y:=y) (by omega)) (by simp[ptM,mA,mB,mC,mD];try omega)
theorem mat_ne:((List.range 8).all λs=>(List.range 8).all λt=>Nat.beq s t || !(decide (mA s=mA t)&&decide (mC s=mC t)&&(decide (mB s=mB t)&&decide (mD s=mD t))))=true:=by decide +kernel
theorem told_c{m:Mv}(hm:okM 10000 m):Cc 57 [.i (ptM m 0 0).1,.i (ptM m 0 0).2,.i (ptM m 2 0).1,.i (ptM m 2 0).2,.i (ptM m 0 2).1,.i (ptM m 0 2).2] (mvl m):=by
  obtain⟨t,mx,my⟩:=m
  have ht:t<8:=hm.1
  have hm':=hm.2
  simp only at hm'
  have e1:(ptM (t,mx,my) 0 0).1=2*mx:=by simp[ptM]
  have e2:(ptM (t,mx,my) 0 0).2=2*my:=by simp[ptM]
  refine q57 rfl ?_;unfold f57;simp only[qxh]
  simp(disch:=omega)only[↓qXX]
  refine de 8 (λj (_:Unit)=>[.i (Int.ofNat j)]) (λ_ _=>[]) (λj _=>j<=t) (j0:=0) (s0:=()) rfl rfl (by omega) (qbB _) ?_
  rintro j _ hj8 hjt self hself
  simp(disch:=omega)only[↓qXX]
  rw[p_lss_t (by show((j:Nat):Int)<8;omega)]
  simp(disch:=omega)only[↓qXX]
  rw[e1,e2]
  try simp(disch:=omega)only[↓qXX]
  rw[show 2*mx / 2=mx by omega,show 2*my / 2=my by omega]
  have hadd:∀K:Int->Prop,P1.ari .add .u8 (Int.ofNat j) 1 (@hid _ ⟨K⟩)=K (Int.ofNat j+1):=λK=>p_add8 (by show(0:Int)<=(j:Int)+1;omega) (by show(j:Int)+1<=255;omega)
  refine ah (cv (m:=(j,mx,my)) (by show j<8;omega) (x:=2) (y:=0) (by simp only;omega)) ?_
  simp(disch:=omega)only[↓qXX]
  have n1:∀s:Nat,((ptM (s,mx,my) 2 0).1=2*mA s+2*mx)/\((ptM (s,mx,my) 2 0).2=2*mC s+2*my)/\((ptM (s,mx,my) 0 2).1=2*mB s+2*mx)/\((ptM (s,mx,my) 0 2).2=2*mD s+2*my):=λs=>by
    simp[ptM];omega
  have nj:=n1 j
  have nt:=n1 t
  rw[eqs2 rfl]
  by_cases hjt2:j=t
  · subst hjt2
    rw[decide_eq_true rfl,decide_eq_true rfl]
    simp(disch:=omega)only[↓qXX,qda]
    refine ah (cv (m:=(j,mx,my)) (by show j<8;omega) (x:=0) (y:=2) (by simp only;omega)) ?_
    simp(disch:=omega)only[↓qXX]
    try rw[eqs2 rfl,decide_eq_true rfl,decide_eq_true rfl]
    try simp(disch:=omega)only[↓qXX,qda]
    refine ah (cv (m:=(j,mx,my)) (by show j<8;omega) (x:=0) (y:=0) (by simp only;omega)) ?_
    simp(disch:=omega)only[↓qXX]
    try rw[e1,e2]
    try rw[eqs2 rfl,decide_eq_true rfl,decide_eq_true rfl]
    try simp(disch:=omega)only[↓qXX,qda]
  · have hne:=qab.1 (qab.1 mat_ne j (qal.2 (by omega))) t (qal.2 ht)
    have hb:Nat.beq j t=false:=by
      cases h:Nat.beq j t with
      |true=>exact absurd (qac h) hjt2
      |false=>rfl
    rw[hb]at hne
    by_cases h1:mA j=mA t/\mC j=mC t
    · rw[decide_eq_true (by omega),decide_eq_true (by omega)]
      simp(disch:=omega)only[↓qXX,qda]
      refine ah (cv (m:=(j,mx,my)) (by show j<8;omega) (x:=0) (y:=2) (by simp only;omega)) ?_
      simp(disch:=omega)only[↓qXX]
      rw[eqs2 rfl]
      have h2:¬(mB j=mB t/\mD j=mD t):=λh2=>by
        simp[h1.1,h1.2,h2.1,h2.2]at hne
      have h3:(decide ((ptM (j,mx,my) 0 2).1=(ptM (t,mx,my) 0 2).1)&&decide ((ptM (j,mx,my) 0 2).2=(ptM (t,mx,my) 0 2).2))=false:=by
        rw[qcO]
        intro h
        simp only[qaa,decide_eq_true_eq]at h
        exact h2 (by omega)
      rw[h3]
      simp(disch:=omega)only[↓qXX]
      rw[hadd]
      exact hself () (by omega) (by omega)
    · have h3:(decide ((ptM (j,mx,my) 2 0).1=(ptM (t,mx,my) 2 0).1)&&decide ((ptM (j,mx,my) 2 0).2=(ptM (t,mx,my) 2 0).2))=false:=by
        rw[qcO]
        intro h
        simp only[qaa,decide_eq_true_eq]at h
        exact h1 (by omega)
      rw[h3]
      simp(disch:=omega)only[↓qXX]
      rw[hadd]
      exact hself () (by omega) (by omega)
theorem tu{a b:Mv}(ha:a.1<8)(hb:b.1<8)(x y:Int):ptM b (ptM a x y).1 (ptM a x y).2=ptM (bp a b) x y:=by
  obtain⟨at',ax,ay⟩:=a
  obtain⟨bt,bx,by'⟩:=b
  simp only at ha hb
  unfold ptM bp
  rcases t8 ha with rfl|rfl|rfl|rfl|rfl|rfl|rfl|rfl<;>rcases t8 hb with rfl|rfl|rfl|rfl|rfl|rfl|rfl|rfl<;>
    (refine qdy ?_ ?_<;>simp[mulT,mA,mB,mC,mD]<;>omega)
theorem pt_rng{m:Mv}{n:Int}(hm:okM n m){x y k:Int}(h:-k<=x/\x<=k/\-k<=y/\y<=k):-(2*n+k)<=(ptM m x y).1/\(ptM m x y).1<=2*n+k/\-(2*n+k)<=(ptM m x y).2/\(ptM m x y).2<=2*n+k:=by
  have h1:=sU hm.1 h
  have h2:=hm.2
  unfold ptM
  simp only
  omega
theorem rthen_c{a b:Mv}{n k:Int}(ha:okM n a)(hb:okM k b)(hn:0<=n/\0<=k/\n+k<=10000):Cc 32 (mvl a++mvl b) (mvl (bp a b)):=by
  have h0:=bz (eH ha hb) hn.2.2
  have ht:=told_c h0
  rw[←tu ha.1 hb.1,←tu ha.1 hb.1,←tu ha.1 hb.1]at ht
  have r0:=pt_rng ha (x:=0) (y:=0) (k:=2) (by omega)
  have r1:=pt_rng ha (x:=2) (y:=0) (k:=2) (by omega)
  have r2:=pt_rng ha (x:=0) (y:=2) (k:=2) (by omega)
  have a2:=ha.2
  have b2:=hb.2
  refine q32 rfl ?_;unfold f32;simp only[qxh]
  simp only[mvl,qao,qam]
  simp(disch:=omega)only[↓qXX]
  refine ah (cv ha.1 (x:=0) (y:=0) (by omega)) ?_
  simp(disch:=omega)only[↓qXX]
  refine ah (cv hb.1 (by omega)) ?_
  simp(disch:=omega)only[↓qXX]
  refine ah (cv ha.1 (x:=2) (y:=0) (by omega)) ?_
  simp(disch:=omega)only[↓qXX]
  refine ah (cv hb.1 (by omega)) ?_
  simp(disch:=omega)only[↓qXX]
  refine ah (cv ha.1 (x:=0) (y:=2) (by omega)) ?_
  simp(disch:=omega)only[↓qXX]
  refine ah (cv hb.1 (by omega)) ?_
  simp(disch:=omega)only[↓qXX]
  refine ah ht ?_
  simp only[mvl]
  simp(disch:=omega)only[↓qXX]
theorem tw{l:Ln}(hl:1<=l.1/\l.1<=4)(hc:-100<=l.2/\l.2<=100){x y:Int}(h:-100<=x/\x<=100/\-100<=y/\y<=100):Cc 58 [.i (Int.ofNat l.1),.i l.2,.i x,.i y] [.i (ptM (ofM l) x y).1,.i (ptM (ofM l) x y).2]:=by
  obtain⟨k,c⟩:=l
  simp only at hl hc
  obtain rfl|rfl|rfl|rfl:k=1∨k=2∨k=3∨k=4:=by omega
  · exact dF (refl1 (c:=c) (x:=x) (y:=y) (by omega)) (by simp[ptM,ofM,mA,mB,mC,mD];try omega)
  · exact dF (refl2 (c:=c) (x:=x) (y:=y) (by omega)) (by simp[ptM,ofM,mA,mB,mC,mD];try omega)
  · exact dF (refl3 (c:=c) (x:=x) (y:=y) (by omega)) (by simp[ptM,ofM,mA,mB,mC,mD];try omega)
  · exact dF (refl4 (c:=c) (x:=x) (y:=y) (by omega)) (by simp[ptM,ofM,mA,mB,mC,mD];try omega)
theorem rof_c{l:Ln}(hl:1<=l.1/\l.1<=4)(hc:-100<=l.2/\l.2<=100):Cc 33 [.i (Int.ofNat l.1),.i l.2] (mvl (ofM l)):=by
  have ht:=told_c (bz (rO hc) (by omega))
  refine q33 rfl ?_;unfold f33;simp only[qxh]
  simp(disch:=omega)only[↓qXX]
  refine ah (tw hl hc (x:=0) (y:=0) (by omega)) ?_
  simp(disch:=omega)only[↓qXX]
  refine ah (tw hl hc (x:=2) (y:=0) (by omega)) ?_
  simp(disch:=omega)only[↓qXX]
  refine ah (tw hl hc (x:=0) (y:=2) (by omega)) ?_
  simp(disch:=omega)only[↓qXX]
  refine ah ht ?_
  simp only[mvl]
  simp(disch:=omega)only[↓qXX]
def o1x(q:Nat):Int:=[0,2,2,0].getD q 0
def o2x(q:Nat):Int:=[2,2,0,0].getD q 0
def o2y(q:Nat):Int:=[0,0,2,2].getD q 0
theorem q4{q:Nat}(h:q<4):q=0∨q=1∨q=2∨q=3:=by omega
theorem rcorn_c{c:Cl}(h:-100000<=c.1/\c.1<=100000/\-100000<=c.2.1/\c.2.1<=100000/\c.2.2<4):Cc 53 (cll c) [.i (2*c.1+1),.i (2*c.2.1+1),.i (2*c.1+o1x c.2.2),.i (2*c.2.1+o1x c.2.2),.i (2*c.1+o2x c.2.2),.i (2*c.2.1+o2y c.2.2)]:=by
  obtain⟨x,y,q⟩:=c
  simp only at h
  rcases q4 h.2.2.2.2 with rfl|rfl|rfl|rfl
  · exact dF (iZ (x:=x) (y:=y) (by omega)) (by simp[o1x,o2x,o2y])
  · exact dF (ja (x:=x) (y:=y) (by omega)) (by simp[o1x,o2x,o2y])
  · exact dF (jb (x:=x) (y:=y) (by omega)) (by simp[o1x,o2x,o2y])
  · exact dF (jc (x:=x) (y:=y) (by omega)) (by simp[o1x,o2x,o2y])
theorem rwith_c{c:Cl}(h:-1000<=c.1/\c.1<=1000/\-1000<=c.2.1/\c.2.1<=1000/\c.2.2<4){X Y a b d e:Int}(hX:X=2*c.1+1)(hY:Y=2*c.2.1+1)
    (hc:(a=2*c.1+o1x c.2.2/\b=2*c.2.1+o1x c.2.2/\d=2*c.1+o2x c.2.2/\e=2*c.2.1+o2y c.2.2)∨(d=2*c.1+o1x c.2.2/\e=2*c.2.1+o1x c.2.2/\a=2*c.1+o2x c.2.2/\b=2*c.2.1+o2y c.2.2)) :
    Cc 56 [.i X,.i Y,.i a,.i b,.i d,.i e] (cll c):=by
  obtain⟨x,y,q⟩:=c
  simp only at h hX hY
  have ex:(X - 1) / 2=x:=by omega
  have ey:(Y - 1) / 2=y:=by omega
  rcases q4 h.2.2.2.2 with rfl|rfl|rfl|rfl
  all_goals
    simp[o1x,o2x,o2y]at hc
    rcases hc with hc|hc
  · exact dF (with00 (m:=X) (n:=Y) (a:=a) (b:=b) (c:=d) (d:=e) (by omega)) (by rw[ex,ey];rfl)
  · exact dF (with01 (m:=X) (n:=Y) (a:=a) (b:=b) (c:=d) (d:=e) (by omega)) (by rw[ex,ey];rfl)
  · exact dF (with10 (m:=X) (n:=Y) (a:=a) (b:=b) (c:=d) (d:=e) (by omega)) (by rw[ex,ey];rfl)
  · exact dF (with11 (m:=X) (n:=Y) (a:=a) (b:=b) (c:=d) (d:=e) (by omega)) (by rw[ex,ey];rfl)
  · exact dF (with20 (m:=X) (n:=Y) (a:=a) (b:=b) (c:=d) (d:=e) (by omega)) (by rw[ex,ey];rfl)
  · exact dF (with21 (m:=X) (n:=Y) (a:=a) (b:=b) (c:=d) (d:=e) (by omega)) (by rw[ex,ey];rfl)
  · exact dF (with30 (m:=X) (n:=Y) (a:=a) (b:=b) (c:=d) (d:=e) (by omega)) (by rw[ex,ey];rfl)
  · exact dF (with31 (m:=X) (n:=Y) (a:=a) (b:=b) (c:=d) (d:=e) (by omega)) (by rw[ex,ey];rfl)
theorem corn_move{m:Mv}(hm:m.1<8){c:Cl}(hq:c.2.2<4) :
    (ptM m (2*c.1+1) (2*c.2.1+1)).1=2*(bf m c).1+1/\(ptM m (2*c.1+1) (2*c.2.1+1)).2=2*(bf m c).2.1+1/\
    (((ptM m (2*c.1+o1x c.2.2) (2*c.2.1+o1x c.2.2)).1=2*(bf m c).1+o1x (bf m c).2.2/\(ptM m (2*c.1+o1x c.2.2) (2*c.2.1+o1x c.2.2)).2=2*(bf m c).2.1+o1x (bf m c).2.2/\(ptM m (2*c.1+o2x c.2.2) (2*c.2.1+o2y c.2.2)).1=2*(bf m c).1+o2x (bf m c).2.2/\(ptM m (2*c.1+o2x c.2.2) (2*c.2.1+o2y c.2.2)).2=2*(bf m c).2.1+o2y (bf m c).2.2)∨
     ((ptM m (2*c.1+o2x c.2.2) (2*c.2.1+o2y c.2.2)).1=2*(bf m c).1+o1x (bf m c).2.2/\(ptM m (2*c.1+o2x c.2.2) (2*c.2.1+o2y c.2.2)).2=2*(bf m c).2.1+o1x (bf m c).2.2/\(ptM m (2*c.1+o1x c.2.2) (2*c.2.1+o1x c.2.2)).1=2*(bf m c).1+o2x (bf m c).2.2/\(ptM m (2*c.1+o1x c.2.2) (2*c.2.1+o1x c.2.2)).2=2*(bf m c).2.1+o2y (bf m c).2.2)):=by
  obtain⟨t,mx,my⟩:=m
  obtain⟨x,y,q⟩:=c
  simp only at hm hq
  rcases t8 hm with rfl|rfl|rfl|rfl|rfl|rfl|rfl|rfl<;>rcases q4 hq with rfl|rfl|rfl|rfl<;>
    (simp[ptM,bf,qT,mA,mB,mC,mD,o1x,o2x,o2y];omega)
theorem rmove_c{m:Mv}(hm:okM 800 m){c:Cl}(h:-100<=c.1/\c.1<=100/\-100<=c.2.1/\c.2.1<=100/\c.2.2<4):Cc 31 (mvl m++cll c) (cll (bf m c)):=by
  obtain⟨k1,k2,k3⟩:=corn_move hm.1 (c:=c) h.2.2.2.2
  have hr:=mo hm (k:=100) ⟨h.1,h.2.1,h.2.2.1,h.2.2.2.1⟩
  have hm2:=hm.2
  have p1:0<=o1x c.2.2/\o1x c.2.2<=2/\0<=o2x c.2.2/\o2x c.2.2<=2/\0<=o2y c.2.2/\o2y c.2.2<=2:=by
    rcases q4 h.2.2.2.2 with hq|hq|hq|hq<;>rw[hq]<;>decide
  refine q31 rfl ?_;unfold f31;simp only[qxh]
  simp only[mvl,qao,qam]
  simp(disch:=omega)only[↓qXX]
  refine ah (rcorn_c (c:=c) ⟨by omega,by omega,by omega,by omega,h.2.2.2.2⟩) ?_
  simp(disch:=omega)only[↓qXX]
  have w0:=cv hm.1 (x:=2*c.1+1) (y:=2*c.2.1+1) (by omega)
  have w1:=cv hm.1 (x:=2*c.1+o1x c.2.2) (y:=2*c.2.1+o1x c.2.2) (by omega)
  have w2:=cv hm.1 (x:=2*c.1+o2x c.2.2) (y:=2*c.2.1+o2y c.2.2) (by omega)
  have w3:=rwith_c (c:=bf m c) ⟨by omega,by omega,by omega,by omega,hr.2.2.2.2⟩ k1 k2 k3
  repeat (first|simp(disch:=omega)only[↓qXX]|refine aE (by simp only[cm,putL,offX,Int.reduceToNat,Int.reduceAdd,Int.reduceMul,Int.reduceMod,Int.reduceSub,Int.reduceNeg,Int.reduceDiv,Nat.reduceAdd,Nat.reduceMul,Nat.reduceLeDiff,qay,qaU,↓reduceIte,qaJ,qaG,qaH,qaX,qao,qam,qax,qbh,qa1,qba,qbq];exact rfl) ?_|refine gQ 4 ?_|refine ah w0 ?_|refine ah w1 ?_|refine ah w2 ?_|refine ah w3 ?_)
  try rfl
theorem rside_c{l:Ln}(hl:1<=l.1/\l.1<=4)(hc:-100<=l.2/\l.2<=100){c:Cl}(h:-2000<=c.1/\c.1<=2000/\-2000<=c.2.1/\c.2.1<=2000/\c.2.2<4):Cc 30 ([.i (Int.ofNat l.1),.i l.2]++cll c) [.i (if dw l c then 1 else 0)]:=by
  have hk:=rcorn_c (c:=c) ⟨by omega,by omega,by omega,by omega,h.2.2.2.2⟩
  obtain⟨k,n⟩:=l
  obtain⟨x,y,q⟩:=c
  simp only at hl hc h
  refine q30 rfl ?_;unfold f30;simp only[qxh]
  simp only[cll,qao,qam]
  simp(disch:=omega)only[↓qXX]
  refine ah hk ?_
  simp(disch:=omega)only[↓qXX]
  have p1:0<=o1x q/\o1x q<=2/\0<=o2x q/\o2x q<=2/\0<=o2y q/\o2y q<=2:=by
    rcases q4 h.2.2.2.2 with hq|hq|hq|hq<;>rw[hq]<;>decide
  have hq:=h.2.2.2.2
  obtain rfl|rfl|rfl|rfl:k=1∨k=2∨k=3∨k=4:=by omega
  · refine ah (far1 (by omega)) ?_
    simp(disch:=omega)only[↓qXX]
    refine ah (far1 (by omega)) ?_
    simp(disch:=omega)only[↓qXX]
    refine ah (far1 (by omega)) ?_
    simp(disch:=omega)only[↓qXX]
    have key:(0<2*x+1 - 2*n+(2*x+o1x q - 2*n)+(2*x+o2x q - 2*n))↔dw (1,n) (x,y,q)=true:=by
      rcases q4 hq with rfl|rfl|rfl|rfl<;>simp[o1x,o2x,o2y,dw]<;>omega
    by_cases hs:dw (1,n) (x,y,q)=true
    · have:=key.2 hs
      rw[p_gtr_t (by omega)]
      simp(disch:=omega)only[↓qXX]
      rw[if_pos hs]
    · have:¬_:=λh=>hs (key.1 h)
      rw[p_gtr_f (by omega)]
      simp(disch:=omega)only[↓qXX]
      rw[if_neg hs]
  · refine ah (far2 (by omega)) ?_
    simp(disch:=omega)only[↓qXX]
    refine ah (far2 (by omega)) ?_
    simp(disch:=omega)only[↓qXX]
    refine ah (far2 (by omega)) ?_
    simp(disch:=omega)only[↓qXX]
    have key:(0<2*y+1 - 2*n+(2*y+o1x q - 2*n)+(2*y+o2y q - 2*n))↔dw (2,n) (x,y,q)=true:=by
      rcases q4 hq with rfl|rfl|rfl|rfl<;>simp[o1x,o2x,o2y,dw]<;>omega
    by_cases hs:dw (2,n) (x,y,q)=true
    · have:=key.2 hs
      rw[p_gtr_t (by omega)]
      simp(disch:=omega)only[↓qXX]
      rw[if_pos hs]
    · have:¬_:=λh=>hs (key.1 h)
      rw[p_gtr_f (by omega)]
      simp(disch:=omega)only[↓qXX]
      rw[if_neg hs]
  · refine ah (far3 (by omega)) ?_
    simp(disch:=omega)only[↓qXX]
    refine ah (far3 (by omega)) ?_
    simp(disch:=omega)only[↓qXX]
    refine ah (far3 (by omega)) ?_
    simp(disch:=omega)only[↓qXX]
    have key:(0<2*x+1+(2*y+1) - 2*n+(2*x+o1x q+(2*y+o1x q) - 2*n)+(2*x+o2x q+(2*y+o2y q) - 2*n))↔dw (3,n) (x,y,q)=true:=by
      rcases q4 hq with rfl|rfl|rfl|rfl<;>simp[o1x,o2x,o2y,dw]<;>omega
    by_cases hs:dw (3,n) (x,y,q)=true
    · have:=key.2 hs
      rw[p_gtr_t (by omega)]
      simp(disch:=omega)only[↓qXX]
      rw[if_pos hs]
    · have:¬_:=λh=>hs (key.1 h)
      rw[p_gtr_f (by omega)]
      simp(disch:=omega)only[↓qXX]
      rw[if_neg hs]
  · refine ah (far4 (by omega)) ?_
    simp(disch:=omega)only[↓qXX]
    refine ah (far4 (by omega)) ?_
    simp(disch:=omega)only[↓qXX]
    refine ah (far4 (by omega)) ?_
    simp(disch:=omega)only[↓qXX]
    have key:(0<2*y+1 - (2*x+1) - 2*n+(2*y+o1x q - (2*x+o1x q) - 2*n)+(2*y+o2y q - (2*x+o2x q) - 2*n))↔dw (4,n) (x,y,q)=true:=by
      rcases q4 hq with rfl|rfl|rfl|rfl<;>simp[o1x,o2x,o2y,dw]<;>omega
    by_cases hs:dw (4,n) (x,y,q)=true
    · have:=key.2 hs
      rw[p_gtr_t (by omega)]
      simp(disch:=omega)only[↓qXX]
      rw[if_pos hs]
    · have:¬_:=λh=>hs (key.1 h)
      rw[p_gtr_f (by omega)]
      simp(disch:=omega)only[↓qXX]
      rw[if_neg hs]
end Go.Am

/-
 A CREASE AMONG OTHERS: binary search,told of lists;the kind across an edge.
-/
set_option maxRecDepth 100000
set_option maxHeartbeats 4000000
namespace Go.Am
open Sx Go.Proofs
def rngC(c:Crs):Prop:=0<=c.1/\c.1<=1000/\0<=c.2.1/\c.2.1<=255/\0<=c.2.2/\c.2.2<=255
end Go.Am

/-
 THE KIND ACROSS AN EDGE,told of lists.
-/
set_option maxRecDepth 100000
set_option maxHeartbeats 4000000
namespace Go.Am
open Sx Go.Proofs
structure Pat(w v:Nat)(l:List Crs):Prop where
 sheet:1<=w/\w<=5/\1<=v/\v<=5
 rng:∀c∈l,rngC c
 len:l.length<=1000
 ok:chkC (.ofNat w) (.ofNat v) l=0
theorem Pat.sm{w v:Nat}{l:List Crs}(h:Pat w v l):smS (.ofNat w) (.ofNat v):=by
 have:=h.sheet
 unfold smS
 simp only[qaN]
 omega
theorem Pat.check{w v:Nat}{l:List Crs}(h:Pat w v l){H:HL}{x:Value}(hl:LsH H x 3 encC l):aW cc ab 14 [.i (.ofNat w),.i (.ofNat v),.v x] (absH ac H) [.i 0] (absH ac H):=by
 have:=check_c h.sm hl (λc hc=>by
  have:=h.rng c hc
  unfold rngC at this
  unfold okC
  omega) (by have:=h.len;omega)
 rw[h.ok]at this
 exact this
end Go.Am

/-
 PATTERNS FROM PLAIN DATA: With,P.Of,told of lists.
-/
set_option maxRecDepth 100000
set_option maxHeartbeats 4000000
namespace Go.Am
open Sx Go.Proofs
theorem encU_len(u:Nat×Nat):(encU u).length=2:=rfl
theorem eE(c:Crs):(encC c).length=3:=rfl
def enc8(n:Int):List Value:=[.int .u8 n]
theorem kW(n:Int):(enc8 n).length=1:=rfl
theorem units_c{a b:Nat}(h1:1<=a)(h2:a<=5)(h3:1<=b)(h4:b<=5)(h:HL):∃s G,aW cc ab 28 [.i (.ofNat a),.i (.ofNat b)] (absH ac h) [.v s] (absH ac (h++G))/\LsH (h++G) s 2 encU (aB a b):=by
 have ht:=(ip (ji a b h1 h2 h3 h4)).2.2.1
 unfold qy at ht
 split at ht
 ·rename_i e
  obtain⟨s,G,c1,c2⟩:=made (g:=28) (rest:=[]) rfl (by kernel_rfl) rfl rfl e h
  exact⟨s,G,c1,λu _=>encU_len u,c2⟩
 ·cases ht
def ju(z:(Nat×Nat)×Int):Option Crs:=if z.2=0 then none else some (.ofNat z.1.1,.ofNat z.1.2,z.2)
def patL(us:List (Nat×Nat))(ks:List Int):List Crs:=(us.zip ks).filterMap ju
theorem with_c{w v:Nat}(h1:1<=w)(h2:w<=5)(h3:1<=v)(h4:v<=5){H:HL}{kx:Value}{ks:List Int}(hk:LsH H kx 1 enc8 ks)(hn:ks.length<=100000) :
  ∃G rx,aW cc ab 13 [.i (.ofNat w),.i (.ofNat v),.v kx] (absH ac H) [.i (.ofNat w),.i (.ofNat v),.v rx] (absH ac (H++G))/\MkL H.length (H++G) rx 3 encC (patL (aB w v) ks):=by
 obtain⟨sx,G1,hu,hux⟩:=units_c h1 h2 h3 h4 H
 have hul:=(ip (ji w v h1 h2 h3 h4)).2.2.2.2
 obtain⟨rs,h',hc,rx,e1,⟨G,rfl⟩,hrx⟩:=x13 (ls:=[.i (.ofNat w),.i (.ofNat v),.v kx]) (K:=λrs h'=>∃rx,rs=[.i (.ofNat w),.i (.ofNat v),.v rx]/\Pre H h'/\MkL H.length h' rx 3 encC (patL (aB w v) ks)) (H:=H) (glsI (glsI (glsV hk.good gls0))) (by
  unfold f13;simp only[qxh]
  simp(disch:=omega)only[↓qXX]
  refine bZ hu ?_
  simp(disch:=omega)only[↓qXX]
  generalize hzz:(aB w v).zip ks=zz
  have hzl:zz.length=min (aB w v).length ks.length:=by rw[←hzz,qdm]
  refine de zz.length (λj (s:Value×HL)=>[.i (Int.ofNat j),.i (.ofNat w),.i (.ofNat v),.v s.1]) (λ_ s=>s.2) (λj s=>Pre (H++G1) s.2/\MkL (H++G1).length s.2 s.1 3 encC ((zz.take j).filterMap ju)/\bc s.1=true) (j0:=0) (s0:=(.slice none 0 0,H++G1)) rfl rfl (qbB _) ⟨Pre.refl _,MkL.nil _ _ _ _,rfl⟩ ?_
  rintro j ⟨sv,sh⟩ hj ⟨hpre,hmk,hgv⟩ self hself
  simp only at hpre hmk hgv ⊢
  have hU:=hux.pre hpre
  have hK:=(hk.pre ⟨G1,rfl⟩).pre hpre
  simp(disch:=omega)only[↓qXX]
  have fin:∀K0:List Lf->HL->Prop,K0=(λrs h'=>∃rx,rs=[.i (.ofNat w),.i (.ofNat v),.v rx]/\Pre H h'/\MkL H.length h' rx 3 encC (patL (aB w v) ks))->j=zz.length->K0 [.i (.ofNat w),.i (.ofNat v),.v sv] sh:=by
   rintro K0 rfl rfl
   refine⟨_,rfl,Pre.trans ⟨G1,rfl⟩ hpre,?_⟩
   have:MkL H.length sh sv 3 encC ((zz.take zz.length).filterMap ju):=⟨hmk.1,hmk.2.1,hmk.2.2.imp id λ⟨id,h1,h2⟩=>⟨id,qbH (by rw[qaO];omega) h1,h2⟩⟩
   rw[qcV,←hzz]at this
   exact this
  refine eC hU ?_
  by_cases hlt:j<zz.length
  ·rw[cS (by omega)]
   simp(disch:=omega)only[↓qXX]
   refine eC hK ?_
   rw[cS (by omega)]
   simp(disch:=omega)only[↓qXX]
   obtain⟨u,hu⟩:=bI (l:=aB w v) (i:=j) (by omega)
   obtain⟨k,hkk⟩:=bI (l:=ks) (i:=j) (by omega)
   have hz:zz[j]? = some (u,k):=by rw[←hzz,qbR];exact⟨hu,hkk⟩
   have htk:(zz.take (j+1)).filterMap ju=(zz.take j).filterMap ju++(ju (u,k)).toList:=by
    rw[qcN,hz,List.filterMap_append]
    congr 1
   refine dg hK rfl hkk ?_
   unfold enc8
   simp(disch:=omega)only[↓qXX]
   by_cases hk0:k=0
   ·rw[p_neq_f hk0]
    simp(disch:=omega)only[↓qXX]
    rw[ii (by omega)]
    refine hself (sv,sh) hlt ⟨hpre,?_,hgv⟩
    rw[htk,show ju (u,k)=none from if_pos hk0]
    simpa using hmk
   ·rw[p_neq_t hk0]
    simp(disch:=omega)only[↓qXX]
    refine nn (o:=0) (k:=1) (cs:=[.int .i64 (.ofNat u.1)]) hU rfl hu rfl (by omega) ?_
    simp(disch:=omega)only[↓qXX]
    refine nn (o:=1) (k:=1) (cs:=[.int .u8 (.ofNat u.2)]) hU rfl hu rfl (by omega) ?_
    simp(disch:=omega)only[↓qXX]
    refine dg hK rfl hkk ?_
    unfold enc8
    simp(disch:=omega)only[↓qXX]
    have hfl:((zz.take j).filterMap ju).length<=j:=qbH (qcC _ _) (by rw[qaY];omega)
    refine p_app1 (h0:=H++G1) (a:=(.ofNat u.1,.ofNat u.2,k)) hpre hmk rfl rfl rfl rfl (by
     unfold cj
     rw[qaa,qbx,qbx]
     omega) λv' h' hp' hm' hg' _ _=>?_
    simp(disch:=omega)only[↓qXX]
    refine cg hg' ?_
    simp(disch:=omega)only[↓qXX]
    rw[ii (by omega)]
    refine hself (v',h') hlt ⟨hp',?_,hg'⟩
    rw[htk,show ju (u,k)=some (.ofNat u.1,.ofNat u.2,k)from if_neg hk0]
    exact hm'
  ·have hje:j=zz.length:=by omega
   by_cases hju:j<(aB w v).length
   ·rw[cS hju]
    simp(disch:=omega)only[↓qXX]
    refine eC hK ?_
    rw[dC (by omega)]
    simp(disch:=omega)only[↓qXX]
    exact fin _ rfl hje
   ·rw[dC (by omega)]
    simp(disch:=omega)only[↓qXX]
    exact fin _ rfl hje)
 rw[e1]at hc
 exact⟨G,rx,hc,hrx⟩
end Go.Am

/-
 ANSWERS THAT ARE KNOWN OF FUNCTIONS THAT ONLY READ: over blocks that are told.
-/
set_option maxRecDepth 100000
namespace Go.Am
open Sx Go.Proofs
abbrev Bls:=List (Nat×List Value)
def blH(bl:Bls):List HObj:=bl.map λb=>.cells b.2 b.1 false
structure KR1 where
 f:Nat
 ls:List Lf
 bl:Bls
 rs:List Lf
def KROk(p:KR1):Prop:=∃sg H',ab p.f=some sg/\sg.rs.all SK.plain=true/\neuN p.f=none/\aW cc ab p.f p.ls (blH p.bl) p.rs H'
def AllR(l:List KR1):Prop:=∀p∈l,KROk p
theorem AllR.nil:AllR []:=λ_ h=>by cases h
theorem AllR.cons{p:KR1}{l:List KR1}(h:KROk p)(hl:AllR l):AllR (p :: l):=λq hq=>by
 rcases qaj.1 hq with rfl|hq
 ·exact h
 ·exact hl q hq
theorem AllR.app{l m:List KR1}(h:AllR l)(hm:AllR m):AllR (l++m):=λp hp=>by
 rcases qaP.1 hp with hp|hp
 ·exact h p hp
 ·exact hm p hp
end Go.Am

/-
 REGIONS THAT DRAW THEIR ORDER,where what is done alone tells the state: whatever the order.
-/
namespace Go.Am
namespace Sx
section
variable [Val] {C:Cfg} {B:Below} {pts:List Nat} {ops:Array Oper}
def updB(bs:Nat->Bool)(i:Nat):Nat->Bool:=λj=>if j=i then true else bs j
theorem go_by{sl:Nat->Option Nat}{st:(Nat->Bool)->St}
  (hback:∀(i:Nat) o,ops[i]? = some o->∀e∈o.after.toList,Region.binds .any e=true->e.on<i)
  (hst:∀(bs:Nat->Bool) (i:Nat) o,ops[i]? = some o->bs i=false->(∀e∈o.after.toList,Region.binds .any e=true->bs e.on=true)->aJ C B pts ops sl i (st bs) (st (updB bs i))) :
  ∀(fuel t:Nat) (listed:Array Bool),listed.size=ops.size->(unl ops.size listed).length=fuel->
   dm C B pts ops sl (Region.linearise.go .any ops fuel t listed []) (st λj=>listed.getD j false) (st λj=>decide (j<ops.size))/\
   ∀x∈Region.linearise.go .any ops fuel t listed [],listed.getD x true=false
 |0,t,listed,hsz,hl=>by
  have h0:unl ops.size listed=[]:=qbn.1 hl
  have:(λj=>listed.getD j false)=λj=>decide (j<ops.size):=by
   funext j
   by_cases hj:j<ops.size
   ·have hn:j∉unl ops.size listed:=by rw[h0];simp
    rw[unl,qaS,qal]at hn
    have hn2:listed.getD j true=true:=by
     cases e:listed.getD j true with
     |true=>rfl
     |false=>exact absurd ⟨hj,by simp[e]⟩ hn
    rw[qaf]at hn2 ⊢
    rw[qa8 (by omega)]at hn2 ⊢
    simp only[qbf]at hn2 ⊢
    rw[hn2];simp[hj]
   ·rw[qaf,qa5 (by omega)]
    simp[hj]
  rw[this]
  simp[Region.linearise.go,dm]
 |fuel+1,t,listed,hsz,hl=>by
  simp only[Region.linearise.go]
  generalize hrs:((List.range ops.size).filter λi=>!listed.getD i true&&((ops[i]?).map (·.after.all λe=>!Region.binds .any e||listed.getD e.on false)).getD false)=rs
  have hready:∀i∈rs,i<ops.size/\listed.getD i true=false/\∀o,ops[i]? = some o->∀e∈o.after.toList,Region.binds .any e=true->listed.getD e.on false=true:=by
   intro i hi
   rw[←hrs,qaS,qal]at hi
   obtain⟨h1,h2⟩:=hi
   simp only[qaa,qbK]at h2
   refine⟨h1,h2.1,λo ho e he hb=>?_⟩
   have h3:=h2.2
   rw[ho]at h3
   simp only[qav,qbf]at h3
   rw[qb9]at h3
   have:=h3 e (by simpa using he)
   rw[hb]at this
   simpa using this
  have hne:rs≠[]:=by
   have hu:unl ops.size listed≠[]:=by intro e;rw[e]at hl;cases hl
   obtain⟨i0,tl,hu0⟩:=qcu hu
   have hi0:i0∈unl ops.size listed:=by rw[hu0];simp
   have hi1:=hi0
   rw[unl,qaS,qal]at hi1
   have hmem:i0∈rs:=by
    rw[←hrs,qaS,qal]
    refine⟨hi1.1,?_⟩
    simp only[qaa]
    refine⟨hi1.2,?_⟩
    have ho:ops[i0]? = some ops[i0]:=by simp[hi1.1]
    rw[ho]
    simp only[qav,qbf]
    rw[qb9]
    intro e he
    cases hb:Region.binds .any e with
    |false=>simp
    |true=>
     have hlt:=hback i0 _ ho e (by simpa using he) hb
     simp only[qbi,qcH]
     by_cases hlis:listed.getD e.on true=true
     ·have hs:e.on<listed.size:=by omega
      rw[qaf]at hlis ⊢
      rw[qa8 hs]at hlis ⊢
      exact hlis
     ·exfalso
      have hm:e.on∈unl ops.size listed:=by
       rw[unl,qaS,qal]
       exact⟨by omega,by simpa using hlis⟩
      rw[hu0]at hm
      rcases qaj.1 hm with hm|hm
      ·omega
      ·have hs:(unl ops.size listed).Pairwise (· < ·):=qcv _ qb8
       rw[hu0,qbG]at hs
       have:=hs.1 _ hm
       omega
   intro e;rw[e]at hmem;cases hmem
  have hlen:0<rs.length:=qc2.2 hne
  have hget:rs[t%rs.length]? = some (rs[t%rs.length]'(qb5 _ hlen)):=qaE (qb5 _ hlen)
  rw[hget]
  simp only
  generalize hi:rs[t%rs.length]'(qb5 _ hlen)=i
  have hmem:i∈rs:=by rw[←hi];exact qcT _
  obtain⟨i1,i2,i3⟩:=hready i hmem
  rw[linearise_go_acc,qcJ,qcR]
  have hiu:i∈(List.range ops.size).filter λj=>!listed.getD j true:=by
   rw[qaS,qal];exact⟨i1,by simp[i2]⟩
  obtain⟨pre,post,e1,e2,e3⟩:=eF qdb hiu
  have hnew:unl ops.size (listed.setIfInBounds i true)=pre++post:=by
   rw[←e2]
   unfold unl
   refine qcL λj hj=>?_
   rw[qaf,qaf,qa2]
   by_cases hji:i=j
   ·subst hji
    rw[if_pos rfl,if_pos (by omega)]
    simp
   ·rw[if_neg hji]
    have:(j != i)=true:=by simpa using λe=>hji e.symm
    simp[this]
  obtain⟨r1,r2⟩:=go_by hback hst fuel (t / rs.length) (listed.setIfInBounds i true) (by simp[hsz]) (by
    rw[hnew]
    have:(unl ops.size listed).length=(pre++post).length+1:=by
     show(List.filter _ _).length=_
     rw[e1];simp;omega
    omega)
  have hupd:(λj=>(listed.setIfInBounds i true).getD j false)=updB (λj=>listed.getD j false) i:=by
   funext j
   unfold updB
   rw[qaf,qa2]
   by_cases hji:i=j
   ·subst hji
    rw[if_pos rfl,if_pos (by omega),if_pos rfl];rfl
   ·rw[if_neg hji,if_neg (λe=>hji e.symm)]
    exact(qaf ..).symm
  have hout:∀x∈Region.linearise.go .any ops fuel (t / rs.length) (listed.setIfInBounds i true) [],x≠i/\listed.getD x true=false:=by
   intro x hx
   have:=r2 x hx
   rw[qaf,qa2]at this
   by_cases hxi:i=x
   ·subst hxi
    rw[if_pos rfl,if_pos (by omega)]at this
    cases this
   ·rw[if_neg hxi]at this
    exact⟨qck hxi,by rw[qaf];exact this⟩
  have ho:ops[i]? = some ops[i]:=by simp[i1]
  have hi2:listed.getD i false=false:=by
   rw[qaf]at i2 ⊢
   rw[qa8 (by omega)]at i2 ⊢
   exact i2
  have hstep:=hst (λj=>listed.getD j false) i _ ho hi2 (i3 _ ho)
  rw[hupd]at r1
  refine⟨⟨λhm=>(hout i hm).1 rfl,_,hstep,r1⟩,λx hx=>?_⟩
  rcases qaj.1 hx with rfl|hx
  ·exact i2
  ·exact(hout x hx).2
theorem any_by{sl:Nat->Option Nat}{st:(Nat->Bool)->St}
  (hback:∀(i:Nat) o,ops[i]? = some o->∀e∈o.after.toList,Region.binds .any e=true->e.on<i)
  (hst:∀(bs:Nat->Bool) (i:Nat) o,ops[i]? = some o->bs i=false->(∀e∈o.after.toList,Region.binds .any e=true->bs e.on=true)->aJ C B pts ops sl i (st bs) (st (updB bs i))) (t:Nat) :
  dm C B pts ops sl (Region.linearise .any ops t) (st λ_=>false) (st λj=>decide (j<ops.size)):=by
 have hz:(unl ops.size (Array.replicate ops.size false)).length=ops.size:=by
  have:unl ops.size (Array.replicate ops.size false)=List.range ops.size:=by
   unfold unl
   rw[qcB]
   intro i hi
   rw[qal]at hi
   rw[qaf,qbv,if_pos hi]
   rfl
  rw[this];simp
 have:=(go_by hback hst ops.size t (Array.replicate ops.size false) (by simp) hz).1
 have e:(λj=>(Array.replicate ops.size false).getD j false)=λ_=>false:=by
  funext j
  rw[qaf,qbv]
  split<;>rfl
 rw[e]at this
 exact this
end
end Sx
end Go.Am

/-
 CRIMPREF10.FLAT: what its region does,operation by operation.
-/
set_option maxRecDepth 100000
namespace Go.Am
open Sx Go.Proofs
def nFl:Fn1:=fn1 cc.P 10 ((ab 10).getD ⟨[],[]⟩) an10
abbrev ptFl:List Nat:=ptsTab.getD 10 []
def cFl:Code:=er (xc 10) nFl.code
def sqA:Code->Code
 | .seq a _=>a
 |c=>c
def sqB:Code->Code
 | .seq _ b=>b
 |c=>c
def rgO:Code->Array Oper
 | .region _ ops _=>ops
 |_=>#[]
def opA:Array Oper:=rgO (sqA cFl)
def opF:Array Oper:=rgO (sqA (sqB cFl))
theorem cFl_eq:cFl = .seq (.region 0 opA false) (.seq (.region 1 opF true) .ret):=by kernel_rfl
theorem iFl:FnIs (xc 10) ab 10 nFl:=⟨⟨Tryz.f10,Tryz.func10,by kernel_rfl,by kernel_rfl,by kernel_rfl,by kernel_rfl⟩,rfl,by kernel_rfl⟩
def dfO:Oper:={ dst:=none,op:=.move (.const undef),type:=0,pos:=default,after:=#[],guard:=none }
def oI(i:Nat):Oper:=opF.toList.getD i dfO
def fT(o:Oper):List Nat:=(o.after.toList.filter (Region.binds .any)).map (·.on)
def agF(w v:Nat):Value:=.agg #[.int .i64 (.ofNat w),.int .i64 (.ofNat v)]
def nlF:Value:=.slice none 0 0
def s1F(L n:Nat):Value:=.slice (some ⟨L,0,some 13⟩) n (n+1)
def s2F(L m:Nat):Value:=.slice (some ⟨L+1,0,some 11⟩) m (m+1)
def rrF(L m:Nat):Value:=.slice (some ⟨L+2+(2*m - 1),0,some 12⟩) m 0
def ifF(b:Bool)(x y:Value):Value:=match b with
 |true=>x
 |false=>y
def tmF(b0 b1 b2 b3 b4 b5 b6 b7 b8 b9 b10 b11 b12:Bool)(L w v n m:Nat):List Value:=
 [agF w v,.pointer (some ⟨1,0,some 0⟩),ifF b11 (s1F L n) nlF,ifF b12 (s2F L m) nlF,ifF b0 (.pointer (some ⟨1,0,some 0⟩)) undef,ifF b1 (.int .i64 (.ofNat w)) undef,ifF b2 (.int .i64 (.ofNat (4*w))) undef,ifF b3 (.pointer (some ⟨1,1,some 0⟩)) undef,
  ifF b4 (.int .i64 (.ofNat v)) undef,ifF b5 (.int .i64 (.ofNat n)) undef,ifF b6 (s1F L n) undef,ifF b7 (agF w v) undef,ifF b8 (rrF L m) undef,ifF b9 (.int .i64 (.ofNat m)) undef,ifF b10 (s2F L m) undef]
def TF(L w v n m:Nat):List Value:=tmF true true true true true true true true true true true true true L w v n m
def lcF(w v:Nat):List (Option (List Value)):=none :: some [.int .i64 (.ofNat w),.int .i64 (.ofNat v)] :: List.replicate 13 none
def ifO(b:Bool)(x:HObj):HObj:=match b with
 |true=>x
 |false=>.dead
def zMv(n:Nat):List Value:=@Nat.rec (λ_=>List Value) [] (λ_ ih=>.int .u8 (.ofNat 0) :: .int .i64 (.ofNat 0) :: .int .i64 (.ofNat 0) :: ih) n
def zKd(n:Nat):List Value:=@Nat.rec (λ_=>List Value) [] (λ_ ih=>.int .u8 (.ofNat 0) :: ih) n
def b1F(n:Nat):HObj:=.cells (zMv n) 3 true
def b2F(m:Nat):HObj:=.cells (zKd m) 1 true
def hpF(H:List HObj)(b6 b8 b10:Bool)(n m:Nat):List HObj:=H++ifO b6 (b1F n) :: ifO b10 (b2F m) :: List.replicate (match b8 with|true=>2*m|false=>0) .dead
def stF(H:List HObj)(w v n m:Nat)(b:Nat->Bool):St:=
 ⟨tmF (b 0) (b 1) (b 2) (b 3) (b 4) (b 5) (b 6) (b 7) (b 8) (b 9) (b 10) (b 11) (b 12) H.length w v n m,lcF w v,hpF H (b 6) (b 8) (b 10) n m⟩
def slF(L:Nat)(i:Nat):Option Nat:=match i with
 |6=>some L
 |10=>some (L+1)
 |_=>none
def pI:Option Eff->Option Value
 |some (.val x)=>some x
 |_=>none
theorem fg{e:Option Eff}{x:Value}(h:pI e=some x):e=some (.val x):=by
 unfold pI at h
 split at h
 ·cases h;rfl
 ·cases h
def flLg(row:List Value):Option Eff->Option Value
 |some (.lget 1 f)=>f row
 |_=>none
theorem sN{row:List Value}{e:Option Eff}{x:Value}(h:flLg row e=some x):∃f,e=some (.lget 1 f)/\f row=some x:=by
 unfold flLg at h
 split at h
 ·exact⟨_,rfl,h⟩
 ·cases h
def flHp(H:List HObj):Option Eff->Option (List HObj×Value)
 |some (.hop f)=>f H
 |_=>none
theorem flHp_ok{e:Option Eff}{r:List HObj->Option (List HObj×Value)}(h:(λH=>flHp H e)=r)(hr:∃p,r []=some p):∃f,e=some (.hop f)/\f=r:=by
 match e with
 |some (.hop f)=>exact⟨f,rfl,h⟩
 |none|some (.val _)|some (.lnew _ _)|some (.lget _ _)|some (.lset _ _)|some (.hget _)|some (.call _ _)|some (.yield _ _)=>
  obtain⟨p,hp⟩:=hr
  rw[←h]at hp
  cases hp
structure FF(w v n m:Nat):Prop where
 e0:∀L,pI (ak cc ptFl (oval (TF L w v n m)) (oI 0))=some (.pointer (some ⟨1,0,some 0⟩))
 e1:∀L,flLg [.int .i64 (.ofNat w),.int .i64 (.ofNat v)] (ak cc ptFl (oval (TF L w v n m)) (oI 1))=some (.int .i64 (.ofNat w))
 e2:∀L,pI (ak cc ptFl (oval (TF L w v n m)) (oI 2))=some (.int .i64 (.ofNat (4*w)))
 e3:∀L,pI (ak cc ptFl (oval (TF L w v n m)) (oI 3))=some (.pointer (some ⟨1,1,some 0⟩))
 e4:∀L,flLg [.int .i64 (.ofNat w),.int .i64 (.ofNat v)] (ak cc ptFl (oval (TF L w v n m)) (oI 4))=some (.int .i64 (.ofNat v))
 e5:∀L,pI (ak cc ptFl (oval (TF L w v n m)) (oI 5))=some (.int .i64 (.ofNat n))
 e6:∀L,(λH=>flHp H (ak cc ptFl (oval (TF L w v n m)) (oI 6)))=λH=>some (H++[b1F n],.slice (some ⟨H.length,0,tag 3⟩) n (n+1))
 e7:∀L,flLg [.int .i64 (.ofNat w),.int .i64 (.ofNat v)] (ak cc ptFl (oval (TF L w v n m)) (oI 7))=some (agF w v)
 e8:∀L,ak cc ptFl (oval (TF L w v n m)) (oI 8)=some (.call 28 [agF w v])
 e9:∀L,pI (ak cc ptFl (oval (TF L w v n m)) (oI 9))=some (.int .i64 (.ofNat m))
 e10:∀L,(λH=>flHp H (ak cc ptFl (oval (TF L w v n m)) (oI 10)))=λH=>some (H++[b2F m],.slice (some ⟨H.length,0,tag 1⟩) m (m+1))
 e11:∀L,pI (ak cc ptFl (oval (TF L w v n m)) (oI 11))=some (s1F L n)
 e12:∀L,pI (ak cc ptFl (oval (TF L w v n m)) (oI 12))=some (s2F L m)
 a0:∀H,(ak cc ptFl (oval (fW Tryz.f10 [agF w v] H).tmps) (opA.toList.getD 0 dfO))=some (.lnew 1 [.int .i64 (.ofNat w),.int .i64 (.ofNat v)])
theorem wantF{i:Nat}(h:(oI i).guard=none)(T:List Value):ba opF T (oI i)=some true:=by unfold ba;rw[h]
theorem o0F:opF[0]? = some (oI 0):=by kernel_rfl
theorem g0F:(oI 0).guard=none:=by kernel_rfl
theorem d0F:(oI 0).dst=some 4:=by kernel_rfl
theorem x0F:(oI 0).op.operands.toList=[.tmp 1]:=by kernel_rfl
theorem m0F:am neuN ptFl (oI 0)≠none:=λh=>by
 have:(am neuN ptFl (oI 0)).isSome=true:=by kernel_rfl
 rw[h]at this;cases this
theorem o1F:opF[1]? = some (oI 1):=by kernel_rfl
theorem g1F:(oI 1).guard=none:=by kernel_rfl
theorem d1F:(oI 1).dst=some 5:=by kernel_rfl
theorem p1F:fT (oI 1)=[0]:=by kernel_rfl
theorem x1F:(oI 1).op.operands.toList=[.tmp 4]:=by kernel_rfl
theorem m1F:am neuN ptFl (oI 1)≠none:=λh=>by
 have:(am neuN ptFl (oI 1)).isSome=true:=by kernel_rfl
 rw[h]at this;cases this
theorem o2F:opF[2]? = some (oI 2):=by kernel_rfl
theorem g2F:(oI 2).guard=none:=by kernel_rfl
theorem d2F:(oI 2).dst=some 6:=by kernel_rfl
theorem p2F:fT (oI 2)=[1]:=by kernel_rfl
theorem x2F:(oI 2).op.operands.toList=[.const (.int .i64 (.ofNat 4)),.tmp 5]:=by kernel_rfl
theorem m2F:am neuN ptFl (oI 2)≠none:=λh=>by
 have:(am neuN ptFl (oI 2)).isSome=true:=by kernel_rfl
 rw[h]at this;cases this
theorem o3F:opF[3]? = some (oI 3):=by kernel_rfl
theorem g3F:(oI 3).guard=none:=by kernel_rfl
theorem d3F:(oI 3).dst=some 7:=by kernel_rfl
theorem x3F:(oI 3).op.operands.toList=[.tmp 1]:=by kernel_rfl
theorem m3F:am neuN ptFl (oI 3)≠none:=λh=>by
 have:(am neuN ptFl (oI 3)).isSome=true:=by kernel_rfl
 rw[h]at this;cases this
theorem o4F:opF[4]? = some (oI 4):=by kernel_rfl
theorem g4F:(oI 4).guard=none:=by kernel_rfl
theorem d4F:(oI 4).dst=some 8:=by kernel_rfl
theorem p4F:fT (oI 4)=[3]:=by kernel_rfl
theorem x4F:(oI 4).op.operands.toList=[.tmp 7]:=by kernel_rfl
theorem m4F:am neuN ptFl (oI 4)≠none:=λh=>by
 have:(am neuN ptFl (oI 4)).isSome=true:=by kernel_rfl
 rw[h]at this;cases this
theorem o5F:opF[5]? = some (oI 5):=by kernel_rfl
theorem g5F:(oI 5).guard=none:=by kernel_rfl
theorem d5F:(oI 5).dst=some 9:=by kernel_rfl
theorem p5F:fT (oI 5)=[2,4]:=by kernel_rfl
theorem x5F:(oI 5).op.operands.toList=[.tmp 6,.tmp 8]:=by kernel_rfl
theorem m5F:am neuN ptFl (oI 5)≠none:=λh=>by
 have:(am neuN ptFl (oI 5)).isSome=true:=by kernel_rfl
 rw[h]at this;cases this
theorem o6F:opF[6]? = some (oI 6):=by kernel_rfl
theorem g6F:(oI 6).guard=none:=by kernel_rfl
theorem d6F:(oI 6).dst=some 10:=by kernel_rfl
theorem p6F:fT (oI 6)=[5,5]:=by kernel_rfl
theorem x6F:(oI 6).op.operands.toList=[.tmp 9,.tmp 9]:=by kernel_rfl
theorem m6F:am neuN ptFl (oI 6)≠none:=λh=>by
 have:(am neuN ptFl (oI 6)).isSome=true:=by kernel_rfl
 rw[h]at this;cases this
theorem o7F:opF[7]? = some (oI 7):=by kernel_rfl
theorem g7F:(oI 7).guard=none:=by kernel_rfl
theorem d7F:(oI 7).dst=some 11:=by kernel_rfl
theorem x7F:(oI 7).op.operands.toList=[.tmp 1]:=by kernel_rfl
theorem m7F:am neuN ptFl (oI 7)≠none:=λh=>by
 have:(am neuN ptFl (oI 7)).isSome=true:=by kernel_rfl
 rw[h]at this;cases this
theorem o8F:opF[8]? = some (oI 8):=by kernel_rfl
theorem g8F:(oI 8).guard=none:=by kernel_rfl
theorem d8F:(oI 8).dst=some 12:=by kernel_rfl
theorem p8F:fT (oI 8)=[7]:=by kernel_rfl
theorem x8F:(oI 8).op.operands.toList=[.func 28,.tmp 11]:=by kernel_rfl
theorem m8F:am neuN ptFl (oI 8)≠none:=λh=>by
 have:(am neuN ptFl (oI 8)).isSome=true:=by kernel_rfl
 rw[h]at this;cases this
theorem o9F:opF[9]? = some (oI 9):=by kernel_rfl
theorem g9F:(oI 9).guard=none:=by kernel_rfl
theorem d9F:(oI 9).dst=some 13:=by kernel_rfl
theorem p9F:fT (oI 9)=[8]:=by kernel_rfl
theorem x9F:(oI 9).op.operands.toList=[.tmp 12]:=by kernel_rfl
theorem m9F:am neuN ptFl (oI 9)≠none:=λh=>by
 have:(am neuN ptFl (oI 9)).isSome=true:=by kernel_rfl
 rw[h]at this;cases this
theorem o10F:opF[10]? = some (oI 10):=by kernel_rfl
theorem g10F:(oI 10).guard=none:=by kernel_rfl
theorem d10F:(oI 10).dst=some 14:=by kernel_rfl
theorem p10F:fT (oI 10)=[9,9]:=by kernel_rfl
theorem x10F:(oI 10).op.operands.toList=[.tmp 13,.tmp 13]:=by kernel_rfl
theorem m10F:am neuN ptFl (oI 10)≠none:=λh=>by
 have:(am neuN ptFl (oI 10)).isSome=true:=by kernel_rfl
 rw[h]at this;cases this
theorem o11F:opF[11]? = some (oI 11):=by kernel_rfl
theorem g11F:(oI 11).guard=none:=by kernel_rfl
theorem d11F:(oI 11).dst=some 2:=by kernel_rfl
theorem p11F:fT (oI 11)=[6,8,0,1,2,3,4,5,6]:=by kernel_rfl
theorem x11F:(oI 11).op.operands.toList=[.tmp 10]:=by kernel_rfl
theorem m11F:am neuN ptFl (oI 11)≠none:=λh=>by
 have:(am neuN ptFl (oI 11)).isSome=true:=by kernel_rfl
 rw[h]at this;cases this
theorem o12F:opF[12]? = some (oI 12):=by kernel_rfl
theorem g12F:(oI 12).guard=none:=by kernel_rfl
theorem d12F:(oI 12).dst=some 3:=by kernel_rfl
theorem p12F:fT (oI 12)=[10,11,0,1,2,3,4,5,6,7,8,9,10,11]:=by kernel_rfl
theorem x12F:(oI 12).op.operands.toList=[.tmp 14]:=by kernel_rfl
theorem m12F:am neuN ptFl (oI 12)≠none:=λh=>by
 have:(am neuN ptFl (oI 12)).isSome=true:=by kernel_rfl
 rw[h]at this;cases this
end Go.Am

/-
 CRIMPREF10.FLAT: its region,whatever the order.
-/
set_option maxRecDepth 100000
namespace Go.Am
open Sx Go.Proofs
def UnF(w v m:Nat):Prop:=∀H:List HObj,cY cc 28 [agF w v] H (.slice (some ⟨H.length+(2*m - 1),0,some 12⟩) m 0) (H++List.replicate (2*m) .dead)
section
variable {B:Below} {H:List HObj} {w v n m:Nat}
theorem di(b:Nat->Bool)(i:Nat):updB b i i=true:=by unfold updB;rw[if_pos rfl]
theorem ae(b:Nat->Bool){i j:Nat}(h:j≠i):updB b i j=b j:=by unfold updB;rw[if_neg h]
theorem effF{T:List Value}{i:Nat}{L:Nat}(hm:am neuN ptFl (oI i)≠none)(h:∀x∈(oI i).op.operands.toList,oval T x=oval (TF L w v n m) x):ak cc ptFl (oval T) (oI i)=ak cc ptFl (oval (TF L w v n m)) (oI i):=eZ neuN ptFl hm h
theorem tL{i d:Nat}{x:Value}{σ σ':St}(hi:opF[i]? = some (oI i))(hs:slF H.length i=none)(hg:(oI i).guard=none)(hd:(oI i).dst=some d)(he:ak cc ptFl (oval σ.tmps) (oI i)=some (.val x))(hp:σ.put (some d) x=σ'):aJ cc B ptFl opF (slF H.length) i σ σ':=by
 unfold aJ
 rw[hs]
 simp only[aj,hi,wantF hg]
 exact .inl ⟨_,he,(σ,x),rfl,by rw[hd];exact hp.symm⟩
theorem stepL{i d:Nat}{x:Value}{σ σ':St}{row:List Value}{f:List Value->Option Value}(hi:opF[i]? = some (oI i))(hs:slF H.length i=none)(hg:(oI i).guard=none)(hd:(oI i).dst=some d)(he:ak cc ptFl (oval σ.tmps) (oI i)=some (.lget 1 f))(hr:σ.loc[1]? = some (some row))(hf:f row=some x)(hp:σ.put (some d) x=σ'):aJ cc B ptFl opF (slF H.length) i σ σ':=by
 unfold aJ
 rw[hs]
 simp only[aj,hi,wantF hg]
 refine .inl ⟨_,he,(σ,x),?_,by rw[hd];exact hp.symm⟩
 simp only[aG,hr,hf,qav]
theorem stepH{i d k:Nat}{σ σ':St}{f:List HObj->Option (List HObj×Value)}{x:HObj}{mk:Nat->Value}(hi:opF[i]? = some (oI i))(hs:slF H.length i=some k)(hg:(oI i).guard=none)(hd:(oI i).dst=some d)(he:ak cc ptFl (oval σ.tmps) (oI i)=some (.hop f))(hf:f σ.heap=some (σ.heap++[x],mk σ.heap.length))(hk:σ.heap[k]? = some .dead)(hm:Fresh mk)
  (hp:({ σ with heap:=σ.heap.set k x }:St).put (some d) (mk k)=σ'):aJ cc B ptFl opF (slF H.length) i σ σ':=by
 unfold aJ
 rw[hs]
 exact⟨oI i,f,σ.heap,x,mk,hi,wantF hg _,he,hf,rfl,hk,hm,by rw[hd];exact hp.symm⟩
theorem stepC{i d:Nat}{σ σ':St}{g:FuncId}{args:List Value}{r:Value}{H':List HObj}(hi:opF[i]? = some (oI i))(hs:slF H.length i=none)(hg:(oI i).guard=none)(hd:(oI i).dst=some d)(he:ak cc ptFl (oval σ.tmps) (oI i)=some (.call g args))(hc:B.call g args σ.heap r H')
  (hp:({ σ with heap:=H' }:St).put (some d) r=σ'):aJ cc B ptFl opF (slF H.length) i σ σ':=by
 unfold aJ
 rw[hs]
 simp only[aj,hi,wantF hg]
 exact .inl ⟨_,he,r,H',hc,by rw[hd];exact hp.symm⟩
theorem hp_get0{b6 b8 b10:Bool}:(hpF H b6 b8 b10 n m)[H.length]? = some (ifO b6 (b1F n)):=by
 unfold hpF
 rw[qak (qaA _),qbp];rfl
theorem hp_get1{b6 b8 b10:Bool}:(hpF H b6 b8 b10 n m)[H.length+1]? = some (ifO b10 (b2F m)):=by
 unfold hpF
 rw[qak (by omega),show H.length+1 - H.length=1 by omega];rfl
theorem hp_set0{b6 b8 b10:Bool}:(hpF H b6 b8 b10 n m).set H.length (b1F n)=hpF H true b8 b10 n m:=by
 unfold hpF
 rw[qbL _ _ (qaA _),qbp];rfl
theorem hp_set1{b6 b8 b10:Bool}:(hpF H b6 b8 b10 n m).set (H.length+1) (b2F m)=hpF H b6 b8 true n m:=by
 unfold hpF
 rw[qbL _ _ (by omega),show H.length+1 - H.length=1 by omega];rfl
theorem hp_len{b6 b10:Bool}:(hpF H b6 false b10 n m).length=H.length+2:=by unfold hpF;simp
theorem hp_call{b6 b10:Bool}:hpF H b6 false b10 n m++List.replicate (2*m) .dead=hpF H b6 true b10 n m:=by
 unfold hpF
 simp
theorem notS{i:Nat}(h6:i≠6)(h10:i≠10):slF H.length i=none:=by
 unfold slF
 split<;>first|(exact absurd rfl h6)|(exact absurd rfl h10)|rfl
theorem q0F(hF:FF w v n m)(hU:UnF w v m)(hB:∀H:List HObj,B.call 28 [agF w v] H (.slice (some ⟨H.length+(2*m - 1),0,some 12⟩) m 0) (H++List.replicate (2*m) .dead))(b:Nat->Bool)(hb:b 0=false):aJ cc B ptFl opF (slF H.length) 0 (stF H w v n m b) (stF H w v n m (updB b 0)):=by
 have hop:∀x∈(oI 0).op.operands.toList,oval (stF H w v n m b).tmps x=oval (TF H.length w v n m) x:=by
  rw[x0F]
  intro x hx
  simp only[qaj,qaL,or_false]at hx
  subst hx
  all_goals first|rfl
 have hu:stF H w v n m (updB b 0)=⟨tmF true (b 1) (b 2) (b 3) (b 4) (b 5) (b 6) (b 7) (b 8) (b 9) (b 10) (b 11) (b 12) H.length w v n m,lcF w v,hpF H (b 6) (b 8) (b 10) n m⟩:=by
  unfold stF
  rw[di b 0,ae b (show(1:Nat)≠0 by decide),ae b (show(2:Nat)≠0 by decide),ae b (show(3:Nat)≠0 by decide),ae b (show(4:Nat)≠0 by decide),ae b (show(5:Nat)≠0 by decide),ae b (show(6:Nat)≠0 by decide),ae b (show(7:Nat)≠0 by decide),ae b (show(8:Nat)≠0 by decide),ae b (show(9:Nat)≠0 by decide),ae b (show(10:Nat)≠0 by decide),ae b (show(11:Nat)≠0 by decide),ae b (show(12:Nat)≠0 by decide)]
 rw[hu]
 exact tL o0F (notS (by decide) (by decide)) g0F d0F ((effF m0F hop).trans (fg (hF.e0 _))) rfl
theorem q1F(hF:FF w v n m)(hU:UnF w v m)(hB:∀H:List HObj,B.call 28 [agF w v] H (.slice (some ⟨H.length+(2*m - 1),0,some 12⟩) m 0) (H++List.replicate (2*m) .dead))(b:Nat->Bool)(h0:b 0=true)(hb:b 1=false):aJ cc B ptFl opF (slF H.length) 1 (stF H w v n m b) (stF H w v n m (updB b 1)):=by
 have hop:∀x∈(oI 1).op.operands.toList,oval (stF H w v n m b).tmps x=oval (TF H.length w v n m) x:=by
  rw[x1F]
  intro x hx
  simp only[qaj,qaL,or_false]at hx
  subst hx
  all_goals first|rfl|(show ifF (b 0) _ _=_;rw[h0];rfl)
 have hu:stF H w v n m (updB b 1)=⟨tmF (b 0) true (b 2) (b 3) (b 4) (b 5) (b 6) (b 7) (b 8) (b 9) (b 10) (b 11) (b 12) H.length w v n m,lcF w v,hpF H (b 6) (b 8) (b 10) n m⟩:=by
  unfold stF
  rw[ae b (show(0:Nat)≠1 by decide),di b 1,ae b (show(2:Nat)≠1 by decide),ae b (show(3:Nat)≠1 by decide),ae b (show(4:Nat)≠1 by decide),ae b (show(5:Nat)≠1 by decide),ae b (show(6:Nat)≠1 by decide),ae b (show(7:Nat)≠1 by decide),ae b (show(8:Nat)≠1 by decide),ae b (show(9:Nat)≠1 by decide),ae b (show(10:Nat)≠1 by decide),ae b (show(11:Nat)≠1 by decide),ae b (show(12:Nat)≠1 by decide)]
 rw[hu]
 obtain⟨f,f1,f2⟩:=sN (hF.e1 H.length)
 exact stepL o1F (notS (by decide) (by decide)) g1F d1F ((effF m1F hop).trans f1) rfl f2 rfl
theorem q2F(hF:FF w v n m)(hU:UnF w v m)(hB:∀H:List HObj,B.call 28 [agF w v] H (.slice (some ⟨H.length+(2*m - 1),0,some 12⟩) m 0) (H++List.replicate (2*m) .dead))(b:Nat->Bool)(h1:b 1=true)(hb:b 2=false):aJ cc B ptFl opF (slF H.length) 2 (stF H w v n m b) (stF H w v n m (updB b 2)):=by
 have hop:∀x∈(oI 2).op.operands.toList,oval (stF H w v n m b).tmps x=oval (TF H.length w v n m) x:=by
  rw[x2F]
  intro x hx
  simp only[qaj,qaL,or_false]at hx
  rcases hx with rfl|rfl
  all_goals first|rfl|(show ifF (b 1) _ _=_;rw[h1];rfl)
 have hu:stF H w v n m (updB b 2)=⟨tmF (b 0) (b 1) true (b 3) (b 4) (b 5) (b 6) (b 7) (b 8) (b 9) (b 10) (b 11) (b 12) H.length w v n m,lcF w v,hpF H (b 6) (b 8) (b 10) n m⟩:=by
  unfold stF
  rw[ae b (show(0:Nat)≠2 by decide),ae b (show(1:Nat)≠2 by decide),di b 2,ae b (show(3:Nat)≠2 by decide),ae b (show(4:Nat)≠2 by decide),ae b (show(5:Nat)≠2 by decide),ae b (show(6:Nat)≠2 by decide),ae b (show(7:Nat)≠2 by decide),ae b (show(8:Nat)≠2 by decide),ae b (show(9:Nat)≠2 by decide),ae b (show(10:Nat)≠2 by decide),ae b (show(11:Nat)≠2 by decide),ae b (show(12:Nat)≠2 by decide)]
 rw[hu]
 exact tL o2F (notS (by decide) (by decide)) g2F d2F ((effF m2F hop).trans (fg (hF.e2 _))) rfl
theorem q3F(hF:FF w v n m)(hU:UnF w v m)(hB:∀H:List HObj,B.call 28 [agF w v] H (.slice (some ⟨H.length+(2*m - 1),0,some 12⟩) m 0) (H++List.replicate (2*m) .dead))(b:Nat->Bool)(hb:b 3=false):aJ cc B ptFl opF (slF H.length) 3 (stF H w v n m b) (stF H w v n m (updB b 3)):=by
 have hop:∀x∈(oI 3).op.operands.toList,oval (stF H w v n m b).tmps x=oval (TF H.length w v n m) x:=by
  rw[x3F]
  intro x hx
  simp only[qaj,qaL,or_false]at hx
  subst hx
  all_goals first|rfl
 have hu:stF H w v n m (updB b 3)=⟨tmF (b 0) (b 1) (b 2) true (b 4) (b 5) (b 6) (b 7) (b 8) (b 9) (b 10) (b 11) (b 12) H.length w v n m,lcF w v,hpF H (b 6) (b 8) (b 10) n m⟩:=by
  unfold stF
  rw[ae b (show(0:Nat)≠3 by decide),ae b (show(1:Nat)≠3 by decide),ae b (show(2:Nat)≠3 by decide),di b 3,ae b (show(4:Nat)≠3 by decide),ae b (show(5:Nat)≠3 by decide),ae b (show(6:Nat)≠3 by decide),ae b (show(7:Nat)≠3 by decide),ae b (show(8:Nat)≠3 by decide),ae b (show(9:Nat)≠3 by decide),ae b (show(10:Nat)≠3 by decide),ae b (show(11:Nat)≠3 by decide),ae b (show(12:Nat)≠3 by decide)]
 rw[hu]
 exact tL o3F (notS (by decide) (by decide)) g3F d3F ((effF m3F hop).trans (fg (hF.e3 _))) rfl
theorem q4F(hF:FF w v n m)(hU:UnF w v m)(hB:∀H:List HObj,B.call 28 [agF w v] H (.slice (some ⟨H.length+(2*m - 1),0,some 12⟩) m 0) (H++List.replicate (2*m) .dead))(b:Nat->Bool)(h3:b 3=true)(hb:b 4=false):aJ cc B ptFl opF (slF H.length) 4 (stF H w v n m b) (stF H w v n m (updB b 4)):=by
 have hop:∀x∈(oI 4).op.operands.toList,oval (stF H w v n m b).tmps x=oval (TF H.length w v n m) x:=by
  rw[x4F]
  intro x hx
  simp only[qaj,qaL,or_false]at hx
  subst hx
  all_goals first|rfl|(show ifF (b 3) _ _=_;rw[h3];rfl)
 have hu:stF H w v n m (updB b 4)=⟨tmF (b 0) (b 1) (b 2) (b 3) true (b 5) (b 6) (b 7) (b 8) (b 9) (b 10) (b 11) (b 12) H.length w v n m,lcF w v,hpF H (b 6) (b 8) (b 10) n m⟩:=by
  unfold stF
  rw[ae b (show(0:Nat)≠4 by decide),ae b (show(1:Nat)≠4 by decide),ae b (show(2:Nat)≠4 by decide),ae b (show(3:Nat)≠4 by decide),di b 4,ae b (show(5:Nat)≠4 by decide),ae b (show(6:Nat)≠4 by decide),ae b (show(7:Nat)≠4 by decide),ae b (show(8:Nat)≠4 by decide),ae b (show(9:Nat)≠4 by decide),ae b (show(10:Nat)≠4 by decide),ae b (show(11:Nat)≠4 by decide),ae b (show(12:Nat)≠4 by decide)]
 rw[hu]
 obtain⟨f,f1,f2⟩:=sN (hF.e4 H.length)
 exact stepL o4F (notS (by decide) (by decide)) g4F d4F ((effF m4F hop).trans f1) rfl f2 rfl
theorem q5F(hF:FF w v n m)(hU:UnF w v m)(hB:∀H:List HObj,B.call 28 [agF w v] H (.slice (some ⟨H.length+(2*m - 1),0,some 12⟩) m 0) (H++List.replicate (2*m) .dead))(b:Nat->Bool)(h2:b 2=true)(h4:b 4=true)(hb:b 5=false):aJ cc B ptFl opF (slF H.length) 5 (stF H w v n m b) (stF H w v n m (updB b 5)):=by
 have hop:∀x∈(oI 5).op.operands.toList,oval (stF H w v n m b).tmps x=oval (TF H.length w v n m) x:=by
  rw[x5F]
  intro x hx
  simp only[qaj,qaL,or_false]at hx
  rcases hx with rfl|rfl
  all_goals first|rfl|(show ifF (b 2) _ _=_;rw[h2];rfl)|(show ifF (b 4) _ _=_;rw[h4];rfl)
 have hu:stF H w v n m (updB b 5)=⟨tmF (b 0) (b 1) (b 2) (b 3) (b 4) true (b 6) (b 7) (b 8) (b 9) (b 10) (b 11) (b 12) H.length w v n m,lcF w v,hpF H (b 6) (b 8) (b 10) n m⟩:=by
  unfold stF
  rw[ae b (show(0:Nat)≠5 by decide),ae b (show(1:Nat)≠5 by decide),ae b (show(2:Nat)≠5 by decide),ae b (show(3:Nat)≠5 by decide),ae b (show(4:Nat)≠5 by decide),di b 5,ae b (show(6:Nat)≠5 by decide),ae b (show(7:Nat)≠5 by decide),ae b (show(8:Nat)≠5 by decide),ae b (show(9:Nat)≠5 by decide),ae b (show(10:Nat)≠5 by decide),ae b (show(11:Nat)≠5 by decide),ae b (show(12:Nat)≠5 by decide)]
 rw[hu]
 exact tL o5F (notS (by decide) (by decide)) g5F d5F ((effF m5F hop).trans (fg (hF.e5 _))) rfl
theorem q6F(hF:FF w v n m)(hU:UnF w v m)(hB:∀H:List HObj,B.call 28 [agF w v] H (.slice (some ⟨H.length+(2*m - 1),0,some 12⟩) m 0) (H++List.replicate (2*m) .dead))(b:Nat->Bool)(h5:b 5=true)(hb:b 6=false):aJ cc B ptFl opF (slF H.length) 6 (stF H w v n m b) (stF H w v n m (updB b 6)):=by
 have hop:∀x∈(oI 6).op.operands.toList,oval (stF H w v n m b).tmps x=oval (TF H.length w v n m) x:=by
  rw[x6F]
  intro x hx
  simp only[qaj,qaL,or_false]at hx
  rcases hx with rfl|rfl
  all_goals first|rfl|(show ifF (b 5) _ _=_;rw[h5];rfl)
 have hu:stF H w v n m (updB b 6)=⟨tmF (b 0) (b 1) (b 2) (b 3) (b 4) (b 5) true (b 7) (b 8) (b 9) (b 10) (b 11) (b 12) H.length w v n m,lcF w v,hpF H true (b 8) (b 10) n m⟩:=by
  unfold stF
  rw[ae b (show(0:Nat)≠6 by decide),ae b (show(1:Nat)≠6 by decide),ae b (show(2:Nat)≠6 by decide),ae b (show(3:Nat)≠6 by decide),ae b (show(4:Nat)≠6 by decide),ae b (show(5:Nat)≠6 by decide),di b 6,ae b (show(7:Nat)≠6 by decide),ae b (show(8:Nat)≠6 by decide),ae b (show(9:Nat)≠6 by decide),ae b (show(10:Nat)≠6 by decide),ae b (show(11:Nat)≠6 by decide),ae b (show(12:Nat)≠6 by decide)]
 rw[hu]
 obtain⟨f,f1,f2⟩:=flHp_ok (hF.e6 H.length) ⟨_,rfl⟩
 refine stepH (k:=H.length) o6F rfl g6F d6F ((effF m6F hop).trans f1) (congrFun f2 _) ?_ (.slice 3 n (n+1)) ?_
 ·show(hpF H (b 6) (b 8) (b 10) n m)[H.length]? = _
  rw[hp_get0,hb];rfl
 ·show(⟨(tmF _ _ _ _ _ _ _ _ _ _ _ _ _ _ _ _ _ _).set 10 _,lcF w v,(hpF H (b 6) (b 8) (b 10) n m).set H.length _⟩ : St)=_
  rw[hp_set0];rfl
theorem q7F(hF:FF w v n m)(hU:UnF w v m)(hB:∀H:List HObj,B.call 28 [agF w v] H (.slice (some ⟨H.length+(2*m - 1),0,some 12⟩) m 0) (H++List.replicate (2*m) .dead))(b:Nat->Bool)(hb:b 7=false):aJ cc B ptFl opF (slF H.length) 7 (stF H w v n m b) (stF H w v n m (updB b 7)):=by
 have hop:∀x∈(oI 7).op.operands.toList,oval (stF H w v n m b).tmps x=oval (TF H.length w v n m) x:=by
  rw[x7F]
  intro x hx
  simp only[qaj,qaL,or_false]at hx
  subst hx
  all_goals first|rfl
 have hu:stF H w v n m (updB b 7)=⟨tmF (b 0) (b 1) (b 2) (b 3) (b 4) (b 5) (b 6) true (b 8) (b 9) (b 10) (b 11) (b 12) H.length w v n m,lcF w v,hpF H (b 6) (b 8) (b 10) n m⟩:=by
  unfold stF
  rw[ae b (show(0:Nat)≠7 by decide),ae b (show(1:Nat)≠7 by decide),ae b (show(2:Nat)≠7 by decide),ae b (show(3:Nat)≠7 by decide),ae b (show(4:Nat)≠7 by decide),ae b (show(5:Nat)≠7 by decide),ae b (show(6:Nat)≠7 by decide),di b 7,ae b (show(8:Nat)≠7 by decide),ae b (show(9:Nat)≠7 by decide),ae b (show(10:Nat)≠7 by decide),ae b (show(11:Nat)≠7 by decide),ae b (show(12:Nat)≠7 by decide)]
 rw[hu]
 obtain⟨f,f1,f2⟩:=sN (hF.e7 H.length)
 exact stepL o7F (notS (by decide) (by decide)) g7F d7F ((effF m7F hop).trans f1) rfl f2 rfl
theorem q8F(hF:FF w v n m)(hU:UnF w v m)(hB:∀H:List HObj,B.call 28 [agF w v] H (.slice (some ⟨H.length+(2*m - 1),0,some 12⟩) m 0) (H++List.replicate (2*m) .dead))(b:Nat->Bool)(h7:b 7=true)(hb:b 8=false):aJ cc B ptFl opF (slF H.length) 8 (stF H w v n m b) (stF H w v n m (updB b 8)):=by
 have hop:∀x∈(oI 8).op.operands.toList,oval (stF H w v n m b).tmps x=oval (TF H.length w v n m) x:=by
  rw[x8F]
  intro x hx
  simp only[qaj,qaL,or_false]at hx
  rcases hx with rfl|rfl
  all_goals first|rfl|(show ifF (b 7) _ _=_;rw[h7];rfl)
 have hu:stF H w v n m (updB b 8)=⟨tmF (b 0) (b 1) (b 2) (b 3) (b 4) (b 5) (b 6) (b 7) true (b 9) (b 10) (b 11) (b 12) H.length w v n m,lcF w v,hpF H (b 6) true (b 10) n m⟩:=by
  unfold stF
  rw[ae b (show(0:Nat)≠8 by decide),ae b (show(1:Nat)≠8 by decide),ae b (show(2:Nat)≠8 by decide),ae b (show(3:Nat)≠8 by decide),ae b (show(4:Nat)≠8 by decide),ae b (show(5:Nat)≠8 by decide),ae b (show(6:Nat)≠8 by decide),ae b (show(7:Nat)≠8 by decide),di b 8,ae b (show(9:Nat)≠8 by decide),ae b (show(10:Nat)≠8 by decide),ae b (show(11:Nat)≠8 by decide),ae b (show(12:Nat)≠8 by decide)]
 rw[hu]
 have hl:(stF H w v n m b).heap.length=H.length+2:=by
  show(hpF H (b 6) (b 8) (b 10) n m).length=_
  rw[hb,hp_len]
 have hc:=hB (stF H w v n m b).heap
 rw[hl]at hc
 refine stepC o8F (notS (by decide) (by decide)) g8F d8F ((effF m8F hop).trans (hF.e8 _)) hc ?_
 show(⟨(tmF _ _ _ _ _ _ _ _ _ _ _ _ _ _ _ _ _ _).set 12 _,lcF w v,hpF H (b 6) (b 8) (b 10) n m++List.replicate (2*m) .dead⟩ : St)=_
 rw[hb,hp_call];rfl
theorem q9F(hF:FF w v n m)(hU:UnF w v m)(hB:∀H:List HObj,B.call 28 [agF w v] H (.slice (some ⟨H.length+(2*m - 1),0,some 12⟩) m 0) (H++List.replicate (2*m) .dead))(b:Nat->Bool)(h8:b 8=true)(hb:b 9=false):aJ cc B ptFl opF (slF H.length) 9 (stF H w v n m b) (stF H w v n m (updB b 9)):=by
 have hop:∀x∈(oI 9).op.operands.toList,oval (stF H w v n m b).tmps x=oval (TF H.length w v n m) x:=by
  rw[x9F]
  intro x hx
  simp only[qaj,qaL,or_false]at hx
  subst hx
  all_goals first|rfl|(show ifF (b 8) _ _=_;rw[h8];rfl)
 have hu:stF H w v n m (updB b 9)=⟨tmF (b 0) (b 1) (b 2) (b 3) (b 4) (b 5) (b 6) (b 7) (b 8) true (b 10) (b 11) (b 12) H.length w v n m,lcF w v,hpF H (b 6) (b 8) (b 10) n m⟩:=by
  unfold stF
  rw[ae b (show(0:Nat)≠9 by decide),ae b (show(1:Nat)≠9 by decide),ae b (show(2:Nat)≠9 by decide),ae b (show(3:Nat)≠9 by decide),ae b (show(4:Nat)≠9 by decide),ae b (show(5:Nat)≠9 by decide),ae b (show(6:Nat)≠9 by decide),ae b (show(7:Nat)≠9 by decide),ae b (show(8:Nat)≠9 by decide),di b 9,ae b (show(10:Nat)≠9 by decide),ae b (show(11:Nat)≠9 by decide),ae b (show(12:Nat)≠9 by decide)]
 rw[hu]
 exact tL o9F (notS (by decide) (by decide)) g9F d9F ((effF m9F hop).trans (fg (hF.e9 _))) rfl
theorem q10F(hF:FF w v n m)(hU:UnF w v m)(hB:∀H:List HObj,B.call 28 [agF w v] H (.slice (some ⟨H.length+(2*m - 1),0,some 12⟩) m 0) (H++List.replicate (2*m) .dead))(b:Nat->Bool)(h9:b 9=true)(hb:b 10=false):aJ cc B ptFl opF (slF H.length) 10 (stF H w v n m b) (stF H w v n m (updB b 10)):=by
 have hop:∀x∈(oI 10).op.operands.toList,oval (stF H w v n m b).tmps x=oval (TF H.length w v n m) x:=by
  rw[x10F]
  intro x hx
  simp only[qaj,qaL,or_false]at hx
  rcases hx with rfl|rfl
  all_goals first|rfl|(show ifF (b 9) _ _=_;rw[h9];rfl)
 have hu:stF H w v n m (updB b 10)=⟨tmF (b 0) (b 1) (b 2) (b 3) (b 4) (b 5) (b 6) (b 7) (b 8) (b 9) true (b 11) (b 12) H.length w v n m,lcF w v,hpF H (b 6) (b 8) true n m⟩:=by
  unfold stF
  rw[ae b (show(0:Nat)≠10 by decide),ae b (show(1:Nat)≠10 by decide),ae b (show(2:Nat)≠10 by decide),ae b (show(3:Nat)≠10 by decide),ae b (show(4:Nat)≠10 by decide),ae b (show(5:Nat)≠10 by decide),ae b (show(6:Nat)≠10 by decide),ae b (show(7:Nat)≠10 by decide),ae b (show(8:Nat)≠10 by decide),ae b (show(9:Nat)≠10 by decide),di b 10,ae b (show(11:Nat)≠10 by decide),ae b (show(12:Nat)≠10 by decide)]
 rw[hu]
 obtain⟨f,f1,f2⟩:=flHp_ok (hF.e10 H.length) ⟨_,rfl⟩
 refine stepH (k:=(H.length+1)) o10F rfl g10F d10F ((effF m10F hop).trans f1) (congrFun f2 _) ?_ (.slice 1 m (m+1)) ?_
 ·show(hpF H (b 6) (b 8) (b 10) n m)[(H.length+1)]? = _
  rw[hp_get1,hb];rfl
 ·show(⟨(tmF _ _ _ _ _ _ _ _ _ _ _ _ _ _ _ _ _ _).set 14 _,lcF w v,(hpF H (b 6) (b 8) (b 10) n m).set (H.length+1) _⟩ : St)=_
  rw[hp_set1];rfl
theorem q11F(hF:FF w v n m)(hU:UnF w v m)(hB:∀H:List HObj,B.call 28 [agF w v] H (.slice (some ⟨H.length+(2*m - 1),0,some 12⟩) m 0) (H++List.replicate (2*m) .dead))(b:Nat->Bool)(h6:b 6=true)(hb:b 11=false):aJ cc B ptFl opF (slF H.length) 11 (stF H w v n m b) (stF H w v n m (updB b 11)):=by
 have hop:∀x∈(oI 11).op.operands.toList,oval (stF H w v n m b).tmps x=oval (TF H.length w v n m) x:=by
  rw[x11F]
  intro x hx
  simp only[qaj,qaL,or_false]at hx
  subst hx
  all_goals first|rfl|(show ifF (b 6) _ _=_;rw[h6];rfl)
 have hu:stF H w v n m (updB b 11)=⟨tmF (b 0) (b 1) (b 2) (b 3) (b 4) (b 5) (b 6) (b 7) (b 8) (b 9) (b 10) true (b 12) H.length w v n m,lcF w v,hpF H (b 6) (b 8) (b 10) n m⟩:=by
  unfold stF
  rw[ae b (show(0:Nat)≠11 by decide),ae b (show(1:Nat)≠11 by decide),ae b (show(2:Nat)≠11 by decide),ae b (show(3:Nat)≠11 by decide),ae b (show(4:Nat)≠11 by decide),ae b (show(5:Nat)≠11 by decide),ae b (show(6:Nat)≠11 by decide),ae b (show(7:Nat)≠11 by decide),ae b (show(8:Nat)≠11 by decide),ae b (show(9:Nat)≠11 by decide),ae b (show(10:Nat)≠11 by decide),di b 11,ae b (show(12:Nat)≠11 by decide)]
 rw[hu]
 exact tL o11F (notS (by decide) (by decide)) g11F d11F ((effF m11F hop).trans (fg (hF.e11 _))) rfl
theorem q12F(hF:FF w v n m)(hU:UnF w v m)(hB:∀H:List HObj,B.call 28 [agF w v] H (.slice (some ⟨H.length+(2*m - 1),0,some 12⟩) m 0) (H++List.replicate (2*m) .dead))(b:Nat->Bool)(h10:b 10=true)(hb:b 12=false):aJ cc B ptFl opF (slF H.length) 12 (stF H w v n m b) (stF H w v n m (updB b 12)):=by
 have hop:∀x∈(oI 12).op.operands.toList,oval (stF H w v n m b).tmps x=oval (TF H.length w v n m) x:=by
  rw[x12F]
  intro x hx
  simp only[qaj,qaL,or_false]at hx
  subst hx
  all_goals first|rfl|(show ifF (b 10) _ _=_;rw[h10];rfl)
 have hu:stF H w v n m (updB b 12)=⟨tmF (b 0) (b 1) (b 2) (b 3) (b 4) (b 5) (b 6) (b 7) (b 8) (b 9) (b 10) (b 11) true H.length w v n m,lcF w v,hpF H (b 6) (b 8) (b 10) n m⟩:=by
  unfold stF
  rw[ae b (show(0:Nat)≠12 by decide),ae b (show(1:Nat)≠12 by decide),ae b (show(2:Nat)≠12 by decide),ae b (show(3:Nat)≠12 by decide),ae b (show(4:Nat)≠12 by decide),ae b (show(5:Nat)≠12 by decide),ae b (show(6:Nat)≠12 by decide),ae b (show(7:Nat)≠12 by decide),ae b (show(8:Nat)≠12 by decide),ae b (show(9:Nat)≠12 by decide),ae b (show(10:Nat)≠12 by decide),ae b (show(11:Nat)≠12 by decide),di b 12]
 rw[hu]
 exact tL o12F (notS (by decide) (by decide)) g12F d12F ((effF m12F hop).trans (fg (hF.e12 _))) rfl
end
end Go.Am

/-
 CRIMPREF10.FLAT: what it answers;runs in which it is answered.
-/
set_option maxRecDepth 100000
set_option maxHeartbeats 1000000
namespace Go.Am
open Sx Go.Proofs
theorem mem13{i:Nat}{o:Oper}(h:opF[i]? = some o):i<13/\o=oI i:=by
 have hs:opF.size=13:=by kernel_rfl
 obtain⟨h1,h2⟩:=qaF.1 h
 refine⟨by omega,?_⟩
 unfold oI
 rw[List.getD_eq_getElem?_getD,qcr,h];rfl
theorem ea{o:Oper}{l:List Nat}{b:Nat->Bool}(h:fT o=l)(hd:∀e∈o.after.toList,Region.binds .any e=true->b e.on=true):∀d∈l,b d=true:=by
 intro d hd'
 rw[←h]at hd'
 obtain⟨e,h1,rfl⟩:=qaI.1 hd'
 obtain⟨h1,h2⟩:=qaS.1 h1
 exact hd e h1 h2
theorem backF:∀(i:Nat) o,opF[i]? = some o->∀e∈o.after.toList,Region.binds .any e=true->e.on<i:=by
 have hb:ed opF.toList 0=true:=by kernel_rfl
 intro i o h e he hx
 have:=dq hb i o (by simpa using h) e he hx
 omega
section
variable {B:Below} {H:List HObj} {w v n m:Nat}
theorem allF(hF:FF w v n m)(hU:UnF w v m)(hB:∀H:List HObj,B.call 28 [agF w v] H (.slice (some ⟨H.length+(2*m - 1),0,some 12⟩) m 0) (H++List.replicate (2*m) .dead))(t:Nat) :
  dm cc B ptFl opF (slF H.length) (Region.linearise .any opF t) (stF H w v n m λ_=>false) (stF H w v n m λj=>decide (j<opF.size)):=by
 refine any_by backF (λb i o ho hb hd=>?_) t
 obtain⟨hi,rfl⟩:=mem13 ho
 match i,hi,hb,hd with
 |0,_,hb,hd=>exact q0F hF hU hB b  hb
 |1,_,hb,hd=>exact q1F hF hU hB b (ea p1F hd 0 (by decide)) hb
 |2,_,hb,hd=>exact q2F hF hU hB b (ea p2F hd 1 (by decide)) hb
 |3,_,hb,hd=>exact q3F hF hU hB b  hb
 |4,_,hb,hd=>exact q4F hF hU hB b (ea p4F hd 3 (by decide)) hb
 |5,_,hb,hd=>exact q5F hF hU hB b (ea p5F hd 2 (by decide)) (ea p5F hd 4 (by decide)) hb
 |6,_,hb,hd=>exact q6F hF hU hB b (ea p6F hd 5 (by decide)) hb
 |7,_,hb,hd=>exact q7F hF hU hB b  hb
 |8,_,hb,hd=>exact q8F hF hU hB b (ea p8F hd 7 (by decide)) hb
 |9,_,hb,hd=>exact q9F hF hU hB b (ea p9F hd 8 (by decide)) hb
 |10,_,hb,hd=>exact q10F hF hU hB b (ea p10F hd 9 (by decide)) hb
 |11,_,hb,hd=>exact q11F hF hU hB b (ea p11F hd 6 (by decide)) hb
 |12,_,hb,hd=>exact q12F hF hU hB b (ea p12F hd 10 (by decide)) hb
theorem anyF(hF:FF w v n m)(hU:UnF w v m)(hB:∀H:List HObj,B.call 28 [agF w v] H (.slice (some ⟨H.length+(2*m - 1),0,some 12⟩) m 0) (H++List.replicate (2*m) .dead)){σ:St}(hσ:σ.pad 2=stF H w v n m λ_=>false)(hl:σ.heap.length=H.length) :
  dW cc B ptFl opF σ (stF H w v n m λj=>decide (j<opF.size)):=by
 refine .inr ⟨slF H.length,2,by kernel_rfl,λi k hk=>?_,λi j k h1 h2=>?_,λt=>?_⟩
 ·unfold slF at hk
  split at hk<;>first|(cases hk;omega)|cases hk
 ·unfold slF at h1 h2
  split at h1<;>split at h2<;>first|(cases h1;cases h2;rfl)|(cases h1;cases h2;omega)|(cases h1;done)|(cases h2;done)|(cases h1;simp at h2)
 ·rw[hσ];exact allF hF hU hB t
end
theorem flat_call{w v n m:Nat}(hF:FF w v n m)(hU:UnF w v m)(H:List HObj):gu cc 10 [agF w v] H (.tuple #[s1F H.length n,s2F H.length m]) (H++b1F n :: b2F m :: List.replicate (2*m) .dead):=by
 have hB:∀(k:Nat) (H:List HObj),(sm cc k).call 28 [agF w v] H (.slice (some ⟨H.length+(2*m - 1),0,some 12⟩) m 0) (H++List.replicate (2*m) .dead):=λk H=>by
  have hk:noK 28 [agF w v] H (.slice (some ⟨H.length+(2*m - 1),0,some 12⟩) m 0) (H++List.replicate (2*m) .dead):=.inr ⟨.inl (by kernel_rfl),hU H⟩
  cases k with
  |zero=>exact hk
  |succ k=>exact .inl hk
 refine⟨5,.inr ⟨Tryz.f10,cFl,.ret,stF H w v n m (λj=>decide (j<opF.size)),[s1F H.length n,s2F H.length m],Tryz.func10,?_,by kernel_rfl,?_,.inr rfl,?_,rfl,by rfl,?_⟩⟩
 ·obtain⟨g,h1,h2,_⟩:=iFl.is
  obtain rfl:Tryz.f10=g:=qan (Tryz.func10.symm.trans h1)
  exact h2
 ·rw[cFl_eq]
  have hpts:cc.pts 10=ptFl:=rfl
  rw[hpts]
  refine⟨.normal,⟨tmF false false false false false false false false false false false false false H.length w v n m,lcF w v,H⟩,?_,.inl ⟨rfl,?_⟩⟩
  ·refine⟨rfl,?_⟩
   show dD cc _ ptFl opA (List.range opA.size) _ _
   have hsz:List.range opA.size=[0,1,2]:=by kernel_rfl
   rw[hsz]
   have r0:∀σ:St,dV σ σ:=λσ=>⟨rfl,rfl,rfl,λi x y h1 h2=>.inl (qan (h2.symm.trans h1))⟩
   have z0:opA[0]? = some (opA.toList.getD 0 dfO):=by kernel_rfl
   have z1:opA[1]? = some (opA.toList.getD 1 dfO):=by kernel_rfl
   have z2:opA[2]? = some (opA.toList.getD 2 dfO):=by kernel_rfl
   have w0:(λT=>ba opA T (opA.toList.getD 0 dfO))=λ_=>some true:=by kernel_rfl
   have w1:(λT=>ba opA T (opA.toList.getD 1 dfO))=λ_=>some true:=by kernel_rfl
   have w2:(λT=>ba opA T (opA.toList.getD 2 dfO))=λ_=>some true:=by kernel_rfl
   have u0:(opA.toList.getD 0 dfO).dst=some 1:=by kernel_rfl
   have u1:(opA.toList.getD 1 dfO).dst=some 2:=by kernel_rfl
   have u2:(opA.toList.getD 2 dfO).dst=some 3:=by kernel_rfl
   have c1:(λρ=>ak cc ptFl ρ (opA.toList.getD 1 dfO))=λρ=>some (.val (ρ (.const nlF))):=by kernel_rfl
   have c2:(λρ=>ak cc ptFl ρ (opA.toList.getD 2 dfO))=λρ=>some (.val (ρ (.const nlF))):=by kernel_rfl
   refine⟨_,⟨[agF w v,.pointer (some ⟨1,0,some 0⟩),undef,undef,undef,undef,undef,undef,undef,undef,undef,undef,undef,undef,undef],lcF w v,H⟩,r0 _,?_,_,⟨[agF w v,.pointer (some ⟨1,0,some 0⟩),nlF,undef,undef,undef,undef,undef,undef,undef,undef,undef,undef,undef,undef],lcF w v,H⟩,r0 _,?_,_,_,r0 _,?_,rfl⟩
   ·have hw:=congrFun w0 (fW Tryz.f10 [agF w v] H).tmps
    simp only[aj,z0]
    rw[hw]
    refine .inl ⟨_,hF.a0 H,(⟨(fW Tryz.f10 [agF w v] H).tmps,lcF w v,H⟩,.pointer (some ⟨1,0,some 0⟩)),?_,?_⟩
    ·rfl
    ·rw[u0];rfl
   ·simp only[aj,z1]
    rw[show ba opA _ (opA.toList.getD 1 dfO)=some true from congrFun w1 _]
    refine .inl ⟨_,congrFun c1 _,(_,nlF),rfl,?_⟩
    rw[u1];rfl
   ·simp only[aj,z2]
    rw[show ba opA _ (opA.toList.getD 2 dfO)=some true from congrFun w2 _]
    refine .inl ⟨_,congrFun c2 _,(_,nlF),rfl,?_⟩
    rw[u2];rfl
  ·refine⟨.normal,stF H w v n m (λj=>decide (j<opF.size)),⟨rfl,?_⟩,.inl ⟨rfl,rfl,rfl⟩⟩
   rw[if_pos rfl]
   refine⟨_,⟨rfl,rfl,rfl,λi x y h1 h2=>.inl (qan (h2.symm.trans h1))⟩,?_⟩
   exact anyF hF hU (hB _) rfl rfl
 ·have hr:(Tryz.f10).results.toList=[.tmp 2,.tmp 3]:=by kernel_rfl
  rw[hr]
  have hs:opF.size=13:=by kernel_rfl
  rw[hs];rfl
 ·have hs:opF.size=13:=by kernel_rfl
  rw[hs];rfl
end Go.Am

/-
 CRIMPREF10.FLAT: for all small sheets;runs in which it is answered.
-/
set_option maxRecDepth 100000
set_option maxHeartbeats 1000000
namespace Go.Am
open Sx Go.Proofs
def isUnF(m:Nat)(rs:List Lf)(h:HTr):Bool:=match rs with
 | [.v (.slice (some a) k 0)]=>Nat.beq a.block (2*m - 1)&&(Nat.beq a.off 0&&(tagB a.spot 2&&(Nat.beq k m&&(Nat.beq h.n (2*m)&&Nat.ble 1 m))))
 |_=>false
theorem is_one{x:S0}{a b:Int}(h:x.is (.agg [.i .i64,.i .i64])=true)(hl:x.cells.map SL.lf=[.i a,.i b]):x.val = .agg #[.int .i64 a,.int .i64 b]:=by
 match x,h,hl with
 | .agg [.i k n,.i k' n'],h,hl=>
  simp only[S0.is,aI,SL.is,qaa,qc9]at h
  have h1:=cz h.1
  have h2:=cz h.2
  subst h1 h2
  simp only[S0.cells,qat,qbo,SL.lf,qas,Lf.i.injEq,and_true]at hl
  rw[←hl.1,←hl.2];rfl
theorem qJ{k:SK}:∀ {xs:List S0},bu xs [k]=true->∃x,xs=[x]/\x.is k=true
 | [],h=>by
  have h:false=true:=h
  cases h
 | [x],h=>⟨x,rfl,by
  have h:(x.is k&&true)=true:=h
  simpa using h⟩
 |x :: y :: l,h=>by
  have h:(x.is k&&false)=true:=h
  simp at h
theorem gM{w v m:Nat}(h:runF 60 (.f 28) [.i (.ofNat w),.i (.ofNat v)] .empty (λrs h=>ans (isUnF m rs h))=yes):UnF w v m:=by
 intro H
 obtain⟨rs,h',a1,a0⟩:=(qm 60).f 28 [.i (.ofNat w),.i (.ofNat v)] .empty _ [] (du rfl) h
 have a2:=ans_yes a0
 clear a0
 unfold isUnF at a2
 split at a2
 ·rename_i a k
  simp only[qaa]at a2
  obtain⟨b1,b2,b3,b4,b5,b6⟩:=a2
  have b1:=qac b1
  have b2:=qac b2
  have b3:=jk.1 b3
  have b4:=qac b4
  have b5:=qac b5
  rw[qbx]at b6
  have e0:absH ac (toL HTr.empty)=[]:=rfl
  rw[e0]at a1
  have ha:a=⟨2*m - 1,0,tag 2⟩:=by cases a;simp_all
  subst ha b4
  have hlen:(absH ac (toL h')).length=2*k:=by rw[cp,cN,b5]
  have key:=tW (N:=neuN) (λ_=>.dead) (λ_ h=>by cases h) mixed jE (by kernel_rfl) (H:=H) id a1 (λj o hj=>by simp at hj) (λl hl=>by
   simp only[qaj,qaL,or_false]at hl
   rcases hl with rfl|rfl<;>trivial) (λl hl=>by
   simp only[qaj,qaL,or_false]at hl
   subst hl
   exact .inr ⟨2*k - 1,0,k,0,2,by rw[hlen];omega,rfl⟩)
  obtain⟨sg,xs,ys,s1,⟨t1,t2,t3⟩,⟨u1,u2,u3⟩,hc⟩:=key
  cases s1
  have hx:ai xs=[agF w v]:=by
   obtain⟨x,rfl,q1⟩:=qJ t1
   ·have t2:x.cells.map SL.lf++[]=[.i (.ofNat w),.i (.ofNat v)]:=t2
    rw[qaR]at t2
    show [x.val]=_
    rw[is_one q1 t2];rfl
  have hy:en (ai ys) = .slice (some ⟨H.length+(2*k - 1),0,some 12⟩) k 0:=by
   obtain⟨x,rfl,q1⟩:=qJ u1
   ·cases x with
    |agg cs=>have q1:false=true:=q1;cases q1
    |leaf l=>
    cases l with
    |i _ _=>have q1:false=true:=q1;cases q1
    |b _=>have q1:false=true:=q1;cases q1
    |l _=>have q1:false=true:=q1;cases q1
    |v y=>
    have u2:[Lf.v y]=[Lf.v (.slice (some ⟨gT 0 H.length id (2*k - 1),0,tag 2⟩) k 0)]:=u2
    simp only[qas,Lf.v.injEq,and_true]at u2
    show y=_
    rw[u2]
    unfold gT
    rw[if_neg (qcp _),qds];rfl
  rw[hx,hy]at hc
  have hc:=gw mixed hc
  have hd:((absH ac (toL h')).drop ([]:List HObj).length).map (λ_=>HObj.dead)=List.replicate (2*k) .dead:=by
   rw[qaU,qaG,List.map_const',hlen]
  rw[hd]at hc
  exact hc
 ·cases a2
theorem ff11:FF 1 1 4 4:=⟨λL=>by kernel_rfl,λL=>by kernel_rfl,λL=>by kernel_rfl,λL=>by kernel_rfl,λL=>by kernel_rfl,λL=>by kernel_rfl,λL=>by kernel_rfl,λL=>by kernel_rfl,λL=>by kernel_rfl,λL=>by kernel_rfl,λL=>by kernel_rfl,λL=>by kernel_rfl,λL=>by kernel_rfl,λH=>by kernel_rfl⟩
theorem un11:UnF 1 1 4:=gM (by kernel_rfl)
theorem ff12:FF 1 2 8 9:=⟨λL=>by kernel_rfl,λL=>by kernel_rfl,λL=>by kernel_rfl,λL=>by kernel_rfl,λL=>by kernel_rfl,λL=>by kernel_rfl,λL=>by kernel_rfl,λL=>by kernel_rfl,λL=>by kernel_rfl,λL=>by kernel_rfl,λL=>by kernel_rfl,λL=>by kernel_rfl,λL=>by kernel_rfl,λH=>by kernel_rfl⟩
theorem un12:UnF 1 2 9:=gM (by kernel_rfl)
theorem ff13:FF 1 3 12 14:=⟨λL=>by kernel_rfl,λL=>by kernel_rfl,λL=>by kernel_rfl,λL=>by kernel_rfl,λL=>by kernel_rfl,λL=>by kernel_rfl,λL=>by kernel_rfl,λL=>by kernel_rfl,λL=>by kernel_rfl,λL=>by kernel_rfl,λL=>by kernel_rfl,λL=>by kernel_rfl,λL=>by kernel_rfl,λH=>by kernel_rfl⟩
theorem un13:UnF 1 3 14:=gM (by kernel_rfl)
theorem ff14:FF 1 4 16 19:=⟨λL=>by kernel_rfl,λL=>by kernel_rfl,λL=>by kernel_rfl,λL=>by kernel_rfl,λL=>by kernel_rfl,λL=>by kernel_rfl,λL=>by kernel_rfl,λL=>by kernel_rfl,λL=>by kernel_rfl,λL=>by kernel_rfl,λL=>by kernel_rfl,λL=>by kernel_rfl,λL=>by kernel_rfl,λH=>by kernel_rfl⟩
theorem un14:UnF 1 4 19:=gM (by kernel_rfl)
theorem ff21:FF 2 1 8 9:=⟨λL=>by kernel_rfl,λL=>by kernel_rfl,λL=>by kernel_rfl,λL=>by kernel_rfl,λL=>by kernel_rfl,λL=>by kernel_rfl,λL=>by kernel_rfl,λL=>by kernel_rfl,λL=>by kernel_rfl,λL=>by kernel_rfl,λL=>by kernel_rfl,λL=>by kernel_rfl,λL=>by kernel_rfl,λH=>by kernel_rfl⟩
theorem un21:UnF 2 1 9:=gM (by kernel_rfl)
theorem ff22:FF 2 2 16 20:=⟨λL=>by kernel_rfl,λL=>by kernel_rfl,λL=>by kernel_rfl,λL=>by kernel_rfl,λL=>by kernel_rfl,λL=>by kernel_rfl,λL=>by kernel_rfl,λL=>by kernel_rfl,λL=>by kernel_rfl,λL=>by kernel_rfl,λL=>by kernel_rfl,λL=>by kernel_rfl,λL=>by kernel_rfl,λH=>by kernel_rfl⟩
theorem un22:UnF 2 2 20:=gM (by kernel_rfl)
theorem ff23:FF 2 3 24 31:=⟨λL=>by kernel_rfl,λL=>by kernel_rfl,λL=>by kernel_rfl,λL=>by kernel_rfl,λL=>by kernel_rfl,λL=>by kernel_rfl,λL=>by kernel_rfl,λL=>by kernel_rfl,λL=>by kernel_rfl,λL=>by kernel_rfl,λL=>by kernel_rfl,λL=>by kernel_rfl,λL=>by kernel_rfl,λH=>by kernel_rfl⟩
theorem un23:UnF 2 3 31:=gM (by kernel_rfl)
theorem ff24:FF 2 4 32 42:=⟨λL=>by kernel_rfl,λL=>by kernel_rfl,λL=>by kernel_rfl,λL=>by kernel_rfl,λL=>by kernel_rfl,λL=>by kernel_rfl,λL=>by kernel_rfl,λL=>by kernel_rfl,λL=>by kernel_rfl,λL=>by kernel_rfl,λL=>by kernel_rfl,λL=>by kernel_rfl,λL=>by kernel_rfl,λH=>by kernel_rfl⟩
theorem un24:UnF 2 4 42:=gM (by kernel_rfl)
theorem ff31:FF 3 1 12 14:=⟨λL=>by kernel_rfl,λL=>by kernel_rfl,λL=>by kernel_rfl,λL=>by kernel_rfl,λL=>by kernel_rfl,λL=>by kernel_rfl,λL=>by kernel_rfl,λL=>by kernel_rfl,λL=>by kernel_rfl,λL=>by kernel_rfl,λL=>by kernel_rfl,λL=>by kernel_rfl,λL=>by kernel_rfl,λH=>by kernel_rfl⟩
theorem un31:UnF 3 1 14:=gM (by kernel_rfl)
theorem ff32:FF 3 2 24 31:=⟨λL=>by kernel_rfl,λL=>by kernel_rfl,λL=>by kernel_rfl,λL=>by kernel_rfl,λL=>by kernel_rfl,λL=>by kernel_rfl,λL=>by kernel_rfl,λL=>by kernel_rfl,λL=>by kernel_rfl,λL=>by kernel_rfl,λL=>by kernel_rfl,λL=>by kernel_rfl,λL=>by kernel_rfl,λH=>by kernel_rfl⟩
theorem un32:UnF 3 2 31:=gM (by kernel_rfl)
theorem ff33:FF 3 3 36 48:=⟨λL=>by kernel_rfl,λL=>by kernel_rfl,λL=>by kernel_rfl,λL=>by kernel_rfl,λL=>by kernel_rfl,λL=>by kernel_rfl,λL=>by kernel_rfl,λL=>by kernel_rfl,λL=>by kernel_rfl,λL=>by kernel_rfl,λL=>by kernel_rfl,λL=>by kernel_rfl,λL=>by kernel_rfl,λH=>by kernel_rfl⟩
theorem un33:UnF 3 3 48:=gM (by kernel_rfl)
theorem ff34:FF 3 4 48 65:=⟨λL=>by kernel_rfl,λL=>by kernel_rfl,λL=>by kernel_rfl,λL=>by kernel_rfl,λL=>by kernel_rfl,λL=>by kernel_rfl,λL=>by kernel_rfl,λL=>by kernel_rfl,λL=>by kernel_rfl,λL=>by kernel_rfl,λL=>by kernel_rfl,λL=>by kernel_rfl,λL=>by kernel_rfl,λH=>by kernel_rfl⟩
theorem un34:UnF 3 4 65:=gM (by kernel_rfl)
theorem ff41:FF 4 1 16 19:=⟨λL=>by kernel_rfl,λL=>by kernel_rfl,λL=>by kernel_rfl,λL=>by kernel_rfl,λL=>by kernel_rfl,λL=>by kernel_rfl,λL=>by kernel_rfl,λL=>by kernel_rfl,λL=>by kernel_rfl,λL=>by kernel_rfl,λL=>by kernel_rfl,λL=>by kernel_rfl,λL=>by kernel_rfl,λH=>by kernel_rfl⟩
theorem un41:UnF 4 1 19:=gM (by kernel_rfl)
theorem ff42:FF 4 2 32 42:=⟨λL=>by kernel_rfl,λL=>by kernel_rfl,λL=>by kernel_rfl,λL=>by kernel_rfl,λL=>by kernel_rfl,λL=>by kernel_rfl,λL=>by kernel_rfl,λL=>by kernel_rfl,λL=>by kernel_rfl,λL=>by kernel_rfl,λL=>by kernel_rfl,λL=>by kernel_rfl,λL=>by kernel_rfl,λH=>by kernel_rfl⟩
theorem un42:UnF 4 2 42:=gM (by kernel_rfl)
theorem ff43:FF 4 3 48 65:=⟨λL=>by kernel_rfl,λL=>by kernel_rfl,λL=>by kernel_rfl,λL=>by kernel_rfl,λL=>by kernel_rfl,λL=>by kernel_rfl,λL=>by kernel_rfl,λL=>by kernel_rfl,λL=>by kernel_rfl,λL=>by kernel_rfl,λL=>by kernel_rfl,λL=>by kernel_rfl,λL=>by kernel_rfl,λH=>by kernel_rfl⟩
theorem un43:UnF 4 3 65:=gM (by kernel_rfl)
theorem ff44:FF 4 4 64 88:=⟨λL=>by kernel_rfl,λL=>by kernel_rfl,λL=>by kernel_rfl,λL=>by kernel_rfl,λL=>by kernel_rfl,λL=>by kernel_rfl,λL=>by kernel_rfl,λL=>by kernel_rfl,λL=>by kernel_rfl,λL=>by kernel_rfl,λL=>by kernel_rfl,λL=>by kernel_rfl,λL=>by kernel_rfl,λH=>by kernel_rfl⟩
theorem un44:UnF 4 4 88:=gM (by kernel_rfl)
theorem ff_ok{w v n m:Nat}(h1:1<=w)(h2:w<=4)(h3:1<=v)(h4:v<=4)(hn:n=4*w*v)(hm:m=6*w*v - w - v):FF w v n m/\UnF w v m:=by
 subst hn hm
 obtain rfl|rfl|rfl|rfl:w=1∨w=2∨w=3∨w=4:=by omega
 ·obtain rfl|rfl|rfl|rfl:v=1∨v=2∨v=3∨v=4:=by omega
  ·exact⟨ff11,un11⟩
  ·exact⟨ff12,un12⟩
  ·exact⟨ff13,un13⟩
  ·exact⟨ff14,un14⟩
 ·obtain rfl|rfl|rfl|rfl:v=1∨v=2∨v=3∨v=4:=by omega
  ·exact⟨ff21,un21⟩
  ·exact⟨ff22,un22⟩
  ·exact⟨ff23,un23⟩
  ·exact⟨ff24,un24⟩
 ·obtain rfl|rfl|rfl|rfl:v=1∨v=2∨v=3∨v=4:=by omega
  ·exact⟨ff31,un31⟩
  ·exact⟨ff32,un32⟩
  ·exact⟨ff33,un33⟩
  ·exact⟨ff34,un34⟩
 ·obtain rfl|rfl|rfl|rfl:v=1∨v=2∨v=3∨v=4:=by omega
  ·exact⟨ff41,un41⟩
  ·exact⟨ff42,un42⟩
  ·exact⟨ff43,un43⟩
  ·exact⟨ff44,un44⟩
theorem flat_cl{w v n m:Nat}(hF:FF w v n m)(hU:UnF w v m)(H:List HObj):aW cc ab 10 [.i (.ofNat w),.i (.ofNat v)] H [.v (s1F H.length n),.v (s2F H.length m)] (H++b1F n :: b2F m :: List.replicate (2*m) .dead):=by
 refine⟨_,[.agg [.i .i64 (.ofNat w),.i .i64 (.ofNat v)]],[.leaf (.v (s1F H.length n)),.leaf (.v (s2F H.length m))],rfl,⟨rfl,rfl,λx hx l hl=>?_⟩,⟨rfl,rfl,λx hx l hl=>?_⟩,flat_call hF hU H⟩
 ·simp only[qaj,qaL,or_false]at hx
  subst hx
  simp only[S0.cells,qaj,qaL,or_false]at hl
  rcases hl with rfl|rfl<;>trivial
 ·simp only[qaj,qaL,or_false]at hx
  rcases hx with rfl|rfl<;>(simp only[S0.cells,qaj,qaL,or_false]at hl;subst hl;rfl)
end Go.Am

/-
 THE REFERENCE'S CELLS AND NEIGHBOURS;flat sheets;copies of lists.
-/
set_option maxRecDepth 100000
set_option maxHeartbeats 8000000
namespace Go.Am
open Sx Go.Proofs
def lJ(w v:Nat):List Cl:=(List.range (4*w*v)).map (clN w)
def qx(w v:Nat):Bool:=match runF 60 (.f 29) [.i (.ofNat w),.i (.ofNat v)] .empty (λrs h=>match rs with
   | .v x :: r=>ans (eqLs r []&&isSl h x 3 (lJ w v).length ((lJ w v).flatMap gJ))
   |_=>none)with
 |some []=>true
 |_=>false
def tabRn(w v:Nat):Bool:=(aB w v).all λu=>match nbr w v u.1 u.2 with
 |some n=>tO 34 [.i (.ofNat w),.i (.ofNat v),.i (.ofNat u.1),.i (.ofNat u.2)] [.i (.ofNat n)]
 |none=>false
def tab78(w v:Nat):Bool:=qx w v&&(tabRn w v&&Nat.beq (aB w v).length (6*w*v - w - v))
theorem all78:∀w v:Nat,1<=w->w<=4->1<=v->v<=4->tab78 w v=true:=by
 have key:((List.range 4).all λw=>(List.range 4).all λv=>tab78 (w+1) (v+1))=true:=by kernel_rfl
 intro w v h1 h2 h3 h4
 have h5:=qab.1 key (w - 1) (qal.2 (by omega))
 have h6:=qab.1 h5 (v - 1) (qal.2 (by omega))
 rw[show w - 1+1=w by omega,show v - 1+1=v by omega]at h6
 exact h6
def Sh4(w v:Nat):Prop:=1<=w/\w<=4/\1<=v/\v<=4
theorem Sh4.sh{w v:Nat}(h:Sh4 w v):Sh w v:=⟨h.1,by have:=h.2.1;omega,h.2.2.1,by have:=h.2.2.2;omega⟩
theorem Sh4.N{w v:Nat}(h:Sh4 w v):4<=4*w*v/\4*w*v<=64:=by
 obtain⟨h1,h2,h3,h4⟩:=h
 have a1:4*w*v<=4*w*4:=Nat.mul_le_mul_left _ h4
 have a2:4*w*1<=4*w*v:=Nat.mul_le_mul_left _ h3
 omega
section
variable {w v:Nat}
theorem lB(h:Sh4 w v):qx w v=true/\tabRn w v=true/\(aB w v).length=6*w*v - w - v:=by
 have:=all78 w v h.1 h.2.1 h.2.2.1 h.2.2.2
 unfold tab78 at this
 simp only[qaa]at this
 exact⟨this.1,this.2.1,qac this.2.2⟩
theorem tP{c e:Nat}(h:(c,e)∈aB w v):c<4*w*v/\e<3/\∃n,nbr w v c e=some n/\c<n:=by
 unfold aB at h
 obtain⟨c',hc,h2⟩:=qbX.1 h
 obtain⟨e',he,h3⟩:=qa6.1 h2
 split at h3
 ·rename_i n hn
  split at h3
  ·rename_i hlt
   simp only[qau,qcs]at h3
   obtain⟨rfl,rfl⟩:=h3
   exact⟨qal.1 hc,qal.1 he,n,hn,hlt⟩
  ·cases h3
 ·cases h3
theorem cells_c(hs:Sh4 w v)(h:HL):∃s G,aW cc ab 29 [.i (.ofNat w),.i (.ofNat v)] (absH ac h) [.v s] (absH ac (h++G))/\LsH (h++G) s 3 gJ (lJ w v):=by
 have ht:=(lB hs).1
 unfold qx at ht
 split at ht
 ·rename_i e
  obtain⟨s,G,c1,c2⟩:=made (g:=29) (rest:=[]) rfl (by kernel_rfl) rfl rfl e h
  exact⟨s,G,c1,λu _=>lT u,c2⟩
 ·cases ht
theorem rnb_c(hs:Sh4 w v){c e n:Nat}(hu:(c,e)∈aB w v)(hn:nbr w v c e=some n):Cc 34 [.i (.ofNat w),.i (.ofNat v),.i (.ofNat c),.i (.ofNat e)] [.i (.ofNat n)]:=by
 have:=qab.1 (lB hs).2.1 (c,e) hu
 simp only[hn]at this
 exact jX this rfl (by kernel_rfl) rfl
theorem vB{j:Nat}(h:j<4*w*v):(lJ w v)[j]? = some (clN w j):=by
 unfold lJ
 rw[qaw,qbP h];rfl
theorem nC:(lJ w v).length=4*w*v:=by simp[lJ]
theorem clN_rng(hs:Sh4 w v){j:Nat}(h:j<4*w*v):-100<=(clN w j).1/\(clN w j).1<=100/\-100<=(clN w j).2.1/\(clN w j).2.1<=100/\(clN w j).2.2<4:=by
 have hN:=hs.N
 have d1:j / 4%w<=j / 4:=qdv _ _
 have d2:j / 4 / w<=j / 4:=qc0 _ _
 refine⟨?_,?_,?_,?_,qb5 _ (by omega)⟩
 ·exact qdr (show(-100:Int)<=0 by decide) (qa0 _)
 ·exact qdp.2 (show j / 4%w<=100 by omega)
 ·exact qdr (show(-100:Int)<=0 by decide) (qa0 _)
 ·exact qdp.2 (show j / 4 / w<=100 by omega)
theorem zMv_eq(n:Nat):zMv n=(List.replicate n idM).flatMap encM:=by
 induction n with
 |zero=>rfl
 |succ n ih=>rw[qbO,qby,←ih];rfl
theorem zKd_eq(n:Nat):zKd n=(List.replicate n (0:Int)).flatMap enc8:=by
 induction n with
 |zero=>rfl
 |succ n ih=>rw[qbO,qby,←ih];rfl
theorem flat_c(hs:Sh4 w v)(h:HL):∃x k G,aW cc ab 10 [.i (.ofNat w),.i (.ofNat v)] (absH ac h) [.v x,.v k] (absH ac (h++G))/\LsH (h++G) x 3 encM (List.replicate (4*w*v) idM)/\LsH (h++G) k 1 enc8 (List.replicate (aB w v).length 0):=by
 obtain⟨hF,hU⟩:=ff_ok hs.1 hs.2.1 hs.2.2.1 hs.2.2.2 rfl rfl
 have hc:=flat_cl hF hU (absH ac h)
 rw[←(lB hs).2.2]at hc
 generalize (aB w v).length=m at hc ⊢
 rw[cp]at hc
 refine⟨s1F h.length (4*w*v),s2F h.length m,(b1F (4*w*v) :: b2F m :: List.replicate (2*m) .dead).map .o,?_,?_,?_⟩
 ·rw[tU,absH_o];exact hc
 ·refine gh dj (id:=h.length) ?_ (by simp)
  rw[qak (qaA _),qbp,←zMv_eq];rfl
 ·refine gh kW (id:=h.length+1) ?_ (by simp)
  rw[qak (by omega),show h.length+1 - h.length=1 by omega,←zKd_eq];rfl
theorem r_apE{α:Type}{e kb:Nat}{enc:α->List Value}{h:HL}{x:Value}{new:List α}{m:Nat}{K:List Value->HL->Prop}(hg:h[m]? = some (.o (.cells [] e true)))(hx:LsH h x e enc new)(hn:0<new.length)(hb:new.length*kb<=140737488355328)(hb':new.length<=140737488355328)
  (hk:K [.slice (some ⟨h.length,0,tag e⟩) new.length 0] (h++[.o (.cells (new.flatMap enc) e true)])) :
  P1.heap (.ap cc e kb (.slice (some ⟨m,0,tag e⟩) 0 1) x) h (@hid _ ⟨K⟩):=by
 have hsz:cj (0+new.length) kb=true:=by
  rw[qax]
  unfold cj
  rw[qbU hb',qbU hb];rfl
 have hcut:cut ([]:List Value) 0 (0*e)=some []:=Sx.cut_all (by simp)
 have hrun:apG cc e kb (.slice (some ⟨m,0,tag e⟩) 0 1) x (getH ac h) h.length=some ([.push (.cells ([]++new.flatMap enc) e true)],[.slice (some ⟨h.length,0,tag e⟩) (0+new.length) 0]):=by
  unfold apG
  rw[sj hx.2]
  simp only[ne_eq,not_true_eq_false,if_false]
  rw[bW hg]
  simp only[ne_eq,not_true_eq_false,if_false]
  rw[hcut]
  simp only
  rw[if_neg (by omega),if_pos hsz]
 refine dl (show(Hp.ap cc e kb (.slice (some ⟨m,0,tag e⟩) 0 1) x).run _ _=_ from hrun) ?_
 rw[qax]
 exact hk
end
end Go.Am

/-
 FOLDS: what a fold keeps;crimpref10.Fold told.
-/
set_option maxRecDepth 100000
set_option maxHeartbeats 16000000
namespace Go.Am
open Sx Go.Proofs
def fdM(l:Ln)(s:Int)(g:Mv)(c:Cl):Mv:=if (if dw l (bf g c)then(1:Int)else 0)=s then bp g (ofM l)else g
def fdL(w:Nat)(l:Ln)(s:Int)(A:List Mv):List Mv:=(List.range A.length).map λc=>fdM l s (A.getD c idM) (clN w c)
theorem hJ{w:Nat}{l:Ln}{s:Int}{A:List Mv}{c:Nat}{g:Mv}(h:A[c]? = some g):(fdL w l s A)[c]? = some (fdM l s g (clN w c)):=by
 unfold fdL
 rw[qaw,qbP (bJ h)]
 simp[List.getD,h]
theorem fdL_len{w:Nat}{l:Ln}{s:Int}{A:List Mv}:(fdL w l s A).length=A.length:=by simp[fdL]
theorem fdM_ok{l:Ln}{s:Int}{g:Mv}{c:Cl}{k:Int}(hg:okM k g)(hc:-8<=l.2/\l.2<=8)(hk:0<=k):okM (k+16) (fdM l s g c):=by
 unfold fdM
 by_cases c1:(if dw l (bf g c)then(1:Int)else 0)=s
 ·rw[if_pos c1]
  have:=eH hg (rO (n:=8) hc)
  exact bz this (by omega)
 ·rw[if_neg c1]
  exact bz hg (show k<=k+16 by omega)
structure FInv(w v:Nat)(k:Int)(A:List Mv)(ks:List Int):Prop where
 la:A.length=4*w*v
 lk:ks.length=(aB w v).length
 ok:∀m∈A,okM k m
 kn:∀z∈ks,0<=z/\z<=2
 un:∀(i c e n:Nat) (kk:Int) (g g':Mv),(aB w v)[i]? = some (c,e)->nbr w v c e=some n->ks[i]? = some kk->A[c]? = some g->A[n]? = some g'->g'=if kk=0 then g else bp (ofM (lnC3 (clN w c) e)) g
def KR(kk kk':Int)(g g':Mv):Prop:=(kk≠0->kk'=kk)/\(kk=0->g=g'->kk'=0)/\(kk=0->g≠g'->kk'=1∨kk'=2)
theorem FInv.fold{w v:Nat}(hs:Sh4 w v){k:Int}(hk:0<=k){A:List Mv}{ks ks':List Int}(hI:FInv w v k A ks){l:Ln}{s:Int}(hl:1<=l.1/\l.1<=4)(hc:-8<=l.2/\l.2<=8)(hlen:ks'.length=ks.length)
  (hks:∀(i c e n:Nat) (kk:Int) (g g':Mv),(aB w v)[i]? = some (c,e)->nbr w v c e=some n->ks[i]? = some kk->(fdL w l s A)[c]? = some g->(fdL w l s A)[n]? = some g'->∃kk',ks'[i]? = some kk'/\KR kk kk' g g') :
  FInv w v (k+16) (fdL w l s A) ks':=by
 have getA:∀c,c<4*w*v->∃g,A[c]? = some g:=λc hc=>bI (by rw[hI.la];exact hc)
 refine⟨by rw[fdL_len];exact hI.la,by rw[hlen];exact hI.lk,λm hm=>?_,λz hz=>?_,λi c e n kk' g1 g1' hu hn hkk hg1 hg1'=>?_⟩
 ·unfold fdL at hm
  obtain⟨c,hc',rfl⟩:=qaI.1 hm
  have hc':=qal.1 hc'
  obtain⟨g,hg⟩:=getA c (by rw[←hI.la];exact hc')
  refine fdM_ok (hI.ok _ ?_) hc hk
  rw[show A.getD c idM=g by simp[List.getD,hg]]
  exact qag hg
 ·obtain⟨i,hi⟩:=qbk hz
  have hil:=bJ hi
  obtain⟨kk,hkk⟩:=bI (l:=ks) (i:=i) (by omega)
  obtain⟨⟨c,e⟩,hu⟩:=bI (l:=aB w v) (i:=i) (by rw[←hI.lk];omega)
  obtain⟨hcN,he,n,hn,_⟩:=tP (qag hu)
  obtain⟨hnN,_⟩:=pW hs.sh hcN he hn
  obtain⟨g,hg⟩:=getA c hcN
  obtain⟨g',hg'⟩:=getA n hnN
  obtain⟨z',hz',r1,r2,r3⟩:=hks i c e n kk _ _ hu hn hkk (hJ hg) (hJ hg')
  rw[hi]at hz'
  obtain rfl:=qan hz'
  have:=hI.kn kk (qag hkk)
  by_cases h0:kk=0
  ·by_cases h1:fdM l s g (clN w c)=fdM l s g' (clN w n)
   ·have:=r2 h0 h1;omega
   ·have:=r3 h0 h1;omega
  ·have:=r1 h0;omega
 ·have hil:=bJ hkk
  obtain⟨kk,hkk0⟩:=bI (l:=ks) (i:=i) (by omega)
  obtain⟨hcN,he,n',hn',_⟩:=tP (qag hu)
  obtain⟨hnN,_,_,hcl,_⟩:=pW hs.sh hcN he hn
  obtain⟨g,hg⟩:=getA c hcN
  obtain⟨g',hg'⟩:=getA n hnN
  have hgok:=hI.ok g (qag hg)
  have hun:=hI.un i c e n kk g g' hu hn hkk0 hg hg'
  obtain⟨z',hz',r1,r2,r3⟩:=hks i c e n kk _ _ hu hn hkk0 (hJ hg) (hJ hg')
  rw[hkk]at hz'
  obtain rfl:=qan hz'
  rw[hJ hg]at hg1
  rw[hJ hg']at hg1'
  have hg1:=qan hg1
  have hg1':=qan hg1'
  rw[←hg1,←hg1']
  have hq:(clN w c).2.2<4:=(clN_rng hs hcN).2.2.2.2
  rw[hcl]at r2 r3 ⊢
  by_cases h0:kk=0
  ·rw[if_pos h0]at hun
   subst hun
   by_cases h1:fdM l s g' (clN w c)=fdM l s g' (nbC (clN w c) e)
   ·rw[if_pos (r2 h0 h1)]
    exact h1.symm
   ·have h3:kk'≠0:=by have:=r3 h0 h1;omega
    rw[if_neg h3]
    have hsd:dw l (bf g' (clN w c))≠dw l (bf g' (nbC (clN w c) e)):=by
     intro h4
     apply h1
     unfold fdM
     rw[h4]
    have hp:=part_fold hgok.1 hl hq he hsd
    have hid:bp (ofM (lnC3 (clN w c) e)) (bp (ofM (lnC3 (clN w c) e)) g')=g':=by
     rw[←ew (mE _) (mE _) hgok.1,rP,ut hgok.1]
    unfold fdM at h1 ⊢
    by_cases c1:(if dw l (bf g' (clN w c))then(1:Int)else 0)=s
    ·by_cases c2:(if dw l (bf g' (nbC (clN w c) e))then(1:Int)else 0)=s
     ·rw[if_pos c1,if_pos c2]at h1
      exact absurd rfl h1
     ·rw[if_pos c1,if_neg c2,hp];exact hid.symm
    ·by_cases c2:(if dw l (bf g' (nbC (clN w c) e))then(1:Int)else 0)=s
     ·rw[if_neg c1,if_pos c2];exact hp
     ·rw[if_neg c1,if_neg c2]at h1
      exact absurd rfl h1
  ·rw[if_neg h0]at hun
   rw[r1 h0,if_neg h0]
   subst hun
   unfold fdM
   rw[sY hgok.1 hq he]
   by_cases c1:(if dw l (bf g (clN w c))then(1:Int)else 0)=s
   ·rw[if_pos c1,if_pos c1,ew (mE _) hgok.1 (mE _)]
   ·rw[if_neg c1,if_neg c1]
theorem p_eql_d{a b:Int}{K:Bool->Prop}(h1:a=b->K true)(h2:a≠b->K false):P1.cmp .eql a b (@hid _ ⟨K⟩):=by
 by_cases h:a=b
 ·rw[p_eql_t h];exact h1 h
 ·rw[p_eql_f h];exact h2 h
theorem p_gtr_d{a b:Int}{K:Bool->Prop}(h1:K true)(h2:K false):P1.cmp .gtr a b (@hid _ ⟨K⟩):=by
 rcases Int.lt_or_le b a with h|h
 ·rw[p_gtr_t h];exact h1
 ·rw[p_gtr_f h];exact h2
theorem uN{b:List Lf->HL->Prop}{m:(List Lf->HL->Prop)->Prop}(P:List Lf->HL->Prop)(h1:∀l h,P l h->b l h)(h2:∀j:List Lf->HL->Prop,(∀l h,P l h->j l h)->m j):P1.join (@hid _ ⟨b⟩) (@hid _ ⟨m⟩):=h2 _ h1
def KP(w v:Nat)(A':List Mv)(ks:List Int)(j:Nat)(ks':List Int):Prop:=ks'.length=ks.length/\(∀i:Nat,j<=i->ks'[i]? = ks[i]?)/\∀(i c e n:Nat) (kk:Int) (g g':Mv),i<j->(aB w v)[i]? = some (c,e)->nbr w v c e=some n->ks[i]? = some kk->A'[c]? = some g->A'[n]? = some g'->∃kk',ks'[i]? = some kk'/\KR kk kk' g g'
theorem KP.step{w v:Nat}{A':List Mv}{ks ks':List Int}{j:Nat}(h:KP w v A' ks j ks'){c e n:Nat}{kk kk':Int}{g g':Mv}(hu:(aB w v)[j]? = some (c,e))(hn:nbr w v c e=some n)(hk:ks[j]? = some kk)(hg:A'[c]? = some g)(hg':A'[n]? = some g')(hr:KR kk kk' g g'):KP w v A' ks (j+1) (ks'.set j kk'):=by
 obtain⟨h1,h2,h3⟩:=h
 refine⟨by rw[qcn];exact h1,λi hi=>?_,λi c1 e1 n1 kk1 g1 g1' hi hu1 hn1 hk1 hg1 hg1'=>?_⟩
 ·rw[qaC (by omega)]
  exact h2 i (by omega)
 ·by_cases hij:i=j
  ·subst hij
   rw[hu]at hu1
   cases hu1
   rw[hn]at hn1
   cases hn1
   rw[hk]at hk1
   cases hk1
   rw[hg]at hg1
   cases hg1
   rw[hg']at hg1'
   cases hg1'
   exact⟨kk',by rw[qaW (by rw[h1];exact bJ hk)],hr⟩
  ·obtain⟨z,z1,z2⟩:=h3 i c1 e1 n1 kk1 g1 g1' (by omega) hu1 hn1 hk1 hg1 hg1'
   exact⟨z,by rw[qaC (qck hij)];exact z1,z2⟩
theorem KP.same{w v:Nat}{A':List Mv}{ks ks':List Int}{j:Nat}(h:KP w v A' ks j ks'){c e n:Nat}{kk:Int}{g g':Mv}(hu:(aB w v)[j]? = some (c,e))(hn:nbr w v c e=some n)(hk:ks[j]? = some kk)(hg:A'[c]? = some g)(hg':A'[n]? = some g')(hr:KR kk kk g g'):KP w v A' ks (j+1) ks':=by
 have:=h.step hu hn hk hg hg' hr
 rwa [ep (by rw[h.2.1 j (qaA _)];exact hk)]at this
theorem fold_c{w v:Nat}(hs:Sh4 w v){H:HL}{x y:Value}{A:List Mv}{ks:List Int}{k:Int}(hk:0<=k/\k<=700)(hA:LsH H x 3 encM A)(hK:LsH H y 1 enc8 ks)(hI:FInv w v k A ks){l:Ln}(hl:1<=l.1/\l.1<=4)(hc:-8<=l.2/\l.2<=8)(s o:Int) :
  ∃x' y' h' ks',aW cc ab 11 [.i (.ofNat w),.i (.ofNat v),.v x,.v y,.i (.ofNat l.1),.i l.2,.i s,.i o] (absH ac H) [.v x',.v y'] (absH ac h')/\Pre H h'/\LsH h' x' 3 encM (fdL w l s A)/\LsH h' y' 1 enc8 ks'/\FInv w v (k+16) (fdL w l s A) ks':=by
 have hN:=hs.N
 have hfl:(fdL w l s A).length=A.length:=fdL_len
 have hla:=hI.la
 obtain⟨sc,G1,cc1,hC⟩:=cells_c hs H
 obtain⟨su,G2,cu1,hU⟩:=units_c hs.sh.1 hs.sh.2.1 hs.sh.2.2.1 hs.sh.2.2.2 (H++G1)
 have hul:=(ip (ji w v hs.sh.1 hs.sh.2.1 hs.sh.2.2.1 hs.sh.2.2.2)).2.2.2.2
 have hul0:0<(aB w v).length:=by
  obtain⟨h1,h2,h3,h4⟩:=hs
  rw[(lB ⟨h1,h2,h3,h4⟩).2.2]
  obtain rfl|rfl|rfl|rfl:w=1∨w=2∨w=3∨w=4:=by omega
  all_goals omega
 have hkl:=hI.lk
 obtain⟨rs,h',hcall,x',y',ks',rfl,hpre,p1,p2,p3⟩:=x11 (ls:=[.i (.ofNat w),.i (.ofNat v),.v x,.v y,.i (.ofNat l.1),.i l.2,.i s,.i o]) (K:=λrs h'=>∃x' y' ks',rs=[.v x',.v y']/\Pre H h'/\LsH h' x' 3 encM (fdL w l s A)/\LsH h' y' 1 enc8 ks'/\FInv w v (k+16) (fdL w l s A) ks') (H:=H) (glsI (glsI (glsV hA.good (glsV hK.good (glsI (glsI (glsI (glsI gls0)))))))) (by
  unfold f11;simp only[qxh]
  simp(disch:=omega)only[↓qXX]
  refine bZ cc1 ?_
  simp(disch:=omega)only[↓qXX]
  refine bZ cu1 ?_
  simp(disch:=omega)only[↓qXX]
  have prm:Pre H (H++G1++G2):=by rw[qaB];exact⟨_,rfl⟩
  have hC:=hC.pre (h':=H++G1++G2) ⟨_,rfl⟩
  have hA:=hA.pre prm
  have hK:=hK.pre prm
  generalize H++G1++G2=Hm at *
  refine r_apE (e:=3) (kb:=24) ch (hA.pre ⟨_,rfl⟩) (by omega) (by omega) (by omega) ?_
  simp(disch:=omega)only[↓qXX]
  refine cg (by simp[bc,noLoc,aZ,bw,bh,aQ,aD,tag]) ?_
  simp(disch:=omega)only[↓qXX]
  have i1:(Hm++[HO.o (.cells [] 3 true)]).length=Hm.length+1:=by simp
  rw[i1]
  have j1:(Hm++[HO.o (.cells [] 3 true)]++[HO.o (.cells (A.flatMap encM) 3 true)])[Hm.length+1]? = some (.o (.cells (A.flatMap encM) 3 true)):=by rw[←i1];exact ch
  have j2:Pre Hm (Hm++[HO.o (.cells [] 3 true)]++[HO.o (.cells (A.flatMap encM) 3 true)]):=by rw[qaB];exact⟨_,rfl⟩
  generalize Hm++[HO.o (.cells [] 3 true)]++[HO.o (.cells (A.flatMap encM) 3 true)]=h1 at *
  clear i1 cc1 cu1
  refine de (σ:=HL) (4*w*v) (λj _=>[.i (Int.ofNat j)]) (λ_ s=>s) (λj h=>Pre Hm h/\h[Hm.length+1]? = some (.o (.cells (((fdL w l s A).take j++A.drop j).flatMap encM) 3 true))) (j0:=0) (s0:=h1) rfl rfl (qbB _) ⟨j2,by simpa using j1⟩ ?_
  clear j1 j2
  rintro j h hj ⟨j2,j1⟩ self hself
  simp(disch:=omega)only[↓qXX]
  refine eC (hC.pre j2) ?_
  by_cases hlt:j<4*w*v
  ·rw[cS (by rw[nC];exact hlt)]
   simp(disch:=omega)only[↓qXX]
   obtain⟨g,hg⟩:=bI (l:=A) (i:=j) (by omega)
   have hgo:=hI.ok g (qag hg)
   refine dg (hA.pre j2) rfl hg ?_
   unfold encM
   simp(disch:=omega)only[↓qXX]
   refine dg (hC.pre j2) rfl (vB hlt) ?_
   unfold gJ
   simp(disch:=omega)only[↓qXX]
   have hcl:=clN_rng hs hlt
   refine ah (rmove_c (m:=g) (c:=clN w j) (bz hgo (by omega)) hcl) ?_
   have hmr:=mo hgo (c:=clN w j) (k:=100) ⟨hcl.1,hcl.2.1,hcl.2.2.1,hcl.2.2.2.1⟩
   simp only[mvl,cll,qao,qam]
   simp(disch:=omega)only[↓qXX]
   refine ah (rside_c (l:=l) (c:=bf g (clN w j)) hl (by omega) ⟨by omega,by omega,by omega,by omega,hmr.2.2.2.2⟩) ?_
   simp(disch:=omega)only[↓qXX]
   have hset:=take_set (hJ (w:=w) (l:=l) (s:=s) hg) hfl
   have hml:=pV (j:=j) hfl (by omega)
   refine p_eql_d (λhe=>?_) (λhe=>?_)
   ·simp(disch:=omega)only[↓qXX]
    refine dg (hA.pre j2) rfl hg ?_
    unfold encM
    simp(disch:=omega)only[↓qXX]
    refine ah (rof_c (l:=l) hl (by omega)) ?_
    simp only[mvl,qao,qam]
    simp(disch:=omega)only[↓qXX]
    refine ah (rthen_c (a:=g) (b:=ofM l) hgo (rO (n:=8) hc) (by omega)) ?_
    simp only[mvl,qao,qam]
    simp(disch:=omega)only[↓qXX]
    refine kD (enc:=encM) (l:=(fdL w l s A).take j++A.drop j) (i:=j) (a:=bp g (ofM l)) dj j1 rfl (by omega) (by omega) rfl ?_
    rw[show bp g (ofM l)=fdM l s g (clN w j)by unfold fdM;rw[if_pos he],hset]
    simp(disch:=omega)only[↓qXX]
    rw[ii (by omega)]
    exact hself _ hlt ⟨fq j2 (by omega),cV (bJ j1)⟩
   ·simp(disch:=omega)only[↓qXX]
    rw[ii (by omega)]
    refine hself _ hlt ⟨j2,?_⟩
    rw[←hset,show fdM l s g (clN w j)=g by unfold fdM;rw[if_neg he],ep (mid_get hg hfl)]
    exact j1
  ·obtain rfl:j=4*w*v:=by omega
   rw[dC (by rw[nC];exact qaA _)]
   simp(disch:=omega)only[↓qXX]
   rw[qaM (by omega),qbr (by omega),qaR]at j1
   clear hself hj hlt
   refine r_apE (e:=1) (kb:=1) ch ((hK.pre j2).pre ⟨_,rfl⟩) (by omega) (by omega) (by omega) ?_
   simp(disch:=omega)only[↓qXX]
   refine cg (by simp[bc,noLoc,aZ,bw,bh,aQ,aD,tag]) ?_
   simp(disch:=omega)only[↓qXX]
   have hidm:Hm.length+1<h.length:=bJ j1
   have i1:(h++[HO.o (.cells [] 1 true)]).length=h.length+1:=by simp
   rw[i1]
   have k1:(h++[HO.o (.cells [] 1 true)]++[HO.o (.cells (ks.flatMap enc8) 1 true)])[h.length+1]? = some (.o (.cells (ks.flatMap enc8) 1 true)):=by rw[←i1];exact ch
   have k2:Pre Hm (h++[HO.o (.cells [] 1 true)]++[HO.o (.cells (ks.flatMap enc8) 1 true)]):=(j2.app _).app _
   have k3:(h++[HO.o (.cells [] 1 true)]++[HO.o (.cells (ks.flatMap enc8) 1 true)])[Hm.length+1]? = some (.o (.cells ((fdL w l s A).flatMap encM) 3 true)):=by
    rw[qaB,qae hidm];exact j1
   generalize h++[HO.o (.cells [] 1 true)]++[HO.o (.cells (ks.flatMap enc8) 1 true)]=h2 at *
   have hik:Hm.length+1≠h.length+1:=by omega
   have hml:Hm.length<=h.length+1:=by omega
   generalize h.length+1=iK at *
   clear j1 j2 i1 hidm
   refine de (σ:=HL) (aB w v).length (λj _=>[.i (Int.ofNat j)]) (λ_ s=>s) (λj h=>Pre Hm h/\h[Hm.length+1]? = some (.o (.cells ((fdL w l s A).flatMap encM) 3 true))/\∃ks',h[iK]? = some (.o (.cells (ks'.flatMap enc8) 1 true))/\KP w v (fdL w l s A) ks j ks') (j0:=0) (s0:=h2) rfl rfl (qbB _) ⟨k2,k3,ks,k1,rfl,λ_ _=>rfl,λi _ _ _ _ _ _ h=>absurd h (qcp _)⟩ ?_
   clear k1 k2 k3
   rintro j h hj ⟨k2,k3,ks',k1,hP⟩ self hself
   have hA':=gh (cx:=0) (n:=A.length) dj k3 (by omega)
   simp(disch:=omega)only[↓qXX]
   refine eC (hU.pre k2) ?_
   by_cases hlt:j<(aB w v).length
   ·rw[cS hlt]
    simp(disch:=omega)only[↓qXX]
    obtain⟨⟨c,e⟩,hu⟩:=bI hlt
    have hum:=qag hu
    obtain⟨hcN,he,n,hn,_⟩:=tP hum
    obtain⟨hnN,_⟩:=pW hs.sh hcN he hn
    obtain⟨kk,hkk⟩:=bI (l:=ks) (i:=j) (by omega)
    obtain⟨gc,hgc0⟩:=bI (l:=A) (i:=c) (by omega)
    obtain⟨g,hg⟩:=bI (l:=fdL w l s A) (i:=c) (by omega)
    obtain⟨g',hg'⟩:=bI (l:=fdL w l s A) (i:=n) (by omega)
    refine nn (o:=0) (k:=1) (cs:=[.int .i64 (.ofNat c)]) (hU.pre k2) rfl hu rfl (by omega) ?_
    simp(disch:=omega)only[↓qXX]
    refine nn (o:=1) (k:=1) (cs:=[.int .u8 (.ofNat e)]) (hU.pre k2) rfl hu rfl (by omega) ?_
    simp(disch:=omega)only[↓qXX]
    rw[p_conv (by show(-9223372036854775808:Int)<=(e:Int);omega) (by show(e:Int)<=9223372036854775807;omega)]
    refine ah (rnb_c hs hum hn) ?_
    simp(disch:=omega)only[↓qXX]
    refine dg (hK.pre k2) rfl hkk ?_
    unfold enc8
    simp(disch:=omega)only[↓qXX]
    by_cases hk0:kk=0
    ·rw[p_neq_f hk0]
     simp(disch:=omega)only[↓qXX]
     refine dg hA' rfl hg ?_
     unfold encM
     simp(disch:=omega)only[↓qXX]
     refine dg hA' rfl hg' ?_
     unfold encM
     simp(disch:=omega)only[↓qXX]
     rw[eqsM]
     by_cases hgg:g=g'
     ·rw[decide_eq_true hgg]
      simp(disch:=omega)only[↓qXX]
      rw[ii (by omega)]
      exact hself _ hlt ⟨k2,k3,ks',k1,hP.same hu hn hkk hg hg' ⟨λ_=>rfl,λ_ _=>hk0,λ_ h=>absurd hgg h⟩⟩
     ·rw[decide_eq_false hgg]
      simp(disch:=omega)only[↓qXX]
      refine dg hA' rfl hg ?_
      unfold encM
      simp(disch:=omega)only[↓qXX]
      refine dg (hA.pre k2) rfl hgc0 ?_
      unfold encM
      simp(disch:=omega)only[↓qXX]
      rw[eqsM]
      refine uN (P:=λls h'=>h=h'/\∃q,q<4*w*v/\ls=[.i (Int.ofNat q)]) ?_ ?_
      rotate_left
      ·intro jj hjj
       by_cases hz:g=gc
       ·rw[decide_eq_true hz]
        simp(disch:=omega)only[↓qXX,qbi,if_true]
        exact hjj _ _ ⟨rfl,c,hcN,rfl⟩
       ·rw[decide_eq_false hz]
        simp(disch:=omega)only[↓qXX,qcj,qar,if_false]
        exact hjj _ _ ⟨rfl,n,hnN,rfl⟩
      rintro ls hq0 ⟨rfl,q,hq,rfl⟩
      obtain⟨gq,hgq⟩:=bI (l:=fdL w l s A) (i:=q) (by omega)
      simp(disch:=omega)only[↓qXX]
      refine nn (o:=0) (k:=1) (cs:=[.int .u8 (Int.ofNat gq.1)]) hA' rfl hgq rfl (by omega) ?_
      simp(disch:=omega)only[↓qXX]
      have s1:=hP.step (kk':=1) hu hn hkk hg hg' ⟨λh=>absurd hk0 h,λ_ h=>absurd h hgg,λ_ _=>.inl rfl⟩
      have s2:=hP.step (kk':=2) hu hn hkk hg hg' ⟨λh=>absurd hk0 h,λ_ h=>absurd h hgg,λ_ _=>.inr rfl⟩
      have hjl:j<ks'.length:=by rw[hP.1];omega
      have hkl':ks'.length=ks.length:=hP.1
      refine p_gtr_d ?_ ?_
      all_goals
       refine uN (P:=λls h2=>h=h2/\∃z:Int,ls=[.i z]) ?_ (λjj hjj=>by first|exact hjj _ _ ⟨rfl,_,rfl⟩|(simp(disch:=omega)only[↓qXX];exact hjj _ _ ⟨rfl,_,rfl⟩))
       rintro ls hh ⟨rfl,z,rfl⟩
       simp(disch:=omega)only[↓qXX]
       refine kD (enc:=enc8) (l:=ks') (i:=j) (a:=(1:Int)) kW k1 rfl hjl hkl' rfl ?_
       have q1:(putE h iK 1 enc8 (ks'.set j 1))[iK]? = some (.o (.cells ((ks'.set j 1).flatMap enc8) 1 true)):=cV (bJ k1)
       have q2:Pre Hm (putE h iK 1 enc8 (ks'.set j 1)):=fq k2 hml
       have q3:(putE h iK 1 enc8 (ks'.set j 1))[Hm.length+1]? = some (.o (.cells ((fdL w l s A).flatMap encM) 3 true)):=by rw[cC hik];exact k3
       generalize putE h iK 1 enc8 (ks'.set j 1)=h3 at *
       refine p_eql_d (λhe=>?_) (λhe=>?_)
       ·simp(disch:=omega)only[↓qXX]
        refine kD (enc:=enc8) (l:=ks'.set j 1) (i:=j) (a:=(2:Int)) kW q1 rfl (by rw[qcn];exact hjl) (by rw[qcn];exact hkl') rfl ?_
        rw[List.set_set]
        simp(disch:=omega)only[↓qXX]
        rw[ii (by omega)]
        exact hself _ hlt ⟨fq q2 hml,by rw[cC hik];exact q3,_,cV (bJ q1),s2⟩
       ·simp(disch:=omega)only[↓qXX]
        rw[ii (by omega)]
        exact hself _ hlt ⟨q2,q3,_,q1,s1⟩
    ·rw[p_neq_t hk0]
     simp(disch:=omega)only[↓qXX]
     rw[ii (by omega)]
     exact hself _ hlt ⟨k2,k3,ks',k1,hP.same hu hn hkk hg hg' ⟨λ_=>rfl,λh=>absurd h hk0,λh=>absurd h hk0⟩⟩
   ·obtain rfl:j=(aB w v).length:=by omega
    rw[dC (qaA _)]
    simp(disch:=omega)only[↓qXX]
    refine⟨_,_,ks',rfl,prm.trans k2,hA',gh kW k1 (by rw[hP.1]),hI.fold hs hk.1 hl hc hP.1 λi c e n kk g g' hu hn hkk hg hg'=>hP.2.2 i c e n kk g g' (bJ hu) hu hn hkk hg hg'⟩)
 exact⟨x',y',h',ks',hcall,hpre,p1,p2,p3⟩
end Go.Am

/-
 PATTERNS FROM PLAIN DATA ARE VALID.
-/
set_option maxRecDepth 100000
set_option maxHeartbeats 4000000
namespace Go.Am
open Sx Go.Proofs
theorem ltN_iff{a b:Nat×Nat}:ltN a b=true↔a.1<b.1∨(a.1=b.1/\a.2<b.2):=by
 unfold ltN
 rw[qbb,qaa,qaV,qaV,qdx]
theorem ml{a b c e:Nat}:(c,e)∈aB a b↔c<4*a*b/\e<3/\∃n,nbr a b c e=some n/\c<n:=by
 unfold aB
 simp only[qbX,qal,qa6]
 constructor
 ·rintro⟨c',h1,e',h2,h3⟩
  split at h3
  ·rename_i n hn
   split at h3
   ·rename_i hlt
    cases h3
    exact⟨h1,h2,n,hn,hlt⟩
   ·cases h3
  ·cases h3
 ·rintro⟨h1,h2,n,h3,h4⟩
  refine⟨c,h1,e,h2,?_⟩
  rw[h3]
  simp only[if_pos h4]
theorem unC_of{a b x y:Nat}{k:Int}(hk:(x,y)∈aB a b):unC (.ofNat a) (.ofNat b) (.ofNat x,.ofNat y,k)=true:=by
 obtain⟨q1,q2,n,q3,q4⟩:=ml.1 hk
 unfold unC isUn
 have q3':nbr (Int.ofNat a).toNat (Int.ofNat b).toNat (Int.ofNat x).toNat (Int.ofNat y).toNat=some n:=q3
 simp only[qaa,decide_eq_true_eq]
 refine⟨⟨⟨qa0 x,?_⟩,by show(y:Int)<=2;omega⟩,?_⟩
 ·show(x:Int)<4*(a:Int)*(b:Int)
  have:(4*(a:Int)*(b:Int))=((4*a*b:Nat):Int):=by simp
  rw[this];omega
 ·rw[q3']
  simpa[qaV]using q4
theorem ly{us:List (Nat×Nat)}{ks:List Int}{c:Crs}(h:c∈patL us ks):∃u k,u∈us/\k∈ks/\k≠0/\c=(.ofNat u.1,.ofNat u.2,k):=by
 unfold patL at h
 obtain⟨⟨u,k⟩,h1,h2⟩:=qa6.1 h
 unfold ju at h2
 split at h2
 ·cases h2
 ·rename_i hk
  cases h2
  have:=List.of_mem_zip h1
  exact⟨u,k,this.1,this.2,hk,rfl⟩
theorem lD:∀ {l:List (Nat×Nat)},ascN l=true->l.Pairwise λa b=>ltN a b=true
 | [],_=>.nil
 | [x],_=>List.pairwise_singleton _ _
 |x :: y :: l,h=>by
  simp only[ascN,qaa]at h
  have ih:=lD h.2
  refine qbG.2 ⟨λz hz=>?_,ih⟩
  rcases qaj.1 hz with rfl|hz
  ·exact h.1
  ·have h2:=(qbG.1 ih).1 z hz
   have h1:=h.1
   rw[ltN_iff]at h1 h2 ⊢
   omega
theorem gW:∀ {l:List Crs},(l.Pairwise λa b=>ltC a b=true)->ascC l=true
 | [],_=>rfl
 | [x],_=>rfl
 |x :: y :: l,h=>by
  obtain⟨h1,h2⟩:=qbG.1 h
  simp only[ascC,qaa]
  exact⟨h1 y qaK,gW h2⟩
theorem mK:∀ {us:List (Nat×Nat)} {ks:List Int},(us.Pairwise λa b=>ltN a b=true)->(patL us ks).Pairwise λa b=>ltC a b=true
 | [],ks,_=>by simp[patL]
 |u :: us,[],_=>by simp[patL]
 |u :: us,k :: ks,h=>by
  obtain⟨h1,h2⟩:=qbG.1 h
  have ih:=mK (ks:=ks) h2
  unfold patL at ih ⊢
  rw[qcl,List.filterMap_cons]
  split
  ·exact ih
  ·rename_i c hc
   refine qbG.2 ⟨λb hb=>?_,ih⟩
   obtain⟨u',k',m1,_,_,rfl⟩:=ly (us:=us) (ks:=ks) hb
   unfold ju at hc
   split at hc
   ·cases hc
   ·cases hc
    have:=ltN_iff.1 (h1 u' m1)
    simp only[ltC,qbb,qaa,decide_eq_true_eq,qaN]
    omega
theorem pat_of{w v:Nat}(h1:1<=w)(h2:w<=5)(h3:1<=v)(h4:v<=5){ks:List Int}(hk:∀k∈ks,0<=k/\k<4):Pat w v (patL (aB w v) ks):=by
 have ht:=ip (ji w v h1 h2 h3 h4)
 have hwv:4*w*v<=100:=by
  have:=qc5 (show 4*w<=20 by omega) h4
  omega
 have key:∀c∈patL (aB w v) ks,rngC c/\isK c=true/\unC (.ofNat w) (.ofNat v) c=true:=λc hc=>by
  obtain⟨⟨x,y⟩,k,m1,m2,m3,rfl⟩:=ly hc
  have hm:=ml.1 m1
  have:=hk k m2
  refine⟨?_,?_,unC_of m1⟩
  ·unfold rngC
   simp only[qaN]
   omega
  ·unfold isK
   simp only[qaa,decide_eq_true_eq]
   omega
 refine⟨⟨h1,h2,h3,h4⟩,λc hc=>(key c hc).1,?_,?_⟩
 ·refine qbH (qcC _ _) ?_
  rw[qdm]
  have:=ht.2.2.2.2
  omega
 ·unfold chkC
  have a1:(patL (aB w v) ks).all isK=true:=qab.2 λc hc=>(key c hc).2.1
  have a2:(patL (aB w v) ks).all (unC (.ofNat w) (.ofNat v))=true:=qab.2 λc hc=>(key c hc).2.2
  rw[a1,a2,gW (mK (lD ht.2.2.2.1))]
  rfl
end Go.Am

/-
 PATTERNS AND FOLDS: what holds them together;Opposite;lines and moves from plain data.
-/
set_option maxRecDepth 100000
set_option maxHeartbeats 8000000
namespace Go.Am
open Sx Go.Proofs
def oth(k:Int):Int:=if k=1 then 2 else if k=2 then 1 else k
def oppC(c:Crs):Crs:=(c.1,c.2.1,oth c.2.2)
structure PatF(w v:Nat)(l:List Crs):Prop where
 pat:Pat w v l
 pair:l.Pairwise λa b=>ltC a b=true
 kd:∀c∈l,1<=c.2.2/\c.2.2<=3
 un:∀c∈l,∃u e:Nat,(u,e)∈aB w v/\c.1 = .ofNat u/\c.2.1 = .ofNat e
 len:l.length<=128
theorem sq{w v:Nat}(hsh:1<=w/\w<=4/\1<=v/\v<=4):(aB w v).length<=128:=by
 have key:((List.range 4).all λw=>(List.range 4).all λv=>Nat.ble (aB (w+1) (v+1)).length 128)=true:=by kernel_rfl
 have h5:=qab.1 key (w - 1) (qal.2 (by omega))
 have h6:=qab.1 h5 (v - 1) (qal.2 (by omega))
 rw[show w - 1+1=w by omega,show v - 1+1=v by omega]at h6
 exact Nat.le_of_ble_eq_true h6
theorem patF_of{w v:Nat}(hsh:1<=w/\w<=4/\1<=v/\v<=4){ks:List Int}(hk:∀k∈ks,0<=k/\k<4):PatF w v (patL (aB w v) ks) where
 pat:=pat_of hsh.1 (by omega) hsh.2.2.1 (by omega) hk
 pair:=mK (lD (ip (ji w v hsh.1 (by omega) hsh.2.2.1 (by omega))).2.2.2.1)
 kd:=λc hc=>by
  obtain⟨u,k,_,h1,h,rfl⟩:=ly hc
  have:=hk k h1
  simp only
  omega
 un:=λc hc=>by
  obtain⟨u,k,h,_,_,rfl⟩:=ly hc
  exact⟨u.1,u.2,h,rfl,rfl⟩
 len:=by
  refine qbH (qcC _ _) ?_
  rw[qdm]
  have:=sq hsh
  omega
theorem pick_oth{k:Int}(h:1<=k/\k<=3):iU gl0 0 [(k,1)] 1=some [.int .u8 (oth k)]:=by
 have:k=1∨k=2∨k=3:=by omega
 rcases this with rfl|rfl|rfl<;>rfl
theorem opp_c{w v:Nat}{l:List Crs}(hF:PatF w v l){H:HL}{xv:Value}(hl:LsH H xv 3 encC l) :
  aW cc ab 5 [.i (.ofNat w),.i (.ofNat v),.v xv] (absH ac H) [.i (.ofNat w),.i (.ofNat v),.v (.slice (some ⟨H.length,0,tag 3⟩) l.length (l.length+1)),.i 0] (absH ac (newE H 3 encC (l.map oppC))):=by
 have hlen:=hF.len
 obtain⟨rs,h',h1,rfl,rfl⟩:=x5 (ls:=[.i (.ofNat w),.i (.ofNat v),.v xv]) (K:=λrs h'=>rs=[.i (.ofNat w),.i (.ofNat v),.v (.slice (some ⟨H.length,0,tag 3⟩) l.length (l.length+1)),.i 0]/\h'=newE H 3 encC (l.map oppC)) (H:=H) (glsI (glsI (glsV hl.good gls0))) (by
  unfold f5;simp only[qxh]
  simp(disch:=omega)only[↓qXX]
  refine bZ (hF.pat.check hl) ?_
  simp(disch:=omega)only[↓qXX]
  refine eC hl ?_
  refine aE (lq (by omega)) ?_
  simp(disch:=omega)only[↓qXX]
  show P1.heap _ (H++[HO.o (.cells (aU _ l.length) 3 true)]) _
  rw[new_zeros (v:=[.int .i64 0,.int .u8 0,.int .u8 0]) (enc:=encC) (z:=(0,0,0)) rfl]
  refine r_copyN eE (hl.pre (uG _ _ _ _)) (by rw[List.length_replicate]) ?_
  simp(disch:=omega)only[↓qXX]
  refine aE (x:=Int.ofNat l.length) rfl ?_
  have hdone:∀j,j<=l.length->((l.take j).map oppC++l.drop j).length=l.length:=λj hj=>by
   rw[qaO,qbm,qaY,qbY];omega
  refine de l.length (λj (_:Unit)=>[.i (Int.ofNat j)]) (λj _=>newE H 3 encC ((l.take j).map oppC++l.drop j)) (λ_ _=>True) (j0:=0) (s0:=()) rfl (by simp) (qbB _) trivial ?_
  intro j _ hj _ self hself
  simp(disch:=omega)only[↓qXX]
  by_cases hlt:j<l.length
  ·rw[cS hlt]
   simp(disch:=omega)only[↓qXX]
   obtain⟨c,hc⟩:=bI hlt
   have hget:((l.take j).map oppC++l.drop j)[j]? = some c:=by
    rw[qak (by rw[qbm,qaY];omega),qbm,qaY,qce (by omega),qbp,qbd,qba]
    exact hc
   have hkd:=hF.kd c (qag hc)
   refine nn (o:=2) (k:=1) (cs:=[.int .u8 c.2.2]) (newE_ls (cx:=l.length+1) eE (hdone j (by omega)).symm) rfl hget rfl (by omega) ?_
   simp(disch:=omega)only[↓qXX]
   refine aE (pick_oth hkd) ?_
   simp(disch:=omega)only[↓qXX]
   refine r_setfN eE (a:=c) (a':=oppC c) (o:=2) rfl hget (hdone j (by omega)) (by simp) (by simp[encC,oppC]) ?_
   rw[ii (by omega)]
   have hset:((l.take j).map oppC++l.drop j).set j (oppC c)=(l.take (j+1)).map oppC++l.drop (j+1):=by
    have hl1:((l.take j).map oppC).length=j:=by rw[qbm,qaY];omega
    rw[qbL _ _ (by omega),hl1,qbp,qbz hlt,qcF,qcN,hc,qbT]
    simp
   rw[hset]
   exact hself () hlt trivial
  ·obtain rfl:j=l.length:=by omega
   rw[dC (qaA _)]
   simp(disch:=omega)only[↓qXX]
   refine aE (x:=()) rfl ?_
   exact⟨by trivial,by rw[qcV,List.drop_length,qaR]⟩)
 exact h1
theorem PatF.keys{w v:Nat}{l l':List Crs}(h:PatF w v l)(hk:l'.map bX=l.map bX)(hd:∀c∈l',1<=c.2.2/\c.2.2<=3):PatF w v l':=by
 have hun:∀c∈l',∃u e:Nat,(u,e)∈aB w v/\c.1 = .ofNat u/\c.2.1 = .ofNat e:=λc hc=>by
  have:bX c∈l.map bX:=by rw[←hk];exact qc1 hc
  obtain⟨c0,h0,h1⟩:=qaI.1 this
  obtain⟨u,e,h2,h3,h4⟩:=h.un c0 h0
  unfold bX at h1
  simp only[qcs]at h1
  exact⟨u,e,h2,by rw[←h1.1,h3],by rw[←h1.2,h4]⟩
 have hlen:l'.length=l.length:=by
  have:=congrArg List.length hk
  simpa using this
 have hp:l'.Pairwise λa b=>ltC a b=true:=by
  have h1:(l.map bX).Pairwise λa b=>(decide (a.1<b.1)||(decide (a.1=b.1)&&decide (a.2<b.2)))=true:=qc7.2 h.pair
  rw[←hk]at h1
  exact qc7.1 h1
 have key:∀c∈l',rngC c/\isK c=true/\unC (.ofNat w) (.ofNat v) c=true:=λc hc=>by
  obtain⟨x,y,m1,m2,m3⟩:=hun c hc
  have hd:=hd c hc
  obtain⟨c1,c2,k⟩:=c
  simp only at m2 m3 hd
  subst m2 m3
  have hmu:=ml.1 m1
  have hwv:4*w*v<=100:=by
   have:=qc5 (show 4*w<=20 by have:=h.pat.sheet;omega) h.pat.sheet.2.2.2
   omega
  refine⟨?_,?_,unC_of m1⟩
  ·unfold rngC
   simp only[qaN]
   omega
  ·unfold isK
   simp only[qaa,decide_eq_true_eq]
   omega
 refine⟨⟨h.pat.sheet,λc hc=>(key c hc).1,by rw[hlen];exact h.pat.len,?_⟩,hp,hd,hun,by rw[hlen];exact h.len⟩
 unfold chkC
 have a1:l'.all isK=true:=qab.2 λc hc=>(key c hc).2.1
 have a2:l'.all (unC (.ofNat w) (.ofNat v))=true:=qab.2 λc hc=>(key c hc).2.2
 rw[a1,a2,gW hp]
 rfl
theorem uK(l:List Crs):(l.map oppC).map bX=l.map bX:=by
 rw[qcQ];rfl
theorem PatF.opp{w v:Nat}{l:List Crs}(h:PatF w v l):PatF w v (l.map oppC):=h.keys (uK l) λc hc=>by
 obtain⟨c0,h0,rfl⟩:=qaI.1 hc
 have:=h.kd c0 h0
 show 1<=oth c0.2.2/\oth c0.2.2<=3
 unfold oth
 split<;>(try split)<;>omega
theorem gI.keys{w v:Nat}{l l':List Crs}{G:Nat->Mv}(hG:gI w v l G)(hk:l'.map bX=l.map bX):gI w v l' G:=by
 intro c e n hc he hn
 have:=hG c e n hc he hn
 unfold acM isCr at this ⊢
 rw[hk]
 exact this
theorem uv{us:List (Nat×Nat)}{ks:List Int}{u e:Nat}:isCr (patL us ks) u e=true↔∃(i:Nat) (k:Int),us[i]? = some (u,e)/\ks[i]? = some k/\k≠0:=by
 unfold isCr
 rw[decide_eq_true_eq]
 constructor
 ·intro h
  obtain⟨c,h1,h2⟩:=qaI.1 h
  unfold patL at h1
  obtain⟨⟨⟨x,y⟩,k⟩,h3,h4⟩:=qa6.1 h1
  obtain⟨i,hi⟩:=qbk h3
  rw[qbR]at hi
  unfold ju at h4
  split at h4
  ·cases h4
  ·rename_i hk
   cases h4
   unfold bX at h2
   simp only[qcs,qaN]at h2
   obtain⟨q1,q2⟩:=h2
   have q1:x=u:=by omega
   have q2:y=e:=by omega
   subst q1 q2
   exact⟨i,k,hi.1,hi.2,hk⟩
 ·rintro⟨i,k,h1,h2,h3⟩
  refine qaI.2 ⟨(.ofNat u,.ofNat e,k),?_,rfl⟩
  unfold patL
  refine qa6.2 ⟨((u,e),k),qag (i:=i) (qbR.2 ⟨h1,h2⟩),?_⟩
  unfold ju
  rw[if_neg h3]
def plG(A:List Mv)(c:Nat):Mv:=bp (A.getD c idM) (invM (A.getD 0 idM))
theorem FInv.cons{w v:Nat}(hs:Sh4 w v){k:Int}{A:List Mv}{ks:List Int}(hI:FInv w v k A ks):gI w v (patL (aB w v) ks) (plG A)/\plG A 0=idM/\∀c,c<4*w*v->okM (k+k) (plG A c):=by
 have hN:=hs.N
 have getA:∀c,c<4*w*v->A[c]? = some (A.getD c idM):=λc hc=>by
  obtain⟨g,hg⟩:=bI (l:=A) (i:=c) (by rw[hI.la];exact hc)
  rw[show A.getD c idM=g by simp[List.getD,hg]]
  exact hg
 have okA:∀c,c<4*w*v->okM k (A.getD c idM):=λc hc=>hI.ok _ (qag (getA c hc))
 have h0:=okA 0 (by omega)
 refine⟨λc e n hc he hn=>?_,inv_id h0.1,λc hc=>eH (okA c hc) (okM_inv h0)⟩
 obtain⟨hm,hln⟩:=ta hs.sh hc he hn
 obtain⟨hnN,hnb,_,_,hne⟩:=pW hs.sh hc he hn
 have hr:(invM (A.getD 0 idM)).1<8:=(okM_inv h0).1
 have main:A.getD n idM=acM w (patL (aB w v) ks) (A.getD c idM) c n e:=by
  unfold acM
  rw[hln]
  have use:∀(i:Nat) (kk:Int),(aB w v)[i]? = some (min c n,e)->ks[i]? = some kk->A.getD n idM=if kk=0 then A.getD c idM else bp (ofM (lnC3 (clN w c) e)) (A.getD c idM):=λi kk hu hk=>by
   rcases qaz c n with hlt|hge
   ·rw[qce (by omega)]at hu
    exact hI.un i c e n kk _ _ hu hn hk (getA c hc) (getA n hnN)
   ·rw[qcy hge]at hu
    have:=hI.un i n e c kk _ _ hu hnb hk (getA n hnN) (getA c hc)
    rw[←hln,qcy hge]
    by_cases hk0:kk=0
    ·rw[if_pos hk0]at this ⊢
     exact this.symm
    ·rw[if_neg hk0]at this ⊢
     rw[this,←ew (mE _) (mE _) (okA n hnN).1,rP,ut (okA n hnN).1]
  by_cases hcr:isCr (patL (aB w v) ks) (min c n) e=true
  ·rw[if_pos hcr]
   obtain⟨i,kk,h1,h2,h3⟩:=uv.1 hcr
   have:=use i kk h1 h2
   rwa [if_neg h3]at this
  ·rw[if_neg hcr]
   obtain⟨i,hi⟩:=qbk hm
   obtain⟨kk,hkk⟩:=bI (l:=ks) (i:=i) (by rw[hI.lk];exact bJ hi)
   have:=use i kk hi hkk
   by_cases hk0:kk=0
   ·rwa [if_pos hk0]at this
   ·exact absurd (uv.2 ⟨i,kk,hi,hkk,hk0⟩) hcr
 unfold plG
 rw[main]
 unfold acM
 split
 ·rw[ew (mE _) (okA c hc).1 hr]
 ·rfl
theorem FInv.flat{w v:Nat}:FInv w v 0 (List.replicate (4*w*v) idM) (List.replicate (aB w v).length 0):=by
 refine⟨by simp,by simp,λm hm=>?_,λz hz=>?_,λi c e n kk g g' _ _ hk hg hg'=>?_⟩
 ·rw[qbV hm]
  exact okM_id (Int.le_refl 0)
 ·rw[qbV hz];decide
 ·have h1:=qbV (qag hk)
  have h2:=qbV (qag hg)
  have h3:=qbV (qag hg')
  rw[h1,if_pos rfl,h2,h3]
theorem line_c{a b:Int}(ha:0<=a/\a<=255)(hb:-128<=b/\b<=127):∃l:Ln,(1<=l.1/\l.1<=4)/\(-8<=l.2/\l.2<=8)/\Cc 12 [.i a,.i b] [.i (.ofNat l.1),.i l.2]:=by
 have e:Int.ofNat (1+a%4).toNat=1+a%4:=qb6 (by omega)
 rcases qbj 0 b with h|h
 ·refine⟨((1+a%4).toNat,b%9),⟨by omega,by omega⟩,⟨by show -8<=b%9;omega,by show b%9<=8;omega⟩,?_⟩
  show Cc _ _ [.i (Int.ofNat (1+a%4).toNat),.i (b%9)]
  rw[e]
  refine q12 rfl ?_;unfold f12;simp only[qxh]
  simp(disch:=omega)only[↓qXX]
  try rfl
 ·refine⟨((1+a%4).toNat,-((-b)%9)),⟨by omega,by omega⟩,⟨by show -8<=-((-b)%9);omega,by show -((-b)%9)<=8;omega⟩,?_⟩
  show Cc _ _ [.i (Int.ofNat (1+a%4).toNat),.i (-((-b)%9))]
  rw[e]
  refine q12 rfl ?_;unfold f12;simp only[qxh]
  repeat (first|simp(disch:=omega)only[↓qXX]|rw[p_rem_np h (by omega)])
  try rfl
theorem mo_c{t x y:Int}(ht:0<=t/\t<=255)(hx:-128<=x/\x<=127)(hy:-128<=y/\y<=127):∃m:Mv,okM 200 m/\Cc 7 [.i t,.i x,.i y] (mvl m):=by
 have e:Int.ofNat (t%8).toNat=t%8:=qb6 (by omega)
 have et:(t%8).toNat<8:=by omega
 by_cases h0:(x+y)%2=0
 ·refine⟨((t%8).toNat,x,y),⟨et,by simp only;omega⟩,?_⟩
  show Cc _ _ [.i (Int.ofNat (t%8).toNat),.i x,.i y]
  rw[e]
  refine q7 rfl ?_;unfold f7;simp only[qxh]
  rcases qbj 0 (x+y)with h|h
  ·repeat (first|simp(disch:=omega)only[↓qXX]|rw[p_rem_nn h (by omega)]|rw[p_neq_f h0])
   try rfl
  ·repeat (first|simp(disch:=omega)only[↓qXX]|rw[p_rem_np h (by omega)]|rw[p_neq_f (show -(-(x+y)%2)=0 by omega)])
   try rfl
 ·refine⟨((t%8).toNat,x,y+1),⟨et,by simp only;omega⟩,?_⟩
  show Cc _ _ [.i (Int.ofNat (t%8).toNat),.i x,.i (y+1)]
  rw[e]
  refine q7 rfl ?_;unfold f7;simp only[qxh]
  rcases qbj 0 (x+y)with h|h
  ·repeat (first|simp(disch:=omega)only[↓qXX]|rw[p_rem_nn h (by omega)]|rw[p_neq_t h0])
   try rfl
  ·repeat (first|simp(disch:=omega)only[↓qXX]|rw[p_rem_np h (by omega)]|rw[p_neq_t (show -(-(x+y)%2)≠0 by omega)])
   try rfl
end Go.Am

/-
 PATTERNS THAT CLOSE,from plain data: told.
-/
set_option maxRecDepth 100000
set_option maxHeartbeats 16000000
namespace Go.Am
open Sx Go.Proofs
theorem r_setfG{α:Type}{e cx len:Nat}{enc:α->List Value}(henc:∀a,(enc a).length=e){h:HL}{id:Nat}{l:List α}{i o:Nat}{a a':α}{n:Int}{new:List Value}{K:List Value->HL->Prop}(hg:h[id]? = some (.o (.cells (l.flatMap enc) e true)))(hn:n=Int.ofNat i)(hi:l[i]? = some a)(hlen:l.length=len)(ho:o+new.length<=e)
  (hnew:enc a'=(enc a).take o++new++(enc a).drop (o+new.length)) (hk:K [] (putE h id e enc (l.set i a'))) :
  P1.opt (idS e (.slice (some ⟨id,0,tag e⟩) len cx) n) (@hid _ ⟨λx=>P1.opt (fdP o x) (@hid _ ⟨λy=>P1.chk y (@hid _ ⟨P1.heap (.st y new) h (@hid _ ⟨K⟩)⟩)⟩)⟩):=by
 subst hn hlen
 have hlt:=bJ hi
 have hx:idS e (.slice (some ⟨id,0,tag e⟩) l.length cx) (Int.ofNat i)=some (.pointer (some ⟨id,i*e,none⟩)):=by
  rw[ru]
  have hh:0<=Int.ofNat i/\Int.ofNat i<(l.length:Int):=⟨qa0 i,by show(i:Int)<l.length;omega⟩
  simp only[if_pos hh]
  have:¬(tag e=some 1):=by simp[tag]
  simp only[if_neg this,qax]
  rfl
 refine aE hx ?_
 refine aE (x:=.pointer (some ⟨id,i*e+o,none⟩)) rfl ?_
 refine cg (by simp[bc,noLoc,aZ,bw,bh,aQ,aD]) ?_
 have hl:=bb (e:=e) (enc:=enc) (l:=l) λa _=>henc a
 have hle:i*e+e<=l.length*e:=by
  have:=qbg e (show i+1<=l.length by omega)
  rw[qbu,qca]at this;exact this
 have e1:=db henc (l:=l) (i:=i) a hlt
 rw[ep hi]at e1
 have e2:=db henc (l:=l) (i:=i) a' hlt
 have hA:((l.flatMap enc).take (i*e)).length=i*e:=by rw[qaY];omega
 have hB:=henc a
 have key:(l.flatMap enc).take (i*e+o)++new++(l.flatMap enc).drop (i*e+o+new.length)=(l.set i a').flatMap enc:=by
  rw[←e2,hnew]
  have t1:(l.flatMap enc).take (i*e+o)=(l.flatMap enc).take (i*e)++(enc a).take o:=by
   conv=>lhs;rw[←e1,qaB]
   rw[qci,qaM (by omega),hA,show i*e+o - i*e=o by omega,qci,show o - (enc a).length=0 by omega,qaX,qaR]
  have t2:(l.flatMap enc).drop (i*e+o+new.length)=(enc a).drop (o+new.length)++(l.flatMap enc).drop (i*e+e):=by
   conv=>lhs;rw[←e1,qaB]
   rw[qbZ,qbr (by omega),qam,hA,show i*e+o+new.length - i*e=o+new.length by omega,qbZ,show o+new.length - (enc a).length=0 by omega,qaG]
  rw[t1,t2]
  simp only[qaB]
 have hrun:(Hp.st (.pointer (some ⟨id,i*e+o,none⟩)) new).run (getH ac h) h.length=some ([.set id (.cells ((l.set i a').flatMap enc) e true)],[]):=by
  show stP (.pointer (some ⟨id,i*e+o,none⟩)) new (getH ac h) h.length=_
  unfold stP
  simp only
  rw[bW hg]
  simp only
  unfold splice
  rw[hl,if_pos (by omega),key]
  rfl
 exact dl hrun hk
theorem qb{j n:Nat}{K:Bool->Prop}(h1:j<n->K true)(h2:n<=j->K false):P1.cmp .lss (Int.ofNat j) (Int.ofNat n) (@hid _ ⟨K⟩):=by
 rcases qaz j n with h|h
 ·rw[cS h];exact h1 h
 ·rw[dC h];exact h2 h
theorem p_gtr_n{n:Nat}{K:Bool->Prop}(h1:0<n->K true)(h2:n=0->K false):P1.cmp .gtr (Int.ofNat n) (Int.ofNat 0) (@hid _ ⟨K⟩):=by
 rcases qcI n with h|h
 ·rw[p_gtr_f (show Int.ofNat n<=Int.ofNat 0 by rw[h];exact Int.le_refl _)];exact h2 h
 ·rw[p_gtr_t (show Int.ofNat 0<Int.ofNat n from qcD.2 h)];exact h1 h
abbrev Fo:=Int×Int×Bool×Bool
def encFo(f:Fo):List Value:=[.int .u8 f.1,.int .i8 f.2.1,.bool f.2.2.1,.bool f.2.2.2]
def okFo(f:Fo):Prop:=(0<=f.1/\f.1<=255)/\(-128<=f.2.1/\f.2.1<=127)
theorem fof_c{a b:Int}(ha:0<=a/\a<=255)(hb:0<=b/\b<=255){H:HL}{xf xa:Value}{fs:List Fo}{an:List Int}(hF:LsH H xf 4 encFo fs)(hfs:∀f∈fs,okFo f)(hA:LsH H xa 1 enc8 an)(han:∀z∈an,0<=z/\z<=255)(hal:an.length<=9223372036854775807) :
  ∃(w v:Nat) (rx:Value) (h':HL) (l:List Crs) (G:Nat->Mv),Sh4 w v/\aW cc ab 4 [.i a,.i b,.v xf,.v xa] (absH ac H) [.i (.ofNat w),.i (.ofNat v),.v rx] (absH ac h')/\LsH h' rx 3 encC l/\PatF w v l/\gI w v l G/\G 0=idM/\∀c,c<4*w*v->okM 200 (G c):=by
 obtain⟨w,hw⟩ : ∃w:Nat,Int.ofNat w=1+a%4:=⟨(1+a%4).toNat,qb6 (by omega)⟩
 obtain⟨v,hv⟩ : ∃v:Nat,Int.ofNat v=1+b%4:=⟨(1+b%4).toNat,qb6 (by omega)⟩
 have hw':(w:Int)=1+a%4:=hw
 have hv':(v:Int)=1+b%4:=hv
 have hs:Sh4 w v:=⟨by omega,by omega,by omega,by omega⟩
 have hul:=sq hs
 obtain⟨fx,fk,G0,hcF,hfA,hfK⟩:=flat_c hs H
 obtain⟨rs,h',hc,rx,l,rfl,hl,hP,G,hG,hG0,hGk⟩:=x4 (ls:=[.i a,.i b,.v xf,.v xa]) (K:=λrs h'=>∃rx l',rs=[.i (.ofNat w),.i (.ofNat v),.v rx]/\LsH h' rx 3 encC l'/\PatF w v l'/\∃G,gI w v l' G/\G 0=idM/\∀c,c<4*w*v->okM 200 (G c)) (H:=H) (glsI (glsI (glsV hF.good (glsV hA.good gls0)))) (by
  unfold f4;simp only[qxh]
  simp(disch:=omega)only[↓qXX]
  rw[←hw,←hv]
  refine bZ hcF ?_
  simp(disch:=omega)only[↓qXX]
  have hp0:Pre H (H++G0):=⟨_,rfl⟩
  generalize H++G0=h1 at *
  clear hcF
  refine de (σ:=Value×Value×HL) (min fs.length 6) (λj s=>[.v s.1,.v s.2.1,.i (Int.ofNat j)]) (λ_ s=>s.2.2) (λj s=>Pre H s.2.2/\∃A ks,LsH s.2.2 s.1 3 encM A/\LsH s.2.2 s.2.1 1 enc8 ks/\FInv w v (16*(j:Int)) A ks) (j0:=0) (s0:=(fx,fk,h1)) rfl rfl (qbB _) ⟨hp0,_,_,hfA,hfK,FInv.flat⟩ ?_
  clear hfA hfK hp0
  rintro j ⟨xv,kv,sh⟩ hj ⟨hpre,A,ks,hL,hK,hI⟩ self hself
  simp only at hpre hL hK ⊢
  simp(disch:=omega)only[↓qXX]
  refine eC (hF.pre hpre) ?_
  by_cases hlt:j<min fs.length 6
  ·rw[cS (by omega)]
   simp(disch:=omega)only[↓qXX]
   refine qb (j:=j) (n:=6) (λ_=>?_) (λh6=>by omega)
   obtain⟨⟨fk,fc,fh,fo⟩,hf⟩:=bI (l:=fs) (i:=j) (by omega)
   have hfo:=hfs _ (qag hf)
   unfold okFo at hfo
   simp only at hfo
   obtain⟨l,hl1,hl2,hlc⟩:=line_c hfo.1 hfo.2
   have hfc:=fold_c hs (k:=16*(j:Int)) ⟨by omega,by omega⟩ hL hK hI hl1 hl2
   obtain⟨x',y',h',ks',c1,c2,c3,c4,c5⟩:=hfc (bif fh then 1 else 0) (bif fo then 1 else 0)
   simp(disch:=omega)only[↓qXX]
   refine nn (o:=2) (k:=1) (cs:=[.bool fh]) (hF.pre hpre) rfl hf rfl (by omega) ?_
   rcases fh with _|_
   all_goals
    simp(disch:=omega)only[↓qXX]
    refine nn (o:=3) (k:=1) (cs:=[.bool fo]) (hF.pre hpre) rfl hf rfl (by omega) ?_
    rcases fo with _|_
    all_goals
     simp(disch:=omega)only[↓qXX]
     refine nn (o:=0) (k:=1) (cs:=[.int .u8 fk]) (hF.pre hpre) rfl hf rfl (by omega) ?_
     simp(disch:=omega)only[↓qXX]
     refine nn (o:=1) (k:=1) (cs:=[.int .i8 fc]) (hF.pre hpre) rfl hf rfl (by omega) ?_
     simp(disch:=omega)only[↓qXX]
     refine ah hlc ?_
     simp(disch:=omega)only[↓qXX]
     refine bZ c1 ?_
     simp(disch:=omega)only[↓qXX]
     rw[ii (by omega)]
     refine hself (x',y',h') hlt ⟨hpre.trans c2,_,ks',c3,c4,?_⟩
     rw[show(16:Int)*((j+1:Nat):Int)=16*(j:Int)+16 by omega]
     exact c5
  ·have hex:fs.length<=j∨(j<fs.length/\j=6):=by omega
   rcases hex with hx|⟨hx,hx6⟩
   ·rw[dC hx]
    simp(disch:=omega)only[↓qXX]
    obtain⟨G1,rx,hcW,hmk0⟩:=with_c (w:=w) (v:=v) hs.sh.1 hs.sh.2.1 hs.sh.2.2.1 hs.sh.2.2.2 hK (by have:=hI.lk;omega)
    refine bZ hcW ?_
    simp(disch:=omega)only[↓qXX]
    have hpF:PatF w v (patL (aB w v) ks):=patF_of hs λk hk=>by have:=hI.kn k hk;omega
    obtain⟨hG,hG0,hGk⟩:=hI.cons hs
    have hpr1:Pre H (sh++G1):=hpre.trans ⟨G1,rfl⟩
    have hmk1:MkL H.length (sh++G1) rx 3 encC (patL (aB w v) ks):=⟨hmk0.1,hmk0.2.1,hmk0.2.2.imp id λ⟨id,h1,h2⟩=>⟨id,qbH hpre.len h1,h2⟩⟩
    generalize patL (aB w v) ks=l at *
    generalize sh++G1=h2 at *
    clear hcW hmk0
    refine de (σ:=HL) an.length (λj _=>[.i (Int.ofNat j)]) (λ_ s=>s) (λj s=>Pre H s/\∃l':List Crs,l'.map bX=l.map bX/\(∀c∈l',1<=c.2.2/\c.2.2<=3)/\MkL H.length s rx 3 encC l') (j0:=0) (s0:=h2) rfl rfl (qbB _) ⟨hpr1,l,rfl,hpF.kd,hmk1⟩ ?_
    clear hself hmk1 hpr1
    rintro j s hj ⟨hps,l',hkey,hkd,hmk⟩ self hself
    have fin:∀K0:List Lf->HL->Prop,K0=(λrs h'=>∃rx l',rs=[.i (.ofNat w),.i (.ofNat v),.v rx]/\LsH h' rx 3 encC l'/\PatF w v l'/\∃G,gI w v l' G/\G 0=idM/\∀c,c<4*w*v->okM 200 (G c))->K0 [.i (.ofNat w),.i (.ofNat v),.v rx] s:=by
     rintro K0 rfl
     exact⟨rx,l',rfl,hmk.ls,hpF.keys hkey hkd,_,hG.keys hkey,hG0,λc hc=>bz (hGk c hc) (by omega)⟩
    simp(disch:=omega)only[↓qXX]
    refine eC (hA.pre hps) ?_
    refine qb (λhlt=>?_) (λ_=>?_)
    ·simp(disch:=omega)only[↓qXX]
     refine eC hmk.ls ?_
     refine p_gtr_n (λhpos=>?_) (λ_=>?_)
     ·simp(disch:=omega)only[↓qXX]
      obtain⟨a,ha⟩:=bI hlt
      have har:=han a (qag ha)
      refine dg (hA.pre hps) rfl ha ?_
      unfold enc8
      simp(disch:=omega)only[↓qXX]
      refine eC hmk.ls ?_
      rw[p_rem_nn har.1 (show(0:Int)<Int.ofNat l'.length from qcD.2 hpos)]
      have hm0:0<=a%Int.ofNat l'.length:=qdl _ (by show((l'.length:Nat):Int)≠0;omega)
      have hm1:a%Int.ofNat l'.length<Int.ofNat l'.length:=Int.emod_lt_of_pos _ (qcD.2 hpos)
      obtain⟨i,hi⟩ : ∃i:Nat,a%Int.ofNat l'.length=Int.ofNat i:=⟨(a%Int.ofNat l'.length).toNat,(qb6 hm0).symm⟩
      rw[hi]at hm1
      have hil:i<l'.length:=qcD.1 hm1
      obtain⟨c,hc⟩:=bI hil
      obtain⟨hm2,hm3,hm4⟩:=id hmk
      rcases hm4 with⟨_,hz⟩|⟨id,hid,rfl,hget⟩
      ·omega
      refine r_setfG eE (l:=l') (i:=i) (o:=2) (a:=c) (a':=(c.1,c.2.1,3)) hget hi hc rfl (by simp) (by simp[encC]) ?_
      rw[p_add (by show -9223372036854775808<=(j:Int)+1;omega) (by show(j:Int)+1<=9223372036854775807;omega)]
      refine hself _ hlt ⟨fq hps hid,l'.set i (c.1,c.2.1,3),?_,λc' hc'=>?_,λc' _=>rfl,?_,.inr ⟨id,hid,by rw[qcn],cV (bJ hget)⟩⟩
      ·rw[List.map_set,←hkey]
       exact ep (by rw[qaw,hc];rfl)
      ·rcases qcx hc' with h|h
       ·exact hkd c' h
       ·subst h;exact⟨by show(1:Int)<=3;decide,by show(3:Int)<=3;decide⟩
      ·exact bb λa _=>eE a
     ·simp(disch:=omega)only[↓qXX]
      exact fin _ rfl
    ·simp(disch:=omega)only[↓qXX]
     exact fin _ rfl
   ·rw[cS hx]
    simp(disch:=omega)only[↓qXX]
    refine qb (j:=j) (n:=6) (λh6=>by omega) (λ_=>?_)
    simp(disch:=omega)only[↓qXX]
    obtain⟨G1,rx,hcW,hmk0⟩:=with_c (w:=w) (v:=v) hs.sh.1 hs.sh.2.1 hs.sh.2.2.1 hs.sh.2.2.2 hK (by have:=hI.lk;omega)
    refine bZ hcW ?_
    simp(disch:=omega)only[↓qXX]
    have hpF:PatF w v (patL (aB w v) ks):=patF_of hs λk hk=>by have:=hI.kn k hk;omega
    obtain⟨hG,hG0,hGk⟩:=hI.cons hs
    have hpr1:Pre H (sh++G1):=hpre.trans ⟨G1,rfl⟩
    have hmk1:MkL H.length (sh++G1) rx 3 encC (patL (aB w v) ks):=⟨hmk0.1,hmk0.2.1,hmk0.2.2.imp id λ⟨id,h1,h2⟩=>⟨id,qbH hpre.len h1,h2⟩⟩
    generalize patL (aB w v) ks=l at *
    generalize sh++G1=h2 at *
    clear hcW hmk0
    refine de (σ:=HL) an.length (λj _=>[.i (Int.ofNat j)]) (λ_ s=>s) (λj s=>Pre H s/\∃l':List Crs,l'.map bX=l.map bX/\(∀c∈l',1<=c.2.2/\c.2.2<=3)/\MkL H.length s rx 3 encC l') (j0:=0) (s0:=h2) rfl rfl (qbB _) ⟨hpr1,l,rfl,hpF.kd,hmk1⟩ ?_
    clear hself hmk1 hpr1
    rintro j s hj ⟨hps,l',hkey,hkd,hmk⟩ self hself
    have fin:∀K0:List Lf->HL->Prop,K0=(λrs h'=>∃rx l',rs=[.i (.ofNat w),.i (.ofNat v),.v rx]/\LsH h' rx 3 encC l'/\PatF w v l'/\∃G,gI w v l' G/\G 0=idM/\∀c,c<4*w*v->okM 200 (G c))->K0 [.i (.ofNat w),.i (.ofNat v),.v rx] s:=by
     rintro K0 rfl
     exact⟨rx,l',rfl,hmk.ls,hpF.keys hkey hkd,_,hG.keys hkey,hG0,λc hc=>bz (hGk c hc) (by omega)⟩
    simp(disch:=omega)only[↓qXX]
    refine eC (hA.pre hps) ?_
    refine qb (λhlt=>?_) (λ_=>?_)
    ·simp(disch:=omega)only[↓qXX]
     refine eC hmk.ls ?_
     refine p_gtr_n (λhpos=>?_) (λ_=>?_)
     ·simp(disch:=omega)only[↓qXX]
      obtain⟨a,ha⟩:=bI hlt
      have har:=han a (qag ha)
      refine dg (hA.pre hps) rfl ha ?_
      unfold enc8
      simp(disch:=omega)only[↓qXX]
      refine eC hmk.ls ?_
      rw[p_rem_nn har.1 (show(0:Int)<Int.ofNat l'.length from qcD.2 hpos)]
      have hm0:0<=a%Int.ofNat l'.length:=qdl _ (by show((l'.length:Nat):Int)≠0;omega)
      have hm1:a%Int.ofNat l'.length<Int.ofNat l'.length:=Int.emod_lt_of_pos _ (qcD.2 hpos)
      obtain⟨i,hi⟩ : ∃i:Nat,a%Int.ofNat l'.length=Int.ofNat i:=⟨(a%Int.ofNat l'.length).toNat,(qb6 hm0).symm⟩
      rw[hi]at hm1
      have hil:i<l'.length:=qcD.1 hm1
      obtain⟨c,hc⟩:=bI hil
      obtain⟨hm2,hm3,hm4⟩:=id hmk
      rcases hm4 with⟨_,hz⟩|⟨id,hid,rfl,hget⟩
      ·omega
      refine r_setfG eE (l:=l') (i:=i) (o:=2) (a:=c) (a':=(c.1,c.2.1,3)) hget hi hc rfl (by simp) (by simp[encC]) ?_
      rw[p_add (by show -9223372036854775808<=(j:Int)+1;omega) (by show(j:Int)+1<=9223372036854775807;omega)]
      refine hself _ hlt ⟨fq hps hid,l'.set i (c.1,c.2.1,3),?_,λc' hc'=>?_,λc' _=>rfl,?_,.inr ⟨id,hid,by rw[qcn],cV (bJ hget)⟩⟩
      ·rw[List.map_set,←hkey]
       exact ep (by rw[qaw,hc];rfl)
      ·rcases qcx hc' with h|h
       ·exact hkd c' h
       ·subst h;exact⟨by show(1:Int)<=3;decide,by show(3:Int)<=3;decide⟩
      ·exact bb λa _=>eE a
     ·simp(disch:=omega)only[↓qXX]
      exact fin _ rfl
    ·simp(disch:=omega)only[↓qXX]
     exact fin _ rfl)
 exact⟨w,v,rx,h',l,G,hs,hc,hl,hP,hG,hG0,hGk⟩
end Go.Am

/-
 The examples of chapter 10.
-/
set_option maxRecDepth 100000
namespace Go.Am
open Sx Go.Proofs
theorem lives10:∀H,aW cc ab 9 [] H [.b true] H:=iN (n:=60) rfl (by kernel_rfl) rfl (by kernel_rfl)
end Go.Am

/-
 PlacesMoved: the law,whatever the pattern.
-/
set_option maxRecDepth 100000
set_option maxHeartbeats 16000000
namespace Go.Am
open Sx Go.Proofs
theorem qf{w v:Nat}{G:Nat->Mv}{r:Mv}:(plL w v G r).length=4*w*v:=by simp[plL]
theorem gI.lt{w v:Nat}(hs:Sh w v){l:List Crs}{G:Nat->Mv}(hG:gI w v l G)(h0:G 0=idM):∀c,c<4*w*v->(G c).1<8:=
 tb hs (by rw[h0];decide) λc e n hc he hn h=>by
  rw[hG c e n hc he hn]
  unfold acM
  split
  ·exact sZ
  ·exact h
theorem mM{a b:Int}(ha:0<=a/\a<=255)(hb:0<=b/\b<=255){H:HL}{xf xa:Value}{fs:List Fo}{an:List Int}(hF:LsH H xf 4 encFo fs)(hfs:∀f∈fs,okFo f)(hA:LsH H xa 1 enc8 an)(han:∀z∈an,0<=z/\z<=255)(hal:an.length<=9223372036854775807)
  {t1 x1 y1 t2 x2 y2:Int} (ht1:0<=t1/\t1<=255) (hx1:-128<=x1/\x1<=127) (hy1:-128<=y1/\y1<=127) (ht2:0<=t2/\t2<=255) (hx2:-128<=x2/\x2<=127) (hy2:-128<=y2/\y2<=127) :
  ∃h',aW cc ab 3 [.i a,.i b,.v xf,.v xa,.i t1,.i x1,.i y1,.i t2,.i x2,.i y2] (absH ac H) [.b true] (absH ac h'):=by
 obtain⟨w,v,rx,h1,l,G,hs,hcF,hl,hP,hG,hG0,hGk⟩:=fof_c ha hb hF hfs hA han hal
 obtain⟨m1,hm1,c1⟩:=mo_c ht1 hx1 hy1
 obtain⟨m2,hm2,c2⟩:=mo_c ht2 hx2 hy2
 have hN:=hs.N
 have hopp:=opp_c hP hl
 have hth:=vp hm1 hm2 (by omega)
 have hlt:=hP.len
 have hpl:Pre h1 (newE h1 3 encC (l.map oppC)):=uG _ _ _ _
 have hl1:=hl.pre hpl
 have ho1:LsH (newE h1 3 encC (l.map oppC)) (.slice (some ⟨h1.length,0,tag 3⟩) l.length (l.length+1)) 3 encC (l.map oppC):=newE_ls eE (by simp)
 obtain⟨p1,h2,d1,d2,d3⟩:=uU hs.sh (nU hP.pair) (by omega) hl1 (hP.pat.check hl1) hG hG0 (bz hm1 (show(200:Int)<=900 by decide))
 have ho2:=ho1.pre d2
 obtain⟨p2,h3,e1,e2,e3⟩:=uU hs.sh (nU hP.opp.pair) (by rw[qbm];omega) ho2 (hP.opp.pat.check ho2) (hG.keys (uK l)) hG0 (bz (eH hm1 hm2) (show(200+200:Int)<=900 by decide))
 have q1:=d3.pre e2
 have hlen1:(plL w v G m1).length=(plL w v G (bp m1 m2)).length:=by rw[qf,qf]
 obtain⟨rs,h',hc,rfl⟩:=x3 (ls:=[.i a,.i b,.v xf,.v xa,.i t1,.i x1,.i y1,.i t2,.i x2,.i y2]) (K:=λrs h'=>rs=[.b true]) (H:=H) (glsI (glsI (glsV hF.good (glsV hA.good (glsI (glsI (glsI (glsI (glsI (glsI gls0)))))))))) (by
  unfold f3;simp only[qxh]
  simp(disch:=omega)only[↓qXX]
  refine bZ hcF ?_
  simp(disch:=omega)only[↓qXX]
  refine bZ hopp ?_
  simp(disch:=omega)only[↓qXX]
  refine ah c1 ?_
  simp only[mvl,qao,qam]
  simp(disch:=omega)only[↓qXX]
  refine ah c2 ?_
  simp only[mvl,qao,qam]
  simp(disch:=omega)only[↓qXX]
  refine ah hth ?_
  simp only[mvl,qao,qam]
  simp(disch:=omega)only[↓qXX]
  refine ah c1 ?_
  simp only[mvl,qao,qam]
  simp(disch:=omega)only[↓qXX]
  refine bZ d1 ?_
  simp(disch:=omega)only[↓qXX]
  refine bZ e1 ?_
  simp(disch:=omega)only[↓qXX]
  refine eC q1 ?_
  refine eC e3 ?_
  rw[p_neq_f (by rw[hlen1])]
  simp(disch:=omega)only[↓qXX]
  refine de (σ:=Unit) (4*w*v) (λj _=>[.i (Int.ofNat j)]) (λ_ _=>h3) (λ_ _=>True) (j0:=0) (s0:=()) rfl rfl (qbB _) trivial ?_
  rintro j _ hj _ self hself
  simp(disch:=omega)only[↓qXX]
  refine eC q1 ?_
  by_cases hlt:j<4*w*v
  ·rw[cS (by rw[qf];exact hlt)]
   simp(disch:=omega)only[↓qXX]
   have hg:=tt (G:=G) (r:=m1) hlt
   have hg2:=tt (G:=G) (r:=bp m1 m2) hlt
   refine dg q1 rfl hg ?_
   unfold encM
   simp(disch:=omega)only[↓qXX]
   refine ah c2 ?_
   simp only[mvl,qao,qam]
   simp(disch:=omega)only[↓qXX]
   have hgo:okM (200+200) (bp (G j) m1):=eH (hGk j hlt) hm1
   refine ah (vp hgo hm2 (by omega)) ?_
   simp only[mvl,qao,qam]
   simp(disch:=omega)only[↓qXX]
   refine dg e3 rfl hg2 ?_
   unfold encM
   simp(disch:=omega)only[↓qXX]
   rw[eqsM,decide_eq_true (show bp (G j) (bp m1 m2)=bp (bp (G j) m1) m2 from(ew (hG.lt hs.sh hG0 j hlt) hm1.1 hm2.1).symm)]
   simp(disch:=omega)only[↓qXX,qbi,qar,if_false]
   rw[ii (by omega)]
   exact hself () hlt trivial
  ·obtain rfl:j=4*w*v:=by omega
   rw[dC (by rw[qf];exact qaA _)]
   simp(disch:=omega)only[↓qXX]
   refine bZ (lives10 _) ?_
   simp(disch:=omega)only[↓qXX])
 exact⟨h',hc⟩
end Go.Am

/-
 ARGUMENTS WITHOUT ADDRESSES,as the row reads them.
-/
namespace Go.Am
namespace Sx
open Go.ChangeShapes Go.WideShapes Go.ChangeAt Go.WideMaps Go.WideElems Go.RowKit
def FitC:List LK->List Value->Prop
 | [],[]=>True
 | .i k :: ks,v :: vs=>(∃n,v = .int k n/\(Lit.int k n).wf=true)/\FitC ks vs
 | .b :: ks,v :: vs=>(∃t,v = .bool t)/\FitC ks vs
 |_,_=>False
def FitL:List LK->List Lf->Prop
 | [],[]=>True
 | .i k :: ks,.i n :: ls=>(Lit.int k n).wf=true/\FitL ks ls
 | .b :: ks,.b _ :: ls=>FitL ks ls
 |_,_=>False
theorem FitC.len:∀ {ks:List LK} {vs:List Value},FitC ks vs->vs.length=ks.length
 | [],[],_=>rfl
 | .i k :: ks,v :: vs,h=>by simp[FitC.len h.2]
 | .b :: ks,v :: vs,h=>by simp[FitC.len h.2]
 | .v :: _,_,h=>by cases h
 | [],_ :: _,h=>by cases h
 | .i _ :: _,[],h=>by cases h
 | .b :: _,[],h=>by cases h
theorem FitC.app:∀ {ks ks':List LK} {vs vs':List Value},FitC ks vs->FitC ks' vs'->FitC (ks++ks') (vs++vs')
 | [],_,[],_,_,h=>h
 | .i k :: ks,_,v :: vs,_,h,h'=>⟨h.1,FitC.app h.2 h'⟩
 | .b :: ks,_,v :: vs,_,h,h'=>⟨h.1,FitC.app h.2 h'⟩
 | .v :: _,_,_,_,h,_=>by cases h
 | [],_,_ :: _,_,h,_=>by cases h
 | .i _ :: _,_,[],_,h,_=>by cases h
 | .b :: _,_,[],_,h,_=>by cases h
theorem FitL.app:∀ {ks ks':List LK} {vs vs':List Lf},FitL ks vs->FitL ks' vs'->FitL (ks++ks') (vs++vs')
 | [],_,[],_,_,h=>h
 | .i k :: ks,_,.i v :: vs,_,h,h'=>⟨h.1,FitL.app h.2 h'⟩
 | .b :: ks,_,.b v :: vs,_,h,h'=>FitL.app (ks:=ks) h h'
 | .v :: _,_,_,_,h,_=>by cases h
 | [],_,_ :: _,_,h,_=>by cases h
 | .i _ :: _,_,[],_,h,_=>by cases h
 | .b :: _,_,[],_,h,_=>by cases h
 | .i _ :: _,_,.b _ :: _,_,h,_=>by cases h
 | .i _ :: _,_,.v _ :: _,_,h,_=>by cases h
 | .b :: _,_,.i _ :: _,_,h,_=>by cases h
 | .b :: _,_,.v _ :: _,_,h,_=>by cases h
theorem FitC.sl:∀ {ks:List LK} {vs:List Value},FitC ks vs->∃xs:List SL,xs.map SL.val=vs/\aI xs ks=true/\(∀x∈xs,x.good)/\FitL ks (xs.map SL.lf)
 | [],[],_=>⟨[],rfl,rfl,λ_ h=>(by cases h),trivial⟩
 | .i k :: ks,v :: vs,h=>by
  obtain⟨⟨n,rfl,hw⟩,h2⟩:=h
  obtain⟨xs,a,b,c,d⟩:=FitC.sl h2
  exact⟨.i k n :: xs,by simp[a,SL.val],by simp[aI,b,SL.is,dc],λx hx=>by
   rcases qaj.1 hx with rfl|hx
   ·trivial
   ·exact c x hx,hw,d⟩
 | .b :: ks,v :: vs,h=>by
  obtain⟨⟨n,rfl⟩,h2⟩:=h
  obtain⟨xs,a,b,c,d⟩:=FitC.sl h2
  exact⟨.b n :: xs,by simp[a,SL.val],by simp[aI,b,SL.is],λx hx=>by
   rcases qaj.1 hx with rfl|hx
   ·trivial
   ·exact c x hx,d⟩
 | .v :: _,_,h=>by cases h
 | [],_ :: _,h=>by cases h
 | .i _ :: _,[],h=>by cases h
 | .b :: _,[],h=>by cases h
def flatF(F:TypeId->Option (List LK)):List Field->Nat->Option (List LK)
 | [],_=>some []
 |f :: fs,off=>match Nat.beq f.offset off,F f.type with
  |true,some ks=>(flatF F fs (off+ks.length)).map (ks ++ ·)
  |_,_=>none
def flatT(P:Program):Nat->TypeId->Option (List LK)
 |0,_=>none
 |d+1,t=>match P.underlying t with
  |some (.int k)=>some [.i k]
  |some .bool=>some [.b]
  |some (.struct fs)=>match flatF (flatT P d) fs.toList 0 with
   |some ks=>match Nat.beq ks.length (P.cellsOf t)with
    |true=>some ks
    |false=>none
   |none=>none
  |_=>none
section
variable {H:Type} {enc:TypeId×Value->H} {P:Program}
theorem jl{α:Type}(l:List α)(c:Nat):l.take (l.take c).length=l.take c:=by
 rw[qaY]
 rcases Nat.le_total c l.length with h|h
 ·rw[qce h]
 ·rw[qcy h,qaM h,qaM (qaA _)]
theorem ul{F:TypeId->Option (List LK)}{w:World}{base:Nat}{sp:Nat->Bool}{held:Bool}{fuel:Nat}
  (hF:∀t ks,F t=some ks->∀cs (x:DataW H×List MemPlace),DataW.trod enc P w base sp held fuel t cs=some x->x.2=[]/\FitC ks cs/\∀w' b' s' h',DataW.trod enc P w' b' s' h' fuel t cs=some x) (cs:List Value) :
  ∀(fs:List Field) (off:Nat) (ks:List LK) (xs:List (DataW H×List MemPlace)),flatF F fs off=some ks->fs.mapM (λf=>DataW.trod enc P w base sp held fuel f.type ((cs.drop f.offset).take (P.cellsOf f.type)))=some xs->
   xs.flatMap (·.2)=[]/\FitC ks ((cs.drop off).take ks.length)/\∀w' b' s' h',fs.mapM (λf=>DataW.trod enc P w' b' s' h' fuel f.type ((cs.drop f.offset).take (P.cellsOf f.type)))=some xs
 | [],off,ks,xs,h1,h2=>by
  simp only[flatF,qau]at h1
  subst h1
  simp only[qdu,qdo,qau]at h2
  subst h2
  refine⟨rfl,by simp[FitC],λ_ _ _ _=>by simp⟩
 |f :: fs,off,ks,xs,h1,h2=>by
  simp only[flatF]at h1
  split at h1
  ·rename_i k1 e1 e2
   obtain⟨k2,e3,rfl⟩:=qad.1 h1
   have e1:=qac e1
   rw[qb3]at h2
   obtain⟨x,h3,h2⟩:=qap.1 h2
   obtain⟨ys,h4,h2⟩:=qap.1 h2
   cases h2
   obtain⟨a1,a2,a3⟩:=hF _ _ e2 _ _ h3
   obtain⟨b1,b2,b3⟩:=ul hF cs fs _ k2 ys e3 h4
   refine⟨by simp[a1,b1],?_,λw' b' s' h'=>?_⟩
   ·rw[qaO,qdt]
    refine FitC.app ?_ (by rw[qbS];exact b2)
    have hl:=FitC.len a2
    rw[e1]at a2 hl
    rw[←hl,jl]
    exact a2
   ·rw[qb3,a3 w' b' s' h',b3 w' b' s' h']
    rfl
  ·cases h1
theorem pJ:∀(d:Nat) (t:TypeId) (ks:List LK),flatT P d t=some ks->∀(w:World) (base:Nat) (sp:Nat->Bool) (held:Bool) (fuel:Nat) (cs:List Value) (x:DataW H×List MemPlace),DataW.trod enc P w base sp held fuel t cs=some x->
  x.2=[]/\FitC ks cs/\∀w' b' s' h',DataW.trod enc P w' b' s' h' fuel t cs=some x
 |0,_,_,h=>by cases h
 |d+1,t,ks,h=>by
  intro w base sp held fuel cs x hx
  simp only[flatT]at h
  split at h
  ·rename_i k e
   cases h
   obtain⟨n,rfl,rfl,hw⟩:=DataW.trod_int e hx
   refine⟨rfl,⟨⟨n,rfl,hw⟩,trivial⟩,λw' b' s' h'=>?_⟩
   cases fuel with
   |zero=>simp[DataW.trod]at hx
   |succ m=>simp[DataW.trod,e,hw]
  ·rename_i e
   cases h
   obtain⟨n,rfl,rfl⟩:=DataW.trod_bool e hx
   refine⟨rfl,⟨⟨n,rfl⟩,trivial⟩,λw' b' s' h'=>?_⟩
   cases fuel with
   |zero=>simp[DataW.trod]at hx
   |succ m=>simp[DataW.trod,e]
  ·rename_i fs e
   split at h
   ·rename_i k2 e2
    split at h
    ·rename_i e3
     cases h
     have e3:=qac e3
     cases fuel with
     |zero=>simp[DataW.trod]at hx
     |succ m=>
      simp only[DataW.trod,e]at hx
      split at hx
      ·rename_i hl
       obtain⟨xs,h5,rfl⟩:=qad.1 hx
       obtain⟨a1,a2,a3⟩:=ul (λt ks h cs x hx=>pJ d t ks h w base sp held m cs x hx) cs fs.toList 0 ks xs e2 h5
       rw[qaG,qaM (by omega)]at a2
       refine⟨a1,a2,λw' b' s' h'=>?_⟩
       simp only[DataW.trod,e,hl,if_true]
       rw[a3 w' b' s' h']
       rfl
      ·cases hx
    ·cases h
   ·cases h
  ·cases h
end
section
variable [Val]
end
end Sx
end Go.Am
namespace Go.Am
namespace Sx
theorem FitL.i{k:IntKind}{ks:List LK}{ls:List Lf}(h:FitL (.i k :: ks) ls):∃n r,ls = .i n :: r/\(Lit.int k n).wf=true/\FitL ks r:=by
 match ls,h with
 | .i n :: r,h=>exact⟨n,r,rfl,h.1,h.2⟩
theorem FitL.b{ks:List LK}{ls:List Lf}(h:FitL (.b :: ks) ls):∃n r,ls = .b n :: r/\FitL ks r:=by
 match ls,h with
 | .b n :: r,h=>exact⟨n,r,rfl,h⟩
theorem FitL.nil{ls:List Lf}(h:FitL [] ls):ls=[]:=by
 match ls,h with
 | [],_=>rfl
theorem wt{n:Int}(h:(Lit.int .u8 n).wf=true):0<=n/\n<=255:=by
 simp only[Lit.wf,qaa,decide_eq_true_eq]at h
 exact h
theorem wf_i8{n:Int}(h:(Lit.int .i8 n).wf=true):-128<=n/\n<=127:=by
 simp only[Lit.wf,qaa,decide_eq_true_eq]at h
 exact h
theorem nb{H:Type}{enc:TypeId×Value->H}{P:Program}{w:World}{base:Nat}{sp:Nat->Bool}{held:Bool}:∀ {ts:List TypeId} {vs:List Value} {ds:List (DataW H)} {ps:List MemPlace},DataW.TrodAll enc P w base sp held ts vs ds ps->ds.length=ts.length
 | [],[],[],_,_=>rfl
 |_ :: _,_ :: _,_ :: _,_,h=>by
  obtain⟨p,q,_,h2,_⟩:=h
  simp[nb h2]
 | [],_ :: _,_,_,h=>by cases h
 | [],[],_ :: _,_,h=>by cases h
 |_ :: _,[],_,_,h=>by cases h
 |_ :: _,_ :: _,[],_,h=>by cases h
end Sx
end Go.Am

/-
 ARGUMENTS WITH SLICES,as the row reads them: what is known of them at first.
-/
set_option maxRecDepth 100000
namespace Go.Am
namespace Sx
open Go.ChangeShapes Go.WideShapes Go.ChangeAt Go.WideMaps Go.WideElems Go.RowKit
inductive CK2 where
 |i (k:IntKind)
 |b
 |s (ks:List LK)
def CK2.lk:CK2->LK
 | .i k=>.i k
 | .b=>.b
 | .s _=>.v
def SlFit(w:World)(ks:List LK)(v:Value):Prop:=
 v = .slice none 0 0∨∃(a:Addr) (len cap:Nat) (c:Array Value) (t:TypeId) (fr:Nat×Nat) (cells:List Value),v = .slice (some a) len cap/\a.spot=none/\len<=cap/\cap<=maxLen/\
  w.heap[a.block]? = some (.cells c t fr)/\(cap=0∨a.off+cap*ks.length<=c.size)/\cells.length=len*ks.length/\(∀(i:Nat) v,cells[i]? = some v->c[a.off+i]? = some v)/\
  ∀i,i<len->FitC ks ((cells.drop (i*ks.length)).take ks.length)
def CellFit(w:World):CK2->Value->Prop
 | .i k,v=>∃n,v = .int k n/\(Lit.int k n).wf=true
 | .b,v=>∃t,v = .bool t
 | .s ks,v=>SlFit w ks v
def dp(w:World):List CK2->List Value->Prop
 | [],[]=>True
 |k :: ks,v :: vs=>CellFit w k v/\dp w ks vs
 |_,_=>False
def aY(h:HL):List CK2->List Lf->Prop
 | [],[]=>True
 | .i k :: ks,.i n :: ls=>(Lit.int k n).wf=true/\aY h ks ls
 | .b :: ks,.b _ :: ls=>aY h ks ls
 | .s es :: ks,.v x :: ls=>(∃n cells,SlC h x es.length n cells/\n<=maxLen/\∀i,i<n->FitC es ((cells.drop (i*es.length)).take es.length))/\aY h ks ls
 |_,_=>False
theorem dp.len{w:World}:∀ {ks:List CK2} {vs:List Value},dp w ks vs->vs.length=ks.length
 | [],[],_=>rfl
 |_ :: _,_ :: _,h=>by simp[dp.len h.2]
 | [],_ :: _,h=>by cases h
 |_ :: _,[],h=>by cases h
theorem dp.app{w:World}:∀ {ks ks':List CK2} {vs vs':List Value},dp w ks vs->dp w ks' vs'->dp w (ks++ks') (vs++vs')
 | [],_,[],_,_,h=>h
 |_ :: _,_,_ :: _,_,h,h'=>⟨h.1,dp.app h.2 h'⟩
 | [],_,_ :: _,_,h,_=>by cases h
 |_ :: _,_,[],_,h,_=>by cases h
theorem aY.app{h:HL}:∀ {ks ks':List CK2} {vs vs':List Lf},aY h ks vs->aY h ks' vs'->aY h (ks++ks') (vs++vs')
 | [],_,[],_,_,h=>h
 | .i _ :: ks,_,.i _ :: _,_,h,h'=>⟨h.1,aY.app (ks:=ks) h.2 h'⟩
 | .b :: ks,_,.b _ :: _,_,h,h'=>aY.app (ks:=ks) h h'
 | .s _ :: ks,_,.v _ :: _,_,h,h'=>⟨h.1,aY.app (ks:=ks) h.2 h'⟩
 | [],_,_ :: _,_,h,_=>by cases h
 | .i _ :: _,_,[],_,h,_=>by cases h
 | .b :: _,_,[],_,h,_=>by cases h
 | .s _ :: _,_,[],_,h,_=>by cases h
 | .i _ :: _,_,.b _ :: _,_,h,_=>by cases h
 | .i _ :: _,_,.v _ :: _,_,h,_=>by cases h
 | .b :: _,_,.i _ :: _,_,h,_=>by cases h
 | .b :: _,_,.v _ :: _,_,h,_=>by cases h
 | .s _ :: _,_,.i _ :: _,_,h,_=>by cases h
 | .s _ :: _,_,.b _ :: _,_,h,_=>by cases h
def ckF(F:TypeId->Option (List CK2)):List Field->Nat->Option (List CK2)
 | [],_=>some []
 |f :: fs,off=>match Nat.beq f.offset off,F f.type with
  |true,some ks=>(ckF F fs (off+ks.length)).map (ks ++ ·)
  |_,_=>none
def kby:LK->Nat
 | .i .i64=>8
 |_=>0
def kbs:List LK->Nat
 | []=>0
 |k :: ks=>kby k+kbs ks
def ckT(P:Program):Nat->TypeId->Option (List CK2)
 |0,_=>none
 |d+1,t=>match P.underlying t with
  |some (.int k)=>some [.i k]
  |some .bool=>some [.b]
  |some (.slice e)=>match flatT P 20 e with
   |some ks=>match Nat.beq (P.cellsOf e) ks.length&&Nat.blt 0 ks.length&&Nat.ble (kbs ks) (P.bytesOf e)with
    |true=>some [.s ks]
    |false=>none
   |none=>none
  |some (.struct fs)=>match ckF (ckT P d) fs.toList 0 with
   |some ks=>match Nat.beq ks.length (P.cellsOf t)with
    |true=>some ks
    |false=>none
   |none=>none
  |_=>none
section
variable {H:Type} {enc:TypeId×Value->H} {P:Program}
def Lies(w:World)(v:Value):Prop:=∀a len cap,v = .slice (some a) len cap->a.spot=none/\∃c t fr,w.heap[a.block]? = some (.cells c t fr)
theorem ig{α β:Type}{f g:α->Option β}:∀ {l:List α},(∀x∈l,f x=g x)->l.mapM f=l.mapM g
 | [],_=>rfl
 |a :: l,h=>by
  rw[qb3,qb3,h a qaK,ig λx hx=>h x (qaq _ hx)]
theorem bk{a:Addr}(h:a.spot=none)(i:Nat):a.add i=⟨a.block,a.off+i,none⟩:=by
 obtain⟨b,o,s⟩:=a
 cases h
 unfold Addr.add
 simp
theorem slice_ok{w:World}{t e:TypeId}{ks:List LK}(ht:P.underlying t=some (.slice e))(he:flatT P 20 e=some ks)(hc:P.cellsOf e=ks.length)(h0:0<ks.length){base:Nat}(hbase:base=0){held:Bool}{fuel:Nat}{cs:List Value}{x:DataW H×List MemPlace}
  (hx:DataW.trod enc P w base (λ_=>true) held fuel t cs=some x) (hl:∀v∈cs,Lies w v) :
  ∃v,cs=[v]/\SlFit w ks v/\∀(w':World) (s':Nat->Bool),(∀b,b<w.heap.size->w'.heap[b]? = w.heap[b]?)->(∀b,b<w.heap.size->s' b=true)->DataW.trod enc P w' base s' held fuel t cs=some x:=by
 subst hbase
 have hx0:=hx
 rcases DataW.trod_slice ht hx with⟨rfl,rfl⟩|⟨a,len,cap,elems,rest,n,rfl,rfl,rfl,hb,hlc,hm,hlen,hel,hsp,_⟩
 ·refine⟨_,rfl,.inl rfl,λw' s' _ _=>?_⟩
  cases fuel with
  |zero=>simp[DataW.trod]at hx
  |succ m=>simp[DataW.trod,ht]
 ·obtain⟨hs,c,t',fr,hblk⟩:=hl _ qaK a len cap rfl
  obtain⟨hrl,hr⟩:=hsp rfl
  rw[hc]at hel hr
  have hlt:a.block<w.heap.size:=by
   rcases qaz a.block w.heap.size with h|h
   ·exact h
   ·rw[qa5 h]at hblk;cases hblk
  have each:∀i,i<cap->∃ci y,w.cells? 0 (a.add (i*ks.length)) ks.length=some ci/\DataW.trod enc P w 0 (λ_=>true) held n e ci=some y/\(elems++rest)[i]? = some y:=by
   intro i hi
   by_cases h1:i<len
   ·have h2:=hel i h1
    have h3:elems[i]? = some elems[i]:=qaE (by omega)
    rw[h3]at h2
    obtain⟨ci,h4,h5⟩:=qap.1 h2
    exact⟨ci,_,h4,h5,by rw[qae (by omega)];exact h3⟩
   ·have h2:=hr (i - len) (by omega)
    rw[show len+(i - len)=i by omega]at h2
    have h3:rest[i - len]? = some (rest[i - len]'(by omega)):=qaE (by omega)
    rw[h3]at h2
    obtain⟨ci,h4,h5⟩:=qap.1 h2
    exact⟨ci,_,h4,h5,by rw[qak (by omega),hlen];exact h3⟩
  have rd:∀i,i<cap->∀j,j<ks.length->∀ci,w.cells? 0 (a.add (i*ks.length)) ks.length=some ci->c[a.off+i*ks.length+j]? = ci[j]?:=by
   intro i hi j hj ci hci
   have h1:=(World.cells?_some hci).2.2 j hj
   rw[bk hs,bk rfl]at h1
   rw[←h1]
   unfold World.cell?
   simp[hblk]
  have hsz:cap=0∨a.off+cap*ks.length<=c.size:=by
   by_cases hcap:cap=0
   ·exact .inl hcap
   ·right
    obtain⟨ci,y,h1,_,_⟩:=each (cap - 1) (by omega)
    have h2:=rd (cap - 1) (by omega) (ks.length - 1) (by omega) ci h1
    have hcl:=(World.cells?_some h1).2.1
    rw[qaE (by omega)]at h2
    have h3:=(qaF.1 h2).1
    have h4:cap*ks.length=(cap - 1)*ks.length+ks.length:=by
     rw[←Nat.succ_mul];congr 1;omega
    omega
  have hsz2:a.off+len*ks.length<=c.size∨len=0:=by
   rcases hsz with h|h
   ·right;omega
   ·left
    have:=qbg ks.length hlc
    omega
  refine⟨_,rfl,.inr ⟨a,len,cap,c,t',fr,(c.toList.drop a.off).take (len*ks.length),rfl,hs,hlc,hm,hblk,hsz,?_,?_,?_⟩,?_⟩
  ·rw[qaY,qbY]
   have hcz:c.toList.length=c.size:=qcA
   rcases hsz2 with h|h
   ·omega
   ·subst h;omega
  ·intro i v hv
   rw[qbw]at hv
   split at hv
   ·rw[qbd]at hv
    simpa using hv
   ·cases hv
  ·intro i hi
   obtain⟨ci,y,h1,h2,_⟩:=each i (by omega)
   obtain⟨_,h3,_⟩:=pJ 20 e ks he w 0 _ held n ci y h2
   have hcl:=(World.cells?_some h1).2.1
   have:(((c.toList.drop a.off).take (len*ks.length)).drop (i*ks.length)).take ks.length=ci:=by
    apply qbc
    intro j
    by_cases hj:j<ks.length
    ·have hle:i*ks.length+ks.length<=len*ks.length:=by
      have:=qbg ks.length (show i+1<=len by omega)
      rw[qbu,qca]at this;exact this
     rw[qbw,if_pos hj,qbd,qbw,if_pos (by omega),qbd,←rd i (by omega) j hj ci h1]
     rw[qcr,qbE]
    ·rw[qai (by rw[qaY];omega),qai (by omega)]
   rw[this];exact h3
  ·intro w' s' hw hs'
   have hcell:∀i,i<cap->w'.cells? 0 (a.add (i*ks.length)) ks.length=w.cells? 0 (a.add (i*ks.length)) ks.length:=by
    intro i hi
    unfold World.cells?
    have:∀j,w'.cell? ((a.add (i*ks.length)).add j)=w.cell? ((a.add (i*ks.length)).add j):=by
     intro j
     rw[bk hs,bk rfl]
     unfold World.cell?
     rw[hw _ hlt]
    simp only[this]
   have el:∀i,i<cap->(w'.cells? 0 (a.add (i*P.cellsOf e)) (P.cellsOf e)).bind (DataW.trod enc P w' 0 s' held n e)=(elems++rest)[i]?:=by
    intro i hi
    rw[hc,hcell i hi]
    obtain⟨ci,y,h1,h2,h3⟩:=each i hi
    rw[h1,h3,qah]
    exact(pJ 20 e ks he w 0 _ held n ci y h2).2.2 w' 0 s' held
   have el0:∀i,i<cap->(w.cells? 0 (a.add (i*P.cellsOf e)) (P.cellsOf e)).bind (DataW.trod enc P w 0 (λ_=>true) held n e)=(elems++rest)[i]?:=by
    intro i hi
    rw[hc]
    obtain⟨ci,y,h1,h2,h3⟩:=each i hi
    rw[h1,h3,qah]
    exact h2
   unfold DataW.trod at hx0 ⊢
   simp only[ht]at hx0 ⊢
   rw[if_pos ⟨qbB _,hlc,hm⟩]at hx0 ⊢
   rw[ig (λi hi=>(el i (by have:=qal.1 hi;omega)).trans (el0 i (by have:=qal.1 hi;omega)).symm)]
   rw[ig (l:=List.range (cap - len)) (λj hj=>(el (len+j) (by have:=qal.1 hj;omega)).trans (el0 (len+j) (by have:=qal.1 hj;omega)).symm)]
   rw[hs' _ hlt]
   exact hx0
theorem ckF_ok{F:TypeId->Option (List CK2)}{w:World}{held:Bool}{fuel:Nat}(cs:List Value)(hl:∀v∈cs,Lies w v)
  (hF:∀t ks,F t=some ks->∀cs (x:DataW H×List MemPlace),(∀v∈cs,Lies w v)->DataW.trod enc P w 0 (λ_=>true) held fuel t cs=some x->dp w ks cs/\∀(w':World) (s':Nat->Bool),(∀b,b<w.heap.size->w'.heap[b]? = w.heap[b]?)->(∀b,b<w.heap.size->s' b=true)->DataW.trod enc P w' 0 s' held fuel t cs=some x) :
  ∀(fs:List Field) (off:Nat) (ks:List CK2) (xs:List (DataW H×List MemPlace)),ckF F fs off=some ks->fs.mapM (λf=>DataW.trod enc P w 0 (λ_=>true) held fuel f.type ((cs.drop f.offset).take (P.cellsOf f.type)))=some xs->
   dp w ks ((cs.drop off).take ks.length)/\∀(w':World) (s':Nat->Bool),(∀b,b<w.heap.size->w'.heap[b]? = w.heap[b]?)->(∀b,b<w.heap.size->s' b=true)->fs.mapM (λf=>DataW.trod enc P w' 0 s' held fuel f.type ((cs.drop f.offset).take (P.cellsOf f.type)))=some xs
 | [],off,ks,xs,h1,h2=>by
  simp only[ckF,qau]at h1
  subst h1
  simp only[qdu,qdo,qau]at h2
  subst h2
  refine⟨by simp[dp],λ_ _ _ _=>by simp⟩
 |f :: fs,off,ks,xs,h1,h2=>by
  simp only[ckF]at h1
  split at h1
  ·rename_i k1 e1 e2
   obtain⟨k2,e3,rfl⟩:=qad.1 h1
   have e1:=qac e1
   rw[qb3]at h2
   obtain⟨x,h3,h2⟩:=qap.1 h2
   obtain⟨ys,h4,h2⟩:=qap.1 h2
   cases h2
   obtain⟨a2,a3⟩:=hF _ _ e2 _ _ (λv hv=>hl v (qbF (qbA hv))) h3
   obtain⟨b2,b3⟩:=ckF_ok cs hl hF fs _ k2 ys e3 h4
   refine⟨?_,λw' s' hw hs'=>?_⟩
   ·rw[qaO,qdt]
    refine dp.app ?_ (by rw[qbS];exact b2)
    have hl:=dp.len a2
    rw[e1]at a2 hl
    rw[←hl,jl]
    exact a2
   ·rw[qb3,a3 w' s' hw hs',b3 w' s' hw hs']
    rfl
  ·cases h1
theorem ckT_ok:∀(d:Nat) (t:TypeId) (ks:List CK2),ckT P d t=some ks->∀(w:World) (held:Bool) (fuel:Nat) (cs:List Value) (x:DataW H×List MemPlace),(∀v∈cs,Lies w v)->DataW.trod enc P w 0 (λ_=>true) held fuel t cs=some x->
  dp w ks cs/\∀(w':World) (s':Nat->Bool),(∀b,b<w.heap.size->w'.heap[b]? = w.heap[b]?)->(∀b,b<w.heap.size->s' b=true)->DataW.trod enc P w' 0 s' held fuel t cs=some x
 |0,_,_,h=>by cases h
 |d+1,t,ks,h=>by
  intro w held fuel cs x hl hx
  simp only[ckT]at h
  split at h
  ·rename_i k e
   cases h
   obtain⟨n,rfl,rfl,hw⟩:=DataW.trod_int e hx
   refine⟨⟨⟨n,rfl,hw⟩,trivial⟩,λw' s' _ _=>?_⟩
   cases fuel with
   |zero=>simp[DataW.trod]at hx
   |succ m=>simp[DataW.trod,e,hw]
  ·rename_i e
   cases h
   obtain⟨n,rfl,rfl⟩:=DataW.trod_bool e hx
   refine⟨⟨⟨n,rfl⟩,trivial⟩,λw' s' _ _=>?_⟩
   cases fuel with
   |zero=>simp[DataW.trod]at hx
   |succ m=>simp[DataW.trod,e]
  ·rename_i e e0
   split at h
   ·rename_i k2 e2
    split at h
    ·rename_i e3
     cases h
     simp only[qaa,qaV]at e3
     obtain⟨v,rfl,a2,a3⟩:=slice_ok e0 e2 (qac e3.1.1) e3.1.2 rfl hx hl
     exact⟨⟨a2,trivial⟩,a3⟩
    ·cases h
   ·cases h
  ·rename_i fs e
   split at h
   ·rename_i k2 e2
    split at h
    ·rename_i e3
     cases h
     have e3:=qac e3
     cases fuel with
     |zero=>simp[DataW.trod]at hx
     |succ m=>
      simp only[DataW.trod,e]at hx
      split at hx
      ·rename_i hlen
       obtain⟨xs,h5,rfl⟩:=qad.1 hx
       obtain⟨a2,a3⟩:=ckF_ok cs hl (λt ks h cs x hl hx=>ckT_ok d t ks h w held m cs x hl hx) fs.toList 0 ks xs e2 h5
       rw[qaG,qaM (by omega)]at a2
       refine⟨a2,λw' s' hw hs'=>?_⟩
       simp only[DataW.trod,e,hlen,if_true]
       rw[a3 w' s' hw hs']
       rfl
      ·cases hx
    ·cases h
   ·cases h
  ·cases h
abbrev Blk2:=HObj×Option Pl
def qF(w:World)(b:Blk2):Prop:=b.1 = .dead∨∃vs e p c t fr,b.1 = .cells vs e false/\b.2=some p/\p.esz=e/\vs.all flat=true/\vs.all aM=true/\vs.length<=p.room/\w.heap[p.b]? = some (.cells c t fr)/\c.size=p.o+p.room/\∀(i:Nat) v,vs[i]? = some v->c[p.o+i]? = some v
theorem lZ:∀ {ks:List LK} {vs:List Value},FitC ks vs->vs.all flat=true/\vs.all aM=true
 | [],[],_=>⟨rfl,rfl⟩
 | .i k :: ks,v :: vs,h=>by
  obtain⟨⟨n,rfl,_⟩,h2⟩:=h
  obtain⟨a,b⟩:=lZ h2
  exact⟨by simp[a,flat,eA,scalar],by simp[b];rfl⟩
 | .b :: ks,v :: vs,h=>by
  obtain⟨⟨n,rfl⟩,h2⟩:=h
  obtain⟨a,b⟩:=lZ h2
  exact⟨by simp[a,flat,eA,scalar],by simp[b];rfl⟩
 | .v :: _,_,h=>by cases h
 | [],_ :: _,h=>by cases h
 | .i _ :: _,[],h=>by cases h
 | .b :: _,[],h=>by cases h
theorem sE{ks:List LK}(hk:0<ks.length){cells:List Value}{n:Nat}(hl:cells.length=n*ks.length)(h:∀i,i<n->FitC ks ((cells.drop (i*ks.length)).take ks.length)):cells.all flat=true/\cells.all aM=true:=by
 have main:∀j,j<cells.length->∃v,cells[j]? = some v/\flat v=true/\aM v=true:=by
  intro j hj
  have h1:j / ks.length<n:=by
   rw[Nat.div_lt_iff_lt_mul hk];omega
  obtain⟨a,b⟩:=lZ (h _ h1)
  have hm:=qb5 j hk
  have hd:=Nat.div_add_mod j ks.length
  have hmem:((cells.drop (j / ks.length*ks.length)).take ks.length)[j%ks.length]? = some cells[j]:=by
   rw[qbw,if_pos hm,qbd]
   rw[show j / ks.length*ks.length+j%ks.length=j by rw[Nat.mul_comm];exact hd]
   exact qaE hj
  exact⟨_,qaE hj,qab.1 a _ (qag hmem),qab.1 b _ (qag hmem)⟩
 constructor<;>
 ·rw[qab]
  intro v hv
  obtain⟨j,hj⟩:=qbk hv
  have hlt:j<cells.length:=by
   rcases qaz j cells.length with h|h
   ·exact h
   ·rw[qai h]at hj;cases hj
  obtain⟨v',h1,h2,h3⟩:=main j hlt
  rw[hj]at h1
  cases h1
  first|exact h2|exact h3
section
variable [Val] [Glo]
theorem cell_abs{w:World}{ck:CK2}{v:Value}(hp:∀ks,ck = .s ks->0<ks.length)(h:CellFit w ck v)(n0:Nat):∃(x:SL) (bl:List Blk2),(∀b∈bl,qF w b)/\x.is ck.lk=true/\x.good/\
  (∀mu:HMap,(∀(i:Nat) b,bl[i]? = some b->mu (n0+i)=b.2)->VR noL mu x.val v)/\∀hp:HL,(∀(i:Nat) b,bl[i]? = some b->hp[n0+i]? = some (.o b.1))->aY hp [ck] [x.lf]:=by
 cases ck with
 |i k=>
  obtain⟨n,rfl,hw⟩:=h
  exact⟨.i k n,[],by simp,by simp[SL.is,CK2.lk,dc],trivial,λmu _=>.scalar rfl,λhp _=>⟨hw,trivial⟩⟩
 |b=>
  obtain⟨t,rfl⟩:=h
  exact⟨.b t,[],by simp,rfl,trivial,λmu _=>.scalar rfl,λhp _=>trivial⟩
 |s ks=>
  have hk:=hp ks rfl
  rcases h with rfl|⟨a,len,cap,c,t,fr,cells,rfl,hs,hlc,hm,hblk,hsz,hcl,hget,hfit⟩
  ·refine⟨.v (.slice none 0 0),[],by simp,rfl,rfl,λmu _=>.scalar rfl,λhp _=>⟨⟨0,[],⟨by simp,.inl ⟨rfl,rfl⟩⟩,qbB _,λi hi=>by omega⟩,trivial⟩⟩
  ·obtain⟨hf1,hf2⟩:=sE hk hcl hfit
   have gd:bc (.slice (some ⟨n0,0,tag ks.length⟩) len 0)=true:=by simp[bc,noLoc,aZ,bw,bh,aQ,aD,tag]
   have ha:a=⟨a.block,a.off,none⟩:=by cases a;cases hs;rfl
   have fit:∀hp:HL,hp[n0]? = some (.o (.cells cells ks.length false))->aY hp [.s ks] [.v (.slice (some ⟨n0,0,tag ks.length⟩) len 0)]:=λhp h1=>
    ⟨⟨len,cells,⟨hcl,.inr ⟨n0,0,0,cells,false,rfl,h1,cut_all hcl⟩⟩,by omega,hfit⟩,trivial⟩
   by_cases hcap:cap=0
   ·subst hcap
    obtain rfl:len=0:=by omega
    have hce:cells=[]:=List.eq_nil_of_length_eq_zero (by omega)
    subst hce
    refine⟨.v (.slice (some ⟨n0,0,tag ks.length⟩) 0 0),[(.cells [] ks.length false,some ⟨a.block,c.size,0,ks.length⟩)],λb hb=>?_,rfl,gd,λmu _=>.hslice0 (qbB _),λhp h1=>fit hp (h1 0 _ rfl)⟩
    simp only[qaD]at hb
    subst hb
    exact .inr ⟨[],ks.length,_,c,t,fr,rfl,rfl,rfl,rfl,rfl,qbB _,hblk,by simp,λi v hv=>by simp at hv⟩
   ·have hsz:a.off+cap*ks.length<=c.size:=hsz.resolve_left hcap
    have hle:=qbg ks.length hlc
    refine⟨.v (.slice (some ⟨n0,0,tag ks.length⟩) len 0),[(.cells cells ks.length false,some ⟨a.block,a.off,c.size - a.off,ks.length⟩)],λb hb=>?_,rfl,gd,λmu h1=>?_,λhp h1=>fit hp (h1 0 _ rfl)⟩
    ·simp only[qaD]at hb
     subst hb
     exact .inr ⟨cells,ks.length,_,c,t,fr,rfl,rfl,rfl,hf1,hf2,by show cells.length<=c.size - a.off;omega,hblk,by show c.size=a.off+(c.size - a.off);omega,hget⟩
    ·have h2:=h1 0 _ rfl
     rw[ha]
     have:=VR.hslice (la:=noL) (mu:=mu) (id:=n0) (off:=0) (len:=len) (cap:=cap) (cx:=0) h2 (by show 0+cap*ks.length<=c.size - a.off;omega) hlc (.inl rfl)
     exact this
theorem qR{w:World}:∀ {cks:List CK2} {vs:List Value},(∀ks,CK2.s ks∈cks->0<ks.length)->dp w cks vs->∀n0,∃(xs:List SL) (bl:List Blk2),(∀b∈bl,qF w b)/\aI xs (cks.map CK2.lk)=true/\(∀x∈xs,x.good)/\xs.length=vs.length/\
  (∀mu:HMap,(∀(i:Nat) b,bl[i]? = some b->mu (n0+i)=b.2)->VRs noL mu (xs.map SL.val) vs)/\∀hp:HL,(∀(i:Nat) b,bl[i]? = some b->hp[n0+i]? = some (.o b.1))->aY hp cks (xs.map SL.lf)
 | [],[],_,_,n0=>⟨[],[],by simp,rfl,by simp,rfl,λmu _=>⟨rfl,λi x y h=>by simp at h⟩,λhp _=>trivial⟩
 |ck :: cks,v :: vs,hp,h,n0=>by
  obtain⟨x,bl,a1,a2,a3,a4,a5⟩:=cell_abs (λks e=>hp ks (by rw[e];exact qaK)) h.1 n0
  obtain⟨xs,bl',b1,b2,b3,b4,b5,b6⟩:=qR (λks e=>hp ks (qaq _ e)) h.2 (n0+bl.length)
  have g1:∀ {α:Type} {f:Nat->α} {g:Blk2->α},(∀(i:Nat) b,(bl++bl')[i]? = some b->f (n0+i)=g b)->(∀(i:Nat) b,bl[i]? = some b->f (n0+i)=g b)/\∀(i:Nat) b,bl'[i]? = some b->f (n0+bl.length+i)=g b:=by
   intro α f g h
   refine⟨λi b hb=>h i b ?_,λi b hb=>?_⟩
   ·rw[qae (by
     rcases qaz i bl.length with h|h
     ·exact h
     ·rw[qai h]at hb;cases hb)];exact hb
   ·rw[qbE]
    refine h _ b ?_
    rw[qak (by omega),qb2];exact hb
  refine⟨x :: xs,bl++bl',λb hb=>?_,by simp[aI,a2,b2],λy hy=>?_,by simp[b4],λmu hmu=>?_,λhp hh=>?_⟩
  ·rcases qaP.1 hb with h|h
   ·exact a1 b h
   ·exact b1 b h
  ·rcases qaj.1 hy with rfl|hy
   ·exact a3
   ·exact b3 y hy
  ·obtain⟨h1,h2⟩:=g1 (f:=mu) (g:=λb=>b.2) hmu
   have c1:=a4 mu h1
   obtain⟨c2,c3⟩:=b5 mu h2
   refine⟨by simpa using c2,λi p q hi hj=>?_⟩
   cases i with
   |zero=>
    simp only[qat,qbl,qau]at hi hj
    subst hi hj;exact c1
   |succ i=>exact c3 i p q (by simpa using hi) (by simpa using hj)
  ·obtain⟨h1,h2⟩:=g1 (f:=λi=>hp[i]?) (g:=λb=>some (HO.o b.1)) hh
   exact aY.app (a5 hp h1) (b6 hp h2)
 | [],_ :: _,_,h,_=>by cases h
 |_ :: _,[],_,h,_=>by cases h
end
end
end Sx
end Go.Am

/-
 ARGUMENTS WITH SLICES: from the row's arguments to the machine,and back.
-/
set_option maxRecDepth 100000
namespace Go.Am
namespace Sx
open Go.ChangeShapes Go.WideShapes Go.ChangeAt Go.WideMaps Go.WideElems Go.RowKit
section
variable {H:Type} {enc:TypeId×Value->H} {P:Program}
theorem mi{w:World}{r:Reach}{b0:Nat}{u:TypeId}{v:Value}(h:Cell.okWide P w r b0 u v):Lies w v:=by
 rintro a len cap rfl
 have h1:∃e,w.has P r b0 a e cap:=by
  unfold Cell.okWide at h
  split at h<;>first|(rename_i e1 e2;cases e2;done)|(rename_i e1;cases e1;done)|skip
  all_goals
   unfold Cell.ok at h
   split at h<;>first|(cases h;done)|(rename_i e1 e2;cases e2;done)|skip
   all_goals first|(rename_i heq;injection heq with q1 q2 q3;subst q2 q3;cases q1;exact⟨_,h.2.2⟩)|skip
 obtain⟨e,_,h2,row,cells,h3,_⟩:=h1
 refine⟨h2,?_⟩
 unfold World.shape? at h3
 split at h3
 ·rename_i c el fr e1
  exact⟨c,el,fr,e1⟩
 ·cases h3
theorem lies_val{w:World}{r:Reach}{b0:Nat}{t:TypeId}{v:Value}(h:Value.okWide P w r b0 t v):∀x∈v.cells.toList,Lies w x:=by
 intro x hx
 unfold Value.okWide at h
 split at h
 ·obtain⟨cs,rfl,_,ts,_,_,h2⟩:=h
  obtain⟨i,hi⟩:=qbk hx
  obtain⟨u,_,h3⟩:=h2 i x (by simpa[Value.cells]using hi)
  exact mi h3
 ·obtain⟨cs,rfl,_,ts,_,_,h2⟩:=h
  obtain⟨i,hi⟩:=qbk hx
  obtain⟨u,_,h3⟩:=h2 i x (by simpa[Value.cells]using hi)
  exact mi h3
 ·have:x=v∨∃cs,v = .agg cs:=by
   cases v<;>first|(right;exact⟨_,rfl⟩)|(left;simpa[Value.cells]using hx)
  rcases this with rfl|⟨cs,rfl⟩
  ·exact mi h
  ·exfalso
   unfold Cell.okWide at h
   split at h<;>first|(rename_i e1 e2;cases e2;done)|(rename_i e1;cases e1;done)|skip
   all_goals
    unfold Cell.ok at h
    split at h<;>first|(cases h;done)|(rename_i e1 e2;cases e2;done)|skip
def skC(P:Program)(t:TypeId)(cks:List CK2):Option SK:=
 match P.underlying t,cks with
 |some (.struct _),cks=>some (.agg (cks.map CK2.lk))
 |some (.int _),[k]=>some (.leaf k.lk)
 |some .bool,[k]=>some (.leaf k.lk)
 |some (.slice _),[k]=>some (.leaf k.lk)
 |_,_=>none
def posK(cks:List CK2):Bool:=cks.all λk=>match k with
 | .s ks=>Nat.blt 0 ks.length
 |_=>true
theorem posK_ok{cks:List CK2}(h:posK cks=true):∀ks,CK2.s ks∈cks->0<ks.length:=by
 intro ks hk
 have:=qab.1 h _ hk
 simpa[qaV]using this
section
variable [Val] [Glo]
structure Abs(W:World)(n0:Nat)(bl:List Blk2):Prop where
 ok:∀b∈bl,qF W b
abbrev MuAt(mu:HMap)(n0:Nat)(bl:List Blk2):Prop:=∀(i:Nat) b,bl[i]? = some b->mu (n0+i)=b.2
abbrev HpAt(hp:HL)(n0:Nat)(bl:List Blk2):Prop:=∀(i:Nat) b,bl[i]? = some b->hp[n0+i]? = some (.o b.1)
abbrev Stays(W W':World):Prop:=∀b,b<W.heap.size->W'.heap[b]? = W.heap[b]?
theorem open_arg2{W:World}{r:Reach}{b0:Nat}{held:Bool}{t:TypeId}{cks:List CK2}{sk:SK}{v:Value}{d:DataW H}{ps:List MemPlace}(h:ckT P 20 t=some cks)(hsk:skC P t cks=some sk)(hpos:posK cks=true)(hval:Value.okWide P W r b0 t v)(hd:DataW.Trod enc P W 0 (λ_=>true) held t v d ps)(n0:Nat) :
  ∃(x:S0) (bl:List Blk2),(∀b∈bl,qF W b)/\x.is sk=true/\x.good/\(∀mu:HMap,MuAt mu n0 bl->VR noL mu x.val v)/\(∀hp:HL,HpAt hp n0 bl->aY hp cks (x.cells.map SL.lf))/\
   ∀(W':World) (s':Nat->Bool),Stays W W'->(∀b,b<W.heap.size->s' b=true)->DataW.Trod enc P W' 0 s' held t v d ps:=by
 obtain⟨fuel,hf⟩:=hd
 obtain⟨a1,a2⟩:=ckT_ok 20 t cks h W held fuel _ _ (lies_val hval) hf
 obtain⟨xs,bl,b1,b2,b3,b4,b5,b6⟩:=qR (posK_ok hpos) a1 n0
 have close:∀(W':World) (s':Nat->Bool),Stays W W'->(∀b,b<W.heap.size->s' b=true)->DataW.Trod enc P W' 0 s' held t v d ps:=λW' s' h1 h2=>⟨fuel,a2 W' s' h1 h2⟩
 have leaf:(∀fs,P.underlying t≠some (.struct fs))->(∀n e,P.underlying t≠some (.array n e))->∀k,cks=[k]->sk = .leaf k.lk->∃(x:S0) (bl:List Blk2),(∀b∈bl,qF W b)/\x.is sk=true/\x.good/\(∀mu:HMap,MuAt mu n0 bl->VR noL mu x.val v)/\(∀hp:HL,HpAt hp n0 bl->aY hp cks (x.cells.map SL.lf))/\
   ∀(W':World) (s':Nat->Bool),Stays W W'->(∀b,b<W.heap.size->s' b=true)->DataW.Trod enc P W' 0 s' held t v d ps:=by
  rintro hs1 hs2 k rfl rfl
  have hv:v.cells.toList=[v]:=by
   have h1:=dp.len a1
   cases v with
   |agg cs=>
    exfalso
    unfold Value.okWide at hval
    split at hval
    ·rename_i e;exact hs1 _ e
    ·rename_i e;exact hs2 _ _ e
    ·unfold Cell.okWide at hval
     split at hval<;>first|(rename_i e1 e2;cases e2;done)|(rename_i e1;cases e1;done)|skip
     all_goals
      unfold Cell.ok at hval
      split at hval<;>first|(cases hval;done)|(rename_i e1 e2;cases e2;done)|skip
   |_=>simp[Value.cells]
  rw[hv]at a1 b4 b5
  obtain⟨x,rfl⟩ : ∃x,xs=[x]:=List.length_eq_one_iff.1 b4
  refine⟨.leaf x,bl,b1,?_,λl hl=>?_,λmu hmu=>?_,λhp hh=>b6 hp hh,close⟩
  ·show x.is k.lk=true
   simpa[aI]using b2
  ·simp only[S0.cells,qaD]at hl
   subst hl;exact b3 _ qaK
  ·exact(b5 mu hmu).2 0 _ _ rfl rfl
 unfold skC at hsk
 split at hsk
 ·rename_i fs e
  cases hsk
  obtain⟨cs,rfl,_⟩:=okWide_struct e hval
  refine⟨.agg xs,bl,b1,b2,b3,λmu hmu=>?_,λhp hh=>b6 hp hh,close⟩
  obtain⟨c1,c2⟩:=b5 mu hmu
  refine .agg (by simpa[Value.cells]using c1) λi x y hx hy=>c2 i x y (by simpa using hx) (by simpa[Value.cells]using hy)
 ·rename_i k e;cases hsk;exact leaf (λ_ h=>by rw[e]at h;cases h) (λ_ _ h=>by rw[e]at h;cases h) _ rfl rfl
 ·rename_i e;cases hsk;exact leaf (λ_ h=>by rw[e]at h;cases h) (λ_ _ h=>by rw[e]at h;cases h) _ rfl rfl
 ·rename_i e' e;cases hsk;exact leaf (λ_ h=>by rw[e]at h;cases h) (λ_ _ h=>by rw[e]at h;cases h) _ rfl rfl
 ·cases hsk
def argK(P:Program):List TypeId->Option (List (List CK2)×List SK)
 | []=>some ([],[])
 |t :: ts=>match ckT P 20 t,argK P ts with
  |some cks,some (l,sks)=>match skC P t cks,posK cks with
   |some sk,true=>some (cks :: l,sk :: sks)
   |_,_=>none
  |_,_=>none
theorem at_app{α:Type}{bl bl':List Blk2}{f:Nat->α}{g:Blk2->α}{n0:Nat}(h:∀(i:Nat) b,(bl++bl')[i]? = some b->f (n0+i)=g b):(∀(i:Nat) b,bl[i]? = some b->f (n0+i)=g b)/\∀(i:Nat) b,bl'[i]? = some b->f (n0+bl.length+i)=g b:=by
 refine⟨λi b hb=>h i b ?_,λi b hb=>?_⟩
 ·rw[qae (by
   rcases qaz i bl.length with h|h
   ·exact h
   ·rw[qai h]at hb;cases hb)];exact hb
 ·rw[qbE]
  refine h _ b ?_
  rw[qak (by omega),qb2];exact hb
theorem oo{W:World}{r:Reach}{b0:Nat}{held:Bool}:∀(ts:List TypeId) (l:List (List CK2)) (sks:List SK) (vs:List Value) (ds:List (DataW H)) (ps:List MemPlace) (n0:Nat),argK P ts=some (l,sks)->
  (∀(j:Nat) t v,ts[j]? = some t->vs[j]? = some v->Value.okWide P W r b0 t v)->DataW.TrodAll enc P W 0 (λ_=>true) held ts vs ds ps->
  ∃(xs:List S0) (bl:List Blk2),(∀b∈bl,qF W b)/\bu xs sks=true/\(∀x∈xs,x.good)/\(∀mu:HMap,MuAt mu n0 bl->VRs noL mu (ai xs) vs)/\(∀hp:HL,HpAt hp n0 bl->aY hp l.flatten (bF xs))/\
   ∀(W':World) (s':Nat->Bool),Stays W W'->(∀b,b<W.heap.size->s' b=true)->DataW.TrodAll enc P W' 0 s' held ts vs ds ps
 | [],l,sks,[],[],ps,n0,h,_,ht=>by
  cases h
  exact⟨[],[],by simp,rfl,by simp,λmu _=>⟨rfl,λi x y h=>by simp[ai]at h⟩,λhp _=>trivial,λ_ _ _ _=>ht⟩
 |t :: ts,l,sks,v :: vs,d :: ds,ps,n0,h,hv,ht=>by
  simp only[argK]at h
  split at h
  ·rename_i cks l' sks' e1 e2
   split at h
   ·rename_i sk e3 e4
    cases h
    obtain⟨p,q,h1,h2,rfl⟩:=ht
    obtain⟨x,bl,a1,a2,a3,a4,a5,a6⟩:=open_arg2 e1 e3 e4 (hv 0 t v rfl rfl) h1 n0
    obtain⟨xs,bl',b1,b2,b3,b4,b5,b6⟩:=oo ts l' sks' vs ds q (n0+bl.length) e2 (λj t v h1 h2=>hv (j+1) t v h1 h2) h2
    refine⟨x :: xs,bl++bl',λb hb=>?_,by simp[bu,a2,b2],λy hy=>?_,λmu hmu=>?_,λhp hh=>?_,λW' s' h1 h2=>⟨p,q,a6 W' s' h1 h2,b6 W' s' h1 h2,rfl⟩⟩
    ·rcases qaP.1 hb with h|h
     ·exact a1 b h
     ·exact b1 b h
    ·rcases qaj.1 hy with rfl|hy
     ·exact a3
     ·exact b3 y hy
    ·obtain⟨h1,h2⟩:=at_app (f:=mu) (g:=λb=>b.2) hmu
     have c1:=a4 mu h1
     obtain⟨c2,c3⟩:=b4 mu h2
     refine⟨by simpa[ai]using c2,λi p q hi hj=>?_⟩
     cases i with
     |zero=>
      simp only[ai,qat,qbl,qau]at hi hj
      subst hi hj;exact c1
     |succ i=>exact c3 i p q (by simpa[ai]using hi) (by simpa using hj)
    ·obtain⟨h1,h2⟩:=at_app (f:=λi=>hp[i]?) (g:=λb=>some (HO.o b.1)) hh
     rw[qcf]
     exact aY.app (a5 hp h1) (b5 hp h2)
   ·cases h
  ·cases h
 | [],_,_,_ :: _,_,_,_,_,_,ht=>by cases ht
 | [],_,_,[],_ :: _,_,_,_,_,ht=>by cases ht
 |_ :: _,_,_,[],_,_,_,_,_,ht=>by cases ht
 |_ :: _,_,_,_ :: _,[],_,_,_,_,ht=>by cases ht
theorem sC{C:Cfg}{f:FuncId}{args:List Value}{r:Value}{H':List HObj}{bl:List Blk2}{W:World}(hbl:∀b∈bl,qF W b)(h:cY C f args (bl.map (·.1)) r H'){args':Array Value}(hargs:∀mu:HMap,MuAt mu 0 bl->VRs noL mu args args'.toList)(hr:flat r=true)
  (hG:∀g vs,C.G g=some vs->gBlk g<W.heap.size/\vs.all aM=true/\∃c e fr,W.heap[gBlk g]? = some (.cells c e fr)/\bH (λ_=>none) vs c (gOff g)) (hf:∀g vs,C.G g=some vs->vs.all gfl=true) :
  Calls C.P f args' W λe W'=>e = .returned r/\W'.os=W.os/\W'.output=W.output/\W'.tape=W.tape/\∀b,b<W.heap.size->W'.heap[b]? = W.heap[b]?:=by
 let mu:HMap:=λid=>(bl[id]?).bind (·.2)
 have hmu:MuAt mu 0 bl:=λi b hb=>by simp only[mu,qax,hb,qah]
 have hob:∀(id:Nat) o,(bl.map (·.1))[id]? = some o->∃b,bl[id]? = some b/\o=b.1/\qF W b:=by
  intro id o ho
  rw[qaw]at ho
  obtain⟨b,h1,rfl⟩:=qad.1 ho
  exact⟨b,h1,rfl,hbl b (qag h1)⟩
 have hun:∀(id:Nat) o,(bl.map (·.1))[id]? = some o->o.owned=false:=by
  intro id o ho
  obtain⟨b,_,rfl,h3⟩:=hob id o ho
  rcases h3 with h3|⟨vs,e,p,c,t,fr,h3,_⟩<;>rw[h3]<;>rfl
 have hno:∀b,¬Own mu (bl.map (·.1)) b:=by
  rintro b ⟨id,o,p,h1,h2,_⟩
  rw[hun id o h1]at h2;cases h2
 have hW0:WR C W.heap.size mu (bl.map (·.1)) W:=by
  refine⟨λid o h1 h2=>?_,λi j oi oj pi pj h1 h2 h3=>?_,λi o p h1 h2=>?_,λi o p h1 h2 _ h4=>?_,λid h1=>?_,λg vs hg=>?_⟩
  ·obtain⟨b,q1,rfl,q3⟩:=hob id o h1
   rcases q3 with q3|⟨vs,e,p,c,t,fr,q3,q4,q5,q6,q7,q8,q9,q10,q11⟩
   ·rw[q3]at h2;cases h2
   ·refine⟨p,by simp only[mu,q1,qah,q4],?_⟩
    rw[q3]
    refine⟨q5,q8,q7,c,t,fr,q9,q10,λh=>by(cases h),λi v hv=>⟨v,q11 i v hv,.of_flat (qab.1 q6 v (qag hv))⟩⟩
  ·rw[hun i oi h1]at h3;cases h3
  ·rw[hun i o h1]at h2;cases h2
  ·obtain⟨b,q1,rfl,q3⟩:=hob i o h1
   rcases q3 with q3|⟨vs,e,p',c,t,fr,q3,q4,q5,q6,q7,q8,q9,q10,q11⟩
   ·rw[q3]at h2;cases h2
   ·simp only[mu,q1,qah,q4,qau]at h4
    subst h4
    rcases qaz p'.b W.heap.size with h|h
    ·exact h
    ·rw[qa5 h]at q9;cases q9
  ·simp only[mu]
   rw[qai (by simpa using h1)];rfl
  ·obtain⟨h1,h2,c,e,fr,h4,h5⟩:=hG g vs hg
   exact⟨h1,h2,c,e,fr,h4,iI (hf g vs hg) h5⟩
 intro cs
 obtain⟨v,mu',w',a1,a2,a3,_,a5⟩:=h _ W.heap.size mu W args' (qaA _) (hargs mu hmu) hW0 cs
 rw[co hr a1]at a5
 obtain⟨fr,b1,b2,b3⟩:=a5
 exact⟨.returned r,w',fr,⟨rfl,a3.os,a3.output,a3.tape,λb hb=>a3.keep b hb (hno b)⟩,b1,b2,b3⟩
theorem post_sl{P:Program}{f:Func}{s:ChangeSpec}{apart fresh handsOn:Bool}{W W':World}{args:Array Value}{v:Value}{ds gs:List (DataW H)}{before pa:List MemPlace}
  (hW:DataW.Whole enc P f.params.toList s.vars apart W args.toList ds gs before)
  (hres:∀(b:Nat) (sp:Nat->Bool) (hd:Bool),DataW.TrodAll enc P W' b sp hd f.resultTypes.toList (v.resultList f.resultTypes.size) (s.fn H (ds++gs)).results [])
  (hargs:DataW.TrodAll enc P W' 0 (λb=>decide (b<W.heap.size)) true f.params.toList args.toList (s.fn H (ds++gs)).args pa)
  (hvars:∀sp:Nat->Bool,DataW.TrodVars enc P W' sp s.vars (s.fn H (ds++gs)).vars [])
  (h1:W'.os=W.os) (h2:W'.output=W.output) (h3:∀b,b<W.heap.size->W'.heap[b]? = W.heap[b]?) :
  s.post enc P f apart fresh handsOn false W args v W':=
 ⟨ds,gs,before,[],pa,[],hW,hres _ _ _,hargs,hvars _,kept_of h1 h2 h3 _,λh=>by cases h⟩
end
end
section
variable [Val]
theorem qO{C:Cfg}{N:FuncId->Option Nat}{Sg:FuncId->Option Sig}(hm:C.P.follows .mixedOrders=true){g:FuncId}{sg:Sig}(hs:Sg g=some sg){ls rs:List Lf}{H H':List HObj}(hc:let _:Kno:=KnoC C N;aW C Sg g ls H rs H'){xs ys:List S0}(h1:bu xs sg.ps=true)(h2:bF xs=ls)(h3:bu ys sg.rs=true)(h4:bF ys=rs) :
  cY C g (ai xs) H (en (ai ys)) H':=by
 let _:Kno:=KnoC C N
 obtain⟨sg',xs',ys',c1,c2,c3,c4⟩:=hc
 rw[hs]at c1
 cases c1
 obtain⟨w1,_⟩:=cD c2.1 h1 (c2.2.1.trans h2.symm)
 obtain⟨w2,_⟩:=cD c3.1 h3 (c3.2.1.trans h4.symm)
 rw[w1,w2]at c4
 exact gw hm c4
end
end Sx
end Go.Am

/-
 ARGUMENTS WITH SLICES: lists of what lies behind them.
-/
set_option maxRecDepth 100000
namespace Go.Am
namespace Sx
theorem qS{α:Type}{ks:List LK}{enc:α->List Value}{ok:α->Prop}(dec:∀cs,FitC ks cs->∃a,enc a=cs/\ok a):∀(n:Nat) (cells:List Value),cells.length=n*ks.length->(∀i,i<n->FitC ks ((cells.drop (i*ks.length)).take ks.length))->∃l:List α,l.length=n/\l.flatMap enc=cells/\∀a∈l,ok a
 |0,cells,hl,_=>⟨[],rfl,by
   simp only[qa1,qbn]at hl
   rw[hl];rfl,λ_ h=>by cases h⟩
 |n+1,cells,hl,hf=>by
  obtain⟨a,h1,h2⟩:=dec _ (by have:=hf 0 (by omega);rw[qa1,qaG]at this;exact this)
  obtain⟨l,h3,h4,h5⟩:=qS dec n (cells.drop ks.length) (by rw[qbY,hl,qbu];omega) (λi hi=>by
   have:=hf (i+1) (by omega)
   rw[qbS]
   rw[qbu,qca,Nat.add_comm]at this
   exact this)
  refine⟨a :: l,by simp[h3],?_,λb hb=>?_⟩
  ·rw[qby,h1,h4,qcq]
  ·rcases qaj.1 hb with rfl|hb
   ·exact h2
   ·exact h5 b hb
theorem ls_of{α:Type}{ks:List LK}{enc:α->List Value}{ok:α->Prop}(hlen:∀a,(enc a).length=ks.length)(dec:∀cs,FitC ks cs->∃a,enc a=cs/\ok a){h:HL}{x:Value}{n:Nat}{cells:List Value}(hs:SlC h x ks.length n cells)(hf:∀i,i<n->FitC ks ((cells.drop (i*ks.length)).take ks.length)) :
  ∃l:List α,LsH h x ks.length enc l/\l.length=n/\∀a∈l,ok a:=by
 obtain⟨l,h1,h2,h3⟩:=qS dec n cells hs.1 hf
 refine⟨l,⟨λa _=>hlen a,?_⟩,h1,h3⟩
 rw[h1,h2];exact hs
theorem aY.i{h:HL}{k:IntKind}{ks:List CK2}{ls:List Lf}(hf:aY h (.i k :: ks) ls):∃n r,ls = .i n :: r/\(Lit.int k n).wf=true/\aY h ks r:=by
 match ls,hf with
 | .i n :: r,hf=>exact⟨n,r,rfl,hf.1,hf.2⟩
theorem aY.b{h:HL}{ks:List CK2}{ls:List Lf}(hf:aY h (.b :: ks) ls):∃n r,ls = .b n :: r/\aY h ks r:=by
 match ls,hf with
 | .b n :: r,hf=>exact⟨n,r,rfl,hf⟩
theorem aY.s{h:HL}{es:List LK}{ks:List CK2}{ls:List Lf}(hf:aY h (.s es :: ks) ls):∃x r n cells,ls = .v x :: r/\SlC h x es.length n cells/\n<=maxLen/\(∀i,i<n->FitC es ((cells.drop (i*es.length)).take es.length))/\aY h ks r:=by
 match ls,hf with
 | .v x :: r,⟨⟨n,cells,h1,h2,h3⟩,h4⟩=>exact⟨x,r,n,cells,rfl,h1,h2,h3,h4⟩
theorem aY.nil{h:HL}{ls:List Lf}(hf:aY h [] ls):ls=[]:=by
 match ls,hf with
 | [],_=>rfl
theorem hp_at(bl:List Blk2):HpAt (bl.map λb=>HO.o b.1) 0 bl:=λi b hb=>by
 rw[qax,qaw,hb];rfl
theorem absH_bl(T:Nat->Site)(bl:List Blk2):absH T (bl.map λb=>HO.o b.1)=bl.map (·.1):=by
 induction bl with
 |nil=>rfl
 |cons b l ih=>show absO T (.o b.1) :: absH T (l.map λb=>HO.o b.1)=_;rw[ih];rfl
end Sx
end Go.Am

/-
 PlacesMoved: the law,at the leaves.
-/
set_option maxRecDepth 100000
namespace Go.Am
open Sx Go.Proofs
theorem dec8(cs:List Value)(h:FitC [.i .u8] cs):∃a:Int,enc8 a=cs/\(0<=a/\a<=255):=by
 obtain⟨v1,rfl⟩ : ∃v1,cs=[v1]:=by
  have hl:=FitC.len h
  match cs,hl with
  | [v1],_=>exact⟨v1,rfl⟩
 obtain⟨⟨a,rfl,ha⟩,_⟩:=h
 exact⟨a,rfl,wt ha⟩
theorem decFo(cs:List Value)(h:FitC [.i .u8,.i .i8,.b,.b] cs):∃f:Fo,encFo f=cs/\okFo f:=by
 obtain⟨v1,v2,v3,v4,rfl⟩ : ∃v1 v2 v3 v4,cs=[v1,v2,v3,v4]:=by
  have hl:=FitC.len h
  match cs,hl with
  | [v1,v2,v3,v4],_=>exact⟨v1,v2,v3,v4,rfl⟩
 obtain⟨⟨a,rfl,ha⟩,⟨b,rfl,hb⟩,⟨c,rfl⟩,⟨d,rfl⟩,_⟩:=h
 exact⟨(a,b,c,d),rfl,wt ha,wf_i8 hb⟩
theorem iV(ls:List Lf)(h:HL)(hf:aY h [.i .u8,.i .u8,.s [.i .u8,.i .i8,.b,.b],.s [.i .u8],.i .u8,.i .i8,.i .i8,.i .u8,.i .i8,.i .i8] ls):∃h',aW cc ab 3 ls (absH ac h) [.b true] (absH ac h'):=by
 obtain⟨w,ls,rfl,hw,hf⟩:=hf.i
 obtain⟨v,ls,rfl,hv,hf⟩:=hf.i
 obtain⟨s,ls,n,cells,rfl,h1,_,h3,hf⟩:=hf.s
 obtain⟨s',ls,n',cells',rfl,h1',hn',h3',hf⟩:=hf.s
 obtain⟨t1,ls,rfl,ht1,hf⟩:=hf.i
 obtain⟨x1,ls,rfl,hx1,hf⟩:=hf.i
 obtain⟨y1,ls,rfl,hy1,hf⟩:=hf.i
 obtain⟨t2,ls,rfl,ht2,hf⟩:=hf.i
 obtain⟨x2,ls,rfl,hx2,hf⟩:=hf.i
 obtain⟨y2,ls,rfl,hy2,hf⟩:=hf.i
 obtain rfl:=hf.nil
 obtain⟨fs,hl,_,hk⟩:=ls_of (enc:=encFo) (ok:=okFo) (λ_=>rfl) decFo h1 h3
 obtain⟨an,hl',hlen,hk'⟩:=ls_of (enc:=enc8) (ok:=λa=>0<=a/\a<=255) (λ_=>rfl) dec8 h1' h3'
 exact mM (wt hw) (wt hv) hl hk hl' hk' (by rw[hlen];unfold maxLen at hn';omega) (wt ht1) (wf_i8 hx1) (wf_i8 hy1) (wt ht2) (wf_i8 hx2) (wf_i8 hy2)
end Go.Am

/-
 WHAT THE ROW SAYS OF THE LISTED VARIABLES.
-/
set_option maxRecDepth 100000
namespace Go.Proofs.YtaahgdggnndaoaaGreatDoor
open Go Go.Am Go.Am.Sx
open Go.ChangeShapes Go.WideShapes Go.ChangeAt Go.WideMaps Go.WideElems Go.RowKit
abbrev laidC:List (String×DataW Unit):= [("crimp/moves.turns",Rows.laid_crimp_moves_turns), ("crimp/cells.quarters",Rows.laid_crimp_cells_quarters), ("crimp/patterns.others",Rows.laid_crimp_patterns_others), ("crimp/corners.ways",Rows.laid_crimp_corners_ways)]
theorem name1 : Tryz.prog.globalNamed "crimp/moves.turns" = some 1:=by kernel_rfl
theorem name2 : Tryz.prog.globalNamed "crimp/cells.quarters" = some 2:=by kernel_rfl
theorem name0 : Tryz.prog.globalNamed "crimp/patterns.others" = some 0:=by kernel_rfl
theorem name3 : Tryz.prog.globalNamed "crimp/corners.ways" = some 3:=by kernel_rfl
theorem of_laid{W:World}(h:laidMetH Tryz.prog laidC W):∃_:Unit,∀(g:Nat) (vs:List Value),cc.G g=some vs->
  gBlk g<W.heap.size/\vs.all aM=true/\∃c e fr,W.heap[gBlk g]? = some (.cells c e fr)/\bH (λ_=>none) vs c (gOff g):=by
 rw[MakeChecks.laidMetH_plain _ _ _ (by kernel_rfl)]at h
 obtain⟨ps,h,_,_⟩:=h
 refine⟨(),λg vs hg=>?_⟩
 have hcell:=gl_cell g vs hg
 unfold cc at hg
 simp only at hg
 split at hg
 ·cases hg
  exact iJ (by kernel_rfl) hcell (by kernel_rfl) (gC h "crimp/moves.turns" Rows.laid_crimp_moves_turns qaK 1 68 8 gl1 name1 (by kernel_rfl) (by kernel_rfl))
 ·cases hg
  exact iJ (by kernel_rfl) hcell (by kernel_rfl) (gC h "crimp/cells.quarters" Rows.laid_crimp_cells_quarters (qaq _ qaK) 2 192 8 gl2 name2 (by kernel_rfl) (by kernel_rfl))
 ·cases hg
  exact iJ (by kernel_rfl) hcell (by kernel_rfl) (gC h "crimp/patterns.others" Rows.laid_crimp_patterns_others (qaq _ (qaq _ qaK)) 0 63 8 gl0 name0 (by kernel_rfl) (by kernel_rfl))
 ·cases hg
  exact iJ (by kernel_rfl) hcell (by kernel_rfl) (gC h "crimp/corners.ways" Rows.laid_crimp_corners_ways (qaq _ (qaq _ (qaq _ qaK))) 3 239 8 gl3 name3 (by kernel_rfl) (by kernel_rfl))
 ·cases hg
theorem own:ownKnob Tryz.prog.godebug=none:=by kernel_rfl
theorem door_met(os:Os)(args:Array Value):laidMetH Tryz.prog laidC ((World.doorLaid Tryz.prog 400 os).forCall (λ_ _=>0) ⟨#[],args,[]⟩).memory:=
 laidMetH_of_parts3 (fuel:=8) (laidMet_of_run' 8 (by kernel_rfl) (by kernel_rfl)) (by kernel_rfl) (by kernel_rfl)
end Go.Proofs.YtaahgdggnndaoaaGreatDoor

end

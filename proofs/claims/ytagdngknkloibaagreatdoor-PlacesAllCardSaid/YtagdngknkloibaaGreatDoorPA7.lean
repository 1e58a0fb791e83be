/-
  PART 7 OF THE PROOF (no conditions).
-/
import Derived.Test.YtagdngknkloibaaGreatDoorPA6
import Derived.Shelf.SlSortCmp.WholeK
set_option linter.unusedSectionVars false
set_option linter.unusedSimpArgs false
set_option linter.unusedVariables false
set_option linter.constructorNameAsVariable false
set_option linter.defProp false
noncomputable section
set_option maxRecDepth 100000
set_option maxHeartbeats 16000000
namespace Go.Am
open Sx Go.Proofs
def tabCnt:Bool:=(List.range 5).all λw=>(List.range 5).all λv=>uI 108 [.i (.ofNat (w+1)),.i (.ofNat (v+1))] [.i (.ofNat (4*(w+1)*(v+1)))]
def cnt_all:tabCnt=true:=by kernel_rfl
def cnt_c{w v:Nat}(h:Sh w v):Cc 108 [.i (.ofNat w),.i (.ofNat v)] [.i (.ofNat (4*w*v))]:=by
 have h5:=qab.1 cnt_all (w - 1) (qad.2 (by have:=h.2.1;have:=h.1;omega))
 have h6:=qab.1 h5 (v - 1) (qad.2 (by have:=h.2.2.1;have:=h.2.2.2;omega))
 rw[show w - 1+1=w by have:=h.1;omega,show v - 1+1=v by have:=h.2.2.1;omega]at h6
 exact jd h6 rfl (by kernel_rfl) rfl
def r_st1{h:HL}{b e:Nat}{vs new:List Value}{K:List Value->HL->Prop}(hb:h[b]?=some (.o (.cells vs e true)))(hl:new.length=vs.length)(hk:K [] (h.set b (.o (.cells new e true)))):P1.heap (.st (ptrB b) new) h (@hid _ ⟨K⟩):=by
 have hrun:(Hp.st (ptrB b) new).run (getH aa h) h.length=some ([.set b (.cells new e true)],[]):=by
  show stP (ptrB b) new (getH aa h) h.length=_
  unfold stP
  simp only
  rw[cC hb]
  simp only
  unfold splice
  rw[if_pos (by omega)]
  simp[hl]
 exact cO hrun hk
def mJ{h:HL}{a b:HO}:(h++[a]).set h.length b=h++[b]:=by simp
def bA{h:HL}{a:HO}:(h++[a])[h.length]?=some a:=by simp
def eqsM{a b:Mv}{K:Bool->Prop}:P1.eqs [(.i (Int.ofNat a.1),.i (Int.ofNat b.1)),(.i a.2.1,.i b.2.1),(.i a.2.2,.i b.2.2)] (@hid _ ⟨K⟩)=K (decide (a=b)):=by
 show K (cb _)=_
 have e:cb [(.i (Int.ofNat a.1),.i (Int.ofNat b.1)),(.i a.2.1,.i b.2.1),(.i a.2.2,.i b.2.2)]=decide (a=b):=by
  rw[qbI]
  simp[cb,gp,qcZ]
  intro _ _
  omega
 rw[e]
def RelOk(w v:Nat)(l:List Crs)(H:HL)(rs:List Lf)(h':HL):Prop:=
 Pre H h'/\((∃A id,rs=[.v (.slice (some ⟨id,0,tag 3⟩) (4*w*v) (4*w*v+1)),.i 0]/\H.length<=id/\h'[id]?=some (.o (.cells (A.flatMap encM) 3 true))/\GoodA w v l A)∨
  (rs=[.v (.slice none 0 0),.i 11]/\¬ ∃G,gq w v l G/\G 0=idM))
def yL{w v:Nat}(hs:Sh w v){l:List Crs}(hk:(l.map dI).Nodup)(hl0:l.length<=1000){H:HL}{x:Value}(hl:LsH H x 3 encC l) :
  ∃rs h',aw cc ac 71 [.i (.ofNat w),.i (.ofNat v),.v x] (absH aa H) rs (absH aa h')/\RelOk w v l H rs h':=by
 have hN:=sh_N hs
 obtain⟨rs,h',h1,h2⟩:=x71 (K:=λrs h'=>RelOk w v l H rs h') (H:=H) (glsI (glsI (glsV hl.good gls0))) (by
  unfold f71;simp only[qxh]
  simp(disch:=omega)only[↓qXX]
  refine ob (eW bA) rfl ?_
  simp(disch:=omega)only[↓qXX]
  refine aH hl.good ?_
  simp(disch:=omega)only[↓qXX]
  obtain⟨M,hcr,hSM⟩:=creased_c (w:=.ofNat w) (v:=.ofNat v) (hl.pre (h':=H++[HO.o (.cells [.int .i64 (.ofNat w),.int .i64 (.ofNat v),x] 3 true)]) ⟨_,rfl⟩) hk hl0
  rw[show(H++[HO.o (.cells [.int .i64 (.ofNat w),.int .i64 (.ofNat v),x] 3 true)]).length=H.length+1 by simp]at hcr hSM
  have k0:(H++[HO.o (.cells [.int .i64 (.ofNat w),.int .i64 (.ofNat v),x] 3 true)]++[M]).length=H.length+2:=by simp
  have kp:(H++[HO.o (.cells [.int .i64 (.ofNat w),.int .i64 (.ofNat v),x] 3 true)]++[M])[H.length]?=some (HO.o (.cells [.int .i64 (.ofNat w),.int .i64 (.ofNat v),x] 3 true)):=by simp
  have kH:Pre H (H++[HO.o (.cells [.int .i64 (.ofNat w),.int .i64 (.ofNat v),x] 3 true)]++[M]):=⟨_,qaN ..⟩
  refine ai hcr ?_
  clear hcr
  generalize H++[HO.o (.cells [.int .i64 (.ofNat w),.int .i64 (.ofNat v),x] 3 true)]++[M]=h2 at *
  simp(disch:=omega)only[↓qXX]
  refine r_st1 bA rfl ?_
  rw[mJ]
  have m0:(h2++[HO.o (.cells [.map (some (H.length+1))] 1 true)]).length=H.length+3:=by simp[k0]
  have mp:=kp |> (Pre.get (b:=h2++[HO.o (.cells [.map (some (H.length+1))] 1 true)]) ⟨_,rfl⟩)
  have mv:(h2++[HO.o (.cells [.map (some (H.length+1))] 1 true)])[H.length+2]?=some (HO.o (.cells [.map (some (H.length+1))] 1 true)):=by rw[←k0];exact bA
  have mH:Pre H (h2++[HO.o (.cells [.map (some (H.length+1))] 1 true)]):=kH.app _
  have mS:SetM (h2++[HO.o (.cells [.map (some (H.length+1))] 1 true)]) (H.length+1) l:=by
   obtain⟨es,c,a1,a2⟩:=hSM
   exact⟨es,c,Pre.get ⟨_,rfl⟩ a1,a2⟩
  rw[k0]
  generalize h2++[HO.o (.cells [.map (some (H.length+1))] 1 true)]=h3 at *
  clear kp kH hSM k0
  refine tW (p:=ptrB H.length) (cs:=[.int .i64 (.ofNat w),.int .i64 (.ofNat v),x]) (ds:=[.int .i64 (.ofNat w),.int .i64 (.ofNat v)]) (eW mp) (by simp) rfl ?_
  simp(disch:=omega)only[↓qXX]
  refine af (cnt_c hs) ?_
  simp(disch:=omega)only[↓qXX]
  refine am (fj (by omega)) ?_
  simp(disch:=omega)only[↓qXX]
  rw[show(Int.ofNat (4*w*v)).toNat=4*w*v from rfl]
  have z0:HO.o (.cells (aM [.int .u8 0,.int .i64 0,.int .i64 0] (4*w*v)) 3 true)=HO.o (.cells ((List.replicate (4*w*v) idM).flatMap encM) 3 true):=by
   rw[←dt (enc:=encM) (z:=idM) (n:=4*w*v)]
   rfl
  rw[z0,m0]
  have n0:(h3++[HO.o (.cells ((List.replicate (4*w*v) idM).flatMap encM) 3 true)]).length=H.length+4:=by simp[m0]
  have np:=mp |> (Pre.get (b:=h3++[HO.o (.cells ((List.replicate (4*w*v) idM).flatMap encM) 3 true)]) ⟨_,rfl⟩)
  have nv:=mv |> (Pre.get (b:=h3++[HO.o (.cells ((List.replicate (4*w*v) idM).flatMap encM) 3 true)]) ⟨_,rfl⟩)
  have na:(h3++[HO.o (.cells ((List.replicate (4*w*v) idM).flatMap encM) 3 true)])[H.length+3]?=some (HO.o (.cells ((List.replicate (4*w*v) idM).flatMap encM) 3 true)):=by rw[←m0];exact bA
  have nH:Pre H (h3++[HO.o (.cells ((List.replicate (4*w*v) idM).flatMap encM) 3 true)]):=mH.app _
  have nS:SetM (h3++[HO.o (.cells ((List.replicate (4*w*v) idM).flatMap encM) 3 true)]) (H.length+1) l:=by
   obtain⟨es,c,a1,a2⟩:=mS
   exact⟨es,c,Pre.get ⟨_,rfl⟩ a1,a2⟩
  generalize h3++[HO.o (.cells ((List.replicate (4*w*v) idM).flatMap encM) 3 true)]=h4 at *
  clear mp mv mH mS m0
  refine r_st1 bA rfl ?_
  rw[mJ]
  try simp(disch:=omega)only[↓qXX]
  refine ob (eW bA) rfl ?_
  simp(disch:=omega)only[↓qXX]
  refine aH (by simp[aP,noLoc,bo,ca,bu,bc,aI]) ?_
  simp(disch:=omega)only[↓qXX]
  refine am (x:=Int.ofNat (4*w*v)) rfl ?_
  refine am (fj (by omega)) ?_
  simp(disch:=omega)only[↓qXX]
  rw[n0,show(Int.ofNat (4*w*v)).toNat=4*w*v from rfl]
  refine aH (by simp[aP,noLoc,bo,ca,bu,bc,aI]) ?_
  have o0:(h4++[HO.o (.cells [.slice (some ⟨H.length+3,0,some 13⟩) (4*w*v) (4*w*v+1)] 1 true)]).length=H.length+5:=by simp[n0]
  have op:=np |> (Pre.get (b:=h4++[HO.o (.cells [.slice (some ⟨H.length+3,0,some 13⟩) (4*w*v) (4*w*v+1)] 1 true)]) ⟨_,rfl⟩)
  have om:=nv |> (Pre.get (b:=h4++[HO.o (.cells [.slice (some ⟨H.length+3,0,some 13⟩) (4*w*v) (4*w*v+1)] 1 true)]) ⟨_,rfl⟩)
  have oa:=na |> (Pre.get (b:=h4++[HO.o (.cells [.slice (some ⟨H.length+3,0,some 13⟩) (4*w*v) (4*w*v+1)] 1 true)]) ⟨_,rfl⟩)
  have ov:(h4++[HO.o (.cells [.slice (some ⟨H.length+3,0,some 13⟩) (4*w*v) (4*w*v+1)] 1 true)])[H.length+4]?=some (HO.o (.cells [.slice (some ⟨H.length+3,0,some 13⟩) (4*w*v) (4*w*v+1)] 1 true)):=by rw[←n0];exact bA
  have oH:Pre H (h4++[HO.o (.cells [.slice (some ⟨H.length+3,0,some 13⟩) (4*w*v) (4*w*v+1)] 1 true)]):=nH.app _
  have oS:SetM (h4++[HO.o (.cells [.slice (some ⟨H.length+3,0,some 13⟩) (4*w*v) (4*w*v+1)] 1 true)]) (H.length+1) l:=by
   obtain⟨es,c,a1,a2⟩:=nS
   exact⟨es,c,Pre.get ⟨_,rfl⟩ a1,a2⟩
  generalize h4++[HO.o (.cells [.slice (some ⟨H.length+3,0,some 13⟩) (4*w*v) (4*w*v+1)] 1 true)]=h5 at *
  clear np nv na nH nS n0
  have z1:HO.o (.cells (aM [.bool false] (4*w*v)) 1 true)=HO.o (.cells ((List.replicate (4*w*v) false).flatMap encT) 1 true):=by
   rw[←dt (enc:=encT) (z:=false) (n:=4*w*v)]
   rfl
  rw[z1,o0]
  have r0:RS H (h5++[HO.o (.cells ((List.replicate (4*w*v) false).flatMap encT) 1 true)]) w v x l (List.replicate (4*w*v) idM) (List.replicate (4*w*v) false):=by
   obtain⟨es,c,a1,a2⟩:=oS
   exact⟨oH.app _,by simp[o0],Pre.get ⟨_,rfl⟩ op,⟨es,c,Pre.get ⟨_,rfl⟩ a1,a2⟩,Pre.get ⟨_,rfl⟩ om,Pre.get ⟨_,rfl⟩ oa,Pre.get ⟨_,rfl⟩ ov,by rw[←o0];exact bA,by simp,by simp⟩
  generalize h5++[HO.o (.cells ((List.replicate (4*w*v) false).flatMap encT) 1 true)]=h6 at *
  clear op om oa ov oH oS o0
  refine gm (enc:=encT) (l:=List.replicate (4*w*v) false) (i:=0) (a:=true) ie r0.kn rfl (by simpa using hN.1) (by simp) rfl ?_
  have r1:=r0.putB (B':=(List.replicate (4*w*v) false).set 0 true) (by simp)
  generalize putE h6 (H.length+5) 1 encT ((List.replicate (4*w*v) false).set 0 true)=h7 at *
  try simp(disch:=omega)only[↓qXX]
  have r2:RS H (h7++[HO.o (.cells [.int .i64 0] 1 true)]) w v x l (List.replicate (4*w*v) idM) ((List.replicate (4*w*v) false).set 0 true):=r1.keep (λj o _ ho=>Pre.get ⟨_,rfl⟩ ho) (by simp)
  have hw0:WQ (H.length+6) (h7++[HO.o (.cells [.int .i64 0] 1 true)]) (.slice (some ⟨h7.length,0,some 11⟩) 1 2) [0]:=⟨h7.length,0,2,_,rfl,r1.len,bA,Sx.cut_all rfl,.inr rfl⟩
  have hj0:=JS.start (l:=l) hs
  have hc0:[0].length<=cntT ((List.replicate (4*w*v) false).set 0 true):=by
   rw[fO (by rw[qaT,if_pos hN.1])]
   simp
  generalize h7++[HO.o (.cells [.int .i64 0] 1 true)]=h8 at *
  generalize Value.slice (some ⟨h7.length,0,some 11⟩) 1 2=v8 at *
  generalize List.replicate (4*w*v) idM=A0 at *
  generalize (List.replicate (4*w*v) false).set 0 true=B0 at *
  clear r0 r1
  refine cN (m:=left B0 [0]) (λm ls h'=>∃A B q vv,ls=[.v vv]/\RS H h' w v x l A B/\WQ (H.length+6) h' vv q/\JS w v l A B q (λ_ _=>True)/\q.length<=cntT B/\m=left B q) ⟨A0,B0,[0],v8,rfl,r2,hw0,hj0,hc0,rfl⟩ ?_
  clear r2 hw0 hj0 hc0
  rintro m ls h' ⟨A,B,q,vv,rfl,hr,hw,hj,hql,rfl⟩ self hself
  refine hidL ?_
  simp(disch:=omega)only[↓qXX]
  refine bM hw.ls ?_
  cases q with
  |nil=>
   rw[p_gtr_f (by show((List.length ([]:List Nat):Nat):Int)<=0;simp)]
   simp(disch:=omega)only[↓qXX]
   refine ob (eW hr.ov) rfl ?_
   simp(disch:=omega)only[↓qXX]
   refine aH hr.lsA.good ?_
   simp(disch:=omega)only[↓qXX]
   exact⟨hr.pre,.inl ⟨A,H.length+3,rfl,by omega,hr.ol,hj.good hs hr.la hr.lb⟩⟩
  |cons c0 q=>
   rw[p_gtr_t (by show(0:Int)<((List.length (c0 :: q):Nat):Int);simp only[qaC];omega)]
   simp(disch:=omega)only[↓qXX]
   refine bi hw.ls (i:=0) rfl rfl ?_
   unfold encN
   simp(disch:=omega)only[↓qXX]
   refine r_tail hw ?_
   intro v1 hw1 hv1
   refine aH hv1 ?_
   have hb0:B[c0]?=some true:=hj.q1 c0 qax
   have hcN:c0<4*w*v:=by have:=be hb0;have:=hr.lb;omega
   have hcl:=jW B
   refine bW (σ:=Value×HL×List Mv×List Bool×List Nat) 3 (λj s=>[.v s.1,.i (Int.ofNat j)]) (λ_ s=>s.2.1) (λj s=>RS H s.2.1 w v x l s.2.2.1 s.2.2.2.1/\WQ (H.length+6) s.2.1 s.1 s.2.2.2.2/\JS w v l s.2.2.1 s.2.2.2.1 s.2.2.2.2 (λc e=>c=c0->e<j)/\s.2.2.2.2.length<=cntT s.2.2.2.1/\left s.2.2.2.1 s.2.2.2.2=left B q/\s.2.2.2.1[c0]?=some true) (j0:=0) (s0:=(v1,h',A,B,q)) rfl rfl (by omega) ⟨hr,hw1,hj.pop,by show q.length<=cntT B;simp only[qaC]at hql;omega,rfl,hb0⟩ ?_
   clear hr hw hj hw1 hv1 hb0
   rintro j ⟨v2,h2',A2,B2,q2⟩ hj3 ⟨hr,hw,hj,hq2,hleft,hb0⟩ self2 hself2
   simp only at hr hw hj hq2 hleft hb0 hself2
   simp(disch:=omega)only[↓qXX]
   by_cases hlt:j<3
   case neg=>
    obtain rfl:j=3:=by omega
    rw[p_lss_f (by show(3:Int)<=((3:Nat):Int);omega)]
    simp(disch:=omega)only[↓qXX]
    refine hself (left B q) _ _ ?_ ⟨A2,B2,q2,v2,rfl,hr,hw,hj.done,hq2,hleft.symm⟩
    unfold left
    simp only[qaC];omega
   rw[p_lss_t (by show((j:Nat):Int)<3;omega)]
   simp(disch:=omega)only[↓qXX]
   have next:∀(v3:Value) (h3':HL) (A3:List Mv) (B3:List Bool) (q3:List Nat),RS H h3' w v x l A3 B3->WQ (H.length+6) h3' v3 q3->JS w v l A3 B3 q3 (λc e=>c=c0->e<j+1)->q3.length<=cntT B3->left B3 q3=left B q->B3[c0]?=some true->self2 [.v v3,.i (Int.ofNat j+1)] h3':=λv3 h3' A3 B3 q3 a1 a2 a3 a4 a5 a6=>hself2 (v3,h3',A3,B3,q3) hlt ⟨a1,a2,a3,a4,a5,a6⟩
   have hadd:∀K:Int->Prop,P1.ari .add .u8 (Int.ofNat j) 1 (@hid _ ⟨K⟩)=K (Int.ofNat j+1):=λK=>p_add8 (by show(0:Int)<=(j:Int)+1;omega) (by show(j:Int)+1<=255;omega)
   refine tW (p:=ptrB H.length) (cs:=[.int .i64 (.ofNat w),.int .i64 (.ofNat v),x]) (ds:=[.int .i64 (.ofNat w),.int .i64 (.ofNat v)]) (eW hr.p) (by simp) rfl ?_
   simp(disch:=omega)only[↓qXX]
   refine af (nb_c hs hcN hlt) ?_
   have hcl2:=jW B2
   have hlb2:=hr.lb
   cases hnb:nbr w v c0 j with
   |none=>
    unfold wT
    rw[hnb]
    simp(disch:=omega)only[↓qXX]
    rw[hadd]
    exact next _ _ _ _ _ hr hw (hj.skip hnb) hq2 hleft hb0
   |some n=>
    unfold wT
    rw[hnb]
    simp(disch:=omega)only[↓qXX]
    obtain⟨a,ha⟩:=bn (l:=A2) (i:=c0) (by rw[hr.la];exact hcN)
    have hok:=hj.bd c0 a hb0 ha
    have hac:=across_c hs (eW hr.p) (eW hr.mv) hr.mp (eW hr.ov) hr.lsA hcN hlt hnb ha hok (by omega)
    refine gQ (sG (args:=[.int .i64 (Int.ofNat c0),.int .u8 (Int.ofNat j)]) hac rfl [.leaf (.i .i64 (Int.ofNat c0)),.leaf (.i .u8 (Int.ofNat j)),.leaf (.v (ptrB H.length)),.leaf (.v (ptrB (H.length+2))),.leaf (.v (ptrB (H.length+4)))] rfl rfl rfl) ?_
    have hnN:=(kE hs hcN hlt hnb).1
    have hnc:=(kE hs hcN hlt hnb).2.2.2.2
    generalize hm:acM w l a c0 n j=m at *
    simp only[mvl]
    simp(disch:=omega)only[↓qXX]
    obtain⟨t,ht⟩:=bn (l:=B2) (i:=n) (by rw[hr.lb];exact hnN)
    refine bi hr.lsB rfl ht ?_
    unfold encT
    simp(disch:=omega)only[↓qXX]
    cases t with
    |true=>
     simp(disch:=omega)only[↓qXX,qaF]
     refine ob (eW hr.ov) rfl ?_
     simp(disch:=omega)only[↓qXX]
     refine aH hr.lsA.good ?_
     simp(disch:=omega)only[↓qXX]
     obtain⟨b,hb⟩:=bn (l:=A2) (i:=n) (by rw[hr.la];exact hnN)
     refine bi hr.lsA rfl hb ?_
     unfold encM
     simp(disch:=omega)only[↓qXX]
     rw[eqsM]
     by_cases hbm:b=m
     ·rw[decide_eq_true hbm]
      simp(disch:=omega)only[↓qXX,qaF]
      rw[hadd]
      exact next _ _ _ _ _ hr hw (hj.seen hnb ht ha (by rw[hb,hbm,hm])) hq2 hleft hb0
     ·rw[decide_eq_false hbm]
      simp(disch:=omega)only[↓qXX,qbz]
      exact⟨hr.pre,.inr ⟨rfl,hj.tear hs hcN hlt hnb hb0 ht ha hb (by rw[hm];exact hbm)⟩⟩
    |false=>
     simp(disch:=omega)only[↓qXX,qbz]
     refine ob (eW hr.ov) rfl ?_
     simp(disch:=omega)only[↓qXX]
     refine aH hr.lsA.good ?_
     simp(disch:=omega)only[↓qXX]
     refine gm (enc:=encM) (l:=A2) (i:=n) (a:=m) bO hr.ol rfl (by rw[hr.la];exact hnN) hr.la rfl ?_
     have hrA:=hr.putA (A':=A2.set n m) (by simp)
     have hwA:=hw.keep (h':=putE h2' (H.length+3) 3 encM (A2.set n m)) (λj o hjb ho=>by rw[cV (by omega)];exact ho)
     generalize putE h2' (H.length+3) 3 encM (A2.set n m)=h3' at *
     try simp(disch:=omega)only[↓qXX]
     refine gm (enc:=encT) (l:=B2) (i:=n) (a:=true) ie hrA.kn rfl (by rw[hr.lb];exact hnN) hr.lb rfl ?_
     have hrB:=hrA.putB (B':=B2.set n true) (by simp)
     have hwB:=hwA.keep (h':=putE h3' (H.length+5) 1 encT (B2.set n true)) (λj o hjb ho=>by rw[cV (by omega)];exact ho)
     generalize putE h3' (H.length+5) 1 encT (B2.set n true)=h4' at *
     try simp(disch:=omega)only[↓qXX]
     refine r_apQ (n:=n) hwB hrB.len rfl rfl (by omega) ?_
     intro v5 h5' hw5 hv5 hk5 hl5
     have hr5:=hrB.keep hk5 hl5
     simp(disch:=omega)only[↓qXX]
     refine aH hv5 ?_
     simp(disch:=omega)only[↓qXX]
     refine ob (eW hr5.ov) rfl ?_
     simp(disch:=omega)only[↓qXX]
     refine aH hr5.lsA.good ?_
     simp(disch:=omega)only[↓qXX]
     refine bi hr5.lsA (a:=m) rfl (qaD (by rw[hr.la];exact hnN)) ?_
     unfold encM
     simp(disch:=omega)only[↓qXX]
     try rw[eqsM,decide_eq_true rfl]
     simp(disch:=omega)only[↓qXX,qaF]
     rw[hadd]
     refine next _ _ _ _ _ hr5 hw5 ?_ ?_ ?_ ?_
     ·rw[←hm]
      exact hj.fresh hs hr.la hr.lb hcN hlt hnb hb0 ht ha
     ·rw[fO ht];simp;omega
     ·rw[←hleft]
      have:=jW (B2.set n true)
      unfold left
      rw[fO ht]at this ⊢
      simp only[qay,qaC,qbi,qb8]at this ⊢
      omega
     ·rw[qai hnc];exact hb0)
 exact⟨rs,h',h1,h2⟩
def aD(c:Cl):List Value:=[.int .i64 c.1,.int .i64 c.2.1,.int .u8 (Int.ofNat c.2.2)]
def bF(c:Cl):(aD c).length=3:=rfl
def jA{m:Mv}{n:Int}(hm:okM n m){c:Cl}{k:Int}(hc:-k<=c.1/\c.1<=k/\-k<=c.2.1/\c.2.1<=k):-(n+k+1)<=(bQ m c).1/\(bQ m c).1<=n+k+1/\-(n+k+1)<=(bQ m c).2.1/\(bQ m c).2.1<=n+k+1/\(bQ m c).2.2<4:=by
 have h1:=vj hm.1 hc
 have h2:=hm.2
 unfold bQ
 simp only
 refine⟨?_,?_,?_,?_,qT_lt⟩<;>split<;>omega
def vMv(m:Mv):Bool:=decide (-16384<=m.2.1/\m.2.1<=16384/\-16384<=m.2.2/\m.2.2<=16384)
def vCl(c:Cl):Bool:=decide (-4096<=c.1/\c.1<=4096/\-4096<=c.2.1/\c.2.1<=4096)
def vMv_ok{n:Int}{m:Mv}(h:okM n m)(hv:vMv m=true):okM 16384 m:=by
 unfold vMv at hv
 rw[decide_eq_true_eq]at hv
 exact⟨h.1,hv.1,hv.2.1,hv.2.2.1,hv.2.2.2,h.2.2.2.2.2⟩
def vMI(t x y:Int):Bool:=decide (t<8/\(-16384<=x/\x<=16384)/\(-16384<=y/\y<=16384)/\(x+y)%2=0)
def pf{n:Int}:Cc 106 [.i n] [.b (!decide (-16384<=n/\n<=16384))]:=by
 refine q106 rfl ?_;unfold f106;simp only[qxh]
 simp(disch:=omega)only[↓qXX]
 by_cases h1:n < -16384
 ·rw[p_lss_t (show n < -16384 by omega)]
  simp(disch:=omega)only[↓qXX]
  rw[decide_eq_false (by omega)]
  try rfl
 ·rw[p_lss_f (show(-16384:Int)<=n by omega)]
  simp(disch:=omega)only[↓qXX]
  by_cases h2:n<=16384
  ·rw[p_gtr_f (by omega)]
   simp(disch:=omega)only[↓qXX]
   rw[decide_eq_true (by omega)]
   try rfl
  ·rw[p_gtr_t (by omega)]
   simp(disch:=omega)only[↓qXX]
   rw[decide_eq_false (by omega)]
   try rfl
def wQ{t x y:Int}(ht:0<=t/\t<=255):Cc 70 [.i t,.i x,.i y] [.i (if vMI t x y then 0 else 1)]:=by
 by_cases hv:vMI t x y=true
 ·rw[if_pos hv]
  unfold vMI at hv
  rw[decide_eq_true_eq]at hv
  exact mchk_c ⟨ht.1,hv.1⟩ hv.2.1 hv.2.2.1 hv.2.2.2
 ·rw[if_neg hv]
  unfold vMI at hv
  rw[decide_eq_true_eq]at hv
  refine q70 rfl ?_;unfold f70;simp only[qxh]
  simp(disch:=omega)only[↓qXX]
  by_cases h1:8<=t
  ·rw[p_geq_t h1]
   simp(disch:=omega)only[↓qXX]
   try rfl
  rw[p_geq_f (by omega)]
  simp(disch:=omega)only[↓qXX]
  refine af pf ?_
  simp(disch:=omega)only[↓qXX]
  by_cases h2:-16384<=x/\x<=16384
  case neg=>
   rw[decide_eq_false h2]
   simp(disch:=omega)only[↓qXX,qbz]
   try rfl
  rw[decide_eq_true h2]
  simp(disch:=omega)only[↓qXX,qaF]
  refine af pf ?_
  simp(disch:=omega)only[↓qXX]
  by_cases h3:-16384<=y/\y<=16384
  case neg=>
   rw[decide_eq_false h3]
   simp(disch:=omega)only[↓qXX,qbz]
   try rfl
  rw[decide_eq_true h3]
  simp(disch:=omega)only[↓qXX,qaF]
  have hp:(x+y)%2≠0:=λe=>hv ⟨by omega,h2,h3,e⟩
  rcases qcW 0 (x+y)with hs|hs
  ·repeat (first|simp(disch:=omega)only[↓qXX]|rw[p_rem_nn hs (by omega)])
   try rfl
  ·have h0:-(-(x+y)%2)≠0:=by omega
   repeat (first|simp(disch:=omega)only[↓qXX]|rw[p_rem_np hs (by omega)])
   try rfl
def limited_w{m:Mv}{n:Int}(h:okM n m)(hn:n<=100000):Cc 114 (mvl m) (if vMv m then mvl m++[.i 0]else [.i 0,.i 0,.i 0,.i 3]):=by
 refine q114 rfl ?_;unfold f114;simp only[qxh]
 simp(disch:=omega)only[↓qXX]
 refine af (wQ (by have:=h.1;show 0<=(m.1:Int)/\(m.1:Int)<=255;omega)) ?_
 simp(disch:=omega)only[↓qXX]
 have e:vMI (Int.ofNat m.1) m.2.1 m.2.2=vMv m:=by
  have h1:=h.1
  have h2:=h.2.2.2.2.2
  unfold vMI vMv
  rw[decide_eq_decide]
  show((m.1:Int)<8/\_)↔_
  omega
 rw[e]
 cases vMv m with
 |true=>
  simp only[if_true]
  simp(disch:=omega)only[↓qXX]
  try rfl
 |false=>
  simp only[qal,if_false]
  simp(disch:=omega)only[↓qXX]
  try rfl
def then_w{a b:Mv}(ha:okM 2000 a)(hb:okM 16384 b):Cc 73 (mvl a++mvl b) (if vMv (aZ a b)then mvl (aZ a b)++[.i 0]else [.i 0,.i 0,.i 0,.i 3]):=by
 have h0:=dA ha hb
 refine q73 rfl ?_;unfold f73;simp only[qxh]
 simp only[mvl,qaI,qaG]
 simp(disch:=omega)only[↓qXX]
 refine af (rA ha (by omega)) ?_
 simp(disch:=omega)only[↓qXX]
 refine af (rA hb (by omega)) ?_
 simp(disch:=omega)only[↓qXX]
 refine am (tz hb.1) ?_
 refine am (oe hb.1) ?_
 simp(disch:=omega)only[↓qXX]
 refine af (mof_c hb.1 ⟨by have:=ha.2;omega,by have:=ha.2;omega,by have:=ha.2;omega,by have:=ha.2;omega⟩) ?_
 simp(disch:=omega)only[↓qXX]
 refine am (tz ha.1) ?_
 refine am (oe ha.1) ?_
 simp(disch:=omega)only[↓qXX]
 refine am (tz hb.1) ?_
 refine am (oe hb.1) ?_
 simp(disch:=omega)only[↓qXX]
 refine af (thenT_c ha.1 hb.1) ?_
 simp(disch:=omega)only[↓qXX]
 refine af (numT_c nP) ?_
 simp(disch:=omega)only[↓qXX]
 have h1:=h0
 obtain⟨_,h2,h3,h4,h5,_⟩:=h1
 unfold aZ at h2 h3 h4 h5
 simp only at h2 h3 h4 h5
 rw[p_add (by omega) (by omega),p_add (by omega) (by omega)]
 refine af (limited_w (m:=aZ a b) h0 (by omega)) ?_
 cases vMv (aZ a b)with
 |true=>
  simp only[if_true]
  simp only[mvl,qaI,qaG]
  simp(disch:=omega)only[↓qXX]
  try rfl
 |false=>
  simp only[qal,if_false]
  simp(disch:=omega)only[↓qXX]
  try rfl
def wh{c:Cl}(hq:c.2.2<4):Cc 117 (cll c) [.i (if vCl c then 0 else 1)]:=by
 by_cases hv:vCl c=true
 ·rw[if_pos hv]
  unfold vCl at hv
  rw[decide_eq_true_eq]at hv
  exact cchk_c ⟨hv.1,hv.2.1,hv.2.2.1,hv.2.2.2,hq⟩
 ·rw[if_neg hv]
  unfold vCl at hv
  rw[decide_eq_true_eq]at hv
  refine q117 rfl ?_;unfold f117;simp only[qxh]
  simp only[cll]
  simp(disch:=omega)only[↓qXX]
  by_cases h1:c.1 < -4096
  ·repeat (first|simp(disch:=omega)only[↓qXX])
   try rfl
  by_cases h2:4096<c.1
  ·repeat (first|simp(disch:=omega)only[↓qXX])
   try rfl
  by_cases h3:c.2.1 < -4096
  ·repeat (first|simp(disch:=omega)only[↓qXX])
   try rfl
  ·have h4:4096<c.2.1:=by omega
   repeat (first|simp(disch:=omega)only[↓qXX])
   try rfl
def move_w{m:Mv}(hm:okM 16384 m){c:Cl}(hc:-1000<=c.1/\c.1<=1000/\-1000<=c.2.1/\c.2.1<=1000/\c.2.2<4):Cc 74 (mvl m++cll c) (if vCl (bQ m c)then cll (bQ m c)++[.i 0]else [.i 0,.i 0,.i 0,.i 3]):=by
 have h1:=jA hm (k:=1000) ⟨hc.1,hc.2.1,hc.2.2.1,hc.2.2.2.1⟩
 refine q74 rfl ?_;unfold f74;simp only[qxh]
 simp only[mvl,cll,qaI,qaG]
 simp(disch:=omega)only[↓qXX]
 refine af (rA hm (by omega)) ?_
 simp(disch:=omega)only[↓qXX]
 refine af (cchk_c (c:=c) ⟨by omega,by omega,by omega,by omega,hc.2.2.2.2⟩) ?_
 simp(disch:=omega)only[↓qXX]
 refine af (moved_c hm hc) ?_
 simp only[cll]
 simp(disch:=omega)only[↓qXX]
 refine af (wh (c:=bQ m c) h1.2.2.2.2) ?_
 cases vCl (bQ m c)with
 |true=>
  simp only[if_true]
  simp(disch:=omega)only[↓qXX]
  try rfl
 |false=>
  simp only[qal,if_false]
  simp(disch:=omega)only[↓qXX]
  try rfl
def GoodA.eq{w v:Nat}{l:List Crs}{A:List Mv}(hs:Sh w v)(hA:GoodA w v l A){G:Nat->Mv}(hG:gq w v l G)(h0:G 0=idM):∀c,c<4*w*v->A[c]?=some (G c):=
 nQ hs (by rw[h0];exact hA.a0) λc e n hc he hn h=>by rw[hG c e n hc he hn];exact hA.cons c e n _ hc he hn h
def plL(w v:Nat)(G:Nat->Mv)(r:Mv):List Mv:=(List.range (4*w*v)).map λc=>aZ (G c) r
def imL(w v:Nat)(G:Nat->Mv)(r:Mv):List Cl:=(List.range (4*w*v)).map λc=>bQ (aZ (G c) r) (clN w c)
def og{w v:Nat}{G:Nat->Mv}{r:Mv}{c:Nat}(h:c<4*w*v):(plL w v G r)[c]?=some (aZ (G c) r):=by
 unfold plL
 rw[qat,qbX h];rfl
def nE{w v:Nat}{G:Nat->Mv}{r:Mv}{c:Nat}(h:c<4*w*v):(imL w v G r)[c]?=some (bQ (aZ (G c) r) (clN w c)):=by
 unfold imL
 rw[qat,qbX h];rfl
def take_set{α:Type}{L A:List α}{j:Nat}{a:α}(hL:L[j]?=some a)(hlen:L.length=A.length):(L.take j++A.drop j).set j a=L.take (j+1)++A.drop (j+1):=by
 have hj:=be hL
 have h1:(L.take j).length=j:=by rw[qaJ];omega
 rw[qbR _ _ (by omega),h1,qbF,qbm (by omega),qcI,qa6,hL]
 simp
def mid_get{α:Type}{L A:List α}{j:Nat}{a:α}(hA:A[j]?=some a)(hlen:L.length=A.length):(L.take j++A.drop j)[j]?=some a:=by
 have hj:=be hA
 rw[qam (by rw[qaJ];omega),qaJ,qb0 (by omega),qbF,qa0,qcd]
 exact hA
def vn{α:Type}{L A:List α}{j:Nat}(hlen:L.length=A.length)(hj:j<=L.length):(L.take j++A.drop j).length=A.length:=by
 rw[qay,qaJ,qbv];omega
def gN{α:Type}{e cx n:Nat}{enc:α->List Value}(henc:∀a,(enc a).length=e){h:HL}{id:Nat}{L:List α}(hg:h[id]?=some (.o (.cells (L.flatMap enc) e true)))(hn:n=L.length):LsH h (.slice (some ⟨id,0,tag e⟩) n cx) e enc L:=by
 subst hn
 have hl:=aR (e:=e) (enc:=enc) (l:=L) λa _=>henc a
 exact⟨λa _=>henc a,hl,.inr ⟨id,0,cx,_,true,rfl,hg,Sx.cut_all hl⟩⟩
def across1:Cc 75 [.i 1] [.i 1,.i 0]:=by
  refine q75 rfl ?_;unfold f75;simp only[qxh]
  simp(disch:=omega)only[↓qXX]
def across2:Cc 75 [.i 2] [.i 0,.i 1]:=by
  refine q75 rfl ?_;unfold f75;simp only[qxh]
  simp(disch:=omega)only[↓qXX]
def across3:Cc 75 [.i 3] [.i 1,.i 1]:=by
  refine q75 rfl ?_;unfold f75;simp only[qxh]
  simp(disch:=omega)only[↓qXX]
def across4:Cc 75 [.i 4] [.i (-1),.i 1]:=by
  refine q75 rfl ?_;unfold f75;simp only[qxh]
  simp(disch:=omega)only[↓qXX]
def farA:(∀ {c x y:Int},-1000000<=c/\c<=1000000/\-1000000<=x/\x<=1000000/\-1000000<=y/\y<=1000000->Cc 76 [.i 1,.i c,.i x,.i y] [.i (x - 2*c)])/\(∀ {c x y:Int},-1000000<=c/\c<=1000000/\-1000000<=x/\x<=1000000/\-1000000<=y/\y<=1000000->Cc 76 [.i 2,.i c,.i x,.i y] [.i (y - 2*c)])/\(∀ {c x y:Int},-1000000<=c/\c<=1000000/\-1000000<=x/\x<=1000000/\-1000000<=y/\y<=1000000->Cc 76 [.i 3,.i c,.i x,.i y] [.i (x+y - 2*c)])/\(∀ {c x y:Int},-1000000<=c/\c<=1000000/\-1000000<=x/\x<=1000000/\-1000000<=y/\y<=1000000->Cc 76 [.i 4,.i c,.i x,.i y] [.i (y - x - 2*c)]):=by
  refine⟨?_,?_,?_,?_⟩
  all_goals
    intro c x y h
    refine q76 rfl ?_;unfold f76;simp only[qxh]
    repeat (first|simp(disch:=omega)only[↓qXX]|refine af across1 ?_|refine af across2 ?_|refine af across3 ?_|refine af across4 ?_)
    (try simp only[qa2,Lf.i.injEq,and_true,true_and]);(try omega)
def reflA:(∀ {c x y:Int},-1000000<=c/\c<=1000000/\-1000000<=x/\x<=1000000/\-1000000<=y/\y<=1000000->Cc 47 [.i 1,.i c,.i x,.i y] [.i (4*c - x),.i y])/\(∀ {c x y:Int},-1000000<=c/\c<=1000000/\-1000000<=x/\x<=1000000/\-1000000<=y/\y<=1000000->Cc 47 [.i 2,.i c,.i x,.i y] [.i x,.i (4*c - y)])/\(∀ {c x y:Int},-1000000<=c/\c<=1000000/\-1000000<=x/\x<=1000000/\-1000000<=y/\y<=1000000->Cc 47 [.i 3,.i c,.i x,.i y] [.i (2*c - y),.i (2*c - x)])/\(∀ {c x y:Int},-1000000<=c/\c<=1000000/\-1000000<=x/\x<=1000000/\-1000000<=y/\y<=1000000->Cc 47 [.i 4,.i c,.i x,.i y] [.i (y - 2*c),.i (x+2*c)]):=by
  refine⟨?_,?_,?_,?_⟩
  all_goals
    intro c x y h
    refine q47 rfl ?_;unfold f47;simp only[qxh]
    repeat (first|simp(disch:=omega)only[↓qXX]|refine p_ari_2 (by simp only[Int.reduceToNat,Int.reduceAdd,Int.reduceMul,Int.reduceMod,Int.reduceSub,Int.reduceNeg,Int.reduceDiv,Nat.reduceAdd,Nat.reduceMul,Nat.reduceLeDiff,qaC,qbi,↓reduceIte,qbO,qbg,qby,qcf,qaI,qaG,qaL,qcR,qbG,qcd,qcX];exact rfl) ?_|refine af across1 ?_|refine af (farA.1 (by omega)) ?_|refine af across2 ?_|refine af (farA.2.1 (by omega)) ?_|refine af across3 ?_|refine af (farA.2.2.1 (by omega)) ?_|refine af across4 ?_|refine af (farA.2.2.2 (by omega)) ?_)
    (try simp only[qa2,Lf.i.injEq,and_true,true_and]);(try omega)
def lI:(∀ {x y:Int},-1000000<=x/\x<=1000000/\-1000000<=y/\y<=1000000->Cc 46 [.i x,.i y,.i 0] [.i (2*x+1),.i (2*y+1),.i (2*x),.i (2*y),.i (2*x+2),.i (2*y)])/\(∀ {x y:Int},-1000000<=x/\x<=1000000/\-1000000<=y/\y<=1000000->Cc 46 [.i x,.i y,.i 1] [.i (2*x+1),.i (2*y+1),.i (2*x+2),.i (2*y+2),.i (2*x+2),.i (2*y)])/\(∀ {x y:Int},-1000000<=x/\x<=1000000/\-1000000<=y/\y<=1000000->Cc 46 [.i x,.i y,.i 2] [.i (2*x+1),.i (2*y+1),.i (2*x+2),.i (2*y+2),.i (2*x),.i (2*y+2)])/\(∀ {x y:Int},-1000000<=x/\x<=1000000/\-1000000<=y/\y<=1000000->Cc 46 [.i x,.i y,.i 3] [.i (2*x+1),.i (2*y+1),.i (2*x),.i (2*y),.i (2*x),.i (2*y+2)]):=by
  refine⟨?_,?_,?_,?_⟩
  all_goals
    intro x y h
    refine q46 rfl ?_;unfold f46;simp only[qxh]
    repeat (first|simp(disch:=omega)only[↓qXX]|refine am (by simp only[dO,putL,offX,Int.reduceToNat,Int.reduceAdd,Int.reduceMul,Int.reduceMod,Int.reduceSub,Int.reduceNeg,Int.reduceDiv,Nat.reduceAdd,Nat.reduceMul,Nat.reduceLeDiff,qaC,qbi,↓reduceIte,qbO,qbg,qby,qcf,qaI,qaG,qaL,qcR,qbG,qcd,qcX];exact rfl) ?_)
    (try simp only[qa2,Lf.i.injEq,and_true,true_and]);(try omega)
def uL:(∀ {m n p q c d:Int},m%2=1/\n%2=1/\-1000000<=m/\m<=1000000/\-1000000<=n/\n<=1000000/\p=m - 1/\q=n - 1/\c=m+1/\d=n - 1->Cc 48 [.i m,.i n,.i p,.i q,.i c,.i d] [.i ((m - 1) / 2),.i ((n - 1) / 2),.i 0])/\(∀ {m n p q c d:Int},m%2=1/\n%2=1/\-1000000<=m/\m<=1000000/\-1000000<=n/\n<=1000000/\p=m+1/\q=n - 1/\c=m - 1/\d=n - 1->Cc 48 [.i m,.i n,.i p,.i q,.i c,.i d] [.i ((m - 1) / 2),.i ((n - 1) / 2),.i 0])/\(∀ {m n p q c d:Int},m%2=1/\n%2=1/\-1000000<=m/\m<=1000000/\-1000000<=n/\n<=1000000/\p=m+1/\q=n+1/\c=m+1/\d=n - 1->Cc 48 [.i m,.i n,.i p,.i q,.i c,.i d] [.i ((m - 1) / 2),.i ((n - 1) / 2),.i 1])/\(∀ {m n p q c d:Int},m%2=1/\n%2=1/\-1000000<=m/\m<=1000000/\-1000000<=n/\n<=1000000/\p=m+1/\q=n - 1/\c=m+1/\d=n+1->Cc 48 [.i m,.i n,.i p,.i q,.i c,.i d] [.i ((m - 1) / 2),.i ((n - 1) / 2),.i 1])/\(∀ {m n p q c d:Int},m%2=1/\n%2=1/\-1000000<=m/\m<=1000000/\-1000000<=n/\n<=1000000/\p=m+1/\q=n+1/\c=m - 1/\d=n+1->Cc 48 [.i m,.i n,.i p,.i q,.i c,.i d] [.i ((m - 1) / 2),.i ((n - 1) / 2),.i 2])/\(∀ {m n p q c d:Int},m%2=1/\n%2=1/\-1000000<=m/\m<=1000000/\-1000000<=n/\n<=1000000/\p=m - 1/\q=n+1/\c=m+1/\d=n+1->Cc 48 [.i m,.i n,.i p,.i q,.i c,.i d] [.i ((m - 1) / 2),.i ((n - 1) / 2),.i 2])/\(∀ {m n p q c d:Int},m%2=1/\n%2=1/\-1000000<=m/\m<=1000000/\-1000000<=n/\n<=1000000/\p=m - 1/\q=n - 1/\c=m - 1/\d=n+1->Cc 48 [.i m,.i n,.i p,.i q,.i c,.i d] [.i ((m - 1) / 2),.i ((n - 1) / 2),.i 3])/\(∀ {m n p q c d:Int},m%2=1/\n%2=1/\-1000000<=m/\m<=1000000/\-1000000<=n/\n<=1000000/\p=m - 1/\q=n+1/\c=m - 1/\d=n - 1->Cc 48 [.i m,.i n,.i p,.i q,.i c,.i d] [.i ((m - 1) / 2),.i ((n - 1) / 2),.i 3]):=by
  refine⟨?_,?_,?_,?_,?_,?_,?_,?_⟩
  all_goals
    intro m n p q c d h
    refine q48 rfl ?_;unfold f48;simp only[qxh]
    rcases qcW 0 m with hm|hm<;>rcases qcW 0 n with hn|hn
    all_goals
      (repeat (first|simp(disch:=omega)only[↓qXX]|refine am (by simp only[dO,putL,offX,Int.reduceToNat,Int.reduceAdd,Int.reduceMul,Int.reduceMod,Int.reduceSub,Int.reduceNeg,Int.reduceDiv,Nat.reduceAdd,Nat.reduceMul,Nat.reduceLeDiff,qaC,qbi,↓reduceIte,qbO,qbg,qby,qcf,qaI,qaG,qaL,qcR,qbG,qcd,qcX];exact rfl) ?_|refine p_loop 5 ?_|refine af (lI.1 (by omega)) ?_|refine af (lI.2.1 (by omega)) ?_|refine af (lI.2.2.1 (by omega)) ?_|refine af (lI.2.2.2 (by omega)) ?_);(try simp only[qa2,Lf.i.injEq,and_true,true_and]);(try omega))
def gS:(∀ {m n x y:Int},-1000000<=m/\m<=1000000/\-1000000<=n/\n<=1000000/\-1000000<=x/\x<=1000000/\-1000000<=y/\y<=1000000->Cc 93 [.i 0,.i m,.i n,.i x,.i y] [.i (x+2*m),.i (y+2*n)])/\(∀ {m n x y:Int},-1000000<=m/\m<=1000000/\-1000000<=n/\n<=1000000/\-1000000<=x/\x<=1000000/\-1000000<=y/\y<=1000000->Cc 93 [.i 1,.i m,.i n,.i x,.i y] [.i (-(y)+2*m),.i (x+2*n)])/\(∀ {m n x y:Int},-1000000<=m/\m<=1000000/\-1000000<=n/\n<=1000000/\-1000000<=x/\x<=1000000/\-1000000<=y/\y<=1000000->Cc 93 [.i 2,.i m,.i n,.i x,.i y] [.i (-(x)+2*m),.i (-(y)+2*n)])/\(∀ {m n x y:Int},-1000000<=m/\m<=1000000/\-1000000<=n/\n<=1000000/\-1000000<=x/\x<=1000000/\-1000000<=y/\y<=1000000->Cc 93 [.i 3,.i m,.i n,.i x,.i y] [.i (y+2*m),.i (-(x)+2*n)])/\(∀ {m n x y:Int},-1000000<=m/\m<=1000000/\-1000000<=n/\n<=1000000/\-1000000<=x/\x<=1000000/\-1000000<=y/\y<=1000000->Cc 93 [.i 4,.i m,.i n,.i x,.i y] [.i (-(x)+2*m),.i (y+2*n)])/\(∀ {m n x y:Int},-1000000<=m/\m<=1000000/\-1000000<=n/\n<=1000000/\-1000000<=x/\x<=1000000/\-1000000<=y/\y<=1000000->Cc 93 [.i 5,.i m,.i n,.i x,.i y] [.i (-(y)+2*m),.i (-(x)+2*n)])/\(∀ {m n x y:Int},-1000000<=m/\m<=1000000/\-1000000<=n/\n<=1000000/\-1000000<=x/\x<=1000000/\-1000000<=y/\y<=1000000->Cc 93 [.i 6,.i m,.i n,.i x,.i y] [.i (x+2*m),.i (-(y)+2*n)])/\(∀ {m n x y:Int},-1000000<=m/\m<=1000000/\-1000000<=n/\n<=1000000/\-1000000<=x/\x<=1000000/\-1000000<=y/\y<=1000000->Cc 93 [.i 7,.i m,.i n,.i x,.i y] [.i (y+2*m),.i (x+2*n)]):=by
  refine⟨?_,?_,?_,?_,?_,?_,?_,?_⟩
  all_goals
    intro m n x y h
    refine q93 rfl ?_;unfold f93;simp only[qxh]
    repeat (first|simp(disch:=omega)only[↓qXX])
    (try simp only[qa2,Lf.i.injEq,and_true,true_and]);(try omega)
def eqs2{a b c d:Int}{t:Bool}{K:Bool->Prop}(h:t=(decide (a=c)&&decide (b=d))):P1.eqs [(.i a,.i c),(.i b,.i d)] (@hid _ ⟨K⟩)=K t:=by
  show K (cb _)=K t
  have e:cb [(.i a,.i c),(.i b,.i d)]=t:=by
    rw[h,qbI]
    simp[cb,gp]
  rw[e]
def ei{f:FuncId}{ls rs rs':List Lf}(h:Cc f ls rs)(e:rs=rs'):Cc f ls rs':=e▸h
def cR{m:Mv}(ht:m.1<8){x y:Int}(h:-100000<=m.2.1/\m.2.1<=100000/\-100000<=m.2.2/\m.2.2<=100000/\-100000<=x/\x<=100000/\-100000<=y/\y<=100000):Cc 93 (mvl m++[.i x,.i y]) [.i (ptM m x y).1,.i (ptM m x y).2]:=by
  obtain⟨t,mx,my⟩:=m
  simp only at ht h
  rcases t8 ht with rfl|rfl|rfl|rfl|rfl|rfl|rfl|rfl
  · exact ei (gS.1 (m:=mx) (n:=my) (x:=x) (y:=y) (by omega)) (by simp[ptM,mA,mB,mC,mD];try omega)
  · exact ei (gS.2.1 (m:=mx) (n:=my) (x:=x) (y:=y) (by omega)) (by simp[ptM,mA,mB,mC,mD];try omega)
  · exact ei (gS.2.2.1 (m:=mx) (n:=my) (x:=x) (y:=y) (by omega)) (by simp[ptM,mA,mB,mC,mD];try omega)
  · exact ei (gS.2.2.2.1 (m:=mx) (n:=my) (x:=x) (y:=y) (by omega)) (by simp[ptM,mA,mB,mC,mD];try omega)
  · exact ei (gS.2.2.2.2.1 (m:=mx) (n:=my) (x:=x) (y:=y) (by omega)) (by simp[ptM,mA,mB,mC,mD];try omega)
  · exact ei (gS.2.2.2.2.2.1 (m:=mx) (n:=my) (x:=x) (y:=y) (by omega)) (by simp[ptM,mA,mB,mC,mD];try omega)
  · exact ei (gS.2.2.2.2.2.2.1 (m:=mx) (n:=my) (x:=x) (y:=y) (by omega)) (by simp[ptM,mA,mB,mC,mD];try omega)
  · exact ei (gS.2.2.2.2.2.2.2 (m:=mx) (n:=my) (x:=x) (y:=y) (by omega)) (by simp[ptM,mA,mB,mC,mD];try omega)
def mat_ne:((List.range 8).all λs=>(List.range 8).all λt=>Nat.beq s t || !(decide (mA s=mA t)&&decide (mC s=mC t)&&(decide (mB s=mB t)&&decide (mD s=mD t))))=true:=by decide +kernel
def rtold_c{m:Mv}(hm:okM 40000 m):Cc 96 [.i (ptM m 0 0).1,.i (ptM m 0 0).2,.i (ptM m 2 0).1,.i (ptM m 2 0).2,.i (ptM m 0 2).1,.i (ptM m 0 2).2] (mvl m):=by
  obtain⟨t,mx,my⟩:=m
  have ht:t<8:=hm.1
  have hm':=hm.2
  simp only at hm'
  have e1:(ptM (t,mx,my) 0 0).1=2*mx:=by simp[ptM]
  have e2:(ptM (t,mx,my) 0 0).2=2*my:=by simp[ptM]
  refine q96 rfl ?_;unfold f96;simp only[qxh]
  simp(disch:=omega)only[↓qXX]
  refine bW 8 (λj (_:Unit)=>[.i (Int.ofNat j)]) (λ_ _=>[]) (λj _=>j<=t) (j0:=0) (s0:=()) rfl rfl (by omega) (qaW _) ?_
  rintro j _ hj8 hjt self hself
  simp(disch:=omega)only[↓qXX]
  rw[p_lss_t (by show((j:Nat):Int)<8;omega)]
  simp(disch:=omega)only[↓qXX]
  rw[e1,e2]
  try simp(disch:=omega)only[↓qXX]
  rw[show 2*mx / 2=mx by omega,show 2*my / 2=my by omega]
  have hadd:∀K:Int->Prop,P1.ari .add .u8 (Int.ofNat j) 1 (@hid _ ⟨K⟩)=K (Int.ofNat j+1):=λK=>p_add8 (by show(0:Int)<=(j:Int)+1;omega) (by show(j:Int)+1<=255;omega)
  refine af (cR (m:=(j,mx,my)) (by show j<8;omega) (x:=2) (y:=0) (by simp only;omega)) ?_
  simp(disch:=omega)only[↓qXX]
  have n1:∀s:Nat,((ptM (s,mx,my) 2 0).1=2*mA s+2*mx)/\((ptM (s,mx,my) 2 0).2=2*mC s+2*my)/\((ptM (s,mx,my) 0 2).1=2*mB s+2*mx)/\((ptM (s,mx,my) 0 2).2=2*mD s+2*my):=λs=>by
    simp[ptM];omega
  have nj:=n1 j
  have nt:=n1 t
  rw[eqs2 rfl]
  by_cases hjt2:j=t
  · subst hjt2
    rw[decide_eq_true rfl,decide_eq_true rfl]
    simp(disch:=omega)only[↓qXX,qdn]
    refine af (cR (m:=(j,mx,my)) (by show j<8;omega) (x:=0) (y:=2) (by simp only;omega)) ?_
    simp(disch:=omega)only[↓qXX]
    try rw[eqs2 rfl,decide_eq_true rfl,decide_eq_true rfl]
    try simp(disch:=omega)only[↓qXX,qdn]
    refine af (cR (m:=(j,mx,my)) (by show j<8;omega) (x:=0) (y:=0) (by simp only;omega)) ?_
    simp(disch:=omega)only[↓qXX]
    try rw[e1,e2]
    try rw[eqs2 rfl,decide_eq_true rfl,decide_eq_true rfl]
    try simp(disch:=omega)only[↓qXX,qdn]
  · have hne:=qab.1 (qab.1 mat_ne j (qad.2 (by omega))) t (qad.2 ht)
    have hb:Nat.beq j t=false:=by
      cases h:Nat.beq j t with
      |true=>exact absurd (qac h) hjt2
      |false=>rfl
    rw[hb]at hne
    by_cases h1:mA j=mA t/\mC j=mC t
    · rw[decide_eq_true (by omega),decide_eq_true (by omega)]
      simp(disch:=omega)only[↓qXX,qdn]
      refine af (cR (m:=(j,mx,my)) (by show j<8;omega) (x:=0) (y:=2) (by simp only;omega)) ?_
      simp(disch:=omega)only[↓qXX]
      rw[eqs2 rfl]
      have h2:¬(mB j=mB t/\mD j=mD t):=λh2=>by
        simp[h1.1,h1.2,h2.1,h2.2]at hne
      have h3:(decide ((ptM (j,mx,my) 0 2).1=(ptM (t,mx,my) 0 2).1)&&decide ((ptM (j,mx,my) 0 2).2=(ptM (t,mx,my) 0 2).2))=false:=by
        rw[qcN]
        intro h
        simp only[qaa,decide_eq_true_eq]at h
        exact h2 (by omega)
      rw[h3]
      simp(disch:=omega)only[↓qXX]
      rw[hadd]
      exact hself () (by omega) (by omega)
    · have h3:(decide ((ptM (j,mx,my) 2 0).1=(ptM (t,mx,my) 2 0).1)&&decide ((ptM (j,mx,my) 2 0).2=(ptM (t,mx,my) 2 0).2))=false:=by
        rw[qcN]
        intro h
        simp only[qaa,decide_eq_true_eq]at h
        exact h1 (by omega)
      rw[h3]
      simp(disch:=omega)only[↓qXX]
      rw[hadd]
      exact hself () (by omega) (by omega)
def vB{a b:Mv}(ha:a.1<8)(hb:b.1<8)(x y:Int):ptM b (ptM a x y).1 (ptM a x y).2=ptM (aZ a b) x y:=by
  obtain⟨at',ax,ay⟩:=a
  obtain⟨bt,bx,by'⟩:=b
  simp only at ha hb
  unfold ptM aZ
  rcases t8 ha with rfl|rfl|rfl|rfl|rfl|rfl|rfl|rfl<;>rcases t8 hb with rfl|rfl|rfl|rfl|rfl|rfl|rfl|rfl<;>
    (refine qcM ?_ ?_<;>simp[mulT,mA,mB,mC,mD]<;>omega)
def pt_rng{m:Mv}{n:Int}(hm:okM n m){x y k:Int}(h:-k<=x/\x<=k/\-k<=y/\y<=k):-(2*n+k)<=(ptM m x y).1/\(ptM m x y).1<=2*n+k/\-(2*n+k)<=(ptM m x y).2/\(ptM m x y).2<=2*n+k:=by
  have h1:=vj hm.1 h
  have h2:=hm.2
  unfold ptM
  simp only
  omega
def rthen_c{a b:Mv}{n k:Int}(ha:okM n a)(hb:okM k b)(hn:0<=n/\0<=k/\n+k<=40000):Cc 58 (mvl a++mvl b) (mvl (aZ a b)):=by
  have h0:=cE (dA ha hb) hn.2.2
  have ht:=rtold_c h0
  rw[←vB ha.1 hb.1,←vB ha.1 hb.1,←vB ha.1 hb.1]at ht
  have r0:=pt_rng ha (x:=0) (y:=0) (k:=2) (by omega)
  have r1:=pt_rng ha (x:=2) (y:=0) (k:=2) (by omega)
  have r2:=pt_rng ha (x:=0) (y:=2) (k:=2) (by omega)
  have a2:=ha.2
  have b2:=hb.2
  refine q58 rfl ?_;unfold f58;simp only[qxh]
  simp only[mvl,qaI,qaG]
  simp(disch:=omega)only[↓qXX]
  refine af (cR ha.1 (x:=0) (y:=0) (by omega)) ?_
  simp(disch:=omega)only[↓qXX]
  refine af (cR hb.1 (by omega)) ?_
  simp(disch:=omega)only[↓qXX]
  refine af (cR ha.1 (x:=2) (y:=0) (by omega)) ?_
  simp(disch:=omega)only[↓qXX]
  refine af (cR hb.1 (by omega)) ?_
  simp(disch:=omega)only[↓qXX]
  refine af (cR ha.1 (x:=0) (y:=2) (by omega)) ?_
  simp(disch:=omega)only[↓qXX]
  refine af (cR hb.1 (by omega)) ?_
  simp(disch:=omega)only[↓qXX]
  refine af ht ?_
  simp only[mvl]
  simp(disch:=omega)only[↓qXX]
def vD{l:Ln}(hl:1<=l.1/\l.1<=4)(hc:-100<=l.2/\l.2<=100){x y:Int}(h:-100<=x/\x<=100/\-100<=y/\y<=100):Cc 47 [.i (Int.ofNat l.1),.i l.2,.i x,.i y] [.i (ptM (ofM l) x y).1,.i (ptM (ofM l) x y).2]:=by
  obtain⟨k,c⟩:=l
  simp only at hl hc
  obtain rfl|rfl|rfl|rfl:k=1∨k=2∨k=3∨k=4:=by omega
  · exact ei (reflA.1 (c:=c) (x:=x) (y:=y) (by omega)) (by simp[ptM,ofM,mA,mB,mC,mD];try omega)
  · exact ei (reflA.2.1 (c:=c) (x:=x) (y:=y) (by omega)) (by simp[ptM,ofM,mA,mB,mC,mD];try omega)
  · exact ei (reflA.2.2.1 (c:=c) (x:=x) (y:=y) (by omega)) (by simp[ptM,ofM,mA,mB,mC,mD];try omega)
  · exact ei (reflA.2.2.2 (c:=c) (x:=x) (y:=y) (by omega)) (by simp[ptM,ofM,mA,mB,mC,mD];try omega)
def rof_c{l:Ln}(hl:1<=l.1/\l.1<=4)(hc:-100<=l.2/\l.2<=100):Cc 59 [.i (Int.ofNat l.1),.i l.2] (mvl (ofM l)):=by
  have ht:=rtold_c (cE (wY hc) (by omega))
  refine q59 rfl ?_;unfold f59;simp only[qxh]
  simp(disch:=omega)only[↓qXX]
  refine af (vD hl hc (x:=0) (y:=0) (by omega)) ?_
  simp(disch:=omega)only[↓qXX]
  refine af (vD hl hc (x:=2) (y:=0) (by omega)) ?_
  simp(disch:=omega)only[↓qXX]
  refine af (vD hl hc (x:=0) (y:=2) (by omega)) ?_
  simp(disch:=omega)only[↓qXX]
  refine af ht ?_
  simp only[mvl]
  simp(disch:=omega)only[↓qXX]
def o1x(q:Nat):Int:=[0,2,2,0].getD q 0
def o2x(q:Nat):Int:=[2,2,0,0].getD q 0
def o2y(q:Nat):Int:=[0,0,2,2].getD q 0
def q4{q:Nat}(h:q<4):q=0∨q=1∨q=2∨q=3:=by omega
def rcorn_c{c:Cl}(h:-100000<=c.1/\c.1<=100000/\-100000<=c.2.1/\c.2.1<=100000/\c.2.2<4):Cc 46 (cll c) [.i (2*c.1+1),.i (2*c.2.1+1),.i (2*c.1+o1x c.2.2),.i (2*c.2.1+o1x c.2.2),.i (2*c.1+o2x c.2.2),.i (2*c.2.1+o2y c.2.2)]:=by
  obtain⟨x,y,q⟩:=c
  simp only at h
  rcases q4 h.2.2.2.2 with rfl|rfl|rfl|rfl
  · exact ei (lI.1 (x:=x) (y:=y) (by omega)) (by simp[o1x,o2x,o2y])
  · exact ei (lI.2.1 (x:=x) (y:=y) (by omega)) (by simp[o1x,o2x,o2y])
  · exact ei (lI.2.2.1 (x:=x) (y:=y) (by omega)) (by simp[o1x,o2x,o2y])
  · exact ei (lI.2.2.2 (x:=x) (y:=y) (by omega)) (by simp[o1x,o2x,o2y])
def rwith_c{c:Cl}(h:-50000<=c.1/\c.1<=50000/\-50000<=c.2.1/\c.2.1<=50000/\c.2.2<4){X Y a b d e:Int}(hX:X=2*c.1+1)(hY:Y=2*c.2.1+1)
    (hc:(a=2*c.1+o1x c.2.2/\b=2*c.2.1+o1x c.2.2/\d=2*c.1+o2x c.2.2/\e=2*c.2.1+o2y c.2.2)∨(d=2*c.1+o1x c.2.2/\e=2*c.2.1+o1x c.2.2/\a=2*c.1+o2x c.2.2/\b=2*c.2.1+o2y c.2.2)) :
    Cc 48 [.i X,.i Y,.i a,.i b,.i d,.i e] (cll c):=by
  obtain⟨x,y,q⟩:=c
  simp only at h hX hY
  have ex:(X - 1) / 2=x:=by omega
  have ey:(Y - 1) / 2=y:=by omega
  rcases q4 h.2.2.2.2 with rfl|rfl|rfl|rfl
  all_goals
    simp[o1x,o2x,o2y]at hc
    rcases hc with hc|hc
  · exact ei (uL.1 (m:=X) (n:=Y) (p:=a) (q:=b) (c:=d) (d:=e) (by omega)) (by rw[ex,ey];rfl)
  · exact ei (uL.2.1 (m:=X) (n:=Y) (p:=a) (q:=b) (c:=d) (d:=e) (by omega)) (by rw[ex,ey];rfl)
  · exact ei (uL.2.2.1 (m:=X) (n:=Y) (p:=a) (q:=b) (c:=d) (d:=e) (by omega)) (by rw[ex,ey];rfl)
  · exact ei (uL.2.2.2.1 (m:=X) (n:=Y) (p:=a) (q:=b) (c:=d) (d:=e) (by omega)) (by rw[ex,ey];rfl)
  · exact ei (uL.2.2.2.2.1 (m:=X) (n:=Y) (p:=a) (q:=b) (c:=d) (d:=e) (by omega)) (by rw[ex,ey];rfl)
  · exact ei (uL.2.2.2.2.2.1 (m:=X) (n:=Y) (p:=a) (q:=b) (c:=d) (d:=e) (by omega)) (by rw[ex,ey];rfl)
  · exact ei (uL.2.2.2.2.2.2.1 (m:=X) (n:=Y) (p:=a) (q:=b) (c:=d) (d:=e) (by omega)) (by rw[ex,ey];rfl)
  · exact ei (uL.2.2.2.2.2.2.2 (m:=X) (n:=Y) (p:=a) (q:=b) (c:=d) (d:=e) (by omega)) (by rw[ex,ey];rfl)
def corn_move{m:Mv}(hm:m.1<8){c:Cl}(hq:c.2.2<4) :
    (ptM m (2*c.1+1) (2*c.2.1+1)).1=2*(bQ m c).1+1/\(ptM m (2*c.1+1) (2*c.2.1+1)).2=2*(bQ m c).2.1+1/\
    (((ptM m (2*c.1+o1x c.2.2) (2*c.2.1+o1x c.2.2)).1=2*(bQ m c).1+o1x (bQ m c).2.2/\(ptM m (2*c.1+o1x c.2.2) (2*c.2.1+o1x c.2.2)).2=2*(bQ m c).2.1+o1x (bQ m c).2.2/\(ptM m (2*c.1+o2x c.2.2) (2*c.2.1+o2y c.2.2)).1=2*(bQ m c).1+o2x (bQ m c).2.2/\(ptM m (2*c.1+o2x c.2.2) (2*c.2.1+o2y c.2.2)).2=2*(bQ m c).2.1+o2y (bQ m c).2.2)∨
     ((ptM m (2*c.1+o2x c.2.2) (2*c.2.1+o2y c.2.2)).1=2*(bQ m c).1+o1x (bQ m c).2.2/\(ptM m (2*c.1+o2x c.2.2) (2*c.2.1+o2y c.2.2)).2=2*(bQ m c).2.1+o1x (bQ m c).2.2/\(ptM m (2*c.1+o1x c.2.2) (2*c.2.1+o1x c.2.2)).1=2*(bQ m c).1+o2x (bQ m c).2.2/\(ptM m (2*c.1+o1x c.2.2) (2*c.2.1+o1x c.2.2)).2=2*(bQ m c).2.1+o2y (bQ m c).2.2)):=by
  obtain⟨t,mx,my⟩:=m
  obtain⟨x,y,q⟩:=c
  simp only at hm hq
  rcases t8 hm with rfl|rfl|rfl|rfl|rfl|rfl|rfl|rfl<;>rcases q4 hq with rfl|rfl|rfl|rfl<;>
    (simp[ptM,bQ,qT,mA,mB,mC,mD,o1x,o2x,o2y];omega)
def rmove_c{m:Mv}(hm:okM 40000 m){c:Cl}(h:-100<=c.1/\c.1<=100/\-100<=c.2.1/\c.2.1<=100/\c.2.2<4):Cc 55 (mvl m++cll c) (cll (bQ m c)):=by
  obtain⟨k1,k2,k3⟩:=corn_move hm.1 (c:=c) h.2.2.2.2
  have hr:=jA hm (k:=100) ⟨h.1,h.2.1,h.2.2.1,h.2.2.2.1⟩
  have hm2:=hm.2
  have p1:0<=o1x c.2.2/\o1x c.2.2<=2/\0<=o2x c.2.2/\o2x c.2.2<=2/\0<=o2y c.2.2/\o2y c.2.2<=2:=by
    rcases q4 h.2.2.2.2 with hq|hq|hq|hq<;>rw[hq]<;>decide
  refine q55 rfl ?_;unfold f55;simp only[qxh]
  simp only[mvl,qaI,qaG]
  simp(disch:=omega)only[↓qXX]
  refine af (rcorn_c (c:=c) ⟨by omega,by omega,by omega,by omega,h.2.2.2.2⟩) ?_
  simp(disch:=omega)only[↓qXX]
  have w0:=cR hm.1 (x:=2*c.1+1) (y:=2*c.2.1+1) (by omega)
  have w1:=cR hm.1 (x:=2*c.1+o1x c.2.2) (y:=2*c.2.1+o1x c.2.2) (by omega)
  have w2:=cR hm.1 (x:=2*c.1+o2x c.2.2) (y:=2*c.2.1+o2y c.2.2) (by omega)
  have w3:=rwith_c (c:=bQ m c) ⟨by omega,by omega,by omega,by omega,hr.2.2.2.2⟩ k1 k2 k3
  repeat (first|simp(disch:=omega)only[↓qXX]|refine am (by simp only[dO,putL,offX,Int.reduceToNat,Int.reduceAdd,Int.reduceMul,Int.reduceMod,Int.reduceSub,Int.reduceNeg,Int.reduceDiv,Nat.reduceAdd,Nat.reduceMul,Nat.reduceLeDiff,qaC,qbi,↓reduceIte,qbO,qbg,qby,qcf,qaI,qaG,qaL,qcR,qbG,qcd,qcX];exact rfl) ?_|refine p_loop 4 ?_|refine af w0 ?_|refine af w1 ?_|refine af w2 ?_|refine af w3 ?_)
  try rfl
set_option maxHeartbeats 8000000
def mW(w v:Nat):List Cl:=(List.range (4*w*v)).map (clN w)
def sc(w v:Nat):Bool:=match runF 60 (.f 30) [.i (.ofNat w),.i (.ofNat v)] .empty (λrs h=>match rs with
   | .v x :: r=>ans (eqLs r []&&isSl h x 3 (mW w v).length ((mW w v).flatMap aD))
   |_=>none)with
 |some []=>true
 |_=>false
def tabRn(w v:Nat):Bool:=(aF w v).all λu=>match nbr w v u.1 u.2 with
 |some n=>uI 17 [.i (.ofNat w),.i (.ofNat v),.i (.ofNat u.1),.i (.ofNat u.2)] [.i (.ofNat n)]
 |none=>false
def tab78(w v:Nat):Bool:=sc w v&&(tabRn w v&&Nat.beq (aF w v).length (6*w*v - w - v))
def all78:∀w v:Nat,1<=w->w<=5->1<=v->v<=5->tab78 w v=true:=by
 have key:((List.range 5).all λw=>(List.range 5).all λv=>tab78 (w+1) (v+1))=true:=by kernel_rfl
 intro w v h1 h2 h3 h4
 have h5:=qab.1 key (w - 1) (qad.2 (by omega))
 have h6:=qab.1 h5 (v - 1) (qad.2 (by omega))
 rw[show w - 1+1=w by omega,show v - 1+1=v by omega]at h6
 exact h6
def sh_N4{w v:Nat}(h:Sh w v):4<=4*w*v/\4*w*v<=100:=by
 obtain⟨h1,h2,h3,h4⟩:=h
 have a1:4*w*v<=4*w*5:=qcC _ h4
 have a2:4*w*1<=4*w*v:=qcC _ h3
 omega
section
variable {w v:Nat}
def xK(h:Sh w v):sc w v=true/\tabRn w v=true/\(aF w v).length=6*w*v - w - v:=by
 have:=all78 w v h.1 h.2.1 h.2.2.1 h.2.2.2
 unfold tab78 at this
 simp only[qaa]at this
 exact⟨this.1,this.2.1,qac this.2.2⟩
def unit_ok{c e:Nat}(h:(c,e)∈aF w v):c<4*w*v/\e<3/\∃n,nbr w v c e=some n/\c<n:=by
 unfold aF at h
 obtain⟨c',hc,h2⟩:=qbd.1 h
 obtain⟨e',he,h3⟩:=qa4.1 h2
 split at h3
 next n hn=>
  split at h3
  next hlt=>
   simp only[qaA,qb5]at h3
   obtain⟨rfl,rfl⟩:=h3
   exact⟨qad.1 hc,qad.1 he,n,hn,hlt⟩
  ·cases h3
 ·cases h3
def cells_c(hs:Sh w v)(h:HL):∃s G,aw cc ac 30 [.i (.ofNat w),.i (.ofNat v)] (absH aa h) [.v s] (absH aa (h++G))/\LsH (h++G) s 3 aD (mW w v):=by
 have ht:=(xK hs).1
 unfold sc at ht
 split at ht
 next e=>
  obtain⟨s,G,c1,c2⟩:=made (g:=30) (rest:=[]) rfl (by kernel_rfl) rfl rfl e h
  exact⟨s,G,c1,λu _=>bF u,c2⟩
 ·cases ht
def rnb_c(hs:Sh w v){c e n:Nat}(hu:(c,e)∈aF w v)(hn:nbr w v c e=some n):Cc 17 [.i (.ofNat w),.i (.ofNat v),.i (.ofNat c),.i (.ofNat e)] [.i (.ofNat n)]:=by
 have:=qab.1 (xK hs).2.1 (c,e) hu
 simp only[hn]at this
 exact jd this rfl (by kernel_rfl) rfl
def jT{j:Nat}(h:j<4*w*v):(mW w v)[j]?=some (clN w j):=by
 unfold mW
 rw[qat,qbX h];rfl
def jU:(mW w v).length=4*w*v:=by simp[mW]
def clN_rng(hs:Sh w v){j:Nat}(h:j<4*w*v):-100<=(clN w j).1/\(clN w j).1<=100/\-100<=(clN w j).2.1/\(clN w j).2.1<=100/\(clN w j).2.2<4:=by
 have hN:=sh_N4 hs
 have d1:j / 4%w<=j / 4:=qdP _ _
 have d2:j / 4 / w<=j / 4:=qde _ _
 refine⟨?_,?_,?_,?_,qb2 _ (by omega)⟩
 ·exact qdv (show(-100:Int)<=0 by decide) (qaZ _)
 ·exact qdy.2 (show j / 4%w<=100 by omega)
 ·exact qdv (show(-100:Int)<=0 by decide) (qaZ _)
 ·exact qdy.2 (show j / 4 / w<=100 by omega)
end
def p_eql_d{a b:Int}{K:Bool->Prop}(h1:a=b->K true)(h2:a≠b->K false):P1.cmp .eql a b (@hid _ ⟨K⟩):=by
 by_cases h:a=b
 ·rw[p_eql_t h];exact h1 h
 ·rw[p_eql_f h];exact h2 h
def KindP(w v:Nat)(l:List Crs)(ks:List Int)(j:Nat):Prop:=∀u k,(aF w v)[j]?=some u->ks[j]?=some k->(0<=k/\k<=3)/\(k≠0↔isCr l u.1 u.2=true)
def KindZ(l:List Crs)(u:Nat×Nat)(z:Nat)(k:Int):Prop:=(0<=k/\k<=3)/\(k≠0↔∃c∈l.take z,c.1 = .ofNat u.1/\c.2.1 = .ofNat u.2)
def kindZ_end{l:List Crs}{u:Nat×Nat}{k:Int}(h:KindZ l u l.length k):(0<=k/\k<=3)/\(k≠0↔isCr l u.1 u.2=true):=by
 refine⟨h.1,h.2.trans ?_⟩
 rw[qbh]
 unfold isCr
 rw[decide_eq_true_eq,qaM]
 constructor
 ·rintro⟨c,h1,h2,h3⟩
  exact⟨c,h1,by unfold dI;rw[h2,h3]⟩
 ·rintro⟨c,h1,h2⟩
  unfold dI at h2
  simp only[qb5]at h2
  exact⟨c,h1,h2.1,h2.2⟩
def kinds_c{w v:Nat}(hs:Sh w v){l:List Crs}(hkd:∀c∈l,1<=c.2.2/\c.2.2<=3)(hll:l.length<=1000){H:HL}{x:Value}(hl:LsH H x 3 encC l) :
  ∃ks id h',aw cc ac 16 [.i (.ofNat w),.i (.ofNat v),.v x] (absH aa H) [.v (.slice (some ⟨id,0,tag 1⟩) (aF w v).length ((aF w v).length+1))] (absH aa h')/\Pre H h'/\H.length<=id/\h'[id]?=some (.o (.cells (ks.flatMap enc8) 1 true))/\ks.length=(aF w v).length/\∀j,KindP w v l ks j:=by
 obtain⟨su,G1,cu1,hU⟩:=vV hs.1 hs.2.1 hs.2.2.1 hs.2.2.2 H
 have hul:=(gX (gY w v hs.1 hs.2.1 hs.2.2.1 hs.2.2.2)).2.2.2.2
 obtain⟨rs,h',hc,ks,id,rfl,h1,h2,h3,h4,h5⟩:=x16 (ls:=[.i (.ofNat w),.i (.ofNat v),.v x]) (K:=λrs h'=>∃ks id,rs=[.v (.slice (some ⟨id,0,tag 1⟩) (aF w v).length ((aF w v).length+1))]/\Pre H h'/\H.length<=id/\h'[id]?=some (.o (.cells (ks.flatMap enc8) 1 true))/\ks.length=(aF w v).length/\∀j,KindP w v l ks j) (H:=H) (glsI (glsI (glsV hl.good gls0))) (by
  unfold f16;simp only[qxh]
  simp(disch:=omega)only[↓qXX]
  refine ai cu1 ?_
  simp(disch:=omega)only[↓qXX]
  refine bM hU ?_
  refine am (fj (by omega)) ?_
  simp(disch:=omega)only[↓qXX]
  have hpH:Pre H (H++G1):=⟨_,rfl⟩
  have hl:=hl.pre hpH
  generalize H++G1=Hm at *
  clear cu1
  generalize hN:(aF w v).length=N at *
  rw[show(Int.ofNat N).toNat=N from rfl]
  have z0:HO.o (.cells (aM [.int .u8 0] N) 1 true)=HO.o (.cells ((List.replicate N (0:Int)).flatMap enc8) 1 true):=by
   rw[←dt (enc:=enc8) (z:=(0:Int)) (n:=N)]
   rfl
  rw[z0]
  have s1:(Hm++[HO.o (.cells ((List.replicate N (0:Int)).flatMap enc8) 1 true)])[Hm.length]?=some (.o (.cells ((List.replicate N (0:Int)).flatMap enc8) 1 true)):=bA
  have s2:Pre Hm (Hm++[HO.o (.cells ((List.replicate N (0:Int)).flatMap enc8) 1 true)]):=⟨_,rfl⟩
  generalize Hm++[HO.o (.cells ((List.replicate N (0:Int)).flatMap enc8) 1 true)]=h1 at *
  refine bW (σ:=HL) N (λj _=>[.i (Int.ofNat j)]) (λ_ s=>s) (λj s=>Pre Hm s/\∃ks:List Int,s[Hm.length]?=some (.o (.cells (ks.flatMap enc8) 1 true))/\ks.length=N/\(∀i,j<=i->i<N->ks[i]?=some 0)/\∀i,i<j->KindP w v l ks i) (j0:=0) (s0:=h1) rfl rfl (qaW _) ⟨s2,List.replicate N 0,s1,by simp,λi _ hi=>by rw[qaT,if_pos hi],λi hi=>absurd hi (qca _)⟩ ?_
  clear s1 s2
  rintro j s hj ⟨s2,ks,s1,k1,k2,k3⟩ self hself
  simp(disch:=omega)only[↓qXX]
  refine bM (hU.pre s2) ?_
  rw[hN]
  by_cases hlt:j<N
  ·rw[aS hlt]
   simp(disch:=omega)only[↓qXX]
   obtain⟨u,hu⟩:=bn (l:=aF w v) (i:=j) (by omega)
   refine bW (σ:=HL) l.length (λz _=>[.i (Int.ofNat z)]) (λ_ s=>s) (λz s=>Pre Hm s/\∃(ks:List Int) (k:Int),s[Hm.length]?=some (.o (.cells (ks.flatMap enc8) 1 true))/\ks.length=N/\(∀i,j+1<=i->i<N->ks[i]?=some 0)/\(∀i,i<j->KindP w v l ks i)/\ks[j]?=some k/\KindZ l u z k) (j0:=0) (s0:=s) rfl rfl (qaW _) ⟨s2,ks,0,s1,k1,λi hi=>k2 i (by omega),k3,k2 j (qan _) hlt,⟨⟨Int.le_refl 0,by decide⟩,⟨λh=>absurd rfl h,λ⟨c,hc,_⟩=>by simp at hc⟩⟩⟩ ?_
   clear s1 s2 k1 k2 k3
   rintro z t hz ⟨s2,ks,k,s1,k1,k2,k3,k4,k5⟩ self2 hself2
   simp(disch:=omega)only[↓qXX]
   refine bM (hl.pre s2) ?_
   by_cases hlz:z<l.length
   ·rw[aS hlz]
    simp(disch:=omega)only[↓qXX]
    obtain⟨c,hc⟩:=bn hlz
    have hkd:=hkd c (qag hc)
    have tk:l.take (z+1)=l.take z++[c]:=by rw[qa6,hc];rfl
    have hno:¬(c.1 = .ofNat u.1/\c.2.1 = .ofNat u.2)->KindZ l u (z+1) k:=λhne=>by
     refine⟨k5.1,k5.2.trans ?_⟩
     rw[tk]
     constructor
     ·rintro⟨c',h1,h2⟩
      exact⟨c',qaS _ h1,h2⟩
     ·rintro⟨c',h1,h2⟩
      rcases qaH.1 h1 with h1|h1
      ·exact⟨c',h1,h2⟩
      ·rw[qau]at h1
       subst h1
       exact absurd h2 hne
    refine iC (o:=0) (k:=1) (cs:=[.int .i64 c.1]) (hl.pre s2) rfl hc rfl (by omega) ?_
    simp(disch:=omega)only[↓qXX]
    refine iC (o:=0) (k:=1) (cs:=[.int .i64 (.ofNat u.1)]) (hU.pre s2) rfl hu rfl (by omega) ?_
    simp(disch:=omega)only[↓qXX]
    refine p_eql_d (λe1=>?_) (λe1=>?_)
    ·simp(disch:=omega)only[↓qXX]
     refine iC (o:=1) (k:=1) (cs:=[.int .u8 c.2.1]) (hl.pre s2) rfl hc rfl (by omega) ?_
     simp(disch:=omega)only[↓qXX]
     refine iC (o:=1) (k:=1) (cs:=[.int .u8 (.ofNat u.2)]) (hU.pre s2) rfl hu rfl (by omega) ?_
     simp(disch:=omega)only[↓qXX]
     refine p_eql_d (λe2=>?_) (λe2=>?_)
     ·simp(disch:=omega)only[↓qXX]
      refine iC (o:=2) (k:=1) (cs:=[.int .u8 c.2.2]) (hl.pre s2) rfl hc rfl (by omega) ?_
      simp(disch:=omega)only[↓qXX]
      refine gm (enc:=enc8) (l:=ks) (i:=j) (a:=c.2.2) mg s1 rfl (by omega) k1 rfl ?_
      simp(disch:=omega)only[↓qXX]
      rw[ce (by omega)]
      refine hself2 _ hlz ⟨dP s2 (qan _),ks.set j c.2.2,c.2.2,dc (be s1),by rw[qb8];exact k1,λi hi hiN=>by rw[qai (by omega)];exact k2 i hi hiN,λi hi u' k' hu' hk'=>?_,by rw[qaD (by omega)],⟨⟨by omega,hkd.2⟩,⟨λ_=>⟨c,by rw[tk];exact qa8 _ qax,e1,e2⟩,λ_=>by omega⟩⟩⟩
      rw[qai (by omega)]at hk'
      exact k3 i hi u' k' hu' hk'
     ·simp(disch:=omega)only[↓qXX]
      rw[ce (by omega)]
      exact hself2 _ hlz ⟨s2,ks,k,s1,k1,k2,k3,k4,hno λq=>e2 q.2⟩
    ·simp(disch:=omega)only[↓qXX]
     rw[ce (by omega)]
     exact hself2 _ hlz ⟨s2,ks,k,s1,k1,k2,k3,k4,hno λq=>e1 q.1⟩
   ·obtain rfl:z=l.length:=by omega
    rw[aY (qan _)]
    simp(disch:=omega)only[↓qXX]
    rw[ce (by omega)]
    refine hself _ hlt ⟨s2,ks,s1,k1,k2,λi hi=>?_⟩
    rcases qaB i j with h|h
    ·exact k3 i h
    ·obtain rfl:i=j:=by omega
     intro u' k' hu' hk'
     rw[hu]at hu'
     cases hu'
     rw[k4]at hk'
     cases hk'
     exact kindZ_end k5
  ·obtain rfl:j=N:=by omega
   rw[aY (qan _)]
   simp(disch:=omega)only[↓qXX]
   refine⟨ks,Hm.length,rfl,hpH.trans s2,hpH.len,s1,k1,λi u' k' hu' hk'=>?_⟩
   exact k3 i (by have:=be hk';omega) u' k' hu' hk')
 exact⟨ks,id,h',hc,h1,h2,h3,h4,h5⟩
def Sh4(w v:Nat):Prop:=1<=w/\w<=4/\1<=v/\v<=4
def Sh4.sh{w v:Nat}(h:Sh4 w v):Sh w v:=⟨h.1,by have:=h.2.1;omega,h.2.2.1,by have:=h.2.2.2;omega⟩
def Sh4.N{w v:Nat}(h:Sh4 w v):4<=4*w*v/\4*w*v<=64:=by
 obtain⟨h1,h2,h3,h4⟩:=h
 have a1:4*w*v<=4*w*4:=qcC _ h4
 have a2:4*w*1<=4*w*v:=qcC _ h3
 omega
structure PatF(w v:Nat)(l:List Crs):Prop where
 pat:Pat w v l
 pair:l.Pairwise λa b=>ltC a b=true
 kd:∀c∈l,1<=c.2.2/\c.2.2<=3
 un:∀c∈l,∃u e:Nat,(u,e)∈aF w v/\c.1 = .ofNat u/\c.2.1 = .ofNat e
 len:l.length<=128
def units_len{w v:Nat}(hsh:1<=w/\w<=4/\1<=v/\v<=4):(aF w v).length<=128:=by
 have key:((List.range 4).all λw=>(List.range 4).all λv=>Nat.ble (aF (w+1) (v+1)).length 128)=true:=by kernel_rfl
 have h5:=qab.1 key (w - 1) (qad.2 (by omega))
 have h6:=qab.1 h5 (v - 1) (qad.2 (by omega))
 rw[show w - 1+1=w by omega,show v - 1+1=v by omega]at h6
 exact qcY h6
def patF_of{w v:Nat}(hsh:1<=w/\w<=4/\1<=v/\v<=4){ks:List Int}(hk:∀k∈ks,0<=k/\k<4):PatF w v (patL (aF w v) ks) where
 pat:=pat_of hsh.1 (by omega) hsh.2.2.1 (by omega) hk
 pair:=oc (mN (gX (gY w v hsh.1 (by omega) hsh.2.2.1 (by omega))).2.2.2.1)
 kd:=λc hc=>by
  obtain⟨u,k,_,h1,h,rfl⟩:=mF hc
  have:=hk k h1
  simp only
  omega
 un:=λc hc=>by
  obtain⟨u,k,h,_,_,rfl⟩:=mF hc
  exact⟨u.1,u.2,h,rfl,rfl⟩
 len:=by
  refine qbw (qcD _ _) ?_
  rw[qdC]
  have:=units_len hsh
  omega
abbrev Cel:=Nat×Nat×Nat
def ring(x y:Nat):List Cel:=
 if x%2=1 then [(x / 2,y / 2,2),(x / 2,y / 2,3),(x / 2,y / 2,0),(x / 2,y / 2,1)]
 else [(x / 2,y / 2,0),(x / 2,y / 2,3),(x / 2 - 1,y / 2,1),(x / 2 - 1,y / 2,0),(x / 2 - 1,y / 2 - 1,2),(x / 2 - 1,y / 2 - 1,1),(x / 2,y / 2 - 1,3),(x / 2,y / 2 - 1,2)]
def many(x:Nat):Nat:=if x%2=1 then 4 else 8
def bf(x y j:Nat):Cel:=(ring x y).getD (j%many x) (0,0,0)
def cH(x j:Nat):Nat:=if x%2=1 then(if j%2=0 then 1 else 2)else [2,0,1,0].getD (j%4) 0
def idOf(w:Nat)(c:Cel):Nat:=4*(c.2.1*w+c.1)+c.2.2
def jp(x j:Nat):Nat:=if x%2=1 then(2*j+3)%8 else(j+1)%8
def lQ(x j:Nat):Nat:=if j=0 then 3 else cH x (j - 1)
def told(f:FuncId)(ls rs:List Lf):Bool:=yu rs (runF 60 (.f f) ls .empty tell)
def tchT(c:Cel)(e x y:Nat)(t:Bool):Bool:=told 126 [.i (.ofNat c.1),.i (.ofNat c.2.1),.i (.ofNat c.2.2),.i (.ofNat e),.i (.ofNat x),.i (.ofNat y)] [.b t]
def lvT(c:Cel)(e x y:Nat)(t:Bool):Bool:=told 127 [.i (.ofNat c.1),.i (.ofNat c.2.1),.i (.ofNat c.2.2),.i (.ofNat e),.i (.ofNat x),.i (.ofNat y)] [.b t]
def skipT(c:Cel)(l e x y:Nat):Bool:=tchT c e x y false||(tchT c e x y true&&(Nat.beq e l||(Nat.beq l 3&&lvT c e x y false)))
def takeT(c:Cel)(l e x y:Nat):Bool:=tchT c e x y true&&(!(Nat.beq e l)&&(!(Nat.beq l 3)||lvT c e x y true))
def stepT(w v x y j:Nat):Bool:=
 let c:=bf x y j
 let d:=bf x y (j+1)
 let e:=cH x j
 let u:=min (idOf w c) (idOf w d)
 told 125 [.i (.ofNat w),.i (.ofNat v),.i (.ofNat c.1),.i (.ofNat c.2.1),.i (.ofNat c.2.2)] [.i (.ofNat (idOf w c)),.i 0] &&
 ((List.range e).all (λk=>skipT c (lQ x j) k x y)&&(takeT c (lQ x j) e x y&&(Nat.ble e 2 &&
 (told 64 [.i (.ofNat w),.i (.ofNat v),.i (.ofNat (idOf w c)),.i (.ofNat e)] [.i (.ofNat u),.i (.ofNat e),.i 0] &&
 (told 128 [.i (.ofNat w),.i (.ofNat v),.i (.ofNat u),.i (.ofNat e),.i (.ofNat x),.i (.ofNat y)] [.i (.ofNat (jp x j))] &&
 told 129 [.i (.ofNat c.1),.i (.ofNat c.2.1),.i (.ofNat c.2.2),.i (.ofNat e)] [.i (.ofNat d.1),.i (.ofNat d.2.1),.i (.ofNat d.2.2),.i 0])))))
def du(w v x y:Nat):Bool:=Nat.blt 0 x&&(Nat.blt 0 y&&(Nat.blt x (2*w)&&(Nat.blt y (2*v)&&Nat.beq (x%2) (y%2))))
def cornT(w v:Nat):Bool:=(List.range (2*w)).all λx=>(List.range (2*v)).all λy=>!(du w v x y)||(List.range (many x)).all λj=>stepT w v x y j
def corn_all:∀w v:Nat,1<=w->w<=4->1<=v->v<=4->cornT w v=true:=by
 have key:((List.range 4).all λw=>(List.range 4).all λv=>cornT (w+1) (v+1))=true:=by kernel_rfl
 intro w v h1 h2 h3 h4
 have h5:=qab.1 key (w - 1) (qad.2 (by omega))
 have h6:=qab.1 h5 (v - 1) (qad.2 (by omega))
 have e1:w - 1+1=w:=by omega
 have e2:v - 1+1=v:=by omega
 rw[e1,e2]at h6
 exact h6
def cW{f:FuncId}{ls rs:List Lf}{sg:Sig}(h:told f ls rs=true)(hs:ac f=some sg)(hp:sg.plain=true)(hg:gj ls=true):Cc f ls rs:=fC (n:=60) hs hp hg h
structure Step(w v x y j:Nat):Prop where
 id:Cc 125 [.i (.ofNat w),.i (.ofNat v),.i (.ofNat (bf x y j).1),.i (.ofNat (bf x y j).2.1),.i (.ofNat (bf x y j).2.2)] [.i (.ofNat (idOf w (bf x y j))),.i 0]
 skip:∀k,k<cH x j->Cc 126 [.i (.ofNat (bf x y j).1),.i (.ofNat (bf x y j).2.1),.i (.ofNat (bf x y j).2.2),.i (.ofNat k),.i (.ofNat x),.i (.ofNat y)] [.b false]∨
  (Cc 126 [.i (.ofNat (bf x y j).1),.i (.ofNat (bf x y j).2.1),.i (.ofNat (bf x y j).2.2),.i (.ofNat k),.i (.ofNat x),.i (.ofNat y)] [.b true]/\(k=lQ x j∨
   (lQ x j=3/\Cc 127 [.i (.ofNat (bf x y j).1),.i (.ofNat (bf x y j).2.1),.i (.ofNat (bf x y j).2.2),.i (.ofNat k),.i (.ofNat x),.i (.ofNat y)] [.b false])))
 take:Cc 126 [.i (.ofNat (bf x y j).1),.i (.ofNat (bf x y j).2.1),.i (.ofNat (bf x y j).2.2),.i (.ofNat (cH x j)),.i (.ofNat x),.i (.ofNat y)] [.b true]
 ne:cH x j≠lQ x j
 lv:lQ x j=3->Cc 127 [.i (.ofNat (bf x y j).1),.i (.ofNat (bf x y j).2.1),.i (.ofNat (bf x y j).2.2),.i (.ofNat (cH x j)),.i (.ofNat x),.i (.ofNat y)] [.b true]
 le:cH x j<=2
 name:Cc 64 [.i (.ofNat w),.i (.ofNat v),.i (.ofNat (idOf w (bf x y j))),.i (.ofNat (cH x j))] [.i (.ofNat (min (idOf w (bf x y j)) (idOf w (bf x y (j+1))))),.i (.ofNat (cH x j)),.i 0]
 dir:Cc 128 [.i (.ofNat w),.i (.ofNat v),.i (.ofNat (min (idOf w (bf x y j)) (idOf w (bf x y (j+1))))),.i (.ofNat (cH x j)),.i (.ofNat x),.i (.ofNat y)] [.i (.ofNat (jp x j))]
 next:Cc 129 [.i (.ofNat (bf x y j).1),.i (.ofNat (bf x y j).2.1),.i (.ofNat (bf x y j).2.2),.i (.ofNat (cH x j))] [.i (.ofNat (bf x y (j+1)).1),.i (.ofNat (bf x y (j+1)).2.1),.i (.ofNat (bf x y (j+1)).2.2),.i 0]
def step_of{w v x y j:Nat}(h:stepT w v x y j=true):Step w v x y j:=by
 unfold stepT at h
 simp only[qaa]at h
 obtain⟨h1,h2,h3,h4,h5,h6,h7⟩:=h
 unfold takeT at h3
 simp only[qaa,qaP,qbQ,Nat.beq_eq_true_eq]at h3
 obtain⟨t1,t2,t3⟩:=h3
 refine⟨cW h1 rfl (by kernel_rfl) rfl,λk hk=>?_,cW t1 rfl (by kernel_rfl) rfl,?_,λhl=>?_,qcY h4,cW h5 rfl (by kernel_rfl) rfl,cW h6 rfl (by kernel_rfl) rfl,cW h7 rfl (by kernel_rfl) rfl⟩
 ·have hs:=qab.1 h2 k (qad.2 hk)
  unfold skipT at hs
  simp only[qaa,qaP]at hs
  rcases hs with hs|⟨q1,q2|⟨q2,q3⟩⟩
  ·exact .inl (cW hs rfl (by kernel_rfl) rfl)
  ·exact .inr ⟨cW q1 rfl (by kernel_rfl) rfl,.inl (qac q2)⟩
  ·exact .inr ⟨cW q1 rfl (by kernel_rfl) rfl,.inr ⟨qac q2,cW q3 rfl (by kernel_rfl) rfl⟩⟩
 ·intro e
  rw[e]at t2
  rw[qbE]at t2
  cases t2
 ·rcases t3 with t3|t3
  ·rw[hl]at t3;cases t3
  ·exact cW t3 rfl (by kernel_rfl) rfl
def xJ{w v x y:Nat}(h1:1<=w/\w<=4/\1<=v/\v<=4)(h2:du w v x y=true){j:Nat}(hj:j<many x):Step w v x y j:=by
 have h:=corn_all w v h1.1 h1.2.1 h1.2.2.1 h1.2.2.2
 have h3:=h2
 unfold du at h3
 simp only[qaa,qaK]at h3
 have h4:=qab.1 (qab.1 h x (qad.2 (by omega))) y (qad.2 (by omega))
 rw[h2]at h4
 simp only[qaF,qbL]at h4
 exact step_of (qab.1 h4 j (qad.2 hj))
def tn(t k:Nat):Nat:=if Nat.blt t 4 then 4+(2+k+3*t)%4 else(2+k+3*(t - 4))%4
def tn_lt(t k:Nat):tn t k<8:=by
 unfold tn
 split<;>omega
def mvX(t x y:Nat):Int:=match t with
 |0=>0
 |1=>((x:Int)+y) / 2
 |2=>x
 |3=>((x:Int) - y) / 2
 |4=>x
 |5=>((x:Int)+y) / 2
 |6=>0
 |_=>((x:Int) - y) / 2
def mvY(t x y:Nat):Int:=match t with
 |0=>0
 |1=>((y:Int) - x) / 2
 |2=>y
 |3=>((y:Int)+x) / 2
 |4=>0
 |5=>((y:Int)+x) / 2
 |6=>y
 |_=>((y:Int) - x) / 2
def lnK(k:Nat):Nat:=match k with
 |0=>2
 |1=>4
 |2=>1
 |_=>3
def lnC(k x y:Nat):Int:=match k with
 |0=>(y:Int) / 2
 |1=>((y:Int) - x) / 2
 |2=>(x:Int) / 2
 |_=>((x:Int)+y) / 2
def lnA(k:Nat):Int:=match k with
 |0=>0
 |1=>-1
 |2=>1
 |_=>1
def lnB(k:Nat):Int:=match k with
 |0=>1
 |1=>1
 |2=>0
 |_=>1
abbrev mvL(t x y:Nat):List Lf:=[.i (.ofNat t),.i (mvX t x y),.i (mvY t x y)]
def gO(x t:Nat):Bool:=Nat.beq (x%2) 0||(if Nat.blt t 4 then Nat.beq (t%2) 0 else Nat.beq (t%2) 1)
def refT(x y k:Nat):Bool:=
 told 52 [.i (.ofNat (lnK k)),.i (.ofNat x),.i (.ofNat y)] [.i (.ofNat (lnK k)),.i (lnC k x y),.i 0] &&
 (told 89 [.i (.ofNat (lnK k)),.i (lnC k x y)] [.i (.ofNat (tn 0 k)),.i (mvX (tn 0 k) x y),.i (mvY (tn 0 k) x y),.i 0] &&
 (told 75 [.i (.ofNat (lnK k))] [.i (lnA k),.i (lnB k)] &&
 (told 59 [.i (.ofNat (lnK k)),.i (lnC k x y)] (mvL (tn 0 k) x y) &&
 ((List.range 8).all λt=>!(gO x t)||(
  told 73 [.i (.ofNat t),.i (mvX t x y),.i (mvY t x y),.i (.ofNat (tn 0 k)),.i (mvX (tn 0 k) x y),.i (mvY (tn 0 k) x y)] [.i (.ofNat (tn t k)),.i (mvX (tn t k) x y),.i (mvY (tn t k) x y),.i 0] &&
  told 58 [.i (.ofNat t),.i (mvX t x y),.i (mvY t x y),.i (.ofNat (tn 0 k)),.i (mvX (tn 0 k) x y),.i (mvY (tn 0 k) x y)] (mvL (tn t k) x y))))))
def rF(x k:Nat):Bool:=Nat.beq (x%2) 0||Nat.beq (k%2) 1
def refAll(x y:Nat):Bool:=!(Nat.blt 0 x&&(Nat.blt 0 y&&Nat.beq (x%2) (y%2)))||(List.range 4).all λk=>!(rF x k)||refT x y k
def ref_all:((List.range 8).all λx=>(List.range 8).all λy=>refAll x y)=true:=by kernel_rfl
structure Refl(x y k:Nat):Prop where
 thr:Cc 52 [.i (.ofNat (lnK k)),.i (.ofNat x),.i (.ofNat y)] [.i (.ofNat (lnK k)),.i (lnC k x y),.i 0]
 mof:Cc 89 [.i (.ofNat (lnK k)),.i (lnC k x y)] [.i (.ofNat (tn 0 k)),.i (mvX (tn 0 k) x y),.i (mvY (tn 0 k) x y),.i 0]
 acr:Cc 75 [.i (.ofNat (lnK k))] [.i (lnA k),.i (lnB k)]
 rof:Cc 59 [.i (.ofNat (lnK k)),.i (lnC k x y)] (mvL (tn 0 k) x y)
 thn:∀t,t<8->gO x t=true->Cc 73 [.i (.ofNat t),.i (mvX t x y),.i (mvY t x y),.i (.ofNat (tn 0 k)),.i (mvX (tn 0 k) x y),.i (mvY (tn 0 k) x y)] [.i (.ofNat (tn t k)),.i (mvX (tn t k) x y),.i (mvY (tn t k) x y),.i 0]
 rth:∀t,t<8->gO x t=true->Cc 58 [.i (.ofNat t),.i (mvX t x y),.i (mvY t x y),.i (.ofNat (tn 0 k)),.i (mvX (tn 0 k) x y),.i (mvY (tn 0 k) x y)] (mvL (tn t k) x y)
def refl_of{x y k:Nat}(h:0<x/\x<8/\0<y/\y<8/\x%2=y%2)(hk:k<4)(hd:rF x k=true):Refl x y k:=by
 have h1:=qab.1 (qab.1 ref_all x (qad.2 h.2.1)) y (qad.2 h.2.2.2.1)
 unfold refAll at h1
 have h2:(Nat.blt 0 x&&(Nat.blt 0 y&&Nat.beq (x%2) (y%2)))=true:=by
  simp only[qaa,qaK,qbV]
  omega
 rw[h2]at h1
 simp only[qaF,qbL]at h1
 have h3:=qab.1 h1 k (qad.2 hk)
 rw[hd]at h3
 simp only[qaF,qbL]at h3
 unfold refT at h3
 simp only[qaa]at h3
 obtain⟨a1,a2,a3,a4,a5⟩:=h3
 refine⟨cW a1 rfl (by kernel_rfl) rfl,cW a2 rfl (by kernel_rfl) rfl,cW a3 rfl (by kernel_rfl) rfl,cW a4 rfl (by kernel_rfl) rfl,λt ht hto=>?_,λt ht hto=>?_⟩
 ·have:=qab.1 a5 t (qad.2 ht)
  rw[hto,qaF,qbL,qaa]at this
  exact cW this.1 rfl (by kernel_rfl) rfl
 ·have:=qab.1 a5 t (qad.2 ht)
  rw[hto,qaF,qbL,qaa]at this
  exact cW this.2 rfl (by kernel_rfl) rfl
def dF(D:List Int):Nat:=D.foldl (λt d=>tn t (d.toNat%4)) 0
def bD(b:Bool)(d:Nat):List Int:=if b then [.ofNat d]else []
set_option maxHeartbeats 4000000
abbrev Ray:=Int×Int
def encR(r:Ray):List Value:=[.int .i64 r.1,.int .u8 r.2]
def fP(r:Ray):(encR r).length=2:=rfl
def rngR(r:Ray):Prop:=0<=r.1/\r.1<=100/\0<=r.2/\r.2<=255
def insR(e:Ray):List Ray->List Ray
 | []=>[e]
 |p :: P=>if e.1<p.1 then p :: insR e P else e :: p :: P
def jL:List Ray->List Ray->List Ray
 | [],P=>P
 |e :: r,P=>jL r (insR e P)
def gc(l:List Ray):List Ray:=(jL l []).reverse
def mq(e:Ray):∀P,(insR e P).length=P.length+1
 | []=>rfl
 |p :: P=>by
  unfold insR
  split
  ·simp[mq e P]
  ·simp
def wH{e:Ray}:∀ {P:List Ray} {r:Ray},r∈insR e P->r=e∨r∈P
 | [],r,h=>by simpa[insR]using h
 |p :: P,r,h=>by
  unfold insR at h
  split at h
  ·rcases qak.1 h with h|h
   ·exact .inr (by simp[h])
   ·rcases wH h with h|h
    ·exact .inl h
    ·exact .inr (by simp[h])
  ·rcases qak.1 h with h|h
   ·exact .inl h
   ·exact .inr h
def get_mid{α:Type}(A:List α)(x:α)(R:List α):(A++x :: R)[A.length]?=some x:=by simp
def get_mid1{α:Type}(A:List α)(x y:α)(R:List α):(A++x :: y :: R)[A.length+1]?=some y:=by
 rw[qam (by omega)]
 simp
def set_mid{α:Type}(A:List α)(x y:α)(R:List α):(A++x :: R).set A.length y=A++y :: R:=by simp
def set_mid1{α:Type}(A:List α)(x y z:α)(R:List α):(A++x :: y :: R).set (A.length+1) z=A++x :: z :: R:=by
 rw[qbR _ _ (by omega)]
 simp
def cmpR_c{a b:Ray}(ha:rngR a)(hb:rngR b):Cc 87 [.i a.1,.i a.2,.i b.1,.i b.2] [.i (a.1 - b.1)]:=by
 unfold rngR at ha hb
 refine q87 rfl ?_;unfold f87;simp only[qxh]
 simp(disch:=omega)only[↓qXX]
abbrev cloR:Value:=.func (.func 87) ⟨[]⟩ ⟨[]⟩
def yp:aP cloR=true:=rfl
def ins_c{h:HL}{id cx:Nat}{l:List Ray}(hlt:id<h.length)(hr:∀r∈l,rngR r)(hn:l.length<=1000) :
  aw cc ac 158 [.v (.slice (some ⟨id,0,tag 2⟩) l.length cx),.i 0,.i (Int.ofNat l.length),.v cloR] (absH aa (putE h id 2 encR l)) [] (absH aa (putE h id 2 encR (gc l))):=by
 have hgood:aP (.slice (some ⟨id,0,tag 2⟩) l.length cx)=true:=(kN (cx:=cx) fP hlt (l:=l)).good
 obtain⟨rs,h',h1,e1,e2⟩:=x158 (ls:=[.v (.slice (some ⟨id,0,tag 2⟩) l.length cx),.i 0,.i (Int.ofNat l.length),.v cloR]) (K:=λrs h'=>rs=[]/\h'=putE h id 2 encR (gc l)) (H:=putE h id 2 encR l) (glsV hgood (glsI (glsI (glsV yp gls0)))) (by
  unfold f158;simp only[qxh]
  simp(disch:=omega)only[↓qXX]
  cases hl:l with
  |nil=>
   refine cN (m:=0) (λ_ ls h'=>ls=[.i 1]/\h'=putE h id 2 encR []) ⟨rfl,rfl⟩ ?_
   rintro m ls h' ⟨rfl,rfl⟩ self hself
   refine hidL ?_
   simp(disch:=omega)only[↓qXX]
   rw[p_lss_f (by decide)]
   simp(disch:=omega)only[↓qXX]
   exact⟨by trivial,rfl⟩
  |cons e0 r0=>
   rw[hl]at hr hn hgood
   refine cN (m:=r0.length) (λm ls h'=>∃P rest,ls=[.i (Int.ofNat P.length)]/\h'=putE h id 2 encR (P.reverse++rest)/\P.length+rest.length=(e0 :: r0).length/\m=rest.length/\jL rest P=jL (e0 :: r0) []/\(∀r∈P,rngR r)/\∀r∈rest,rngR r)
    ⟨[e0],r0,rfl,rfl,by simp;omega,rfl,rfl,λr hr'=>hr r (by simp at hr';simp[hr']),λr hr'=>hr r (by simp[hr'])⟩ ?_
   rintro m ls h' ⟨P,rest,rfl,rfl,hlen,rfl,hs,hP,hR⟩ self hself
   refine hidL ?_
   simp(disch:=omega)only[↓qXX]
   cases hrest:rest with
   |nil=>
    rw[hrest]at hlen hs
    rw[aY (by simp only[qbi]at hlen;omega)]
    simp(disch:=omega)only[↓qXX]
    refine⟨by trivial,?_⟩
    show putE h id 2 encR (P.reverse++[])=putE h id 2 encR (gc (e0 :: r0))
    have:gc (e0 :: r0)=P.reverse:=by
     unfold gc
     rw[←hs]
     rfl
    rw[this,qaX]
   |cons e rest=>
    rw[hrest]at hlen hs hR hself
    have he:rngR e:=hR e qax
    rw[aS (by simp only[qaC]at hlen ⊢;omega)]
    simp(disch:=omega)only[↓qXX]
    refine cN (m:=P.length) (λm ls h'=>∃A B,ls=[.i (Int.ofNat A.length)]/\h'=putE h id 2 encR (A.reverse++e :: (B++rest))/\m=A.length/\(insR e A).reverse++B=(insR e P).reverse/\(∀r∈A,rngR r)/\A.length+B.length=P.length)
     ⟨P,[],rfl,by simp,rfl,by simp,hP,by simp⟩ ?_
    rintro m ls h' ⟨A,B,rfl,rfl,rfl,hins,hA,hAB⟩ self2 hself2
    refine hidL ?_
    simp(disch:=omega)only[↓qXX]
    have fin:A.reverse++e :: B=(insR e P).reverse->self [.i (Int.ofNat P.length+1)] (putE h id 2 encR (A.reverse++e :: (B++rest))):=by
     intro hq
     refine hself rest.length _ _ (by simp) ⟨insR e P,rest,?_,?_,?_,rfl,hs,λr hr'=>?_,λr hr'=>hR r (by simp[hr'])⟩
     ·rw[mq];rfl
     ·rw[←hq];simp
     ·rw[mq];simp only[qaC]at hlen ⊢;omega
     ·rcases wH hr' with h|h
      ·rw[h];exact he
      ·exact hP r h
    have hPl:P.length<=1000:=by simp only[qaC]at hlen hn;omega
    cases hA':A with
    |nil=>
     rw[hA']at hins
     have hq:(A.reverse++e :: B)=(insR e P).reverse:=by rw[hA',←hins];rfl
     have:=fin hq
     rw[hA']at this
     rw[p_gtr_f (by simp)]
     simp(disch:=omega)only[↓qXX]
     rw[ce (by omega)]
     exact this
    |cons p A2=>
     rw[hA']at hins hA hAB
     have hp:rngR p:=hA p qax
     have hL:∀R,(p :: A2).reverse++R=A2.reverse++p :: R:=λR=>by simp
     have hrl:A2.reverse.length=A2.length:=qdd
     have hlenL:(A2.reverse++p :: e :: (B++rest)).length=(e0 :: r0).length:=by
      simp only[qay,qaC,qdd]at hlen hAB ⊢
      omega
     rw[p_gtr_t (by simp only[qaC,qaq];omega)]
     simp(disch:=omega)only[↓qXX]
     rw[hL]
     have hls:LsH (putE h id 2 encR (A2.reverse++p :: e :: (B++rest))) (.slice (some ⟨id,0,tag 2⟩) (e0 :: r0).length cx) 2 encR (A2.reverse++p :: e :: (B++rest)):=by
      rw[←hlenL]
      exact kN fP hlt
     have g1:(A2.reverse++p :: e :: (B++rest))[A2.length+1]?=some e:=by rw[←hrl];exact get_mid1 _ _ _ _
     have g0:(A2.reverse++p :: e :: (B++rest))[A2.length]?=some p:=by rw[←hrl];exact get_mid _ _ _
     refine bi hls (by simp) g1 ?_
     unfold encR
     simp(disch:=omega)only[↓qXX]
     rw[n_sub (by simp) (by simp only[qaC]at hAB ⊢;omega)]
     refine bi hls (by simp) g0 ?_
     unfold encR
     simp(disch:=omega)only[↓qXX]
     refine gQ (jl (cmpR_c he hp _) rfl [.agg [.i .i64 e.1,.i .u8 e.2],.agg [.i .i64 p.1,.i .u8 p.2]] rfl rfl) ?_
     simp(disch:=omega)only[↓qXX]
     by_cases hcmp:e.1<p.1
     ·rw[p_lss_t (by omega)]
      simp(disch:=omega)only[↓qXX]
      have sub1:∀K:Int->Prop,P1.ari .sub .i64 (Int.ofNat (p :: A2).length) 1 (@hid _ ⟨K⟩)=K (Int.ofNat ((p :: A2).length - 1)):=λK=>n_sub (by simp) (by simp only[qaC]at hAB ⊢;omega)
      rw[sub1]
      rw[sub1]
      refine bi hls (by simp) g0 ?_
      unfold encR
      simp(disch:=omega)only[↓qXX]
      refine bi hls (by simp) g1 ?_
      unfold encR
      simp(disch:=omega)only[↓qXX]
      refine r_set fP (a:=p) (i:=A2.length+1) hlt (by simp) (by simp) hlenL rfl ?_
      have s1:(A2.reverse++p :: e :: (B++rest)).set (A2.length+1) p=A2.reverse++p :: p :: (B++rest):=by rw[←hrl];exact set_mid1 _ _ _ _ _
      rw[s1]
      refine r_set fP (a:=e) (i:=A2.length) hlt (by simp) (by simp) (by rw[←hlenL];simp) rfl ?_
      have s2:(A2.reverse++p :: p :: (B++rest)).set A2.length e=A2.reverse++e :: p :: (B++rest):=by rw[←hrl];exact set_mid _ _ _ _
      rw[s2]
      rw[sub1]
      refine hself2 A2.length _ _ (by rw[hA'];simp) ⟨A2,p :: B,by simp,by simp,rfl,?_,λr hr'=>hA r (by simp[hr']),by simp only[qaC]at hAB ⊢;omega⟩
      rw[←hins]
      have:insR e (p :: A2)=p :: insR e A2:=by
       show(if e.1<p.1 then p :: insR e A2 else e :: p :: A2)=_
       rw[if_pos hcmp]
      rw[this]
      simp
     ·rw[p_lss_f (by omega)]
      simp(disch:=omega)only[↓qXX]
      rw[ce (by omega)]
      have hq:(A.reverse++e :: B)=(insR e P).reverse:=by
       rw[hA',←hins]
       unfold insR
       rw[if_neg hcmp]
       simp
      have:=fin hq
      rw[hA',hL]at this
      exact this)
 rw[e1,e2]at h1
 exact h1
def lenB(n:Nat):Nat:=if n=0 then 0 else Nat.log2 n+1
def len_tab:((List.range 13).all λn=>yu [.i (.ofNat (lenB n))] (runF 60 (.f 122) [.i (.ofNat n)] .empty tell))=true:=by kernel_rfl
def len_c{n:Nat}(h:n<=12):Cc 122 [.i (.ofNat n)] [.i (.ofNat (lenB n))]:=
 fC (n:=60) rfl (by kernel_rfl) rfl (qab.1 len_tab n (qad.2 (by omega)))
def pdq_c{h:HL}{id cx:Nat}{l:List Ray}(hlt:id<h.length)(hr:∀r∈l,rngR r)(hn:l.length<=12)(k:Int) :
  aw cc ac 131 [.v (.slice (some ⟨id,0,tag 2⟩) l.length cx),.i 0,.i (Int.ofNat l.length),.i k,.v cloR] (absH aa (putE h id 2 encR l)) [] (absH aa (putE h id 2 encR (gc l))):=by
 have hgood:aP (.slice (some ⟨id,0,tag 2⟩) l.length cx)=true:=(kN (cx:=cx) fP hlt (l:=l)).good
 obtain⟨rs,h',h1,e1,e2⟩:=x131 (ls:=[.v (.slice (some ⟨id,0,tag 2⟩) l.length cx),.i 0,.i (Int.ofNat l.length),.i k,.v cloR]) (K:=λrs h'=>rs=[]/\h'=putE h id 2 encR (gc l)) (H:=putE h id 2 encR l) (glsV hgood (glsI (glsI (glsI (glsV yp gls0))))) (by
  unfold f131;simp only[qxh]
  simp(disch:=omega)only[↓qXX]
  refine⟨1,?_⟩
  refine hidL ?_
  simp(disch:=omega)only[↓qXX]
  have e:Int.ofNat l.length - 0=Int.ofNat l.length:=by omega
  rw[p_sub (by show -9223372036854775808<=(l.length:Int) - 0;omega) (by show(l.length:Int) - 0<=9223372036854775807;omega),e]
  rw[p_leq_t (by show(l.length:Int)<=12;omega)]
  simp(disch:=omega)only[↓qXX]
  refine ai (ins_c hlt hr (by omega)) ?_
  simp(disch:=omega)only[↓qXX]
  exact⟨by trivial,by trivial⟩)
 rw[e1,e2]at h1
 exact h1
def sortR_c{h:HL}{id cx:Nat}{l:List Ray}(hlt:id<h.length)(hr:∀r∈l,rngR r)(hn:l.length<=12) :
  aw cc ac 86 [.v (.slice (some ⟨id,0,tag 2⟩) l.length cx),.v cloR] (absH aa (putE h id 2 encR l)) [] (absH aa (putE h id 2 encR (gc l))):=by
 have hls:=kN (cx:=cx) fP hlt (l:=l)
 obtain⟨rs,h',h1,e1,e2⟩:=x86 (ls:=[.v (.slice (some ⟨id,0,tag 2⟩) l.length cx),.v cloR]) (K:=λrs h'=>rs=[]/\h'=putE h id 2 encR (gc l)) (H:=putE h id 2 encR l) (glsV hls.good (glsV yp gls0)) (by
  unfold f86;simp only[qxh]
  simp(disch:=omega)only[↓qXX]
  refine bM hls ?_
  refine vy (by show 0<=(l.length:Int);omega) (by show(l.length:Int)<=9223372036854775807;omega) ?_
  refine af (len_c hn) ?_
  simp(disch:=omega)only[↓qXX]
  refine ai (pdq_c hlt hr hn _) ?_
  simp(disch:=omega)only[↓qXX]
  exact⟨by trivial,by trivial⟩)
 rw[e1,e2]at h1
 exact h1
def sort0_c(H:HL):aw cc ac 86 [.v (.slice none 0 0),.v cloR] (absH aa H) [] (absH aa H):=by
 obtain⟨rs,h',h1,e1,e2⟩:=x86 (ls:=[.v (.slice none 0 0),.v cloR]) (K:=λrs h'=>rs=[]/\h'=H) (H:=H) (glsV rfl (glsV yp gls0)) (by
  unfold f86;simp only[qxh]
  simp(disch:=omega)only[↓qXX]
  refine am (x:=(0:Int)) rfl ?_
  refine vy (by omega) (by omega) ?_
  refine af (len_c (n:=0) (by omega)) ?_
  simp(disch:=omega)only[↓qXX]
  obtain⟨rs,h',g1,g2,g3⟩:=x131 (ls:=[.v (.slice none 0 0),.i 0,.i 0,.i (.ofNat (lenB 0)),.v cloR]) (K:=λrs h'=>rs=[]/\h'=H) (H:=H) (glsV rfl (glsI (glsI (glsI (glsV yp gls0))))) (by
   unfold f131;simp only[qxh]
   simp(disch:=omega)only[↓qXX]
   refine⟨1,?_⟩
   refine hidL ?_
   simp(disch:=omega)only[↓qXX]
   obtain⟨rs,h',g1,g2,g3⟩:=x158 (ls:=[.v (.slice none 0 0),.i 0,.i 0,.v cloR]) (K:=λrs h'=>rs=[]/\h'=H) (H:=H) (glsV rfl (glsI (glsI (glsV yp gls0)))) (by
    unfold f158;simp only[qxh]
    simp(disch:=omega)only[↓qXX]
    refine⟨1,?_⟩
    refine hidL ?_
    simp(disch:=omega)only[↓qXX]
    exact⟨by trivial,by trivial⟩)
   rw[g2,g3]at g1
   refine ai g1 ?_
   simp(disch:=omega)only[↓qXX]
   exact⟨by trivial,by trivial⟩)
  rw[g2,g3]at g1
  refine ai g1 ?_
  simp(disch:=omega)only[↓qXX]
  exact⟨by trivial,by trivial⟩)
 rw[e1,e2]at h1
 exact h1
def cU{h:HL}{p:Value}{cs:List Value}{n:Nat}{K:List Value->Prop}(hp:Ptr h p cs)(hn:cs.length=n)(hk:K cs):P1.peek (.lg cc n p) h (@hid _ ⟨K⟩):=eu (hp.lg hn) hk
def ft{h:HL}{p:Value}{cs ds:List Value}{o k:Nat}{K:List Value->Prop}(hp:Ptr h p cs)(hok:o+k<=cs.length)(hd:ds=(cs.drop o).take k)(hk:K ds) :
  P1.opt (fdP o p) (@hid _ ⟨λy=>P1.chk y (@hid _ ⟨P1.peek (.lg cc k y) h (@hid _ ⟨K⟩)⟩)⟩):=by
 obtain⟨q,h3,h4⟩:=hp.fd o k hok
 subst hd
 have hlen:((cs.drop o).take k).length=k:=by rw[qaJ,qbv];omega
 refine am h3 ?_
 show aP q=true/\_
 exact⟨h4.good,eu (h4.lg hlen) hk⟩
def wi(x y:Nat):bf x y (many x)=bf x y 0:=by
 unfold bf
 rw[Nat.mod_self,Nat.zero_mod]
def ne8{j:Nat}(x y:Nat)(h1:0<j)(h2:j<many x)(hx:0<x)(hy:0<y)(hxy:x%2=y%2):bf x y j≠bf x y 0:=by
 unfold bf many ring at *
 by_cases hp:x%2=1
 ·simp only[hp,if_true]at h2 ⊢
  have:j=1∨j=2∨j=3:=by omega
  rcases this with rfl|rfl|rfl<;>simp
 ·simp only[hp,if_false]at h2 ⊢
  have:j=1∨j=2∨j=3∨j=4∨j=5∨j=6∨j=7:=by omega
  rcases this with rfl|rfl|rfl|rfl|rfl|rfl|rfl<;>simp<;>omega
abbrev spkL(w x y j:Nat):List S0:=[.leaf (.i .i64 (.ofNat (idOf w (bf x y j)))),.agg [.i .i64 (.ofNat (jp x j)),.i .i64 (.ofNat (min (idOf w (bf x y j)) (idOf w (bf x y (j+1))))),.i .u8 (.ofNat (cH x j))]]
def start_at{x y:Nat}:bf x y 0=(x / 2,y / 2,if x%2=1 then 2 else 0):=by
 unfold bf many ring
 by_cases hp:x%2=1<;>simp[hp]
def many_pos(x:Nat):0<many x:=by unfold many;split<;>omega
def eqs3_t{a b c:Int}{K:Bool->Prop}:P1.eqs [(.i a,.i a),(.i b,.i b),(.i c,.i c)] (@hid _ ⟨K⟩)=K true:=by
 show K (cb _)=K true
 simp[cb,gp]
def cel_ext{c d:Cel}(h:Int.ofNat c.1=Int.ofNat d.1/\Int.ofNat c.2.1=Int.ofNat d.2.1/\Int.ofNat c.2.2=Int.ofNat d.2.2):c=d:=by
 obtain⟨h1,h2,h3⟩:=h
 exact qcM (qct h1) (qcM (qct h2) (qct h3))
def walk_c{w v x y:Nat}(hsh:1<=w/\w<=4/\1<=v/\v<=4)(hcor:du w v x y=true){l:Nat}{pa ps:Value}(J:Nat->HL->Prop)
  (hP:∀j h,J j h->Ptr h pa [.int .i64 (.ofNat x),.int .i64 (.ofNat y)]/\Ptr h ps [.int .i64 (.ofNat w),.int .i64 (.ofNat v)])
  (hY:∀j,j<many x->∀h,J j h->∃h',fF cc l (ah (spkL w x y j)) (absH aa h) (.bool true) (absH aa h')/\J (j+1) h') {h0:HL} (h0J:J 0 h0) :
  ∃h',aw cc ac 124 [.v (.func (.yield l) #[] #[]),.v pa,.v ps] (absH aa h0) [] (absH aa h')/\J (many x) h':=by
 have hc2:=hcor
 unfold du at hc2
 simp only[qaa,qaK]at hc2
 obtain⟨hx0,hy0,hx1,hy1,hxy⟩:=hc2
 have hxy:=qac hxy
 obtain⟨rs,h',h1,rfl,hJ⟩:=x124 (ls:=[.v (.func (.yield l) #[] #[]),.v pa,.v ps]) (K:=λrs h'=>rs=[]/\J (many x) h') (H:=h0) (glsV rfl (glsV (hP 0 h0 h0J).1.good (glsV (hP 0 h0 h0J).2.good gls0))) (by
  unfold f124;simp only[qxh]
  have hpa:=(hP 0 h0 h0J).1
  simp(disch:=omega)only[↓qXX]
  refine ft hpa (o:=0) (k:=1) (ds:=[.int .i64 (.ofNat x)]) (by simp) rfl ?_
  simp(disch:=omega)only[↓qXX]
  rw[p_quo_nn (by simp) (by decide) (by simp only[qaq];omega)]
  refine ft hpa (o:=1) (k:=1) (ds:=[.int .i64 (.ofNat y)]) (by simp) rfl ?_
  simp(disch:=omega)only[↓qXX]
  rw[p_quo_nn (by simp) (by decide) (by simp only[qaq];omega)]
  refine ft hpa (o:=0) (k:=1) (ds:=[.int .i64 (.ofNat x)]) (by simp) rfl ?_
  simp(disch:=omega)only[↓qXX]
  rw[p_rem_nn (by simp) (by decide)]
  have key:∀B:List Lf->HL->Prop,B [.i (Int.ofNat (bf x y 0).1),.i (Int.ofNat (bf x y 0).2.1),.i (Int.ofNat (bf x y 0).2.2)] h0->P1.cmp .neq (Int.ofNat x%2) 0 (@hid _ ⟨λt27=>P1.join (@hid _ ⟨B⟩) (@hid _ ⟨λj191=>P1.cond t27 (@hid _ ⟨j191 [(.i (Int.ofNat x / 2)),(.i (Int.ofNat y / 2)),(.i 2)] h0⟩) (@hid _ ⟨j191 [(.i (Int.ofNat x / 2)),(.i (Int.ofNat y / 2)),(.i 0)] h0⟩)⟩)⟩):=by
   intro B hB
   rw[start_at]at hB
   by_cases hp:x%2=1
   ·rw[if_pos hp]at hB
    rw[p_neq_t (by simp only[qaq];omega)]
    exact⟨λ_=>hB,λh=>by cases h⟩
   ·rw[if_neg hp]at hB
    rw[p_neq_f (by simp only[qaq];omega)]
    exact⟨λh=>(by cases h),λ_=>hB⟩
  refine key _ ?_
  simp(disch:=omega)only[↓qXX]
  refine cN (m:=many x) (λm ls h=>∃j,j<many x/\m=many x - j/\ls=[.i (Int.ofNat (lQ x j)),.i (Int.ofNat (bf x y j).1),.i (Int.ofNat (bf x y j).2.1),.i (Int.ofNat (bf x y j).2.2)]/\J j h) ⟨0,many_pos x,rfl,rfl,h0J⟩ ?_
  rintro m ls H ⟨j,hj,rfl,rfl,hJ⟩ self hself
  refine hidL ?_
  have st:=xJ hsh hcor hj
  simp(disch:=omega)only[↓qXX]
  refine cU (hP j H hJ).2 rfl ?_
  simp(disch:=omega)only[↓qXX]
  refine af st.id ?_
  simp(disch:=omega)only[↓qXX]
  refine cN (m:=cH x j) (λm ls h=>∃k,k<=cH x j/\m=cH x j - k/\ls=[.i (Int.ofNat (lQ x j)),.i (Int.ofNat k),.i (Int.ofNat (bf x y j).1),.i (Int.ofNat (bf x y j).2.1),.i (Int.ofNat (bf x y j).2.2)]/\h=H) ⟨0,qaW _,rfl,rfl,rfl⟩ ?_
  rintro m2 ls2 h2 ⟨k,hk,rfl,rfl,rfl⟩ self2 hself2
  refine hidL ?_
  have hle:=st.le
  simp(disch:=omega)only[↓qXX]
  rw[p_lss_t (by simp only[qaq];omega)]
  simp(disch:=omega)only[↓qXX]
  refine cU (hP j h2 hJ).1 rfl ?_
  simp(disch:=omega)only[↓qXX]
  by_cases hkl:k<cH x j
  ·have again:self2 [.i (Int.ofNat (lQ x j)),.i (Int.ofNat k+1),.i (Int.ofNat (bf x y j).1),.i (Int.ofNat (bf x y j).2.1),.i (Int.ofNat (bf x y j).2.2)] h2:=hself2 (cH x j - (k+1)) _ _ (by omega) ⟨k+1,by omega,rfl,rfl,rfl⟩
   have add1:∀K:Int->Prop,P1.ari .add .u8 (Int.ofNat k) 1 (@hid _ ⟨K⟩)=K (Int.ofNat k+1):=λK=>p_add8 (by simp only[qaq];omega) (by simp only[qaq];omega)
   rcases st.skip k hkl with ht|⟨ht,hs⟩
   ·refine af ht ?_
    simp(disch:=omega)only[↓qXX,qbz]
    rw[add1]
    exact again
   ·refine af ht ?_
    simp(disch:=omega)only[↓qXX,qaF]
    by_cases hkk:k=lQ x j
    ·rw[p_eql_t (by rw[hkk])]
     simp(disch:=omega)only[↓qXX]
     rw[add1]
     exact again
    ·have h3:lQ x j=3/\Cc 127 [.i (.ofNat (bf x y j).1),.i (.ofNat (bf x y j).2.1),.i (.ofNat (bf x y j).2.2),.i (.ofNat k),.i (.ofNat x),.i (.ofNat y)] [.b false]:=by
      rcases hs with hs|hs
      ·exact absurd hs hkk
      ·exact hs
     rw[p_eql_f (by simp only[qaq];omega)]
     simp(disch:=omega)only[↓qXX]
     rw[p_eql_t (by rw[h3.1];rfl)]
     simp(disch:=omega)only[↓qXX]
     refine cU (hP j h2 hJ).1 rfl ?_
     simp(disch:=omega)only[↓qXX]
     refine af h3.2 ?_
     simp(disch:=omega)only[↓qXX,qbz]
     rw[add1]
     exact again
  ·obtain rfl:k=cH x j:=by omega
   refine af st.take ?_
   simp(disch:=omega)only[↓qXX,qaF]
   have hne:=st.ne
   rw[p_eql_f (by simp only[qaq];omega)]
   simp(disch:=omega)only[↓qXX]
   by_cases h3:lQ x j=3
   ·rw[p_eql_t (by rw[h3];rfl)]
    simp(disch:=omega)only[↓qXX]
    refine cU (hP j h2 hJ).1 rfl ?_
    simp(disch:=omega)only[↓qXX]
    refine af (st.lv h3) ?_
    simp(disch:=omega)only[↓qXX,qaF]
    refine cU (hP j h2 hJ).2 rfl ?_
    simp(disch:=omega)only[↓qXX]
    refine af st.name ?_
    simp(disch:=omega)only[↓qXX]
    refine cU (hP j h2 hJ).2 rfl ?_
    simp(disch:=omega)only[↓qXX]
    refine cU (hP j h2 hJ).1 rfl ?_
    simp(disch:=omega)only[↓qXX]
    refine af st.dir ?_
    simp(disch:=omega)only[↓qXX]
    obtain⟨H',hu,hJ'⟩:=hY j hj h2 hJ
    refine p_callY (ys:=spkL w x y j) hu ?_
    simp(disch:=omega)only[↓qXX,qaF]
    refine af st.next ?_
    simp(disch:=omega)only[↓qXX]
    by_cases hlast:j+1=many x
    ·rw[hlast,wi]
     rw[eqs3_t]
     simp(disch:=omega)only[↓qXX]
     refine⟨by trivial,?_⟩
     rw[←hlast];exact hJ'
    ·have hne:bf x y (j+1)≠bf x y 0:=ne8 x y (by omega) (by omega) hx0 hy0 hxy
     rw[p_eqs3_f (λhq=>hne (cel_ext hq))]
     simp(disch:=omega)only[↓qXX]
     exact hself (many x - (j+1)) _ _ (by omega) ⟨j+1,by omega,rfl,rfl,hJ'⟩
   ·rw[p_eql_f (by simp only[qaq];omega)]
    simp(disch:=omega)only[↓qXX]
    refine cU (hP j h2 hJ).2 rfl ?_
    simp(disch:=omega)only[↓qXX]
    refine af st.name ?_
    simp(disch:=omega)only[↓qXX]
    refine cU (hP j h2 hJ).2 rfl ?_
    simp(disch:=omega)only[↓qXX]
    refine cU (hP j h2 hJ).1 rfl ?_
    simp(disch:=omega)only[↓qXX]
    refine af st.dir ?_
    simp(disch:=omega)only[↓qXX]
    obtain⟨H',hu,hJ'⟩:=hY j hj h2 hJ
    refine p_callY (ys:=spkL w x y j) hu ?_
    simp(disch:=omega)only[↓qXX,qaF]
    refine af st.next ?_
    simp(disch:=omega)only[↓qXX]
    by_cases hlast:j+1=many x
    ·rw[hlast,wi]
     rw[eqs3_t]
     simp(disch:=omega)only[↓qXX]
     refine⟨by trivial,?_⟩
     rw[←hlast];exact hJ'
    ·have hne:bf x y (j+1)≠bf x y 0:=ne8 x y (by omega) (by omega) hx0 hy0 hxy
     rw[p_eqs3_f (λhq=>hne (cel_ext hq))]
     simp(disch:=omega)only[↓qXX]
     exact hself (many x - (j+1)) _ _ (by omega) ⟨j+1,by omega,rfl,rfl,hJ'⟩ )
 exact⟨h',h1,hJ⟩
def lT(l:List Crs)(d u e:Nat):List Ray:=if iB l (.ofNat u) (.ofNat e)=0 then []else [(.ofNat d,iB l (.ofNat u) (.ofNat e))]
structure RF(H:HL)(n0 a b L w v:Nat)(x:Value)(l:List Crs):Prop where
 len:H.length=n0
 ha:H[a]?=some (.o (.cells [.int .i64 (.ofNat w),.int .i64 (.ofNat v),x] 3 true))
 hx:LsH H x 3 encC l
 xb:blk x≠some b
 xL:blk x≠some L
 ab:a≠b
 aL:a≠L
 bL:b≠L
 lt:a<n0/\b<n0/\L<n0
structure RSr(H:HL)(n0 a b L:Nat)(R:List Ray)(h:HL):Prop where
 old:∀(i:Nat) o,i≠b->i≠L->H[i]?=some o->h[i]?=some o
 len:n0<=h.length
 out:∃xo,h[b]?=some (.o (.cells [xo] 1 true))/\MkL n0 h xo 2 encR R/\aP xo=true
 lp:h[L]?=some (.lp 800 .ready none [.pointer (some ⟨a,0,none⟩),.pointer (some ⟨b,0,none⟩)])
def dC{h:HL}{a:Nat}{cs:List Value}{e:Nat}{rw':Bool}(ha:h[a]?=some (.o (.cells cs e rw'))):Ptr h (.pointer (some ⟨a,0,none⟩)) cs:=
 ⟨a,0,cs,e,rw',rfl,ha,cut_some.2 ⟨by omega,by simp⟩⟩
def st_run{h:HL}{id e:Nat}{cs new:List Value}(hg:h[id]?=some (.o (.cells cs e true)))(hl:new.length=cs.length):(Hp.st (.pointer (some ⟨id,0,none⟩)) new).run (getH aa h) h.length=some ([.set id (.cells new e true)],[]):=by
 show stP (.pointer (some ⟨id,0,none⟩)) new (getH aa h) h.length=_
 unfold stP
 simp only
 rw[cC hg]
 simp only
 unfold splice
 rw[if_pos (by omega)]
 simp[hl]
def round_c{H:HL}{n0 a b L w v:Nat}{x:Value}{l:List Crs}(hF:RF H n0 a b L w v x l)(hp:Pat w v l){R:List Ray}(hR:R.length<=100){h:HL}(hS:RSr H n0 a b L R h){c d u e n:Nat}(hc:u<4*w*v)(he:e<3)(hn:nbr w v u e=some n)(hun:u<n)(hn2:n<=1000) :
  ∃h',fF cc L (ah [.leaf (.i .i64 (.ofNat c)),.agg [.i .i64 (.ofNat d),.i .i64 (.ofNat u),.i .u8 (.ofNat e)]]) (absH aa h) (.bool true) (absH aa h')/\RSr H n0 a b L (R++lT l d u e) h':=by
 obtain⟨xo,hb,hmk,hgx⟩:=hS.out
 have hx2:aP x=true:=hF.hx.good
 obtain⟨bb,h',hu,hK1,hK2⟩:=xy800 (K:=λrs h'=>rs=[.b true]/\RSr H n0 a b L (R++lT l d u e) h') (ys:=[.leaf (.i .i64 (.ofNat c)),.agg [.i .i64 (.ofNat d),.i .i64 (.ofNat u),.i .u8 (.ofNat e)]]) (ls:=[.i (.ofNat c),.i (.ofNat d),.i (.ofNat u),.i (.ofNat e)]) hS.lp ⟨rfl,rfl,by
   intro y hy z hz
   simp only[qak,qbM,or_false]at hy
   rcases hy with rfl|rfl<;>simp only[S0.cells,qak,qbM,or_false]at hz
   ·subst hz;trivial
   ·rcases hz with rfl|rfl|rfl<;>trivial⟩ (by
  unfold y800;simp only[qxh]
  simp(disch:=omega)only[↓qXX]
  refine aH rfl ?_
  simp(disch:=omega)only[↓qXX]
  refine aH rfl ?_
  simp(disch:=omega)only[↓qXX]
  have hnew:(h++[HO.o (.cells [.int .i64 0,.int .i64 0,.int .u8 0] 3 true)])[h.length]?=some (.o (.cells [.int .i64 0,.int .i64 0,.int .u8 0] 3 true)):=by simp
  refine cO (acts:=[.set h.length (.cells [.int .i64 (.ofNat d),.int .i64 (.ofNat u),.int .u8 (.ofNat e)] 3 true)]) (cs:=[]) (st_run hnew rfl) ?_
  have e1:bI (h++[HO.o (.cells [.int .i64 0,.int .i64 0,.int .u8 0] 3 true)]) [.set h.length (.cells [.int .i64 (.ofNat d),.int .i64 (.ofNat u),.int .u8 (.ofNat e)] 3 true)]=h++[HO.o (.cells [.int .i64 (.ofNat d),.int .i64 (.ofNat u),.int .u8 (.ofNat e)] 3 true)]:=by
   show(h++[_]).set h.length _=_
   simp
  rw[e1]
  have hLlt:L<h.length:=be hS.lp
  refine p_lp1 (κ:=800) (pd:=none) (vs:=[.pointer (some ⟨a,0,none⟩),.pointer (some ⟨b,0,none⟩)]) (by rw[qaf hLlt];exact hS.lp) ?_
  have facts:∃h3,h3=(h++[HO.o (.cells [.int .i64 (.ofNat d),.int .i64 (.ofNat u),.int .u8 (.ofNat e)] 3 true)]).set L (.lp 800 .busy none [.pointer (some ⟨a,0,none⟩),.pointer (some ⟨b,0,none⟩)])/\(∀(i:Nat) o,i≠L->h[i]?=some o->h3[i]?=some o)/\h3[h.length]?=some (.o (.cells [.int .i64 (.ofNat d),.int .i64 (.ofNat u),.int .u8 (.ofNat e)] 3 true))/\h3[L]?=some (.lp 800 .busy none [.pointer (some ⟨a,0,none⟩),.pointer (some ⟨b,0,none⟩)])/\h3.length=h.length+1:=by
   refine⟨_,rfl,λi o hi ho=>?_,?_,?_,by simp⟩
   ·rw[qai (qbK hi),qaf (be ho)];exact ho
   ·rw[qai (by omega)];simp
   ·rw[qaD (by simp;omega)]
  obtain⟨h3,hh3,f1,f2,f3,f4⟩:=facts
  rw[←hh3]
  have ha3:=f1 a _ hF.aL (hS.old a _ hF.ab hF.aL hF.ha)
  refine cU (dC ha3) rfl ?_
  simp(disch:=omega)only[↓qXX]
  refine aH hx2 ?_
  simp(disch:=omega)only[↓qXX]
  obtain⟨q,q1,q2⟩:=(dC f2).fd 1 2 (by simp)
  refine am q1 (aH q2.good ?_)
  refine ft q2 (o:=0) (k:=1) (ds:=[.int .i64 (.ofNat u)]) (by simp) rfl ?_
  simp(disch:=omega)only[↓qXX]
  refine am q1 (aH q2.good ?_)
  refine ft q2 (o:=1) (k:=1) (ds:=[.int .u8 (.ofNat e)]) (by simp) rfl ?_
  simp(disch:=omega)only[↓qXX]
  have hls3:LsH h3 x 3 encC l:=hF.hx.keep λj o hj hbj=>f1 j o (λq=>hF.xL (by rw[hbj,q])) (hS.old j o (λq=>hF.xb (by rw[hbj,q])) (λq=>hF.xL (by rw[hbj,q])) hj)
  have hkd:=kind_c hp hls3 hc he hn hn2
  rw[qb0 (by omega:u<=n)]at hkd
  refine ai hkd ?_
  simp(disch:=omega)only[↓qXX]
  by_cases hk0:iB l (.ofNat u) (.ofNat e)=0
  ·rw[p_neq_f hk0]
   simp(disch:=omega)only[↓qXX]
   refine p_lp2 f3 ?_
   try simp(disch:=omega)only[↓qXX]
   refine⟨by trivial,?_⟩
   have hray:lT l d u e=[]:=if_pos hk0
   rw[hray,qaX]
   refine⟨λi o hi1 hi2 ho=>?_,by rw[qb8,f4];have:=hS.len;omega,⟨xo,?_,hmk.keep λj o hj hbj=>?_,hgx⟩,?_⟩
   ·rw[qai (qbK hi2)];exact f1 i o hi2 (hS.old i o hi1 hi2 ho)
   ·rw[qai (qbK hF.bL)];exact f1 b _ hF.bL hb
   ·have:=(we hmk.2 hbj).1
    have hLn:=hF.lt.2.2
    rw[qai (by omega)];exact f1 j o (by omega) hj
   ·rw[qaD (by rw[f4];omega)]
  ·rw[p_neq_t hk0]
   simp(disch:=omega)only[↓qXX]
   have hb3:=f1 b _ hF.bL hb
   refine cU (dC hb3) rfl ?_
   simp(disch:=omega)only[↓qXX]
   refine aH hgx ?_
   simp(disch:=omega)only[↓qXX]
   refine ft (dC f2) (o:=0) (k:=1) (ds:=[.int .i64 (.ofNat d)]) (by simp) rfl ?_
   simp(disch:=omega)only[↓qXX]
   have hl0:(h3.take n0).length=n0:=by rw[qaJ,f4];have:=hS.len;omega
   have hmk3:MkL (h3.take n0).length h3 xo 2 encR R:=by
    rw[hl0]
    exact hmk.keep λj o hj hbj=>f1 j o (by have:=(we hmk.2 hbj).1;have:=hF.lt.2.2;omega) hj
   refine jD (h0:=h3.take n0) (a:=(.ofNat d,iB l (.ofNat u) (.ofNat e))) ⟨h3.drop n0,by simp⟩ hmk3 rfl rfl rfl rfl (by
    unfold bU
    rw[qaa,qbb,qbb]
    omega) λv' h' hp' hm' hg' hold hblk=>?_
   have nb:∀i,i<n0->blk xo≠some i:=λi hi hq=>by have:=(we hmk.2 hq).1;omega
   simp(disch:=omega)only[↓qXX]
   refine aH hg' ?_
   simp(disch:=omega)only[↓qXX]
   have hb':=hold b _ hb3 (nb b hF.lt.2.1)
   refine cO (st_run hb' rfl) ?_
   have e2:bI h' [.set b (.cells [v'] 1 true)]=h'.set b (.o (.cells [v'] 1 true)):=rfl
   rw[e2]
   simp(disch:=omega)only[↓qXX]
   have hL':=hold L _ f3 (nb L hF.lt.2.2)
   refine p_lp2 (by rw[qai hF.bL];exact hL') ?_
   try simp(disch:=omega)only[↓qXX]
   refine⟨by trivial,?_⟩
   have hray:lT l d u e=[(.ofNat d,iB l (.ofNat u) (.ofNat e))]:=if_neg hk0
   rw[hray]
   rw[hl0]at hm'
   have hbl:=be hb'
   have hLl:=be hL'
   have hlen':n0<=h'.length:=by have:=hp'.len;rw[hl0]at this;exact this
   refine⟨λi o hi1 hi2 ho=>?_,by rw[qb8,qb8];exact hlen',⟨v',?_,hm'.keep λj o hj hbj=>?_,hg'⟩,?_⟩
   ·rw[qai (qbK hi2),qai (qbK hi1)]
    have hin:i<n0:=by have:=be ho;rw[hF.len]at this;exact this
    exact hold i o (f1 i o hi2 (hS.old i o hi1 hi2 ho)) (nb i hin)
   ·rw[qai (qbK hF.bL),qaD hbl]
   ·have h5:=(we hm'.2 hbj).1
    have h6:=hF.lt
    rw[qai (by omega),qai (by omega)];exact hj
   ·rw[qaD (by rw[qb8];exact hLl)])
 cases hK1
 exact⟨h',hu,hK2⟩
abbrev cloV(n:Nat):Value:=.func (.func 124) ⟨[]⟩ ⟨[.pointer (some ⟨n+1,0,none⟩),.pointer (some ⟨n,0,none⟩)]⟩
def walkF_c(H:HL)(w v x y:Int):aw cc ac 84 [.i w,.i v,.i x,.i y] (absH aa H) [.v (cloV H.length)] (absH aa (H++[.o (.cells [.int .i64 w,.int .i64 v] 2 true),.o (.cells [.int .i64 x,.int .i64 y] 2 true)])):=by
 obtain⟨rs,h',h1,e1,e2⟩:=u84 (ls:=[.i w,.i v,.i x,.i y]) (K:=λrs h'=>rs=[.v (cloV H.length)]/\h'=H++[.o (.cells [.int .i64 w,.int .i64 v] 2 true),.o (.cells [.int .i64 x,.int .i64 y] 2 true)]) (H:=H) rfl (by
  unfold f84;simp only[qxh]
  simp(disch:=omega)only[↓qXX]
  refine aH rfl ?_
  refine⟨?_,?_⟩
  ·simp
  ·simp)
 rw[e1,e2]at h1
 exact h1
def corner_i{w v x y:Int}(h:1<=w/\w<=4/\1<=v/\v<=4/\0<x/\x<2*w/\0<y/\y<2*v/\x%2=y%2):Cc 83 [.i w,.i v,.i x,.i y] [.i 0]:=by
 refine q83 rfl ?_;unfold f83;simp only[qxh]
 simp(disch:=omega)only[↓qXX]
 refine af (kX (vN (by unfold smS;omega))) ?_
 simp(disch:=omega)only[↓qXX]
def corner_c{w v x y:Nat}(hsh:1<=w/\w<=4/\1<=v/\v<=4)(hcor:du w v x y=true):Cc 83 [.i (.ofNat w),.i (.ofNat v),.i (.ofNat x),.i (.ofNat y)] [.i 0]:=by
 have hc2:=hcor
 unfold du at hc2
 simp only[qaa,qaK]at hc2
 obtain⟨hx0,hy0,hx1,hy1,hxy⟩:=hc2
 have hxy:=qac hxy
 exact corner_i (by simp only[qaq];omega)
def fG(w x y j:Nat):Nat:=min (idOf w (bf x y j)) (idOf w (bf x y (j+1)))
def uniT(w v x y j:Nat):Bool:=match nbr w v (fG w x y j) (cH x j)with
 |some n=>Nat.blt (fG w x y j) n&&(Nat.blt (fG w x y j) (4*w*v)&&Nat.ble n 1000)
 |none=>false
def uniAll(w v:Nat):Bool:=(List.range (2*w)).all λx=>(List.range (2*v)).all λy=>!(du w v x y)||(List.range (many x)).all λj=>uniT w v x y j
def uni_all:∀w v:Nat,1<=w->w<=4->1<=v->v<=4->uniAll w v=true:=by
 have key:((List.range 4).all λw=>(List.range 4).all λv=>uniAll (w+1) (v+1))=true:=by kernel_rfl
 intro w v h1 h2 h3 h4
 have h5:=qab.1 key (w - 1) (qad.2 (by omega))
 have h6:=qab.1 h5 (v - 1) (qad.2 (by omega))
 have e1:w - 1+1=w:=by omega
 have e2:v - 1+1=v:=by omega
 rw[e1,e2]at h6
 exact h6
def uni_of{w v x y:Nat}(h1:1<=w/\w<=4/\1<=v/\v<=4)(h2:du w v x y=true){j:Nat}(hj:j<many x):∃n,nbr w v (fG w x y j) (cH x j)=some n/\fG w x y j<n/\fG w x y j<4*w*v/\n<=1000:=by
 have h:=uni_all w v h1.1 h1.2.1 h1.2.2.1 h1.2.2.2
 have h3:=h2
 unfold du at h3
 simp only[qaa,qaK]at h3
 have h4:=qab.1 (qab.1 h x (qad.2 (by omega))) y (qad.2 (by omega))
 rw[h2]at h4
 simp only[qaF,qbL]at h4
 have h5:=qab.1 h4 j (qad.2 hj)
 unfold uniT at h5
 split at h5
 next n e=>
  simp only[qaa,qaK,qbb]at h5
  exact⟨n,e,h5.1,h5.2.1,h5.2.2⟩
 ·cases h5
def dD(l:List Crs)(w x y:Nat):Nat->List Ray
 |0=>[]
 |j+1=>dD l w x y j++lT l (jp x j) (fG w x y j) (cH x j)
def ui(l:List Crs)(d u e:Nat):(lT l d u e).length<=1:=by
 unfold lT
 split<;>simp
def im(l:List Crs)(w x y:Nat):∀j,(dD l w x y j).length<=j
 |0=>qan _
 |j+1=>by
  unfold dD
  rw[qay]
  have:=im l w x y j
  have:=ui l (jp x j) (fG w x y j) (cH x j)
  omega
def walkR_c{w v x y:Nat}(hsh:1<=w/\w<=4/\1<=v/\v<=4)(hcor:du w v x y=true){l:List Crs}(hp:Pat w v l){H:HL}{n0 a b L pa ps:Nat}{xv:Value}(hF:RF H n0 a b L w v xv l)
  (hpa:H[pa]?=some (.o (.cells [.int .i64 (.ofNat x),.int .i64 (.ofNat y)] 2 true))) (hps:H[ps]?=some (.o (.cells [.int .i64 (.ofNat w),.int .i64 (.ofNat v)] 2 true))) (d1:pa≠b/\pa≠L/\ps≠b/\ps≠L) (hS:RSr H n0 a b L [] H) :
  ∃h',aw cc ac 124 [.v (.func (.yield L) #[] #[]),.v (.pointer (some ⟨pa,0,none⟩)),.v (.pointer (some ⟨ps,0,none⟩))] (absH aa H) [] (absH aa h')/\RSr H n0 a b L (dD l w x y (many x)) h':=by
 refine walk_c hsh hcor (λj h=>RSr H n0 a b L (dD l w x y j) h) (λj h hj=>⟨dC (hj.old pa _ d1.1 d1.2.1 hpa),dC (hj.old ps _ d1.2.2.1 d1.2.2.2 hps)⟩) (λj hj h hJ=>?_) hS
 obtain⟨n,u1,u2,u3,u4⟩:=uni_of hsh hcor hj
 have hm:many x<=8:=by unfold many;split<;>omega
 exact round_c hF hp (by have:=im l w x y j;omega) hJ u3 (by have:=(xJ hsh hcor hj).le;omega) u1 u2 u4
def pre_of{H h:HL}(hk:∀(i:Nat) o,H[i]?=some o->h[i]?=some o):Pre H h:=by
 refine⟨h.drop H.length,?_⟩
 conv=>lhs;rw[←qbt H.length h]
 congr 1
 apply qaR
 intro i
 rw[qa1]
 by_cases hi:i<H.length
 ·rw[if_pos hi,hk i _ (qar hi),qar hi]
 ·rw[if_neg hi,qah (by omega)]
def putE_self{h:HL}{id:Nat}{R:List Ray}(hg:h[id]?=some (.o (.cells (R.flatMap encR) 2 true))):putE h id 2 encR R=h:=by
 unfold putE
 apply qaR
 intro i
 by_cases hi:id=i
 ·subst hi
  rw[qaD (be hg),hg]
 ·rw[qai hi]
def clipR_c(H:HL){id n:Nat}:aw cc ac 88 [.v (.slice (some ⟨id,0,tag 2⟩) n 0)] (absH aa H) [.v (.slice (some ⟨id,0,tag 2⟩) n (n+1))] (absH aa H):=by
 obtain⟨rs,h',h1,e1,e2⟩:=x88 (ls:=[.v (.slice (some ⟨id,0,tag 2⟩) n 0)]) (K:=λrs h'=>rs=[.v (.slice (some ⟨id,0,tag 2⟩) n (n+1))]/\h'=H) (H:=H) (glsV rfl gls0) (by
  unfold f88;simp only[qxh]
  simp(disch:=omega)only[↓qXX]
  refine am (x:=Int.ofNat n) rfl ?_
  refine am (x:=Int.ofNat n) rfl ?_
  have e:slS 2 (.slice (some ⟨id,0,tag 2⟩) n 0) none (some (Int.ofNat n)) (some (Int.ofNat n))=some (.slice (some ⟨id,0,tag 2⟩) n (n+1)):=by
   unfold slS
   simp only
   rw[if_neg (by simp),if_pos (by simp[cJ])]
   simp[ee,bB]
  refine am e ?_
  refine aH rfl ?_
  exact⟨by trivial,by trivial⟩)
 rw[e1,e2]at h1
 exact h1
def uE:∀(l P:List Ray),(jL l P).length=l.length+P.length
 | [],P=>by simp[jL]
 |e :: r,P=>by
  rw[show jL (e :: r) P=jL r (insR e P)from rfl,uE r,mq]
  simp only[qaC]
  omega
def oF(l:List Ray):(gc l).length=l.length:=by
 unfold gc
 rw[qdd,uE]
 simp
def kindU_rng{l:List Crs}(hr:∀c∈l,rngC c)(a b:Int):0<=iB l a b/\iB l a b<=255:=by
 unfold iB
 split
 next c hf=>
  have:=hr c (qce hf)
  unfold rngC at this
  omega
 ·omega
def qe{l:List Crs}(hr:∀c∈l,rngC c)(w x y:Nat):∀j,∀r∈dD l w x y j,rngR r
 |0,r,h=>by cases h
 |j+1,r,h=>by
  unfold dD at h
  rcases qaH.1 h with h|h
  ·exact qe hr w x y j r h
  ·unfold lT at h
   split at h
   ·cases h
   ·have e:=qau.1 h
    subst e
    have hd:jp x j<8:=by unfold jp;split<;>omega
    have:=kindU_rng hr (Int.ofNat (fG w x y j)) (Int.ofNat (cH x j))
    unfold rngR
    simp only[qaq]at this ⊢
    omega
def clip0_c(H:HL):aw cc ac 88 [.v (.slice none 0 0)] (absH aa H) [.v (.slice none 0 0)] (absH aa H):=by
 obtain⟨rs,h',h1,e1,e2⟩:=x88 (ls:=[.v (.slice none 0 0)]) (K:=λrs h'=>rs=[.v (.slice none 0 0)]/\h'=H) (H:=H) (glsV rfl gls0) (by
  unfold f88;simp only[qxh]
  simp(disch:=omega)only[↓qXX]
  refine am (x:=(0:Int)) rfl ?_
  refine am (x:=(0:Int)) rfl ?_
  refine am (x:=.slice none 0 0) rfl ?_
  refine aH rfl ?_
  exact⟨by trivial,by trivial⟩)
 rw[e1,e2]at h1
 exact h1
def p_pend{kn kr:Prop}{ks:List (Nat×Prop)}(hk:kn):P1.pend none (@hid _ ⟨kn⟩) kr ks:=hk
def creases_c{w v x y:Nat}(hsh:1<=w/\w<=4/\1<=v/\v<=4)(hcor:du w v x y=true){l:List Crs}(hp:Pat w v l){H:HL}{xv:Value}(hl:LsH H xv 3 encC l) :
  ∃G rx,aw cc ac 50 [.i (.ofNat w),.i (.ofNat v),.v xv,.i (.ofNat x),.i (.ofNat y)] (absH aa H) [.v rx,.i 0] (absH aa (H++G))/\LsH (H++G) rx 2 encR (gc (dD l w x y (many x)))/\capS rx=some (Int.ofNat (gc (dD l w x y (many x))).length):=by
 obtain⟨rs,h',h1,rx,e1,hpre,hrx,hcap⟩:=x50 (ls:=[.i (.ofNat w),.i (.ofNat v),.v xv,.i (.ofNat x),.i (.ofNat y)]) (K:=λrs h'=>∃rx,rs=[.v rx,.i 0]/\Pre H h'/\LsH h' rx 2 encR (gc (dD l w x y (many x)))/\capS rx=some (Int.ofNat (gc (dD l w x y (many x))).length)) (H:=H) (glsI (glsI (glsV hl.good (glsI (glsI gls0))))) (by
  unfold f50;simp only[qxh]
  simp(disch:=omega)only[↓qXX]
  have a1:(H++[HO.o (.cells [.int .i64 (.ofNat w),.int .i64 (.ofNat v),xv] 3 true)])[H.length]?=some (.o (.cells [.int .i64 (.ofNat w),.int .i64 (.ofNat v),xv] 3 true)):=by simp
  refine cU (dC a1) rfl ?_
  simp(disch:=omega)only[↓qXX]
  refine aH hl.good ?_
  simp(disch:=omega)only[↓qXX]
  refine ai (hp.check (hl.pre ⟨_,rfl⟩)) ?_
  simp(disch:=omega)only[↓qXX]
  refine ft (dC a1) (o:=0) (k:=2) (ds:=[.int .i64 (.ofNat w),.int .i64 (.ofNat v)]) (by simp) rfl ?_
  simp(disch:=omega)only[↓qXX]
  refine af (corner_c hsh hcor) ?_
  simp(disch:=omega)only[↓qXX]
  obtain⟨hA,ehA⟩ : ∃hA,hA=H++[HO.o (.cells [.int .i64 (.ofNat w),.int .i64 (.ofNat v),xv] 3 true)]++[HO.o (.cells [.slice none 0 0] 1 true)]:=⟨_,rfl⟩
  have lA:hA.length=H.length+2:=by rw[ehA];simp
  have gA:hA[H.length]?=some (.o (.cells [.int .i64 (.ofNat w),.int .i64 (.ofNat v),xv] 3 true)):=by rw[ehA];simp
  have gB:hA[H.length+1]?=some (.o (.cells [.slice none 0 0] 1 true)):=by rw[ehA];simp
  have pA:Pre H hA:=⟨_,by rw[ehA,qaN]⟩
  have e2:(H++[HO.o (.cells [.int .i64 (.ofNat w),.int .i64 (.ofNat v),xv] 3 true)]).length=H.length+1:=by simp
  rw[e2,←ehA]
  refine ft (dC gA) (o:=0) (k:=2) (ds:=[.int .i64 (.ofNat w),.int .i64 (.ofNat v)]) (by simp) rfl ?_
  simp(disch:=omega)only[↓qXX]
  refine ai (walkF_c hA _ _ _ _) ?_
  simp(disch:=omega)only[↓qXX]
  obtain⟨hB,ehB⟩ : ∃hB,hB=hA++[HO.o (.cells [.int .i64 (.ofNat w),.int .i64 (.ofNat v)] 2 true),HO.o (.cells [.int .i64 (.ofNat x),.int .i64 (.ofNat y)] 2 true)]:=⟨_,rfl⟩
  rw[←ehB]
  have lB:hB.length=H.length+4:=by rw[ehB];simp;omega
  have pB:Pre hA hB:=⟨_,ehB⟩
  have gs:hB[hA.length]?=some (.o (.cells [.int .i64 (.ofNat w),.int .i64 (.ofNat v)] 2 true)):=by rw[ehB];simp
  have ga:hB[hA.length+1]?=some (.o (.cells [.int .i64 (.ofNat x),.int .i64 (.ofNat y)] 2 true)):=by rw[ehB];simp
  obtain⟨hC,ehC⟩ : ∃hC,hC=hB++[HO.lp 800 .ready none [.pointer (some ⟨H.length,0,none⟩),.pointer (some ⟨H.length+1,0,none⟩)]]:=⟨_,rfl⟩
  have pC:Pre hB hC:=⟨_,ehC⟩
  have lC:hC.length=H.length+5:=by rw[ehC];simp;omega
  have gl:hC[hB.length]?=some (.lp 800 .ready none [.pointer (some ⟨H.length,0,none⟩),.pointer (some ⟨H.length+1,0,none⟩)]):=by rw[ehC];simp
  have hxC:LsH hC xv 3 encC l:=((hl.pre pA).pre pB).pre pC
  have hxb:∀i,H.length<=i->blk xv≠some i:=λi hi hq=>by
   obtain⟨_,_,⟨rfl,_⟩|⟨id,off,cx,vs,rw',rfl,h2,_⟩⟩:=hl
   ·cases hq
   ·have e:id=i:=qap hq
    have:=be h2
    omega
  have hF:RF hC (H.length+5) H.length (H.length+1) hB.length w v xv l:=⟨lC,pC.get (pB.get gA),hxC,hxb _ (by omega),hxb _ (by omega),by omega,by omega,by omega,by omega⟩
  have hS:RSr hC (H.length+5) H.length (H.length+1) hB.length [] hC:=⟨λ_ _ _ _ h=>h,by omega,⟨_,pC.get (pB.get gB),MkL.nil _ _ _ _,rfl⟩,gl⟩
  obtain⟨h5,c5,s5⟩:=walkR_c hsh hcor hp hF (pC.get ga) (pC.get gs) (by omega) hS
  rw[ehC]at c5
  refine p_rfun (sg:=⟨[lv,lv,lv],[]⟩) (xs:=[.leaf (.v (.func (.yield hB.length) #[] #[])),.leaf (.v (.pointer (some ⟨hA.length+1,0,none⟩))),.leaf (.v (.pointer (some ⟨hA.length,0,none⟩)))]) c5 rfl rfl rfl rfl s5.lp (by simp) ?_
  refine p_pend ?_
  obtain⟨xo,gx,mk,ggx⟩:=s5.out
  have hbl:H.length+1≠hB.length:=by omega
  have gx2:(h5.set hB.length (.lp 800 .exhausted none [.pointer (some ⟨H.length,0,none⟩),.pointer (some ⟨H.length+1,0,none⟩)]))[H.length+1]?=some (.o (.cells [xo] 1 true)):=by rw[qai (qbK hbl)];exact gx
  refine cU (dC gx2) rfl ?_
  simp(disch:=omega)only[↓qXX]
  refine aH ggx ?_
  simp(disch:=omega)only[↓qXX]
  obtain⟨h6,eh6⟩ : ∃h6,h6=h5.set hB.length (.lp 800 .exhausted none [.pointer (some ⟨H.length,0,none⟩),.pointer (some ⟨H.length+1,0,none⟩)]):=⟨_,rfl⟩
  rw[←eh6]at gx2 ⊢
  have o6:∀(i:Nat) o,i≠hB.length->h5[i]?=some o->h6[i]?=some o:=λi o hi ho=>by rw[eh6,qai (qbK hi)];exact ho
  have oH:∀(i:Nat) o,H[i]?=some o->h6[i]?=some o:=λi o ho=>by
   have:=be ho
   exact o6 i o (by omega) (s5.old i o (by omega) (by omega) (pC.get (pB.get (pA.get ho))))
  have hm8:many x<=8:=by unfold many;split<;>omega
  have hrl:=im l w x y (many x)
  have hrr:=qe hp.rng w x y (many x)
  obtain⟨m1,m2,⟨rfl,hn⟩|⟨id,hid0,rfl,hg⟩⟩:=mk
  ·have hnil:dD l w x y (many x)=[]:=qbf.1 hn
   refine ai (sort0_c h6) ?_
   simp(disch:=omega)only[↓qXX]
   refine cU (dC gx2) rfl ?_
   simp(disch:=omega)only[↓qXX]
   refine aH rfl ?_
   simp(disch:=omega)only[↓qXX]
   refine ai (clip0_c h6) ?_
   simp(disch:=omega)only[↓qXX]
   exact⟨_,by trivial,pre_of oH,by rw[hnil];exact LsH.nil _ _ _,by rw[hnil];rfl⟩
  ·have hg6:=o6 id _ (by omega) hg
   have hs:=sortR_c (h:=h6) (cx:=0) (be hg6) hrr (by omega)
   rw[putE_self hg6]at hs
   refine ai hs ?_
   simp(disch:=omega)only[↓qXX]
   have gx7:(putE h6 id 2 encR (gc (dD l w x y (many x))))[H.length+1]?=some (.o (.cells [.slice (some ⟨id,0,tag 2⟩) (dD l w x y (many x)).length 0] 1 true)):=by
    unfold putE
    rw[qai (by omega)];exact gx2
   refine cU (dC gx7) rfl ?_
   simp(disch:=omega)only[↓qXX]
   refine aH ggx ?_
   simp(disch:=omega)only[↓qXX]
   refine ai (clipR_c _) ?_
   simp(disch:=omega)only[↓qXX]
   refine⟨_,by trivial,pre_of λi o ho=>?_,?_,by rw[oF];rfl⟩
   ·unfold putE
    have:=be ho
    rw[qai (by omega)];exact oH i o ho
   ·rw[←oF]
    exact kN fP (be hg6))
 obtain⟨G,rfl⟩:=hpre
 rw[e1]at h1
 exact⟨G,rx,h1,hrx,hcap⟩
def rysC(l:List Crs)(w x y:Nat):List Ray:=gc (dD l w x y (many x))
def plainR{l:List Lf}{σ:Nat->Nat}(hl:l.all (λl=>match l with | .v _=>false|_=>true)=true):l.map (renL σ)=l:=by
 induction l with
 |nil=>rfl
 |cons a l ih=>
  simp only[qbB,qaa]at hl
  rw[qav,ih hl.2]
  cases a<;>first|rfl|(simp at hl)
def isYes(x:RT):Bool:=match x with
 |some []=>true
 |_=>false
def isYes_ok{x:RT}(h:isYes x=true):x=yes:=by
 unfold isYes at h
 split at h
 ·rfl
 ·cases h
def spkJ(x d:Nat):Option Nat:=if x%2=1 then(if d%2=1 then some ((d+5) / 2%4)else none)else some ((d+7)%8)
def eqP(a b:Nat×Nat):Bool:=Nat.beq a.1 b.1&&Nat.beq a.2 b.2
def eqP_iff{a b:Nat×Nat}:eqP a b=true↔a=b:=by
 unfold eqP
 rw[qaa,qbV,qbV,qcZ]
section
variable {w v:Nat} (hsh:1<=w/\w<=4/\1<=v/\v<=4)
include hsh
end
def dirR(l:List Crs)(w x y d:Nat):List Ray:=match spkJ x d with
 |some j=>lT l d (fG w x y j) (cH x j)
 |none=>[]
def refR(l:List Crs)(w x y:Nat):List Ray:=(List.range 8).flatMap (dirR l w x y)
def qM{l:List Crs}{w x y d:Nat}{r:Ray}(h:r∈dirR l w x y d):r.1=Int.ofNat d:=by
 unfold dirR at h
 split at h
 ·unfold lT at h
  split at h
  ·cases h
  ·rw[qau]at h;subst h;rfl
 ·cases h
def qN{l:List Crs}{w x y d:Nat}:(dirR l w x y d).length<=1:=by
 unfold dirR
 split
 ·exact ui _ _ _ _
 ·simp
def pair1{l:List Ray}(h:l.length<=1):l.Pairwise λa b=>a.1<b.1:=by
 rcases l with _|⟨a,_|⟨b,l⟩⟩
 ·exact .nil
 ·exact qcn _ _
 ·simp at h
def sO{l:List Crs}{w x y:Nat}:∀ {ds:List Nat},(ds.Pairwise λa b=>a<b)->(ds.flatMap (dirR l w x y)).Pairwise λa b=>a.1<b.1
 | [],_=>.nil
 |d :: ds,h=>by
  obtain⟨h1,h2⟩:=qba.1 h
  rw[qbC,qcw]
  refine⟨pair1 qN,sO h2,λa ha b hb=>?_⟩
  obtain⟨d',hd',hb⟩:=qbd.1 hb
  rw[qM ha,qM hb]
  have:=h1 d' hd'
  show(d:Int)<d'
  omega
def wG{e:Ray}:∀ {P:List Ray},(∀p∈P,e.1<p.1)->insR e P=P++[e]
 | [],_=>rfl
 |p :: P,h=>by
  unfold insR
  rw[if_pos (h p qax),wG λq hq=>h q (qao _ hq)]
  rfl
def insR_head{e:Ray}{P:List Ray}(h:∀p∈P,p.1<e.1):insR e P=e :: P:=by
 cases P with
 |nil=>rfl
 |cons p P=>
  have:=h p qax
  unfold insR
  rw[if_neg (by omega)]
def uD:∀ {A P:List Ray},(A.Pairwise λa b=>a.1<b.1)->(∀a∈A,∀p∈P,p.1<a.1)->jL A P=A.reverse++P
 | [],P,_,_=>rfl
 |a :: A,P,h,hp=>by
  obtain⟨h1,h2⟩:=qba.1 h
  show jL A (insR a P)=_
  rw[insR_head (hp a qax),uD h2 (λb hb p hq=>by
   rcases qak.1 hq with rfl|hq
   ·exact h1 b hb
   ·exact hp b (qao _ hb) p hq)]
  simp
def uC:∀(A B P:List Ray),jL (A++B) P=jL B (jL A P)
 | [],_,_=>rfl
 |a :: A,B,P=>by
  show jL (A++B) (insR a P)=_
  rw[uC A B];rfl
def uF{A B:List Ray}(h:(B++A).Pairwise λa b=>a.1<b.1)(hB:B.length<=1):gc (A++B)=B++A:=by
 obtain⟨h1,h2,h3⟩:=qcw.1 h
 unfold gc
 rw[uC,uD h2 (λa _ p hp=>by cases hp),qaX]
 rcases B with _|⟨b,_|⟨b',B⟩⟩
 ·show A.reverse.reverse=_
  simp
 ·show(insR b A.reverse).reverse=_
  rw[wG λp hp=>h3 b qax p (List.mem_reverse.1 hp)]
  simp
 ·simp at hB
def rays_odd{l:List Crs}{w x y:Nat}(h:x%2=1):dD l w x y (many x)=dirR l w x y 3++dirR l w x y 5++dirR l w x y 7++dirR l w x y 1:=by
 have e:many x=4:=if_pos h
 rw[e]
 simp[dD,dirR,spkJ,h,jp]
def rays_even{l:List Crs}{w x y:Nat}(h:¬x%2=1):dD l w x y (many x)=dirR l w x y 1++dirR l w x y 2++dirR l w x y 3++dirR l w x y 4++dirR l w x y 5++dirR l w x y 6++dirR l w x y 7++dirR l w x y 0:=by
 have e:many x=8:=if_neg h
 rw[e]
 simp[dD,dirR,spkJ,h,jp]
def refR_pair(l:List Crs)(w x y:Nat):(refR l w x y).Pairwise λa b=>a.1<b.1:=sO qcb
def rT(l:List Crs)(w x y:Nat):rysC l w x y=refR l w x y:=by
 have hp:=refR_pair l w x y
 have hr:refR l w x y=dirR l w x y 0++(dirR l w x y 1++(dirR l w x y 2++(dirR l w x y 3++(dirR l w x y 4++(dirR l w x y 5++(dirR l w x y 6++dirR l w x y 7)))))):=by
  unfold refR
  show List.flatMap _ [0,1,2,3,4,5,6,7]=_
  simp
 rw[hr]at hp ⊢
 unfold rysC
 by_cases h:x%2=1
 ·rw[rays_odd h]
  have z:∀d,d%2=0->dirR l w x y d=[]:=λd hd=>by simp[dirR,spkJ,h,hd]
  rw[z 0 rfl,z 2 rfl,z 4 rfl,z 6 rfl]at hp ⊢
  simp only[qaG]at hp ⊢
  have:=uF (A:=dirR l w x y 3++(dirR l w x y 5++dirR l w x y 7)) (B:=dirR l w x y 1) hp qN
  simpa[qaN]using this
 ·rw[rays_even h]
  have:=uF (A:=dirR l w x y 1++(dirR l w x y 2++(dirR l w x y 3++(dirR l w x y 4++(dirR l w x y 5++(dirR l w x y 6++dirR l w x y 7)))))) (B:=dirR l w x y 0) hp qN
  simpa[qaN]using this
def refR_len(l:List Crs)(w x y:Nat):(refR l w x y).length<=8:=by
 rw[←rT]
 unfold rysC
 rw[oF]
 have:=im l w x y (many x)
 have hm:many x<=8:=by unfold many;split<;>omega
 omega
def encP(p:Nat×Nat):List Value:=[.int .i64 (.ofNat p.1),.int .i64 (.ofNat p.2)]
def encP_len(p:Nat×Nat):(encP p).length=2:=rfl
def corL(w v:Nat):List (Nat×Nat):=(List.range (2*v)).flatMap λy=>(List.range (2*w)).filterMap λx=>if du w v x y then some (x,y)else none
def qK{w v:Nat}{p:Nat×Nat}(h:p∈corL w v):du w v p.1 p.2=true:=by
 unfold corL at h
 obtain⟨y,_,h⟩:=qbd.1 h
 obtain⟨x,_,h⟩:=qa4.1 h
 split at h
 ·cases h;assumption
 ·cases h
def xM(w v:Nat):Bool:=isYes (runF 60 (.f 33) [.i (.ofNat w),.i (.ofNat v)] .empty (λrs h=>match rs with
   | .v x :: r=>ans (eqLs r [.i 0]&&isSl h x 2 (corL w v).length ((corL w v).flatMap encP))
   |_=>none))&&(Nat.blt 0 (corL w v).length&&Nat.ble (corL w v).length 100)
def cor_all:∀w v:Nat,1<=w->w<=4->1<=v->v<=4->xM w v=true:=by
 have key:((List.range 4).all λw=>(List.range 4).all λv=>xM (w+1) (v+1))=true:=by kernel_rfl
 intro w v h1 h2 h3 h4
 have h5:=qab.1 key (w - 1) (qad.2 (by omega))
 have h6:=qab.1 h5 (v - 1) (qad.2 (by omega))
 have e1:w - 1+1=w:=by omega
 have e2:v - 1+1=v:=by omega
 rw[e1,e2]at h6
 exact h6
def cor_len{w v:Nat}(hsh:1<=w/\w<=4/\1<=v/\v<=4):0<(corL w v).length/\(corL w v).length<=100:=by
 have h:=cor_all w v hsh.1 hsh.2.1 hsh.2.2.1 hsh.2.2.2
 unfold xM at h
 rw[qaa,qaa,qaK,qbb]at h
 exact h.2
def all_c{w v:Nat}(hsh:1<=w/\w<=4/\1<=v/\v<=4)(H:HL):∃ax G,aw cc ac 33 [.i (.ofNat w),.i (.ofNat v)] (absH aa H) [.v ax,.i 0] (absH aa (H++G))/\LsH (H++G) ax 2 encP (corL w v):=by
 have h:=cor_all w v hsh.1 hsh.2.1 hsh.2.2.1 hsh.2.2.2
 unfold xM at h
 rw[qaa]at h
 obtain⟨s,G,c1,c2⟩:=made (g:=33) (rest:=[.i 0]) rfl (by kernel_rfl) rfl rfl (isYes_ok h.1) H
 exact⟨s,G,c1,λu _=>encP_len u,c2⟩
def callv_cf{g:FuncId}{sg:Sig}{p:Value}{ls rs:List Lf}{H H':List HObj}(hc:aw cc ac g (.v p :: ls) H rs H')(hs:ac g=some sg)(xs:List S0)(h1:bJ (.leaf (.v p) :: xs) sg.ps=true)(h2:bK (.leaf (.v p) :: xs) = .v p :: ls) :
  ss cc (.func (.func g) ⟨[p]⟩ ⟨[]⟩) (ah xs) sg.rs H rs H':=by
 obtain⟨sg',xs',ys,c1,c2,c3,c4⟩:=hc
 rw[hs]at c1
 cases c1
 obtain⟨w1,_⟩:=cG c2.1 h1 (c2.2.1.trans h2.symm)
 rw[w1]at c4
 have e:(⟨[p]⟩ : Array Value).toList++ah xs++(⟨[]⟩ : Array Value).toList=ah (.leaf (.v p) :: xs):=by
  show [p]++ah xs++[]=p :: ah xs
  simp
 exact⟨ys,c3,.inl ⟨g,⟨[p]⟩,⟨[]⟩,rfl,by rw[e];exact c4⟩⟩
def n_rem{k:IntKind}{d:Nat}{m:Int}(n:Nat)(hm:m=Int.ofNat n)(hn:0<n){K:Int->Prop}:P1.ari .rem k (Int.ofNat d) m (@hid _ ⟨K⟩)=K (Int.ofNat (d%n)):=by
 subst hm
 rw[p_rem_nn (show 0<=Int.ofNat d from qaZ d) (show(0:Int)<Int.ofNat n by simp only[qaq];omega)]
 rfl
def mvC(t x y:Nat):List Value:=[.int .u8 (.ofNat t),.int .i64 (mvX t x y),.int .i64 (mvY t x y)]
def add_c{H:HL}{a t k x y:Nat}(hr:Refl x y k)(ht:t<8)(hto:gO x t=true)(ha:H[a]?=some (.o (.cells (mvC t x y) 3 true))) :
  aw cc ac 51 [.v (.pointer (some ⟨a,0,none⟩)),.i (.ofNat (lnK k)),.i (lnC k x y)] (absH aa H) [] (absH aa (H.set a (.o (.cells (mvC (tn t k) x y) 3 true)))):=by
 obtain⟨rs,h',h1,e1,e2⟩:=x51 (ls:=[.v (.pointer (some ⟨a,0,none⟩)),.i (.ofNat (lnK k)),.i (lnC k x y)]) (K:=λrs h'=>rs=[]/\h'=H.set a (.o (.cells (mvC (tn t k) x y) 3 true))) (H:=H) (glsV rfl (glsI (glsI gls0))) (by
  unfold f51;simp only[qxh]
  simp(disch:=omega)only[↓qXX]
  refine af hr.mof ?_
  simp(disch:=omega)only[↓qXX]
  refine am (x:=.pointer (some ⟨a,0,none⟩)) rfl ?_
  refine aH rfl ?_
  refine ft (dC ha) (o:=0) (k:=3) (ds:=mvC t x y) (by simp[mvC]) rfl ?_
  unfold mvC
  simp(disch:=omega)only[↓qXX]
  refine af (hr.thn t ht hto) ?_
  simp(disch:=omega)only[↓qXX]
  refine am (x:=.pointer (some ⟨a,0,none⟩)) rfl ?_
  refine aH rfl ?_
  refine am (x:=.pointer (some ⟨a,0,none⟩)) rfl ?_
  refine aH rfl ?_
  refine cO (st_run ha rfl) ?_
  exact⟨by trivial,by trivial⟩)
 rw[e1,e2]at h1
 exact h1
def ident_c:Cc 38 [] [.i 0,.i 0,.i 0]:=by
 refine q38 rfl ?_;unfold f38;simp only[qxh]
 simp(disch:=omega)only[↓qXX]
def okRd(x:Nat)(R:List Ray):Prop:=∀r∈R,∃d:Nat,r.1=Int.ofNat d/\d<8/\rF x (d%4)=true
def turnD_lt(D:List Int):dF D<8:=by
 unfold dF
 suffices ∀(D:List Int) (t:Nat),t<8->D.foldl (λt d=>tn t (d.toNat%4)) t<8 from this D 0 (by omega)
 intro D
 induction D with
 |nil=>intro t h;exact h
 |cons d D ih=>intro t _;exact ih _ (tn_lt _ _)
def turnD_app(D:List Int)(d:Int):dF (D++[d])=tn (dF D) (d.toNat%4):=by
 unfold dF
 rw[List.foldl_append];rfl
def okTurn_tn{x t k:Nat}(h:gO x t=true)(hd:rF x k=true)(ht:t<8):gO x (tn t k)=true:=by
 unfold gO rF tn at *
 simp only[qaP,qbV]at h hd ⊢
 rcases h with h|h
 ·exact .inl h
 ·rcases hd with hd|hd
  ·exact .inl hd
  ·right
   have:t=0∨t=1∨t=2∨t=3∨t=4∨t=5∨t=6∨t=7:=by omega
   rcases this with rfl|rfl|rfl|rfl|rfl|rfl|rfl|rfl<;>simp[Nat.blt]at h ⊢<;>(split<;>simp[Nat.blt]at *<;>omega)
def wZ{x:Nat}:∀(D:List Int) (t:Nat),(∀d∈D,rF x (d.toNat%4)=true)->t<8->gO x t=true->gO x (D.foldl (λt d=>tn t (d.toNat%4)) t)=true
 | [],_,_,_,h=>h
 |d :: D,t,hd,ht,h=>wZ D _ (λe he=>hd e (qao _ he)) (tn_lt _ _) (okTurn_tn h (hd d qax) ht)
def okTurn_d{x:Nat}{D:List Int}(hD:∀d∈D,∃k:Nat,d=Int.ofNat k/\k<8/\rF x (k%4)=true):gO x (dF D)=true:=by
 refine wZ D 0 (λd hd=>?_) (by omega) (by unfold gO;simp[Nat.blt])
 obtain⟨k,rfl,_,h⟩:=hD d hd
 exact h
def lnK_pick{k:Nat}(hk:k<4):dO [(.i 2),(.i 4),(.i 1),(.i 3)] 0 [(Int.ofNat k,1)] 1=some [.i (.ofNat (lnK k))]:=by
 have:k=0∨k=1∨k=2∨k=3:=by omega
 rcases this with rfl|rfl|rfl|rfl<;>rfl
def take_map{R:List Ray}{j:Nat}{r:Ray}(h:R[j]?=some r):(R.take (j+1)).map (·.1)=(R.take j).map (·.1)++[r.1]:=by
 rw[qa6,h,qbJ];rfl
def closes_c{w v x y:Nat}(hsh:1<=w/\w<=4/\1<=v/\v<=4)(hcor:du w v x y=true){l:List Crs}(hp:Pat w v l)(hR:okRd x (rysC l w x y))(hn:(rysC l w x y).length<=8){H:HL}{xv:Value}(hl:LsH H xv 3 encC l) :
  ∃G,aw cc ac 24 [.i (.ofNat w),.i (.ofNat v),.v xv,.i (.ofNat x),.i (.ofNat y)] (absH aa H) [.b (Nat.beq (dF ((rysC l w x y).map (·.1))) 0),.i 0] (absH aa (H++G)):=by
 obtain⟨G1,rx,hc1,hls,_⟩:=creases_c hsh hcor hp hl
 change LsH _ rx 2 encR (rysC l w x y)at hls
 have hc2:=hcor
 unfold du at hc2
 simp only[qaa,qaK,qbV]at hc2
 generalize rysC l w x y=R at hls hR hn ⊢
 obtain⟨rs,h',h1,e1,G,rfl⟩:=x24 (ls:=[.i (.ofNat w),.i (.ofNat v),.v xv,.i (.ofNat x),.i (.ofNat y)]) (K:=λrs h'=>rs=[.b (Nat.beq (dF (R.map (·.1))) 0),.i 0]/\Pre H h') (H:=H) (glsI (glsI (glsV hl.good (glsI (glsI gls0))))) (by
  unfold f24;simp only[qxh]
  simp(disch:=omega)only[↓qXX]
  refine ai hc1 ?_
  simp(disch:=omega)only[↓qXX]
  refine aH rfl ?_
  refine bM hls ?_
  generalize hHc:H++G1=Hc at hls ⊢
  have hpre:Pre H Hc:=⟨G1,hHc.symm⟩
  refine bW R.length (λj (_:Unit)=>[.i (Int.ofNat j)]) (λj _=>Hc++[HO.o (.cells (mvC (dF ((R.take j).map (·.1))) x y) 3 true)]) (λ_ _=>True) (j0:=0) (s0:=()) rfl rfl (qaW _) trivial ?_
  intro j _ hj _ self hself
  have hls2:LsH (Hc++[HO.o (.cells (mvC (dF ((R.take j).map (·.1))) x y) 3 true)]) rx 2 encR R:=hls.pre ⟨_,rfl⟩
  have hblk:(Hc++[HO.o (.cells (mvC (dF ((R.take j).map (·.1))) x y) 3 true)])[Hc.length]?=some (.o (.cells (mvC (dF ((R.take j).map (·.1))) x y) 3 true)):=by simp
  simp(disch:=omega)only[↓qXX]
  by_cases hlt:j<R.length
  ·rw[aS hlt]
   simp(disch:=omega)only[↓qXX]
   obtain⟨r,hr⟩:=bn hlt
   obtain⟨d,e,hd8,hdk⟩:=hR r (qag hr)
   refine bi hls2 rfl hr ?_
   unfold encR
   simp(disch:=omega)only[↓qXX]
   rw[e]
   rw[n_rem 4 (show(4:Int)=Int.ofNat 4 from rfl) (by omega)]
   have hk:d%4<4:=qb2 _ (by omega)
   rw[p_inB (show 0<=Int.ofNat (d%4)from qaZ _) (by show((d%4:Nat):Int)<((4:Nat):Int);omega)]
   refine am (lnK_pick hk) ?_
   simp(disch:=omega)only[↓qXX]
   have hrf:=refl_of (x:=x) (y:=y) (k:=d%4) (by omega) hk hdk
   refine af hrf.thr ?_
   simp(disch:=omega)only[↓qXX]
   have hadd:=add_c hrf (turnD_lt _) (okTurn_d λd hd=>by
    obtain⟨q,hq,rfl⟩:=qaM.1 hd
    exact hR q (qbp hq)) hblk
   have hset:(Hc++[HO.o (.cells (mvC (dF ((R.take j).map (·.1))) x y) 3 true)]).set Hc.length (.o (.cells (mvC (tn (dF ((R.take j).map (·.1))) (d%4)) x y) 3 true))=Hc++[HO.o (.cells (mvC (dF ((R.take (j+1)).map (·.1))) x y) 3 true)]:=by
    rw[take_map hr,turnD_app,e]
    simp
   rw[hset]at hadd
   refine gQ (callv_cf hadd rfl [.agg [.i .u8 (.ofNat (lnK (d%4))),.i .i64 (lnC (d%4) x y)]] rfl rfl) ?_
   simp(disch:=omega)only[↓qXX]
   rw[ce (by omega)]
   exact hself () hlt trivial
  ·obtain rfl:j=R.length:=by omega
   rw[aY (qan _)]
   simp(disch:=omega)only[↓qXX]
   refine ft (dC hblk) (o:=0) (k:=3) (ds:=mvC (dF ((R.take R.length).map (·.1))) x y) (by simp[mvC]) rfl ?_
   unfold mvC
   simp(disch:=omega)only[↓qXX]
   refine af ident_c ?_
   simp(disch:=omega)only[↓qXX]
   rw[qbh]
   by_cases h0:dF (R.map (·.1))=0
   ·rw[h0]
    rw[p_eqs_t (show Int.ofNat 0=0 from rfl),p_eqs_t (show mvX 0 x y=0 from rfl),p_eqs_t (show mvY 0 x y=0 from rfl),p_eqs0]
    exact⟨by trivial,hpre.trans ⟨_,rfl⟩⟩
   ·rw[p_eqs_f (show ¬Int.ofNat (dF (R.map (·.1)))=0 from λq=>h0 (qct q))]
    refine⟨?_,hpre.trans ⟨_,rfl⟩⟩
    rw[show Nat.beq (dF (R.map (·.1))) 0=false by rw[←qaU,qbV];exact h0])
 rw[e1]at h1
 exact⟨G,h1⟩
set_option maxHeartbeats 8000000
def wkT(g:Nat):List (Bool×Nat)->Nat
 | []=>g
 |(b,k) :: l=>wkT (if b then mulT (tn 0 k) g else g) l
def bs2:List Bool:=[false,true]
def oddT:Bool:=(List.range 8).all λg=>bs2.all λb0=>bs2.all λb1=>bs2.all λb2=>bs2.all λb3=>
 !(Nat.beq (wkT g [(b0,3),(b1,1),(b2,3),(b3,1)]) g)||Nat.beq (dF (bD b3 1++(bD b0 3++(bD b1 5++bD b2 7)))) 0
def evenT:Bool:=(List.range 8).all λg=>bs2.all λb0=>bs2.all λb1=>bs2.all λb2=>bs2.all λb3=>bs2.all λb4=>bs2.all λb5=>bs2.all λb6=>bs2.all λb7=>
 !(Nat.beq (wkT g [(b0,1),(b1,2),(b2,3),(b3,0),(b4,1),(b5,2),(b6,3),(b7,0)]) g)||Nat.beq (dF (bD b7 0++(bD b0 1++(bD b1 2++(bD b2 3++(bD b3 4++(bD b4 5++(bD b5 6++bD b6 7)))))))) 0
def odd_all:oddT=true:=by kernel_rfl
def even_all:evenT=true:=by kernel_rfl
def mem2(b:Bool):b∈bs2:=by cases b<;>simp[bs2]
def odd_of{g:Nat}(hg:g<8)(b0 b1 b2 b3:Bool)(h:wkT g [(b0,3),(b1,1),(b2,3),(b3,1)]=g):dF (bD b3 1++(bD b0 3++(bD b1 5++bD b2 7)))=0:=by
 have:=qab.1 odd_all g (qad.2 hg)
 have:=qab.1 (qab.1 (qab.1 (qab.1 this b0 (mem2 _)) b1 (mem2 _)) b2 (mem2 _)) b3 (mem2 _)
 rw[h,qbE]at this
 simpa using this
def even_of{g:Nat}(hg:g<8)(b0 b1 b2 b3 b4 b5 b6 b7:Bool)(h:wkT g [(b0,1),(b1,2),(b2,3),(b3,0),(b4,1),(b5,2),(b6,3),(b7,0)]=g):dF (bD b7 0++(bD b0 1++(bD b1 2++(bD b2 3++(bD b3 4++(bD b4 5++(bD b5 6++bD b6 7)))))))=0:=by
 have:=qab.1 even_all g (qad.2 hg)
 have:=qab.1 (qab.1 (qab.1 (qab.1 (qab.1 (qab.1 (qab.1 (qab.1 this b0 (mem2 _)) b1 (mem2 _)) b2 (mem2 _)) b3 (mem2 _)) b4 (mem2 _)) b5 (mem2 _)) b6 (mem2 _)) b7 (mem2 _)
 rw[h,qbE]at this
 simpa using this
def idC(w x y j:Nat):Nat:=idOf w (bf x y j)
def ringT(w v x y j:Nat):Bool:=Nat.blt (idC w x y j) (4*w*v)&&(Nat.blt (cH x j) 3&&((match nbr w v (idC w x y j) (cH x j)with
 |some n=>Nat.beq n (idC w x y (j+1))
 |none=>false)&&Nat.beq (ofM (lnC3 (clN w (fG w x y j)) (cH x j))).1 (tn 0 (jp x j%4))))
def ringAll(w v:Nat):Bool:=(List.range (2*w)).all λx=>(List.range (2*v)).all λy=>!(du w v x y)||(List.range (many x)).all λj=>ringT w v x y j
def ring_all:∀w v:Nat,1<=w->w<=4->1<=v->v<=4->ringAll w v=true:=by
 have key:((List.range 4).all λw=>(List.range 4).all λv=>ringAll (w+1) (v+1))=true:=by kernel_rfl
 intro w v h1 h2 h3 h4
 have h5:=qab.1 key (w - 1) (qad.2 (by omega))
 have h6:=qab.1 h5 (v - 1) (qad.2 (by omega))
 rw[show w - 1+1=w by omega,show v - 1+1=v by omega]at h6
 exact h6
section
variable {w v x y:Nat} (hs:Sh4 w v) (hc:du w v x y=true)
include hs hc
theorem rP{j:Nat}(hj:j<many x):idC w x y j<4*w*v/\cH x j<3/\nbr w v (idC w x y j) (cH x j)=some (idC w x y (j+1))/\(ofM (lnC3 (clN w (fG w x y j)) (cH x j))).1=tn 0 (jp x j%4):=by
 have h:=ring_all w v hs.1 hs.2.1 hs.2.2.1 hs.2.2.2
 have h3:=hc
 unfold du at h3
 simp only[qaa,qaK]at h3
 have h4:=qab.1 (qab.1 h x (qad.2 (by omega))) y (qad.2 (by omega))
 rw[hc]at h4
 simp only[qaF,qbL]at h4
 have h5:=qab.1 h4 j (qad.2 hj)
 unfold ringT at h5
 simp only[qaa,qaK,qbV]at h5
 obtain⟨q1,q2,q3,q4⟩:=h5
 refine⟨q1,q2,?_,q4⟩
 split at q3
 next n hn=>
  rw[hn,qac q3]
 ·cases q3
def crJ(l:List Crs)(w x y j:Nat):Bool:=isCr l (fG w x y j) (cH x j)
theorem ring_step{l:List Crs}{G:Nat->Mv}(hG:gq w v l G){j:Nat}(hj:j<many x):(G (idC w x y (j+1))).1=if crJ l w x y j then mulT (tn 0 (jp x j%4)) (G (idC w x y j)).1 else(G (idC w x y j)).1:=by
 obtain⟨h1,h2,h3,h4⟩:=rP hs hc hj
 rw[hG _ _ _ h1 h2 h3]
 unfold acM crJ
 have e:min (idC w x y j) (idC w x y (j+1))=fG w x y j:=rfl
 rw[e,←h4]
 split<;>rfl
end
def wE{w x y:Nat}:idC w x y (many x)=idC w x y 0:=by
 unfold idC bf
 rw[Nat.mod_self,Nat.zero_mod]
def tG{l:List Crs}(hk:∀c∈l,1<=c.2.2/\c.2.2<=3){u e:Nat}:iB l (.ofNat u) (.ofNat e)=0↔isCr l u e=false:=by
 unfold iB isCr
 rw[decide_eq_false_iff_not]
 constructor
 ·intro h hm
  obtain⟨c,h1,h2⟩:=qaM.1 hm
  unfold dI at h2
  simp only[qb5]at h2
  split at h
  next c' hf=>
   have:=hk c' (qce hf)
   omega
  next hf=>
   have:=qcG.1 hf c h1
   unfold eqU at this
   simp[h2.1,h2.2]at this
 ·intro h
  split
  next c hf=>
   have h1:=qce hf
   have h2:=List.find?_some hf
   unfold eqU at h2
   exfalso
   apply h
   refine qaM.2 ⟨c,h1,?_⟩
   unfold dI
   simp only[qaa,decide_eq_true_eq]at h2
   rw[h2.1,h2.2]
  ·rfl
def sN{l:List Crs}(hk:∀c∈l,1<=c.2.2/\c.2.2<=3){w x y d:Nat}:(dirR l w x y d).map (·.1)=match spkJ x d with
  |some j=>bD (crJ l w x y j) d
  |none=>[]:=by
 unfold dirR
 cases hj:spkJ x d with
 |none=>rfl
 |some j=>
  show(lT l d (fG w x y j) (cH x j)).map (·.1)=bD (isCr l (fG w x y j) (cH x j)) d
  unfold lT
  by_cases h:iB l (.ofNat (fG w x y j)) (.ofNat (cH x j))=0
  ·rw[if_pos h,(tG hk).1 h];rfl
  ·rw[if_neg h]
   have:isCr l (fG w x y j) (cH x j)=true:=by
    rw[←Bool.not_eq_false]
    exact λq=>h ((tG hk).2 q)
   rw[this];rfl
def close_of{w v x y:Nat}(hs:Sh4 w v)(hc:du w v x y=true){l:List Crs}(hk:∀c∈l,1<=c.2.2/\c.2.2<=3){G:Nat->Mv}(hG:gq w v l G)(h0:G 0=idM)(h8:∀c,c<4*w*v->(G c).1<8):dF ((refR l w x y).map (·.1))=0:=by
 have hr:(refR l w x y).map (·.1)=(dirR l w x y 0).map (·.1)++((dirR l w x y 1).map (·.1)++((dirR l w x y 2).map (·.1)++((dirR l w x y 3).map (·.1)++((dirR l w x y 4).map (·.1)++((dirR l w x y 5).map (·.1)++((dirR l w x y 6).map (·.1)++(dirR l w x y 7).map (·.1))))))):=by
  unfold refR
  show(List.flatMap _ [0,1,2,3,4,5,6,7]).map _=_
  simp
 rw[hr]
 simp only[sN hk]
 have hm0:=rP hs hc (j:=0) (by unfold many;split<;>omega)
 have hg:=h8 _ hm0.1
 have st:=λj hj=>ring_step hs hc hG (j:=j) hj
 have hend:(G (idC w x y (many x))).1=(G (idC w x y 0)).1:=by rw[wE]
 by_cases ho:x%2=1
 ·have em:many x=4:=if_pos ho
  rw[em]at st hend
  simp only[spkJ,if_pos ho]
  simp only[Nat.reduceMod,Nat.reduceAdd,Nat.reduceDiv,Nat.one_ne_zero,Nat.zero_ne_one,if_true,if_false,qaG]
  refine odd_of hg (crJ l w x y 0) (crJ l w x y 1) (crJ l w x y 2) (crJ l w x y 3) ?_
  have s0:=st 0 (by omega)
  have s1:=st 1 (by omega)
  have s2:=st 2 (by omega)
  have s3:=st 3 (by omega)
  simp only[jp,if_pos ho,Nat.reduceMul,Nat.reduceAdd,Nat.reduceMod]at s0 s1 s2 s3
  simp only[wkT]
  rw[←s0,←s1,←s2,←s3]
  exact hend
 ·have em:many x=8:=if_neg ho
  rw[em]at st hend
  simp only[spkJ,if_neg ho]
  simp only[Nat.reduceMod,Nat.reduceAdd]
  refine even_of hg (crJ l w x y 0) (crJ l w x y 1) (crJ l w x y 2) (crJ l w x y 3) (crJ l w x y 4) (crJ l w x y 5) (crJ l w x y 6) (crJ l w x y 7) ?_
  have s0:=st 0 (by omega)
  have s1:=st 1 (by omega)
  have s2:=st 2 (by omega)
  have s3:=st 3 (by omega)
  have s4:=st 4 (by omega)
  have s5:=st 5 (by omega)
  have s6:=st 6 (by omega)
  have s7:=st 7 (by omega)
  simp only[jp,if_neg ho,Nat.reduceAdd,Nat.reduceMod]at s0 s1 s2 s3 s4 s5 s6 s7
  simp only[wkT]
  rw[←s0,←s1,←s2,←s3,←s4,←s5,←s6,←s7]
  exact hend
def bitR(l:List Crs)(w x y d:Nat):Bool:=match spkJ x d with
 |some j=>crJ l w x y j
 |none=>false
def refR_bits{l:List Crs}(hk:∀c∈l,1<=c.2.2/\c.2.2<=3){w x y:Nat}:(refR l w x y).map (·.1)=(List.range 8).flatMap λd=>bD (bitR l w x y d) d:=by
 unfold refR
 rw[List.map_flatMap]
 congr 1
 funext d
 rw[sN hk]
 unfold bitR
 cases spkJ x d<;>rfl
set_option maxHeartbeats 4000000
def coS(w v x y:Int):Prop:=0<x/\0<y/\x<2*w/\y<2*v/\x%2=y%2
instance (w v x y : Int) : Decidable (coS w v x y) := by unfold coS; infer_instance
def refR_dirs{l:List Crs}{w x y:Nat}{r:Ray}(h:r∈refR l w x y):∃d:Nat,r.1=Int.ofNat d/\d<8/\rF x (d%4)=true:=by
 obtain⟨d,hd,hm⟩:=qbd.1 h
 rw[qad]at hd
 refine⟨d,qM hm,hd,?_⟩
 unfold dirR at hm
 split at hm
 next j hj=>
  unfold spkJ at hj
  unfold rF
  rw[qaP,qbV,qbV]
  split at hj
  ·split at hj
   ·omega
   ·cases hj
  ·omega
 ·cases hm
set_option maxHeartbeats 16000000
def closes_f{w v x y:Nat}(hsh:1<=w/\w<=4/\1<=v/\v<=4)(hcor:du w v x y=true){l:List Crs}(hF:PatF w v l){H:HL}{xv:Value}(hl:LsH H xv 3 encC l) :
  ∃G,aw cc ac 24 [.i (.ofNat w),.i (.ofNat v),.v xv,.i (.ofNat x),.i (.ofNat y)] (absH aa H) [.b (Nat.beq (dF ((refR l w x y).map (·.1))) 0),.i 0] (absH aa (H++G)):=by
 rw[←rT]
 exact closes_c hsh hcor hF.pat (λr hr=>by rw[rT]at hr;exact refR_dirs hr) (by rw[rT];exact refR_len l w x y) hl
def opnC(l:List Crs)(w:Nat)(p:Nat×Nat):Bool:=!(Nat.beq (dF ((refR l w p.1 p.2).map (·.1))) 0)
def open1_c{w v:Nat}(hs:Sh4 w v){l:List Crs}(hP:PatF w v l){H:HL}{xv:Value}{b:Nat}(hl:LsH H xv 3 encC l)(hb:H[b]?=some (.o (.cells [.int .i64 (.ofNat w),.int .i64 (.ofNat v),xv] 3 true))){p:Nat×Nat}(hp:du w v p.1 p.2=true) :
  ∃G,aw cc ac 35 [.i (.ofNat p.1),.i (.ofNat p.2),.v (ptrB b)] (absH aa H) [.b (opnC l w p)] (absH aa (H++G)):=by
 obtain⟨G1,c1⟩:=closes_f hs hp hP hl
 obtain⟨rs,h',h1,rfl,G,rfl⟩:=x35 (ls:=[.i (.ofNat p.1),.i (.ofNat p.2),.v (ptrB b)]) (K:=λrs h'=>rs=[.b (opnC l w p)]/\Pre H h') (H:=H) (glsI (glsI (glsV (eW hb).good gls0))) (by
  unfold f35;simp only[qxh]
  simp(disch:=omega)only[↓qXX]
  refine ob (eW hb) rfl ?_
  simp(disch:=omega)only[↓qXX]
  refine aH hl.good ?_
  simp(disch:=omega)only[↓qXX]
  refine ai c1 ?_
  simp(disch:=omega)only[↓qXX]
  exact⟨rfl,⟨_,rfl⟩⟩)
 exact⟨G,h1⟩
def idxI(P:List (Nat×Nat))(t:Nat×Nat->Bool):Int:=match P.findIdx? t with
 |some i=>Int.ofNat i
 |none=>-1
def pidx_c{w v:Nat}(hs:Sh4 w v){l:List Crs}(hP:PatF w v l){H:HL}{xv av:Value}{b:Nat}(hl:LsH H xv 3 encC l)(hb:H[b]?=some (.o (.cells [.int .i64 (.ofNat w),.int .i64 (.ofNat v),xv] 3 true))){P:List (Nat×Nat)}(ha:LsH H av 2 encP P)(hcor:∀p∈P,du w v p.1 p.2=true)(hPl:P.length<=100) :
  ∃G,aw cc ac 34 [.v av,.v (.func (.func 35) ⟨[]⟩ ⟨[ptrB b]⟩)] (absH aa H) [.i (idxI P (opnC l w))] (absH aa (H++G)):=by
 have hgc:aP (.func (.func 35) ⟨[]⟩ ⟨[ptrB b]⟩)=true:=rfl
 obtain⟨rs,h',h1,rfl,G,rfl⟩:=x34 (ls:=[.v av,.v (.func (.func 35) ⟨[]⟩ ⟨[ptrB b]⟩)]) (K:=λrs h'=>rs=[.i (idxI P (opnC l w))]/\Pre H h') (H:=H) (glsV ha.good (glsV hgc gls0)) (by
  unfold f34;simp only[qxh]
  simp(disch:=omega)only[↓qXX]
  refine bM ha ?_
  refine bW (σ:=HL) P.length (λj _=>[.i (Int.ofNat j)]) (λ_ s=>s) (λj s=>Pre H s/\∀p∈P.take j,opnC l w p=false) (j0:=0) (s0:=H) rfl rfl (qaW _) ⟨Pre.refl _,λp hp=>by simp at hp⟩ ?_
  rintro j s hj ⟨hps,hno⟩ self hself
  simp(disch:=omega)only[↓qXX]
  by_cases hlt:j<P.length
  ·rw[aS hlt]
   simp(disch:=omega)only[↓qXX]
   obtain⟨p,hp⟩:=bn hlt
   refine bi (ha.pre hps) rfl hp ?_
   unfold encP
   simp(disch:=omega)only[↓qXX]
   obtain⟨G1,c1⟩:=open1_c hs hP (hl.pre hps) (hps.get hb) (hcor p (qag hp))
   refine gQ (sG (args:=[.agg #[.int .i64 (Int.ofNat p.1),.int .i64 (Int.ofNat p.2)]]) c1 rfl [.agg [.i .i64 (Int.ofNat p.1),.i .i64 (Int.ofNat p.2)],.leaf (.v (ptrB b))] rfl rfl rfl) ?_
   have tk:P.take (j+1)=P.take j++[p]:=by rw[qa6,hp];rfl
   cases ht:opnC l w p
   ·simp(disch:=omega)only[↓qXX]
    rw[ce (by omega)]
    refine hself _ hlt ⟨hps.app G1,λq hq=>?_⟩
    rw[tk]at hq
    rcases qaH.1 hq with hq|hq
    ·exact hno q hq
    ·rw[qau]at hq
     subst hq;exact ht
   ·simp(disch:=omega)only[↓qXX]
    refine⟨?_,hps.app G1⟩
    have:P.findIdx? (opnC l w)=some j:=by
     rw[qcc]
     refine⟨hlt,?_,λi hi=>?_⟩
     ·rw[qar hlt]at hp
      rw[qap hp];exact ht
     ·have:=hno P[i] (qag (i:=i) (by rw[qa1,if_pos hi];exact qar _))
      rw[this];simp
    unfold idxI
    rw[this]
  ·obtain rfl:j=P.length:=by omega
   rw[aY (qan _)]
   simp(disch:=omega)only[↓qXX]
   refine⟨?_,hps⟩
   rw[qbh]at hno
   unfold idxI
   rw[qdj.2 hno])
 exact⟨G,h1⟩
def opnL(l:List Crs)(w v:Nat):Option (Nat×Nat):=(corL w v).find? (opnC l w)
def open_c{w v:Nat}(hs:Sh4 w v){l:List Crs}(hP:PatF w v l){H:HL}{xv:Value}(hl:LsH H xv 3 encC l) :
  ∃G,aw cc ac 9 [.i (.ofNat w),.i (.ofNat v),.v xv] (absH aa H) (match opnL l w v with
   |some p=>[.i (.ofNat p.1),.i (.ofNat p.2),.b true,.i 0]
   |none=>[.i 0,.i 0,.b false,.i 0]) (absH aa (H++G)):=by
 obtain⟨rs,h',h1,rfl,G,rfl⟩:=x9 (ls:=[.i (.ofNat w),.i (.ofNat v),.v xv]) (K:=λrs h'=>rs=(match opnL l w v with
   |some p=>[.i (.ofNat p.1),.i (.ofNat p.2),.b true,.i 0]
   |none=>[.i 0,.i 0,.b false,.i 0])/\Pre H h') (H:=H) (glsI (glsI (glsV hl.good gls0))) (by
  unfold f9;simp only[qxh]
  simp(disch:=omega)only[↓qXX]
  have b1:(H++[HO.o (.cells [.int .i64 (.ofNat w),.int .i64 (.ofNat v),xv] 3 true)])[H.length]?=some (.o (.cells [.int .i64 (.ofNat w),.int .i64 (.ofNat v),xv] 3 true)):=bA
  refine ob (eW b1) rfl ?_
  simp(disch:=omega)only[↓qXX]
  refine aH hl.good ?_
  simp(disch:=omega)only[↓qXX]
  have hl1:=hl.pre (h':=H++[HO.o (.cells [.int .i64 (.ofNat w),.int .i64 (.ofNat v),xv] 3 true)]) ⟨_,rfl⟩
  have hp1:Pre H (H++[HO.o (.cells [.int .i64 (.ofNat w),.int .i64 (.ofNat v),xv] 3 true)]):=⟨_,rfl⟩
  refine ai (hP.pat.check hl1) ?_
  simp(disch:=omega)only[↓qXX]
  refine tW (ds:=[.int .i64 (.ofNat w),.int .i64 (.ofNat v)]) (eW b1) (by simp) rfl ?_
  simp(disch:=omega)only[↓qXX]
  generalize H++[HO.o (.cells [.int .i64 (.ofNat w),.int .i64 (.ofNat v),xv] 3 true)]=h1 at *
  obtain⟨ax,G1,c1,hax⟩:=all_c hs h1
  refine ai c1 ?_
  simp(disch:=omega)only[↓qXX]
  refine aH rfl ?_
  have hp2:Pre h1 (h1++G1):=⟨_,rfl⟩
  obtain⟨G2,c2⟩:=pidx_c hs hP (hl1.pre hp2) (hp2.get b1) hax (λp hp=>qK hp) (cor_len hs).2
  refine ai c2 ?_
  simp(disch:=omega)only[↓qXX]
  have hp3:Pre H (h1++G1++G2):=(hp1.app G1).app G2
  unfold idxI opnL
  cases hf:(corL w v).findIdx? (opnC l w)with
  |none=>
   have:(corL w v).find? (opnC l w)=none:=by
    rw[qcG]
    intro p hp
    rw[qdj.1 hf p hp]
    exact Bool.false_ne_true
   rw[this]
   simp only
   rw[p_geq_f (show(-1:Int)<0 by decide)]
   simp(disch:=omega)only[↓qXX]
   exact⟨by trivial,hp3⟩
  |some i=>
   obtain⟨h2,h3,h4⟩:=qcc.1 hf
   have:(corL w v).find? (opnC l w)=some (corL w v)[i]:=by
    rw[List.find?_eq_some_iff_getElem]
    exact⟨h3,i,h2,rfl,λj hj=>by simpa using h4 j hj⟩
   rw[this]
   simp only
   rw[p_geq_t (show(0:Int)<=Int.ofNat i from qaZ _)]
   simp(disch:=omega)only[↓qXX]
   refine bi (hax.pre (h':=h1++G1++G2) ⟨_,rfl⟩) rfl (qar h2) ?_
   unfold encP
   simp(disch:=omega)only[↓qXX]
   exact⟨by trivial,hp3⟩)
 exact⟨G,h1⟩
def Ful{α:Type}(h:HL)(x:Value)(e:Nat)(enc:α->List Value)(l:List α):Prop:=∃id,x = .slice (some ⟨id,0,tag e⟩) l.length (l.length+1)/\h[id]?=some (.o (.cells (l.flatMap enc) e true))
def Ful.ls{α:Type}{h:HL}{x:Value}{e:Nat}{enc:α->List Value}{l:List α}(henc:∀a,(enc a).length=e)(hf:Ful h x e enc l):LsH h x e enc l:=by
 obtain⟨id,rfl,h1⟩:=hf
 exact gN henc h1 rfl
def Ful.pre{α:Type}{h h':HL}{x:Value}{e:Nat}{enc:α->List Value}{l:List α}(hf:Ful h x e enc l)(hp:Pre h h'):Ful h' x e enc l:=by
 obtain⟨id,rfl,h1⟩:=hf
 exact⟨id,rfl,hp.get h1⟩
def Ful.cap{α:Type}{h:HL}{x:Value}{e:Nat}{enc:α->List Value}{l:List α}(hf:Ful h x e enc l):capS x=some (Int.ofNat l.length):=by
 obtain⟨id,rfl,h1⟩:=hf
 exact cap_full
abbrev dX:Value:=.slice none 0 0
def allV(w:Nat)(G:Nat->Mv)(r:Mv)(n:Nat):Prop:=∀c,c<n->vMv (aZ (G c) r)=true/\vCl (bQ (aZ (G c) r) (clN w c))=true
def allV.succ{w:Nat}{G:Nat->Mv}{r:Mv}{n:Nat}(h:allV w G r n)(h1:vMv (aZ (G n) r)=true)(h2:vCl (bQ (aZ (G n) r) (clN w n))=true):allV w G r (n+1):=λc hc=>by
 by_cases e:c=n
 ·subst e;exact⟨h1,h2⟩
 ·exact h c (by omega)
structure ConsO(w v:Nat)(l:List Crs)(G:Nat->Mv):Prop where
 g:gq w v l G
 z:G 0=idM
 ok:∀c,c<4*w*v->okM 2000 (G c)
def GoodA.consO{w v:Nat}(hs:Sh w v){l:List Crs}{A:List Mv}(h:GoodA w v l A):ConsO w v l (λc=>A.getD c idM):=by
 have hN:=sh_N hs
 have hg:∀c,c<4*w*v->A[c]?=some (A.getD c idM):=λc hc=>by
  obtain⟨a,ha⟩:=bn (l:=A) (i:=c) (by rw[h.len];exact hc)
  rw[List.getD_eq_getElem?_getD,ha];rfl
 refine⟨λc e n hc he hn=>?_,?_,λc hc=>h.ok _ (qag (hg c hc))⟩
 ·have h1:=h.cons c e n _ hc he hn (hg c hc)
  rw[hg n (kE hs hc he hn).1]at h1
  exact qap h1
 ·have h1:=h.a0
  rw[hg 0 (by omega)]at h1
  exact qap h1
def qI{w v:Nat}(hs:Sh w v){j:Nat}(hj:j<4*w*v):-1000<=(clN w j).1/\(clN w j).1<=1000/\-1000<=(clN w j).2.1/\(clN w j).2.1<=1000/\(clN w j).2.2<4:=by
 have hN:=sh_N hs
 have d1:j / 4%w<=j / 4:=qdP _ _
 have d2:j / 4 / w<=j / 4:=qde _ _
 refine⟨?_,?_,?_,?_,qb2 _ (by omega)⟩
 ·exact qdv (show(-1000:Int)<=0 by decide) (qaZ _)
 ·exact qdy.2 (show j / 4%w<=1000 by omega)
 ·exact qdv (show(-1000:Int)<=0 by decide) (qaZ _)
 ·exact qdy.2 (show j / 4 / w<=1000 by omega)
def BothR(w v:Nat)(l:List Crs)(r:Mv)(rs:List Lf)(h':HL):Prop:=
 (rs=[.v dX,.v dX,.i 11]/\¬ ∃G,gq w v l G/\G 0=idM)∨
 ∃G,ConsO w v l G/\((rs=[.v dX,.v dX,.i 3]/\¬allV w G r (4*w*v))∨
  (∃lx ix,rs=[.v lx,.v ix,.i 0]/\allV w G r (4*w*v)/\Ful h' lx 3 encM (plL w v G r)/\Ful h' ix 3 aD (imL w v G r)))
def both_c{w v:Nat}(hs:Sh w v){l:List Crs}(hk:(l.map dI).Nodup)(hl0:l.length<=1000){H:HL}{x:Value}(hl:LsH H x 3 encC l)(hck:aw cc ac 32 [.i (.ofNat w),.i (.ofNat v),.v x] (absH aa H) [.i 0] (absH aa H))
  {r:Mv} (hr:okM 16384 r) :
  ∃rs h',aw cc ac 42 ([.i (.ofNat w),.i (.ofNat v),.v x]++mvl r) (absH aa H) rs (absH aa h')/\Pre H h'/\BothR w v l r rs h':=by
 have hN:=sh_N hs
 obtain⟨rs1,h1,c1,hpre1,hrel⟩:=yL hs hk hl0 hl
 have key:=x42 (ls:=[.i (.ofNat w),.i (.ofNat v),.v x,.i (Int.ofNat r.1),.i r.2.1,.i r.2.2]) (K:=λrs h'=>Pre H h'/\BothR w v l r rs h') (H:=H) (glsI (glsI (glsV hl.good (glsI (glsI (glsI gls0)))))) (by
  unfold f42;simp only[qxh]
  simp(disch:=omega)only[↓qXX]
  refine ai hck ?_
  simp(disch:=omega)only[↓qXX]
  refine af (rA hr (by omega)) ?_
  simp(disch:=omega)only[↓qXX]
  refine ai c1 ?_
  rcases hrel with⟨A,id,rfl,hid,hol,hA⟩|⟨rfl,hno⟩
  case inr=>
   simp(disch:=omega)only[↓qXX]
   exact⟨hpre1,.inl ⟨by trivial,hno⟩⟩
  simp(disch:=omega)only[↓qXX]
  have hG:=hA.consO hs
  generalize hGd:(λc=>A.getD c idM)=G at hG
  have hAG:=hA.eq hs hG.g hG.z
  have hP:(plL w v G r).length=A.length:=by rw[hA.len];simp[plL]
  have hI:(imL w v G r).length=4*w*v:=by simp[imL]
  have hidl:=be hol
  refine am (x:=Int.ofNat (4*w*v)) rfl ?_
  refine am (fj (by omega)) ?_
  simp(disch:=omega)only[↓qXX]
  rw[show(Int.ofNat (4*w*v)).toNat=4*w*v from rfl]
  have z0:HO.o (.cells (aM [.int .i64 0,.int .i64 0,.int .u8 0] (4*w*v)) 3 true)=HO.o (.cells ((List.replicate (4*w*v) ((0,0,0):Cl)).flatMap aD) 3 true):=by
   rw[←dt (enc:=aD) (z:=((0,0,0):Cl)) (n:=4*w*v)]
   rfl
  rw[z0]
  refine am (x:=Int.ofNat (4*w*v)) rfl ?_
  have hZ:(imL w v G r).length=(List.replicate (4*w*v) ((0,0,0):Cl)).length:=by rw[hI];simp
  have s1:(h1++[HO.o (.cells ((List.replicate (4*w*v) ((0,0,0):Cl)).flatMap aD) 3 true)])[id]?=some (.o (.cells (A.flatMap encM) 3 true)):=Pre.get ⟨_,rfl⟩ hol
  have s2:(h1++[HO.o (.cells ((List.replicate (4*w*v) ((0,0,0):Cl)).flatMap aD) 3 true)])[h1.length]?=some (HO.o (.cells ((List.replicate (4*w*v) ((0,0,0):Cl)).flatMap aD) 3 true)):=bA
  have s3:Pre H (h1++[HO.o (.cells ((List.replicate (4*w*v) ((0,0,0):Cl)).flatMap aD) 3 true)]):=hpre1.app _
  have hix:h1.length≠id:=by omega
  have hHi:H.length<=h1.length:=hpre1.len
  generalize List.replicate (4*w*v) ((0,0,0):Cl)=Z at *
  generalize h1++[HO.o (.cells (Z.flatMap aD) 3 true)]=h2 at *
  generalize h1.length=iX at *
  refine bW (σ:=HL) (4*w*v) (λj _=>[.i (Int.ofNat j)]) (λ_ s=>s) (λj s=>Pre H s/\s[id]?=some (.o (.cells (((plL w v G r).take j++A.drop j).flatMap encM) 3 true))/\s[iX]?=some (.o (.cells (((imL w v G r).take j++Z.drop j).flatMap aD) 3 true))/\allV w G r j) (j0:=0) (s0:=h2) rfl rfl (qaW _) ⟨s3,by simpa using s1,by simpa using s2,λc hc=>by omega⟩ ?_
  clear s1 s2 s3
  rintro j h hj ⟨s3,s1,s2,hall⟩ self hself
  simp(disch:=omega)only[↓qXX]
  by_cases hlt:j<4*w*v
  ·rw[aS hlt]
   simp(disch:=omega)only[↓qXX]
   have ha:=hAG j hlt
   have hLj:=og (G:=G) (r:=r) hlt
   have hIj:=nE (G:=G) (r:=r) hlt
   have lenP:=vn (j:=j) hP (by rw[hP,hA.len];omega)
   have lenI:=vn (j:=j) hZ (by rw[hI];omega)
   refine bi (gN bO s1 (by rw[lenP,hA.len])) rfl (mid_get ha hP) ?_
   unfold encM
   simp(disch:=omega)only[↓qXX]
   refine af (cellIn (gY w v hs.1 hs.2.1 hs.2.2.1 hs.2.2.2) hlt) ?_
   unfold cellN
   simp(disch:=omega)only[↓qXX]
   have okG:okM 2000 (G j):=hA.ok _ (qag ha)
   have okT:=dA okG hr
   refine af (then_w okG hr) ?_
   cases hvm:vMv (aZ (G j) r)with
   |false=>
    simp only[qal,if_false]
    simp(disch:=omega)only[↓qXX]
    refine gm (enc:=encM) (l:=(plL w v G r).take j++A.drop j) (i:=j) (a:=idM) bO s1 rfl (by rw[lenP,hA.len];exact hlt) (by rw[lenP,hA.len]) rfl ?_
    simp(disch:=omega)only[↓qXX]
    exact⟨dP s3 hid,.inr ⟨G,hG,.inl ⟨by trivial,λq=>by rw[(q j hlt).1]at hvm;cases hvm⟩⟩⟩
   |true=>
   simp only[if_true]
   have hvm2:vMv (aZ (G j) r)=true:=hvm
   have okT2:=vMv_ok okT hvm2
   have hcell:=qI hs hlt
   have hv2:=hvm2
   generalize hm:aZ (G j) r=m at *
   simp only[mvl,qaI,qaG]
   simp(disch:=omega)only[↓qXX]
   refine gm (enc:=encM) (l:=(plL w v G r).take j++A.drop j) (i:=j) (a:=m) bO s1 rfl (by rw[lenP,hA.len];exact hlt) (by rw[lenP,hA.len]) rfl ?_
   rw[take_set hLj hP]
   have s1':(putE h id 3 encM ((plL w v G r).take (j+1)++A.drop (j+1)))[id]?=some (.o (.cells (((plL w v G r).take (j+1)++A.drop (j+1)).flatMap encM) 3 true)):=dc (be s1)
   have s2':(putE h id 3 encM ((plL w v G r).take (j+1)++A.drop (j+1)))[iX]?=some (.o (.cells (((imL w v G r).take j++Z.drop j).flatMap aD) 3 true)):=by rw[cV hix];exact s2
   have s3':Pre H (putE h id 3 encM ((plL w v G r).take (j+1)++A.drop (j+1))):=dP s3 hid
   generalize putE h id 3 encM ((plL w v G r).take (j+1)++A.drop (j+1))=h3 at *
   simp(disch:=omega)only[↓qXX]
   have lenP1:=vn (j:=j+1) hP (by rw[hP,hA.len];omega)
   refine bi (a:=m) (gN bO s1' (by rw[lenP1,hA.len])) rfl ?_ ?_
   ·rw[qaf (by rw[qaJ,hP,hA.len];omega),qa1,if_pos (by omega)]
    exact hLj
   unfold encM
   simp(disch:=omega)only[↓qXX]
   refine af (move_w (c:=clN w j) okT2 hcell) ?_
   cases hvc:vCl (bQ m (clN w j))with
   |false=>
    simp only[qal,if_false]
    simp(disch:=omega)only[↓qXX]
    refine gm (enc:=aD) (l:=(imL w v G r).take j++Z.drop j) (i:=j) (a:=((0,0,0):Cl)) bF s2' rfl (by rw[lenI,←hZ,hI];exact hlt) (by rw[lenI,←hZ,hI]) rfl ?_
    simp(disch:=omega)only[↓qXX]
    exact⟨dP s3' hHi,.inr ⟨G,hG,.inl ⟨by trivial,λq=>by
     have:=(q j hlt).2
     rw[hm,hvc]at this
     cases this⟩⟩⟩
   |true=>
   simp only[if_true]
   generalize hci:bQ m (clN w j)=ci at *
   simp only[cll,qaI,qaG]
   simp(disch:=omega)only[↓qXX]
   refine gm (enc:=aD) (l:=(imL w v G r).take j++Z.drop j) (i:=j) (a:=ci) bF s2' rfl (by rw[lenI,←hZ,hI];exact hlt) (by rw[lenI,←hZ,hI]) rfl ?_
   rw[take_set hIj hZ]
   simp(disch:=omega)only[↓qXX]
   rw[ce (by omega)]
   refine hself _ hlt ⟨dP s3' hHi,by rw[cV (qbK hix)];exact s1',dc (be s2'),hall.succ (by rw[hm];exact hv2) (by rw[hm,hci];exact hvc)⟩
  ·obtain rfl:j=4*w*v:=by omega
   rw[aY (qan _)]
   simp(disch:=omega)only[↓qXX]
   rw[qaO (by rw[hP,hA.len];exact qan _),qbH (by rw[hA.len];exact qan _),qaX]at s1
   rw[qaO (by rw[hI];exact qan _),qbH (by rw[←hZ,hI];exact qan _),qaX]at s2
   have e1:(plL w v G r).length=4*w*v:=by rw[hP,hA.len]
   refine⟨s3,.inr ⟨G,hG,.inr ⟨_,_,rfl,hall,⟨id,?_,s1⟩,⟨iX,?_,s2⟩⟩⟩⟩
   ·rw[e1]
   ·rw[hI];rfl)
 obtain⟨rs,h',h2,h3,h4⟩:=key
 exact⟨rs,h',h2,h3,h4⟩
set_option maxHeartbeats 8000000
def tabRl:Bool:=(List.range 5).all λx=>(List.range 5).all λy=>(List.range 4).all λq=>(List.range 3).all λe=>
 uI 45 [.i (.ofNat x),.i (.ofNat y),.i (.ofNat q),.i (.ofNat e)] [.i (.ofNat (lnC3 (Int.ofNat x,Int.ofNat y,q) e).1),.i (lnC3 (Int.ofNat x,Int.ofNat y,q) e).2]
def rl_all:tabRl=true:=by kernel_rfl
def rline_c{w v c e:Nat}(hs:Sh w v)(hc:c<4*w*v)(he:e<3):Cc 45 [.i (clN w c).1,.i (clN w c).2.1,.i (.ofNat (clN w c).2.2),.i (.ofNat e)] [.i (.ofNat (lnC3 (clN w c) e).1),.i (lnC3 (clN w c) e).2]:=by
 have h1:c / 4%w<5:=qcL (qb2 _ hs.1) hs.2.1
 have h2:c / 4 / w<5:=by
  have:c / 4<w*v:=by
   rw[Nat.div_lt_iff_lt_mul (by omega)]
   rw[qdO]at hc;omega
  have h3:c / 4 / w<v:=Nat.div_lt_of_lt_mul this
  have:=hs.2.2.2
  omega
 have h3:c%4<4:=qb2 _ (by omega)
 have:=qab.1 (qab.1 (qab.1 (qab.1 rl_all (c / 4%w) (qad.2 h1)) (c / 4 / w) (qad.2 h2)) (c%4) (qad.2 h3)) e (qad.2 he)
 exact jd this rfl (by kernel_rfl) rfl
def acK(c:Cl)(e:Nat)(k:Int)(g:Mv):Mv:=if k=0 then g else aZ (ofM (lnC3 c e)) g
def uh{w v c e:Nat}(hs:Sh w v)(hc:c<4*w*v)(he:e<3){k:Int}{g:Mv}(hg:okM 19000 g) :
  Cc 31 [.i (clN w c).1,.i (clN w c).2.1,.i (.ofNat (clN w c).2.2),.i (.ofNat e),.i k,.i (.ofNat g.1),.i g.2.1,.i g.2.2] (mvl (acK (clN w c) e k g)):=by
 have hl:=ln_ok hs hc he
 refine q31 rfl ?_;unfold f31;simp only[qxh]
 simp(disch:=omega)only[↓qXX]
 unfold acK
 by_cases hk:k=0
 ·rw[p_eql_t hk,if_pos hk]
  simp(disch:=omega)only[↓qXX]
 ·rw[p_eql_f hk,if_neg hk]
  simp(disch:=omega)only[↓qXX]
  refine af (rline_c hs hc he) ?_
  simp(disch:=omega)only[↓qXX]
  refine af (rof_c (l:=lnC3 (clN w c) e) ⟨hl.1,hl.2.1⟩ (by omega)) ?_
  simp only[mvl,qaI,qaG]
  simp(disch:=omega)only[↓qXX]
  refine af (rthen_c (a:=ofM (lnC3 (clN w c) e)) (b:=g) (wY (n:=10) ⟨hl.2.2.1,hl.2.2.2⟩) hg (by omega)) ?_
  simp only[mvl,qaI,qaG]
  simp(disch:=omega)only[↓qXX]
def then_inj{a b r:Mv}(ha:a.1<8)(hb:b.1<8)(hr:r.1<8)(h:aZ a r=aZ b r):a=b:=by
 have h1:aZ (aZ a r) (invM r)=aZ (aZ b r) (invM r):=by rw[h]
 have hi:(invM r).1<8:=by
  obtain⟨t,x,y⟩:=r
  have hr:t<8:=hr
  show invT t<8
  rcases t8 hr with rfl|rfl|rfl|rfl|rfl|rfl|rfl|rfl<;>decide
 rw[dj ha hr hi,dj hb hr hi,inv_id hr,xO ha,xO hb]at h1
 exact h1
def wc{c:Cl}{e:Nat}{k:Int}{g r:Mv}(hg:g.1<8)(hr:r.1<8):acK c e k (aZ g r)=aZ (acK c e k g) r:=by
 unfold acK
 split
 ·rfl
 ·rw[dj (lE _) hg hr]
def acK_acM{w v:Nat}(hs:Sh w v){l:List Crs}{c e n:Nat}(hc:c<4*w*v)(he:e<3)(hn:nbr w v c e=some n){k:Int}(hk:k≠0↔isCr l (min c n) e=true){g:Mv}:acK (clN w c) e k g=acM w l g c n e:=by
 obtain⟨_,h2⟩:=vo hs hc he hn
 unfold acK acM
 by_cases h:k=0
 ·rw[if_pos h,if_neg (λq=>hk.2 q h)]
 ·rw[if_neg h,if_pos (hk.1 h),h2]
def acM_lt{w:Nat}{l:List Crs}{g:Mv}{c n e:Nat}(hg:g.1<8):(acM w l g c n e).1<8:=by
 unfold acM
 split
 ·exact nP
 ·exact hg
set_option maxHeartbeats 16000000
def encK(t:Bool):List Value:=[.int .i64 (if t then 1 else 0)]
def qP(t:Bool):(encK t).length=1:=rfl
def bhL(w v:Nat):List Nat:=(aF w v).map λu=>(nbr w v u.1 u.2).getD 0
def uQ{w v j c e n:Nat}(hu:(aF w v)[j]?=some (c,e))(hn:nbr w v c e=some n):(bhL w v)[j]?=some n:=by
 unfold bhL
 rw[qat,hu]
 simp[hn]
structure RP(w v:Nat)(l:List Crs)(r:Mv)(O:List Mv)(B:List Bool)(g:Nat->Mv):Prop where
 lo:O.length=4*w*v
 lb:B.length=4*w*v
 b0:B[0]?=some true
 g0:g 0=idM
 kn:∀c,B[c]?=some true->O[c]?=some (aZ (g c) r)/\okM (20*(cntT B:Int)) (g c)/\∀G,gq w v l G->G 0=idM->g c=G c
section
variable {w v:Nat} {l:List Crs} {r:Mv} {O:List Mv} {B:List Bool} {g:Nat->Mv}
def RP.step(hs:Sh w v)(h:RP w v l r O B g){a b e:Nat}(ha:a<4*w*v)(he:e<3)(hn:nbr w v a e=some b)(hba:B[a]?=some true)(hbb:B[b]?=some false) :
  RP w v l r (O.set b (aZ (acM w l (g a) a b e) r)) (B.set b true) (λc=>if c=b then acM w l (g a) a b e else g c):=by
 have hb:=(kE hs ha he hn).1
 have hne:0≠b:=by rintro rfl;rw[h.b0]at hbb;cases hbb
 have hc:=fO hbb
 refine⟨by simp[h.lo],by simp[h.lb],by rw[qai (qbK hne)];exact h.b0,by rw[if_neg hne];exact h.g0,λc hcb=>?_⟩
 by_cases e1:c=b
 ·subst e1
  obtain⟨k1,k2,k3⟩:=h.kn a hba
  rw[if_pos rfl]
  refine⟨by rw[qaD (by rw[h.lo];exact hb)],?_,λG hG h0=>?_⟩
  ·have:=acM_ok hs (l:=l) ha he hn k2 (by omega)
   exact cE this (by rw[hc];simp;omega)
  ·rw[k3 G hG h0]
   exact(hG a e c ha he hn).symm
 ·rw[if_neg e1,qai (qbK e1)]
  rw[qai (qbK e1)]at hcb
  obtain⟨k1,k2,k3⟩:=h.kn c hcb
  exact⟨k1,cE k2 (by rw[hc];simp;omega),k3⟩
def RP.cnt(h:RP w v l r O B g):cntT B<=4*w*v:=by have:=jW B;rw[h.lb]at this;exact this
def RP.all(hs:Sh w v)(h:RP w v l r O B g)(hq:∀(j c e n:Nat),(aF w v)[j]?=some (c,e)->nbr w v c e=some n->B[c]?=B[n]?):∀c,c<4*w*v->B[c]?=some true:=by
 refine nQ hs (P:=λc=>B[c]?=some true) h.b0 λc e n hc he hn hb=>?_
 obtain⟨g1,g2,_,_,g5⟩:=kE hs hc he hn
 rcases qaB c n with hlt|hge
 ·obtain⟨j,hj⟩:=qaY (pN hc he hn hlt)
  rw[←hq j c e n hj hn];exact hb
 ·obtain⟨j,hj⟩:=qaY (pN g1 he g2 (by omega))
  rw[hq j n e c hj g2];exact hb
def jm(hs:Sh w v){l:List Crs}{g:Nat->Mv}(hg:∀c,c<4*w*v->(g c).1<8)(h:∀(j c e n:Nat),(aF w v)[j]?=some (c,e)->nbr w v c e=some n->g n=acM w l (g c) c n e):gq w v l g:=by
 intro c e n hc he hn
 obtain⟨g1,g2,g3,_,g5⟩:=kE hs hc he hn
 rcases qaB c n with hlt|hge
 ·obtain⟨j,hj⟩:=qaY (pN hc he hn hlt)
  exact h j c e n hj hn
 ·obtain⟨j,hj⟩:=qaY (pN g1 he g2 (by omega))
  have h1:=h j n e c hj g2
  rw[h1]
  unfold acM
  rw[Nat.min_comm n c]
  split
  ·rw[←dj (lE _) (lE _) (hg n g1),nV,ij (hg n g1)]
  ·rfl
end
structure RB(H h:HL)(io ib:Nat)(O:List Mv)(B:List Bool):Prop where
 pre:Pre H h
 o:h[io]?=some (.o (.cells (O.flatMap encM) 3 true))
 b:h[ib]?=some (.o (.cells (B.flatMap encK) 1 true))
 ne:io≠ib
 ho:H.length<=io
 hb:H.length<=ib
def RB.putO{H h:HL}{io ib:Nat}{O O':List Mv}{B:List Bool}(hr:RB H h io ib O B):RB H (putE h io 3 encM O') io ib O' B:=
 ⟨dP hr.pre hr.ho,dc (be hr.o),by rw[cV (qbK hr.ne)];exact hr.b,hr.ne,hr.ho,hr.hb⟩
def RB.putB{H h:HL}{io ib:Nat}{O:List Mv}{B B':List Bool}(hr:RB H h io ib O B):RB H (putE h ib 1 encK B') io ib O B':=
 ⟨dP hr.pre hr.hb,by rw[cV hr.ne];exact hr.o,dc (be hr.b),hr.ne,hr.ho,hr.hb⟩
def cvN{e:Nat}(h:e<=1000000){K:Int->Prop}:P1.conv .i64 (Int.ofNat e) (@hid _ ⟨K⟩)=K (Int.ofNat e):=p_conv (by simp only[qaq];omega) (by simp only[qaq];omega)
def xe{b:List Lf->HL->Prop}{m:(List Lf->HL->Prop)->Prop}(P:List Lf->HL->Prop)(h1:∀l h,P l h->b l h)(h2:∀j:List Lf->HL->Prop,(∀l h,P l h->j l h)->m j):P1.join (@hid _ ⟨b⟩) (@hid _ ⟨m⟩):=h2 _ h1
def p_eqlK{t:Bool}{K:Bool->Prop}:P1.cmp .eql (if t=true then 1 else 0) 1 (@hid _ ⟨K⟩)=K t:=by
 cases t with
 |true=>exact p_eql_t (by simp)
 |false=>exact p_eql_f (by simp)
def RefR(w v:Nat)(l:List Crs)(r:Mv)(rs:List Lf)(h':HL):Prop:=
 (rs=[.v dX,.i 0]/\¬ ∃G,gq w v l G/\G 0=idM)∨∃G,ConsO w v l G/\∃ox,rs=[.v ox,.i 1]/\Ful h' ox 3 encM (plL w v G r)
def um{w v:Nat}(hs:Sh w v){l:List Crs}(hkd:∀c∈l,1<=c.2.2/\c.2.2<=3)(hll:l.length<=1000){H:HL}{x:Value}(hl:LsH H x 3 encC l){r:Mv}(hr:okM 16384 r) :
  ∃rs h',aw cc ac 8 ([.i (.ofNat w),.i (.ofNat v),.v x]++mvl r) (absH aa H) rs (absH aa h')/\Pre H h'/\RefR w v l r rs h':=by
 have hN:=sh_N hs
 have hul:=(gX (gY w v hs.1 hs.2.1 hs.2.2.1 hs.2.2.2)).2.2.2.2
 obtain⟨ux,G1,cu,hU⟩:=vV hs.1 hs.2.1 hs.2.2.1 hs.2.2.2 H
 obtain⟨ks,kid,h2,ck,kp,_,kk,kl,kP⟩:=kinds_c hs hkd hll (hl.pre (h':=H++G1) ⟨_,rfl⟩)
 obtain⟨sx,G3,cs,hC⟩:=cells_c hs h2
 have key:=x8 (ls:=[.i (.ofNat w),.i (.ofNat v),.v x,.i (Int.ofNat r.1),.i r.2.1,.i r.2.2]) (K:=λrs h'=>Pre H h'/\RefR w v l r rs h') (H:=H) (glsI (glsI (glsV hl.good (glsI (glsI (glsI gls0)))))) (by
  unfold f8;simp only[qxh]
  simp(disch:=omega)only[↓qXX]
  refine ai cu ?_
  simp(disch:=omega)only[↓qXX]
  refine ai ck ?_
  simp(disch:=omega)only[↓qXX]
  refine ai cs ?_
  simp(disch:=omega)only[↓qXX]
  have pH:Pre H (h2++G3):=(Pre.trans ⟨G1,rfl⟩ kp).app G3
  have hU:=hU.pre (kp.app G3)
  have hK:=(gN (cx:=(aF w v).length+1) mg kk kl.symm).pre (h':=h2++G3) ⟨_,rfl⟩
  generalize hkx:Value.slice (some ⟨kid,0,tag 1⟩) (aF w v).length ((aF w v).length+1)=kx at *
  generalize h2++G3=h3 at *
  clear cu ck cs kp kk
  have hunit:∀ {j c e:Nat},(aF w v)[j]?=some (c,e)->c<4*w*v/\e<3/\∃n,nbr w v c e=some n/\c<n:=λhj=>unit_ok (qag hj)
  refine bW (σ:=Value×HL) (aF w v).length (λj s=>[.v s.1,.i (Int.ofNat j)]) (λ_ s=>s.2) (λj s=>Pre h3 s.2/\MkL h3.length s.2 s.1 1 encN ((bhL w v).take j)/\aP s.1=true) (j0:=0) (s0:=(.slice none 0 0,h3)) rfl rfl (qaW _) ⟨Pre.refl _,MkL.nil _ _ _ _,rfl⟩ ?_
  rintro j ⟨sv,h4⟩ hj ⟨hp4,hm4,hg4⟩ self hself
  simp only at hp4 hm4 hg4 hself ⊢
  simp(disch:=omega)only[↓qXX]
  refine bM (hU.pre hp4) ?_
  by_cases hlt:j<(aF w v).length
  ·rw[aS hlt]
   simp(disch:=omega)only[↓qXX]
   obtain⟨⟨c,e⟩,hu⟩:=bn hlt
   obtain⟨hc,he,n,hn,hcn⟩:=hunit hu
   refine iC (o:=0) (k:=1) (cs:=[.int .i64 (.ofNat c)]) (hU.pre hp4) rfl hu rfl (by omega) ?_
   simp(disch:=omega)only[↓qXX]
   refine iC (o:=1) (k:=1) (cs:=[.int .u8 (.ofNat e)]) (hU.pre hp4) rfl hu rfl (by omega) ?_
   simp(disch:=omega)only[↓qXX]
   rw[cvN (by omega)]
   refine af (rnb_c hs (qag hu) hn) ?_
   simp(disch:=omega)only[↓qXX]
   have hbl:((bhL w v).take j).length=j:=by
    rw[qaJ,show(bhL w v).length=(aF w v).length by simp[bhL]];omega
   refine jD (h0:=h3) (a:=n) hp4 hm4 rfl rfl rfl rfl (by
    unfold bU
    rw[qaa,qbb,qbb,hbl]
    omega) λv' h' hp' hm' hg' _ _=>?_
   simp(disch:=omega)only[↓qXX]
   refine aH hg' ?_
   simp(disch:=omega)only[↓qXX]
   rw[ce (by omega)]
   refine hself (v',h') hlt ⟨hp',?_,hg'⟩
   have:(bhL w v).take (j+1)=(bhL w v).take j++[n]:=by rw[qa6,uQ hu hn];rfl
   rw[this]
   exact hm'
  rw[aY (by omega)]
  simp(disch:=omega)only[↓qXX]
  obtain rfl:j=(aF w v).length:=by omega
  rw[qaO (by simp[bhL])]at hm4
  have hBh:=hm4.ls
  have hU:=hU.pre hp4
  have hK:=hK.pre hp4
  have hC:=hC.pre hp4
  have pH:=pH.trans hp4
  clear hm4 hp4 hj
  refine bM hC ?_
  rw[jU]
  refine am (fj (by omega)) ?_
  simp(disch:=omega)only[↓qXX]
  rw[show(Int.ofNat (4*w*v)).toNat=4*w*v from rfl]
  refine am hC.len ?_
  rw[jU]
  refine am (fj (by omega)) ?_
  simp(disch:=omega)only[↓qXX]
  rw[show(Int.ofNat (4*w*v)).toNat=4*w*v from rfl]
  have z0:HO.o (.cells (aM [.int .u8 0,.int .i64 0,.int .i64 0] (4*w*v)) 3 true)=HO.o (.cells ((List.replicate (4*w*v) idM).flatMap encM) 3 true):=by
   rw[←dt (enc:=encM) (z:=idM) (n:=4*w*v)]
   rfl
  have z1:HO.o (.cells (aM [.int .i64 0] (4*w*v)) 1 true)=HO.o (.cells ((List.replicate (4*w*v) false).flatMap encK) 1 true):=by
   rw[←dt (enc:=encK) (z:=false) (n:=4*w*v)]
   rfl
  rw[z0,z1]
  have r0:RB H (h4++[HO.o (.cells ((List.replicate (4*w*v) idM).flatMap encM) 3 true)]++[HO.o (.cells ((List.replicate (4*w*v) false).flatMap encK) 1 true)]) h4.length (h4++[HO.o (.cells ((List.replicate (4*w*v) idM).flatMap encM) 3 true)]).length (List.replicate (4*w*v) idM) (List.replicate (4*w*v) false):=
   ⟨(pH.app _).app _,Pre.get ⟨_,rfl⟩ bA,bA,by simp,pH.len,by have:=pH.len;simp;omega⟩
  have p45:Pre h4 (h4++[HO.o (.cells ((List.replicate (4*w*v) idM).flatMap encM) 3 true)]++[HO.o (.cells ((List.replicate (4*w*v) false).flatMap encK) 1 true)]):=⟨_,qaN ..⟩
  have hio:h4.length<=h4.length:=qan _
  have hib:h4.length<=(h4++[HO.o (.cells ((List.replicate (4*w*v) idM).flatMap encM) 3 true)]).length:=by simp
  generalize h4++[HO.o (.cells ((List.replicate (4*w*v) idM).flatMap encM) 3 true)]++[HO.o (.cells ((List.replicate (4*w*v) false).flatMap encK) 1 true)]=h5 at *
  generalize (h4++[HO.o (.cells ((List.replicate (4*w*v) idM).flatMap encM) 3 true)]).length=ib at *
  generalize hiod:h4.length=io at *
  have hUk:=hU.pre p45
  have hN4:0<4*w*v:=hN.1
  have old:∀ {h:HL} {O:List Mv} {B:List Bool},RB H h io ib O B->Pre h4 h->True:=λ_ _=>trivial
  refine gm (enc:=encM) (l:=List.replicate (4*w*v) idM) (i:=0) (a:=r) bO r0.o rfl (by simpa using hN4) (by simp) rfl ?_
  have r1:=r0.putO (O':=(List.replicate (4*w*v) idM).set 0 r)
  have p46:Pre h4 (putE h5 io 3 encM ((List.replicate (4*w*v) idM).set 0 r)):=dP p45 (by omega)
  generalize putE h5 io 3 encM ((List.replicate (4*w*v) idM).set 0 r)=h6 at *
  try simp(disch:=omega)only[↓qXX]
  refine gm (enc:=encK) (l:=List.replicate (4*w*v) false) (i:=0) (a:=true) qP r1.b rfl (by simpa using hN4) (by simp) rfl ?_
  have r2:=r1.putB (B':=(List.replicate (4*w*v) false).set 0 true)
  have p47:Pre h4 (putE h6 ib 1 encK ((List.replicate (4*w*v) false).set 0 true)):=dP p46 (by omega)
  generalize putE h6 ib 1 encK ((List.replicate (4*w*v) false).set 0 true)=h7 at *
  try simp(disch:=omega)only[↓qXX]
  have q0:RP w v l r ((List.replicate (4*w*v) idM).set 0 r) ((List.replicate (4*w*v) false).set 0 true) (λ_=>idM):=by
   refine⟨by simp,by simp,by rw[qaD (by simpa using hN4)],rfl,λc hc=>?_⟩
   by_cases e1:c=0
   ·subst e1
    refine⟨by rw[qaD (by simpa using hN4),ij hr.1],okM_id (by omega),λG _ h0=>h0.symm⟩
   ·rw[qai (qbK e1),qaT]at hc
    split at hc<;>cases hc
  generalize (List.replicate (4*w*v) idM).set 0 r=O0 at *
  generalize (List.replicate (4*w*v) false).set 0 true=B0 at *
  generalize (λ_:Nat=>idM)=g0 at q0
  clear r0 r1 p45 p46 hUk old z0 z1
  refine cN (m:=2*(4*w*v - cntT B0)+1) (λm ls h'=>∃(t:Bool) (O:List Mv) (B:List Bool) (g:Nat->Mv),ls=[.b t]/\RB H h' io ib O B/\Pre h4 h'/\RP w v l r O B g/\m=2*(4*w*v - cntT B)+(if t then 1 else 0)/\(t=false->∀(j c e n:Nat),(aF w v)[j]?=some (c,e)->nbr w v c e=some n->B[c]?=B[n]?)) ⟨true,O0,B0,g0,rfl,r2,p47,q0,rfl,λq=>by cases q⟩ ?_
  clear r2 p47 q0
  rintro m ls h' ⟨t,O,B,g,rfl,hr2,hp2,hq,rfl,hdone⟩ self2 hself2
  refine hidL ?_
  simp(disch:=omega)only[↓qXX]
  cases t with
  |true=>
   simp(disch:=omega)only[↓qXX]
   refine bW (σ:=HL×Bool×List Mv×List Bool×(Nat->Mv)) (aF w v).length (λj s=>[.b s.2.1,.i (Int.ofNat j)]) (λ_ s=>s.1) (λj s=>RB H s.1 io ib s.2.2.1 s.2.2.2.1/\Pre h4 s.1/\RP w v l r s.2.2.1 s.2.2.2.1 s.2.2.2.2/\cntT B<=cntT s.2.2.2.1/\(s.2.1=true->cntT B<cntT s.2.2.2.1)/\(s.2.1=false->∀(j' c e n:Nat),j'<j->(aF w v)[j']?=some (c,e)->nbr w v c e=some n->s.2.2.2.1[c]?=s.2.2.2.1[n]?)) (j0:=0) (s0:=(h',false,O,B,g)) rfl rfl (qaW _) ⟨hr2,hp2,hq,qan _,λq=>by simp at q,λ_ j' c e n q=>by omega⟩ ?_
   rintro j ⟨h8,t8,O8,B8,g8⟩ hj ⟨hr8,hp8,hq8,hc8,ht8,hf8⟩ self3 hself3
   simp only at hr8 hp8 hq8 hc8 ht8 hf8 hself3 ⊢
   simp(disch:=omega)only[↓qXX]
   refine bM (hU.pre hp8) ?_
   by_cases hlt:j<(aF w v).length
   case neg=>
    rw[aY (by omega)]
    simp(disch:=omega)only[↓qXX]
    obtain rfl:j=(aF w v).length:=by omega
    have hcn:=hq8.cnt
    refine hself2 (2*(4*w*v - cntT B8)+(if t8 then 1 else 0)) _ _ ?_ ⟨t8,O8,B8,g8,rfl,hr8,hp8,hq8,rfl,λq j' c e n hu hn=>hf8 q j' c e n (be hu) hu hn⟩
    cases t8 with
    |true=>have:=ht8 rfl;simp;omega
    |false=>simp;omega
   rw[aS hlt,p_cond_t]
   obtain⟨⟨c,e⟩,hu⟩:=bn hlt
   obtain⟨hc,he,n,hn,hcn⟩:=hunit hu
   obtain⟨hnN,hnc,hlnn,_,_⟩:=kE hs hc he hn
   have next:∀(h9:HL) (t9:Bool) (O9:List Mv) (B9:List Bool) (g9:Nat->Mv),RB H h9 io ib O9 B9->Pre h4 h9->RP w v l r O9 B9 g9->cntT B<=cntT B9->(t9=true->cntT B<cntT B9)->(t9=false->∀(j' c e n:Nat),j'<j+1->(aF w v)[j']?=some (c,e)->nbr w v c e=some n->B9[c]?=B9[n]?)->self3 [.b t9,.i (Int.ofNat j+1)] h9:=λh9 t9 O9 B9 g9 a1 a2 a3 a4 a5 a6=>hself3 (h9,t9,O9,B9,g9) hlt ⟨a1,a2,a3,a4,a5,a6⟩
   refine xe (λl' h'=>∃(t9:Bool) (O9:List Mv) (B9:List Bool) (g9:Nat->Mv),l'=[.b t9]/\RB H h' io ib O9 B9/\Pre h4 h'/\RP w v l r O9 B9 g9/\cntT B<=cntT B9/\(t9=true->cntT B<cntT B9)/\(t9=false->∀(j' c e n:Nat),j'<j+1->(aF w v)[j']?=some (c,e)->nbr w v c e=some n->B9[c]?=B9[n]?)) ?_ ?_
   ·rintro _ _ ⟨t9,O9,B9,g9,rfl,a1,a2,a3,a4,a5,a6⟩
    simp(disch:=omega)only[↓qXX]
    rw[ce (by omega)]
    exact next _ t9 O9 B9 g9 a1 a2 a3 a4 a5 a6
   intro jj hjj
   have lsO:=gN (cx:=4*w*v+1) (n:=4*w*v) bO hr8.o hq8.lo.symm
   have lsB:=gN (cx:=4*w*v+1) (n:=4*w*v) qP hr8.b hq8.lb.symm
   refine iC (o:=0) (k:=1) (cs:=[.int .i64 (.ofNat c)]) (hU.pre hp8) rfl hu rfl (by omega) ?_
   simp(disch:=omega)only[↓qXX]
   refine bi (hBh.pre hp8) rfl (uQ hu hn) ?_
   unfold encN
   simp(disch:=omega)only[↓qXX]
   obtain⟨s,hsB⟩:=bn (l:=B8) (i:=c) (by rw[hq8.lb];exact hc)
   obtain⟨t,htB⟩:=bn (l:=B8) (i:=n) (by rw[hq8.lb];exact hnN)
   refine bi lsB rfl hsB ?_
   unfold encK
   simp(disch:=omega)only[↓qXX]
   refine bi lsB rfl htB ?_
   unfold encK
   simp(disch:=omega)only[↓qXX]
   by_cases hst:s=t
   ·subst hst
    rw[p_eql_t rfl]
    simp(disch:=omega)only[↓qXX]
    refine hjj _ _ ⟨t8,O8,B8,g8,rfl,hr8,hp8,hq8,hc8,ht8,λq j' c' e' n' hj' hu' hn'=>?_⟩
    by_cases ej:j'=j
    ·subst ej
     rw[hu]at hu'
     cases hu'
     rw[hn]at hn'
     cases hn'
     rw[hsB,htB]
    ·exact hf8 q j' c' e' n' (by omega) hu' hn'
   rw[p_eql_f (by cases s<;>cases t<;>simp at hst ⊢)]
   simp(disch:=omega)only[↓qXX]
   refine bi lsB rfl htB ?_
   unfold encK
   simp(disch:=omega)only[↓qXX]
   rw[p_eqlK]
   refine xe (λl' h'=>∃a b:Nat,l'=[.i (Int.ofNat a),.i (Int.ofNat b)]/\h8=h'/\a<4*w*v/\b<4*w*v/\B8[a]?=some true/\B8[b]?=some false/\nbr w v a e=some b/\min a b=c) ?_ ?_
   ·rintro _ _ ⟨a,b,rfl,rfl,ha,hb,hBa,hBb,hab,hmin⟩
    simp(disch:=omega)only[↓qXX]
    refine bi (hC.pre hp8) rfl (jT ha) ?_
    unfold aD
    simp(disch:=omega)only[↓qXX]
    refine iC (o:=1) (k:=1) (cs:=[.int .u8 (.ofNat e)]) (hU.pre hp8) rfl hu rfl (by omega) ?_
    simp(disch:=omega)only[↓qXX]
    rw[cvN (by omega)]
    obtain⟨kj,hkj⟩:=bn (l:=ks) (i:=j) (by rw[kl];exact hlt)
    refine bi (hK.pre hp8) rfl hkj ?_
    unfold enc8
    simp(disch:=omega)only[↓qXX]
    obtain⟨k1,k2,k3⟩:=hq8.kn a hBa
    refine bi lsO rfl k1 ?_
    unfold encM
    simp(disch:=omega)only[↓qXX]
    have hcnt:=hq8.cnt
    have okT:=dA k2 hr
    refine af (uh hs ha he (k:=kj) (g:=aZ (g8 a) r) (cE okT (by omega))) ?_
    have hkK:=(kP j (c,e) kj hu hkj).2
    rw[wc k2.1 hr.1,acK_acM hs ha he hab (by rw[hmin];exact hkK)]
    have hst8:=hq8.step hs ha he hab hBa hBb
    generalize hm:aZ (acM w l (g8 a) a b e) r=m at *
    simp only[mvl]
    simp(disch:=omega)only[↓qXX]
    refine gm (enc:=encM) (l:=O8) (i:=b) (a:=m) bO hr8.o rfl (by rw[hq8.lo];exact hb) hq8.lo rfl ?_
    have hr9:=hr8.putO (O':=O8.set b m)
    have hp9:Pre h4 (putE h8 io 3 encM (O8.set b m)):=dP hp8 (by omega)
    generalize putE h8 io 3 encM (O8.set b m)=h9 at *
    try simp(disch:=omega)only[↓qXX]
    refine gm (enc:=encK) (l:=B8) (i:=b) (a:=true) qP hr9.b rfl (by rw[hq8.lb];exact hb) hq8.lb rfl ?_
    have hr10:=hr9.putB (B':=B8.set b true)
    have hp10:Pre h4 (putE h9 ib 1 encK (B8.set b true)):=dP hp9 (by omega)
    try simp(disch:=omega)only[↓qXX]
    have hcs:=fO hBb
    exact hjj _ _ ⟨true,_,_,_,rfl,hr10,hp10,hst8,by omega,λ_=>by omega,λq=>by cases q⟩
   ·intro j4 hj4
    cases t with
    |true=>
     obtain rfl:s=false:=by cases s<;>simp at hst ⊢
     simp(disch:=omega)only[↓qXX]
     exact hj4 _ _ ⟨n,c,rfl,rfl,hnN,hc,htB,hsB,hnc,by omega⟩
    |false=>
     obtain rfl:s=true:=by cases s<;>simp at hst ⊢
     simp(disch:=omega)only[↓qXX]
     exact hj4 _ _ ⟨c,n,rfl,rfl,hc,hnN,hsB,htB,hn,by omega⟩
  |false=>
   simp(disch:=omega)only[↓qXX]
   have hall:=hq.all hs (hdone rfl)
   have lsO:=gN (cx:=4*w*v+1) (n:=4*w*v) bO hr2.o hq.lo.symm
   have hcnt:=hq.cnt
   have hgl:∀c,c<4*w*v->okM 2000 (g c):=λc hc=>cE (hq.kn c (hall c hc)).2.1 (by omega)
   refine fq (aF w v).length (λj=>∀(j' c e n:Nat),j'<j->(aF w v)[j']?=some (c,e)->nbr w v c e=some n->g n=acM w l (g c) c n e) rfl (qaW _) (λj' c e n q=>absurd q (qca _)) ?_
   intro j hj hok self3 hself3
   simp(disch:=omega)only[↓qXX]
   refine bM (hU.pre hp2) ?_
   by_cases hlt:j<(aF w v).length
   ·rw[aS hlt]
    simp(disch:=omega)only[↓qXX]
    obtain⟨⟨c,e⟩,hu⟩:=bn hlt
    obtain⟨hc,he,n,hn,hcn⟩:=hunit hu
    obtain⟨hnN,hnc,hlnn,_,_⟩:=kE hs hc he hn
    refine iC (o:=0) (k:=1) (cs:=[.int .i64 (.ofNat c)]) (hU.pre hp2) rfl hu rfl (by omega) ?_
    simp(disch:=omega)only[↓qXX]
    refine bi (hC.pre hp2) rfl (jT hc) ?_
    unfold aD
    simp(disch:=omega)only[↓qXX]
    refine iC (o:=1) (k:=1) (cs:=[.int .u8 (.ofNat e)]) (hU.pre hp2) rfl hu rfl (by omega) ?_
    simp(disch:=omega)only[↓qXX]
    rw[cvN (by omega)]
    obtain⟨kj,hkj⟩:=bn (l:=ks) (i:=j) (by rw[kl];exact hlt)
    refine bi (hK.pre hp2) rfl hkj ?_
    unfold enc8
    simp(disch:=omega)only[↓qXX]
    refine iC (o:=0) (k:=1) (cs:=[.int .i64 (.ofNat c)]) (hU.pre hp2) rfl hu rfl (by omega) ?_
    simp(disch:=omega)only[↓qXX]
    obtain⟨k1,k2,k3⟩:=hq.kn c (hall c hc)
    obtain⟨m1,m2,m3⟩:=hq.kn n (hall n hnN)
    refine bi lsO rfl k1 ?_
    unfold encM
    simp(disch:=omega)only[↓qXX]
    have okT:=dA k2 hr
    refine af (uh hs hc he (k:=kj) (g:=aZ (g c) r) (cE okT (by omega))) ?_
    have hkK:=(kP j (c,e) kj hu hkj).2
    rw[wc k2.1 hr.1,acK_acM hs hc he hn (by rw[qb0 (by omega)];exact hkK)]
    have hinj:aZ (acM w l (g c) c n e) r=aZ (g n) r↔g n=acM w l (g c) c n e:=⟨λq=>(then_inj (acM_lt k2.1) m2.1 hr.1 q).symm,λq=>by rw[q]⟩
    generalize aZ (acM w l (g c) c n e) r=m at *
    simp only[mvl]
    simp(disch:=omega)only[↓qXX]
    refine bi (hBh.pre hp2) rfl (uQ hu hn) ?_
    unfold encN
    simp(disch:=omega)only[↓qXX]
    refine bi lsO rfl m1 ?_
    unfold encM
    simp(disch:=omega)only[↓qXX]
    rw[eqsM]
    by_cases hmm:m=aZ (g n) r
    ·rw[decide_eq_true hmm]
     simp(disch:=omega)only[↓qXX,qaF]
     rw[ce (by omega)]
     refine hself3 hlt λj' c' e' n' hj' hu' hn'=>?_
     by_cases ej:j'=j
     ·subst ej
      rw[hu]at hu'
      cases hu'
      rw[hn]at hn'
      cases hn'
      exact hinj.1 hmm
     ·exact hok j' c' e' n' (by omega) hu' hn'
    ·rw[decide_eq_false hmm]
     simp(disch:=omega)only[↓qXX,qbz]
     refine⟨hr2.pre,.inl ⟨by trivial,?_⟩⟩
     rintro⟨G,hG,h0⟩
     refine hmm (hinj.2 ?_)
     rw[k3 G hG h0,m3 G hG h0]
     exact hG c e n hc he hn
   ·rw[aY (by omega)]
    simp(disch:=omega)only[↓qXX]
    obtain rfl:j=(aF w v).length:=by omega
    have hG:gq w v l g:=jm hs (λc hc=>(hgl c hc).1) λj' c e n hu hn=>hok j' c e n (be hu) hu hn
    have hO:O=plL w v g r:=by
     apply qaR
     intro c
     by_cases hc:c<4*w*v
     ·rw[og hc];exact(hq.kn c (hall c hc)).1
     ·rw[qah (by rw[hq.lo];omega),qah (by simp[plL];omega)]
    have hpl:(plL w v g r).length=4*w*v:=by simp[plL]
    exact⟨hr2.pre,.inr ⟨g,⟨hG,hq.g0,hgl⟩,_,rfl,io,by rw[hpl];rfl,by rw[←hO];exact hr2.o⟩⟩)
 obtain⟨rs,h',h3,h4,h5⟩:=key
 exact⟨rs,h',h3,h4,h5⟩
set_option maxHeartbeats 8000000
def parC(w c:Nat):Nat:=
 if Nat.beq (c / 4 / w) 0 && !(Nat.beq (c / 4%w) 0)then(if Nat.beq (c%4) 3 then c - 6 else c+1)
 else if Nat.beq (c%4) 0 then c+2 - 4*w else c - 1
def toC(w v a e c:Nat):Bool:=match nbr w v a e with
 |some n=>Nat.beq n c
 |none=>false
def edC(w v c:Nat):Nat:=if toC w v (parC w c) 0 c then 0 else if toC w v (parC w c) 1 c then 1 else 2
def wayC(w:Nat):Nat->Nat->List Nat
 |0,_=>[]
 |f+1,c=>if Nat.beq c 0 then []else c :: wayC w f (parC w c)
def gOf(w v:Nat)(l:List Crs)(c:Nat):Mv:=(wayC w 64 c).foldr (λb g=>acM w l g (parC w b) b (edC w v b)) idM
def wayK(w v c:Nat):Bool:=Nat.beq c 0||(wayC w 64 c==c :: wayC w 64 (parC w c)&&(Nat.blt (parC w c) (4*w*v)&&toC w v (parC w c) (edC w v c) c))
def lnJ(w x y j:Nat):Mv:=ofM (lnC3 (clN w (fG w x y j)) (cH x j))
def refB(L:Nat->Mv)(bs:Nat->Bool)(j:Nat)(g:Mv):Mv:=if bs j then aZ (L j) g else g
def itB(L:Nat->Mv)(bs:Nat->Bool):Nat->Mv->Mv
 |0,g=>g
 |j+1,g=>refB L bs j (itB L bs j g)
def dirB(x:Nat)(bs:Nat->Bool):List Int:=(List.range 8).flatMap λd=>bD (match spkJ x d with
 |some j=>bs j
 |none=>false) d
def eqM(a b:Mv):Bool:=Nat.beq a.1 b.1&&(decide (a.2.1=b.2.1)&&decide (a.2.2=b.2.2))
def allB:Nat->(List Bool->Bool)->Bool
 |0,p=>p []
 |n+1,p=>allB n (λl=>p (false :: l))&&allB n (λl=>p (true :: l))
def closT(w x y:Nat):Bool:=allB (many x) λl=>!(Nat.beq (dF (dirB x λj=>l.getD j false)) 0)||eqM (itB (lnJ w x y) (λj=>l.getD j false) (many x) idM) idM
def memU(u:Nat×Nat)(S:List (Nat×Nat)):Bool:=S.any λs=>eqP s u
def uJ(w x y j:Nat):Nat×Nat:=(fG w x y j,cH x j)
def addR(w:Nat)(p:Nat×Nat)(S:List (Nat×Nat)):Option (List (Nat×Nat)):=match (List.range (many p.1)).filter λj=>!(memU (uJ w p.1 p.2 j) S)with
 | []=>some S
 | [k]=>some (uJ w p.1 p.2 k :: S)
 |_=>none
def addRs(w:Nat):List (Nat×Nat)->List (Nat×Nat)->Option (List (Nat×Nat))
 | [],S=>some S
 |p :: r,S=>match addR w p S with
  |some S'=>addRs w r S'
  |none=>none
def tree0(w v:Nat):List (Nat×Nat):=(List.range (4*w*v)).filterMap λc=>if Nat.beq c 0 then none else some (min (parC w c) c,edC w v c)
def ordP(w v:Nat):List (Nat×Nat):=(corL w v).filter (λp=>Nat.beq (p.1%2) 1)++(corL w v).filter λp=>Nat.beq (p.1%2) 0
def netC(w v:Nat):Bool:=match addRs w (ordP w v) (tree0 w v)with
 |some S=>(aF w v).all λu=>memU u S
 |none=>false
def wU:((List.range 4).all λw=>(List.range 4).all λv=>(List.range (4*(w+1)*(v+1))).all (wayK (w+1) (v+1))&&netC (w+1) (v+1))=true:=by kernel_rfl
def clos_all:((List.range 4).all λw=>(corL (w+1) 4).all λp=>closT (w+1) p.1 p.2)=true:=by kernel_rfl
def toC_eq{w v a e c:Nat}(h:toC w v a e c=true):nbr w v a e=some c:=by
 unfold toC at h
 split at h
 next n hn=>
  rw[hn,qac h]
 ·cases h
def edC_lt(w v c:Nat):edC w v c<3:=by
 unfold edC
 split
 ·omega
 ·split<;>omega
def then_lt(a b:Mv):(aZ a b).1<8:=nP
def acM_twice{w:Nat}{l:List Crs}{g:Mv}(hg:g.1<8)(a b e:Nat):acM w l (acM w l g a b e) b a e=g:=by
 unfold acM
 rw[Nat.min_comm b a]
 split
 ·rw[←dj (lE _) (lE _) hg,nV,ij hg]
 ·rfl
section
variable {w v:Nat} {l:List Crs} (hs:Sh4 w v)
def gOf_lt(c:Nat):(gOf w v l c).1<8:=by
 unfold gOf
 generalize wayC w 64 c=L
 induction L with
 |nil=>exact qdt _
 |cons b L ih=>exact acM_lt ih
def sw(w v:Nat)(l:List Crs)(G:Nat->Mv)(u:Nat×Nat):Prop:=∀a b,a<4*w*v->u.2<3->nbr w v a u.2=some b->min a b=u.1->G b=acM w l (G a) a b u.2
include hs
theorem way_of{c:Nat}(hc:c<4*w*v)(h0:c≠0):wayC w 64 c=c :: wayC w 64 (parC w c)/\parC w c<4*w*v/\nbr w v (parC w c) (edC w v c)=some c:=by
 obtain⟨h1,h2,h3,h4⟩:=hs
 have h:=qab.1 (qab.1 wU (w - 1) (qad.2 (by omega))) (v - 1) (qad.2 (by omega))
 rw[show w - 1+1=w by omega,show v - 1+1=v by omega]at h
 simp only[qaa]at h
 have h:=qab.1 h.1 c (qad.2 hc)
 unfold wayK at h
 simp only[qaP,qaa,qbV,beq_iff_eq,qaK]at h
 rcases h with h|⟨h,h',h''⟩
 ·exact absurd h h0
 ·exact⟨h,h',toC_eq h''⟩
theorem sat_of{G:Nat->Mv}(hG:∀c,(G c).1<8){a b e:Nat}(ha:a<4*w*v)(he:e<3)(hn:nbr w v a e=some b)(h:G b=acM w l (G a) a b e):sw w v l G (min a b,e):=by
 intro a' b' ha' _ hn' hm
 obtain⟨hb,hn2,_⟩:=kE hs.sh ha he hn
 obtain⟨hb',hn2',_⟩:=kE hs.sh ha' he hn'
 simp only at hm hn' hn2'
 have:(a'=a/\b'=b)∨(a'=b/\b'=a):=by
  have q:a'=a∨a'=b∨b'=a∨b'=b:=by omega
  rcases q with rfl|rfl|rfl|rfl
  ·rw[hn]at hn';cases hn';exact .inl ⟨rfl,rfl⟩
  ·rw[hn2]at hn';cases hn';exact .inr ⟨rfl,rfl⟩
  ·rw[hn]at hn2';cases hn2';exact .inr ⟨rfl,rfl⟩
  ·rw[hn2]at hn2';cases hn2';exact .inl ⟨rfl,rfl⟩
 rcases this with⟨rfl,rfl⟩|⟨rfl,rfl⟩
 ·exact h
 ·rw[h,acM_twice (hG _)]
theorem tree_sat:∀u∈tree0 w v,sw w v l (gOf w v l) u:=by
 intro u hu
 unfold tree0 at hu
 obtain⟨c,hc,h⟩:=qa4.1 hu
 have hc:=qad.1 hc
 split at h
 ·cases h
 next h0=>
  cases h
  obtain⟨h1,h2,h3⟩:=way_of hs hc (by simpa using h0)
  refine sat_of hs gOf_lt h2 (edC_lt _ _ _) h3 ?_
  show gOf w v l c=_
  unfold gOf
  rw[h1]
  rfl
end
section
variable {L:Nat->Mv} (hL:∀j,(L j).1<8) {bs:Nat->Bool}
include hL
theorem refB_lt{g:Mv}(hg:g.1<8)(j:Nat):(refB L bs j g).1<8:=by
 unfold refB
 split
 ·exact then_lt _ _
 ·exact hg
theorem itB_lt{g:Mv}(hg:g.1<8):∀j,(itB L bs j g).1<8
 |0=>hg
 |j+1=>refB_lt hL (itB_lt hg j) j
theorem wJ{g:Mv}(hg:g.1<8):∀j,itB L bs j g=aZ (itB L bs j idM) g
 |0=>(ij hg).symm
 |j+1=>by
  show refB L bs j (itB L bs j g)=aZ (refB L bs j (itB L bs j idM)) g
  rw[wJ hg j]
  unfold refB
  split
  ·rw[dj (hL j) (itB_lt hL (qdt _) j) hg]
  ·rfl
end
def tD{L:Nat->Mv}{b b':Nat->Bool}{g:Mv}:∀ {n},(∀j,j<n->b j=b' j)->itB L b n g=itB L b' n g
 |0,_=>rfl
 |n+1,h=>by
  show refB L b n (itB L b n g)=refB L b' n (itB L b' n g)
  unfold refB
  rw[tD λj hj=>h j (by omega),h n (by omega)]
def uO:∀ {n:Nat} {p:List Bool->Bool},allB n p=true->∀l:List Bool,l.length=n->p l=true
 |0,p,h,l,hl=>by rw[qbf.1 hl];exact h
 |n+1,p,h,b :: l,hl=>by
  have h:(allB n (λl=>p (false :: l))&&allB n (λl=>p (true :: l)))=true:=h
  rw[qaa]at h
  have hl':l.length=n:=Nat.succ.inj hl
  cases b
  ·exact uO h.1 l hl'
  ·exact uO h.2 l hl'
 |n+1,p,h,[],hl=>by cases hl
def spkJ_lt{x d j:Nat}(h:spkJ x d=some j):j<many x:=by
 unfold spkJ at h
 unfold many
 split at h
 ·split at h<;>cases h
  rw[if_pos (by assumption)];omega
 ·cases h
  rw[if_neg (by assumption)];omega
section
variable {w v x y:Nat} {l:List Crs} (hs:Sh4 w v) (hc:du w v x y=true)
include hs hc
theorem corL_of:(x,y)∈corL w 4:=by
 have h3:=hc
 unfold du at h3
 simp only[qaa,qaK,qbV]at h3
 obtain⟨a1,a2,a3,a4⟩:=hs
 unfold corL
 refine qbd.2 ⟨y,qad.2 (by omega),qa4.2 ⟨x,qad.2 (by omega),?_⟩⟩
 rw[if_pos]
 unfold du
 simp only[qaa,qaK,qbV]
 omega
theorem yg(hk:∀c∈l,1<=c.2.2/\c.2.2<=3)(h:dF ((refR l w x y).map (·.1))=0):itB (lnJ w x y) (crJ l w x y) (many x) idM=idM:=by
 have hw:=hs
 have ht:=qab.1 (qab.1 clos_all (w - 1) (qad.2 (by have:=hw.1;have:=hw.2.1;omega))) (x,y) (by rw[show w - 1+1=w by have:=hw.1;omega];exact corL_of hs hc)
 rw[show w - 1+1=w by have:=hw.1;omega]at ht
 have ht:=uO ht ((List.range (many x)).map (crJ l w x y)) (by simp)
 have eb:∀j,j<many x->((List.range (many x)).map (crJ l w x y)).getD j false=crJ l w x y j:=λj hj=>by
  simp[List.getD,hj]
 have ed:dirB x (λj=>((List.range (many x)).map (crJ l w x y)).getD j false)=(refR l w x y).map (·.1):=by
  rw[refR_bits hk]
  unfold dirB
  congr 1
  funext d
  unfold bitR
  cases hj:spkJ x d with
  |none=>rfl
  |some j=>simp only[eb j (spkJ_lt hj)]
 rw[ed,h,tD eb]at ht
 simp only[qbE,qaF,qbL]at ht
 unfold eqM at ht
 simp only[qaa,qbV,decide_eq_true_eq]at ht
 exact qcM ht.1 (qcM ht.2.1 ht.2.2)
theorem ring_last{G:Nat->Mv}(hG:∀c,(G c).1<8)(hcl:itB (lnJ w x y) (crJ l w x y) (many x) idM=idM){k:Nat}(hk:k<many x)(h:∀j,j<many x->j≠k->sw w v l G (uJ w x y j)):sw w v l G (uJ w x y k):=by
 have hL:∀j,(lnJ w x y j).1<8:=λj=>lE _
 have st:∀j,j<many x->j≠k->G (idC w x y (j+1))=refB (lnJ w x y) (crJ l w x y) j (G (idC w x y j)):=λj hj hjk=>by
  obtain⟨h1,h2,h3,_⟩:=rP hs hc hj
  exact h j hj hjk _ _ h1 h2 h3 rfl
 have tw:∀j (g:Mv),g.1<8->refB (lnJ w x y) (crJ l w x y) j (refB (lnJ w x y) (crJ l w x y) j g)=g:=λj g hg=>by
  unfold refB
  split
  ·unfold lnJ
   rw[←dj (lE _) (lE _) hg,nV,ij hg]
  ·rfl
 have up:∀i,i<=k->G (idC w x y i)=itB (lnJ w x y) (crJ l w x y) i (G (idC w x y 0)):=by
  intro i
  induction i with
  |zero=>intro _;rfl
  |succ i ih=>
   intro hi
   rw[st i (by omega) (by omega),ih (by omega)]
   rfl
 have all:itB (lnJ w x y) (crJ l w x y) (many x) (G (idC w x y 0))=G (idC w x y (many x)):=by
  rw[wJ hL (hG _),hcl,ij (hG _),wE]
 have dn:∀d i,i+d=many x->k+1<=i->itB (lnJ w x y) (crJ l w x y) i (G (idC w x y 0))=G (idC w x y i):=by
  intro d
  induction d with
  |zero=>intro i hi _;rw[show i=many x by omega];exact all
  |succ d ih=>
   intro i hi hki
   have q:=ih (i+1) (by omega) (by omega)
   rw[st i (by omega) (by omega)]at q
   have q2:refB (lnJ w x y) (crJ l w x y) i (itB (lnJ w x y) (crJ l w x y) i (G (idC w x y 0)))=refB (lnJ w x y) (crJ l w x y) i (G (idC w x y i)):=q
   rw[←tw i _ (itB_lt hL (hG _) i),q2,tw i _ (hG _)]
 obtain⟨h1,h2,h3,_⟩:=rP hs hc hk
 refine sat_of hs hG h1 h2 h3 ?_
 show G (idC w x y (k+1))=acM w l (G (idC w x y k)) (idC w x y k) (idC w x y (k+1)) (cH x k)
 rw[←dn (many x - (k+1)) (k+1) (by omega) (by omega)]
 show refB _ _ k (itB _ _ k _)=_
 rw[←up k (qan _)]
 rfl
end
section
variable {w v:Nat} {l:List Crs} (hs:Sh4 w v) {G:Nat->Mv} (hG:∀c,(G c).1<8)
include hs hG
theorem addR_sat{p:Nat×Nat}{S S':List (Nat×Nat)}(hc:du w v p.1 p.2=true)(hcl:itB (lnJ w p.1 p.2) (crJ l w p.1 p.2) (many p.1) idM=idM)(h:addR w p S=some S')(hS:∀u∈S,sw w v l G u):∀u∈S',sw w v l G u:=by
 unfold addR at h
 split at h
 ·cases h;exact hS
 next k hk=>
  cases h
  intro u hu
  rcases qak.1 hu with rfl|hu
  ·have hkm:k∈(List.range (many p.1)).filter λj=>!(memU (uJ w p.1 p.2 j) S):=by rw[hk];exact List.mem_singleton_self _
   refine ring_last hs hc hG hcl (qad.1 (qa5.1 hkm).1) λj hj hjk=>?_
   have:memU (uJ w p.1 p.2 j) S=true:=by
    rw[←Bool.not_eq_false]
    intro hf
    have:j∈(List.range (many p.1)).filter λj=>!(memU (uJ w p.1 p.2 j) S):=qa5.2 ⟨qad.2 hj,by rw[hf];rfl⟩
    rw[hk]at this
    exact hjk (qau.1 this)
   obtain⟨s,h1,h2⟩:=qcz.1 this
   rw[←eqP_iff.1 h2]
   exact hS s h1
  ·exact hS u hu
 ·cases h
theorem sz:∀ {P S S':List (Nat×Nat)},(∀p∈P,du w v p.1 p.2=true/\itB (lnJ w p.1 p.2) (crJ l w p.1 p.2) (many p.1) idM=idM)->addRs w P S=some S'->(∀u∈S,sw w v l G u)->∀u∈S',sw w v l G u
 | [],S,S',_,h,hS=>by cases h;exact hS
 |p :: P,S,S',hP,h,hS=>by
  unfold addRs at h
  split at h
  next S2 h2=>
   obtain⟨q1,q2⟩:=hP p qax
   exact sz (λp hp=>hP p (qao _ hp)) h (addR_sat hs hG q1 q2 h2 hS)
  ·cases h
end
def oR{w v:Nat}(hs:Sh4 w v){l:List Crs}(hk:∀c∈l,1<=c.2.2/\c.2.2<=3)(h:∀x y,du w v x y=true->dF ((refR l w x y).map (·.1))=0):∃G,gq w v l G/\G 0=idM:=by
 refine⟨gOf w v l,jm hs.sh (λc _=>gOf_lt c) λj c e n hu hn=>?_,rfl⟩
 have hn':netC w v=true:=by
  obtain⟨h1,h2,h3,h4⟩:=hs
  have h:=qab.1 (qab.1 wU (w - 1) (qad.2 (by omega))) (v - 1) (qad.2 (by omega))
  rw[show w - 1+1=w by omega,show v - 1+1=v by omega]at h
  simp only[qaa]at h
  exact h.2
 unfold netC at hn'
 split at hn'
 case h_2=>cases hn'
 rename_i S hS
 have hall:=sz (l:=l) hs gOf_lt (λp hp=>by
  have hp:p∈corL w v:=by
   unfold ordP at hp
   rcases qaH.1 hp with h|h<;>exact(qa5.1 h).1
  have hc:=qK hp
  exact⟨hc,yg hs hc hk (h _ _ hc)⟩) hS (tree_sat hs)
 have hum:=qag hu
 have hm:=qab.1 hn' _ hum
 obtain⟨s,h1,h2⟩:=qcz.1 hm
 have hsat:=hall s h1
 rw[eqP_iff.1 h2]at hsat
 obtain⟨hcN,he,n',hn2,hlt⟩:=unit_ok hum
 rw[hn]at hn2;cases hn2
 exact hsat c n hcN he hn (by show min c n=c;omega)
set_option maxHeartbeats 16000000
def xz{t x y:Int}:Cc 53 [.i t,.i x,.i y] [.i (if vMI t x y then 1 else 0)]:=by
 refine q53 rfl ?_;unfold f53;simp only[qxh]
 simp(disch:=omega)only[↓qXX]
 by_cases h1:7<t
 ·rw[p_gtr_t h1,if_neg (by unfold vMI;rw[decide_eq_true_eq];omega)]
  simp(disch:=omega)only[↓qXX]
 rw[p_gtr_f (by omega)]
 simp(disch:=omega)only[↓qXX]
 by_cases h2:x < -16384
 ·rw[p_lss_t h2,if_neg (by unfold vMI;rw[decide_eq_true_eq];omega)]
  simp(disch:=omega)only[↓qXX]
 rw[p_lss_f (by omega)]
 simp(disch:=omega)only[↓qXX]
 by_cases h3:16384<x
 ·rw[p_gtr_t h3,if_neg (by unfold vMI;rw[decide_eq_true_eq];omega)]
  simp(disch:=omega)only[↓qXX]
 rw[p_gtr_f (by omega)]
 simp(disch:=omega)only[↓qXX]
 by_cases h4:y < -16384
 ·rw[p_lss_t h4,if_neg (by unfold vMI;rw[decide_eq_true_eq];omega)]
  simp(disch:=omega)only[↓qXX]
 rw[p_lss_f (by omega)]
 simp(disch:=omega)only[↓qXX]
 by_cases h5:16384<y
 ·rw[p_gtr_t h5,if_neg (by unfold vMI;rw[decide_eq_true_eq];omega)]
  simp(disch:=omega)only[↓qXX]
 rw[p_gtr_f (by omega)]
 simp(disch:=omega)only[↓qXX]
 rcases qcW 0 (x - y)with hs|hs
 ·rw[p_rem_nn hs (by omega)]
  by_cases h6:(x - y)%2=0
  ·rw[p_neq_f h6,if_pos (by unfold vMI;rw[decide_eq_true_eq];omega)]
   simp(disch:=omega)only[↓qXX]
  ·rw[p_neq_t h6,if_neg (by unfold vMI;rw[decide_eq_true_eq];omega)]
   simp(disch:=omega)only[↓qXX]
 ·rw[p_rem_np hs (by omega)]
  by_cases h6:-(-(x - y)%2)=0
  ·rw[p_neq_f h6,if_pos (by unfold vMI;rw[decide_eq_true_eq];omega)]
   simp(disch:=omega)only[↓qXX]
  ·rw[p_neq_t h6,if_neg (by unfold vMI;rw[decide_eq_true_eq];omega)]
   simp(disch:=omega)only[↓qXX]
def ut{m:Mv}{n:Int}(h:okM n m):Cc 53 (mvl m) [.i (if vMv m then 1 else 0)]:=by
 have e:vMI (Int.ofNat m.1) m.2.1 m.2.2=vMv m:=by
  have h1:=h.1
  have h2:=h.2.2.2.2.2
  unfold vMI vMv
  rw[decide_eq_decide]
  show((m.1:Int)<8/\_)↔_
  omega
 rw[←e]
 exact xz
def rvalidc_c{c:Cl}(hq:c.2.2<4):Cc 54 (cll c) [.i (if vCl c then 1 else 0)]:=by
 have hq3:(Int.ofNat c.2.2)<=3:=by show(c.2.2:Int)<=3;omega
 refine q54 rfl ?_;unfold f54;simp only[qxh]
 simp only[cll]
 simp(disch:=omega)only[↓qXX]
 by_cases h2:c.1 < -4096
 ·rw[p_lss_t h2,if_neg (by unfold vCl;rw[decide_eq_true_eq];omega)]
  simp(disch:=omega)only[↓qXX]
 rw[p_lss_f (by omega)]
 simp(disch:=omega)only[↓qXX]
 by_cases h3:4096<c.1
 ·rw[p_gtr_t h3,if_neg (by unfold vCl;rw[decide_eq_true_eq];omega)]
  simp(disch:=omega)only[↓qXX]
 rw[p_gtr_f (by omega)]
 simp(disch:=omega)only[↓qXX]
 by_cases h4:c.2.1 < -4096
 ·rw[p_lss_t h4,if_neg (by unfold vCl;rw[decide_eq_true_eq];omega)]
  simp(disch:=omega)only[↓qXX]
 rw[p_lss_f (by omega)]
 simp(disch:=omega)only[↓qXX]
 by_cases h5:4096<c.2.1
 ·rw[p_gtr_t h5,if_neg (by unfold vCl;rw[decide_eq_true_eq];omega)]
  simp(disch:=omega)only[↓qXX]
 rw[p_gtr_f (by omega),if_pos (by unfold vCl;rw[decide_eq_true_eq];omega)]
 simp(disch:=omega)only[↓qXX]
def uk{w v:Nat}(hs:Sh w v){H:HL}{x lx:Value}(hx:aP x=true){G:Nat->Mv}{r:Mv}(hG:∀c,c<4*w*v->okM 2000 (G c))(hr:okM 16384 r)(hL:LsH H lx 3 encM (plL w v G r)) :
  ∃ix K,aw cc ac 27 [.i (.ofNat w),.i (.ofNat v),.v x,.v lx] (absH aa H) [.v ix] (absH aa (H++K))/\LsH (H++K) ix 3 aD (imL w v G r):=by
 have hN:=sh_N hs
 obtain⟨sx,G3,cs,hC⟩:=cells_c hs H
 have hil:(imL w v G r).length=4*w*v:=by simp[imL]
 obtain⟨rs,h',hc,ix,rfl,⟨K,rfl⟩,h2⟩:=x27 (ls:=[.i (.ofNat w),.i (.ofNat v),.v x,.v lx]) (K:=λrs h'=>∃ix,rs=[.v ix]/\Pre H h'/\LsH h' ix 3 aD (imL w v G r)) (H:=H) (glsI (glsI (glsV hx (glsV hL.good gls0)))) (by
  unfold f27;simp only[qxh]
  simp(disch:=omega)only[↓qXX]
  refine ai cs ?_
  simp(disch:=omega)only[↓qXX]
  have hL:=hL.pre (h':=H++G3) ⟨_,rfl⟩
  have pH:Pre H (H++G3):=⟨_,rfl⟩
  generalize H++G3=h1 at *
  refine bW (σ:=Value×HL) (4*w*v) (λj s=>[.v s.1,.i (Int.ofNat j)]) (λ_ s=>s.2) (λj s=>Pre h1 s.2/\MkL h1.length s.2 s.1 3 aD ((imL w v G r).take j)/\aP s.1=true) (j0:=0) (s0:=(.slice none 0 0,h1)) rfl rfl (qaW _) ⟨Pre.refl _,MkL.nil _ _ _ _,rfl⟩ ?_
  rintro j ⟨sv,sh⟩ hj ⟨hp,hm,hg⟩ self hself
  simp only at hp hm hg hself ⊢
  simp(disch:=omega)only[↓qXX]
  refine am hC.len ?_
  rw[jU]
  by_cases hlt:j<4*w*v
  ·rw[aS hlt]
   simp(disch:=omega)only[↓qXX]
   refine bi (hL.pre hp) rfl (og hlt) ?_
   unfold encM
   simp(disch:=omega)only[↓qXX]
   refine bi (hC.pre hp) rfl (jT hlt) ?_
   unfold aD
   simp(disch:=omega)only[↓qXX]
   have hcr:=clN_rng hs hlt
   refine af (rmove_c (m:=aZ (G j) r) (c:=clN w j) (cE (dA (hG j hlt) hr) (by omega)) hcr) ?_
   have hij:=nE (G:=G) (r:=r) hlt
   generalize bQ (aZ (G j) r) (clN w j)=ci at *
   simp only[cll]
   simp(disch:=omega)only[↓qXX]
   refine jD (h0:=h1) (a:=ci) hp hm rfl rfl rfl rfl (by
    unfold bU
    rw[qaa,qbb,qbb,qaJ]
    omega) λv' h' hp' hm' hg' _ _=>?_
   simp(disch:=omega)only[↓qXX]
   refine aH hg' ?_
   simp(disch:=omega)only[↓qXX]
   rw[ce (by omega)]
   refine hself (v',h') hlt ⟨hp',?_,hg'⟩
   have:(imL w v G r).take (j+1)=(imL w v G r).take j++[ci]:=by rw[qa6,hij];rfl
   rw[this]
   exact hm'
  ·rw[aY (by omega)]
   simp(disch:=omega)only[↓qXX]
   rw[qaO (by omega)]at hm
   exact⟨sv,by trivial,pH.trans hp,hm.ls⟩)
 exact⟨ix,K,hc,h2⟩
def ToldR(w v:Nat)(l:List Crs)(r:Mv)(rs:List Lf)(h':HL):Prop:=
 (rs=[.v dX,.i 11]/\¬ ∃G,gq w v l G/\G 0=idM)∨
 ∃G,ConsO w v l G/\((rs=[.v dX,.i 3]/\¬allV w G r (4*w*v))∨(∃ox,rs=[.v ox,.i 0]/\allV w G r (4*w*v)/\Ful h' ox 3 encM (plL w v G r)))
def xR{w v:Nat}(hs:Sh w v){l:List Crs}(hkd:∀c∈l,1<=c.2.2/\c.2.2<=3)(hll:l.length<=1000){H:HL}{x:Value}(hl:LsH H x 3 encC l){r:Mv}(hr:okM 16384 r) :
  ∃rs h',aw cc ac 26 ([.i (.ofNat w),.i (.ofNat v),.v x]++mvl r) (absH aa H) rs (absH aa h')/\Pre H h'/\ToldR w v l r rs h':=by
 have hN:=sh_N hs
 have hvm:vMv r=true:=by
  unfold vMv
  rw[decide_eq_true_eq]
  exact⟨hr.2.1,hr.2.2.1,hr.2.2.2.1,hr.2.2.2.2.1⟩
 obtain⟨rs1,h1,c1,p1,hR⟩:=um hs hkd hll hl hr
 have key:=x26 (ls:=[.i (.ofNat w),.i (.ofNat v),.v x,.i (Int.ofNat r.1),.i r.2.1,.i r.2.2]) (K:=λrs h'=>Pre H h'/\ToldR w v l r rs h') (H:=H) (glsI (glsI (glsV hl.good (glsI (glsI (glsI gls0)))))) (by
  unfold f26;simp only[qxh]
  simp(disch:=omega)only[↓qXX]
  refine af (ut hr) ?_
  rw[if_pos hvm]
  simp(disch:=omega)only[↓qXX]
  refine ai c1 ?_
  rcases hR with⟨rfl,hno⟩|⟨G,hG,ox,rfl,hf⟩
  ·simp(disch:=omega)only[↓qXX]
   exact⟨p1,.inl ⟨by trivial,hno⟩⟩
  simp(disch:=omega)only[↓qXX]
  have hL:=hf.ls bO
  obtain⟨ix,K,ci,hI⟩:=uk hs hl.good hG.ok hr hL
  refine ai ci ?_
  simp(disch:=omega)only[↓qXX]
  have hL:=hL.pre (h':=h1++K) ⟨_,rfl⟩
  have hf:=hf.pre (h':=h1++K) ⟨_,rfl⟩
  have p1:=p1.app K
  generalize h1++K=h2 at *
  have hpl:(plL w v G r).length=4*w*v:=by simp[plL]
  refine fq (4*w*v) (λj=>allV w G r j) rfl (qaW _) (λc q=>absurd q (qca _)) ?_
  intro j hj hok self hself
  simp(disch:=omega)only[↓qXX]
  refine am hL.len ?_
  rw[hpl]
  by_cases hlt:j<4*w*v
  ·rw[aS hlt]
   simp(disch:=omega)only[↓qXX]
   refine bi hL rfl (og hlt) ?_
   unfold encM
   simp(disch:=omega)only[↓qXX]
   have okT:=dA (hG.ok j hlt) hr
   refine af (ut okT) ?_
   cases hv1:vMv (aZ (G j) r)with
   |false=>
    simp only[qal,if_false]
    simp(disch:=omega)only[↓qXX]
    exact⟨p1,.inr ⟨G,hG,.inl ⟨by trivial,λq=>by rw[(q j hlt).1]at hv1;cases hv1⟩⟩⟩
   |true=>
   simp only[if_true]
   simp(disch:=omega)only[↓qXX]
   refine bi hI rfl (nE hlt) ?_
   unfold aD
   simp(disch:=omega)only[↓qXX]
   have hq4:=(jA okT (c:=clN w j) (k:=1000) (by have:=qI hs hlt;omega)).2.2.2.2
   refine af (rvalidc_c (c:=bQ (aZ (G j) r) (clN w j)) hq4) ?_
   cases hv2:vCl (bQ (aZ (G j) r) (clN w j))with
   |false=>
    simp only[qal,if_false]
    simp(disch:=omega)only[↓qXX]
    exact⟨p1,.inr ⟨G,hG,.inl ⟨by trivial,λq=>by rw[(q j hlt).2]at hv2;cases hv2⟩⟩⟩
   |true=>
   simp only[if_true]
   simp(disch:=omega)only[↓qXX]
   rw[ce (by omega)]
   exact hself hlt (hok.succ hv1 hv2)
  ·rw[aY (by omega)]
   simp(disch:=omega)only[↓qXX]
   obtain rfl:j=4*w*v:=by omega
   exact⟨p1,.inr ⟨G,hG,.inr ⟨_,rfl,hok,hf⟩⟩⟩)
 obtain⟨rs,h',h3,h4,h5⟩:=key
 exact⟨rs,h',h3,h4,h5⟩
def told_arg{w v t a b:Int}{H:HL}{x:Value}(hx:aP x=true)(hv:vMI t a b=false) :
  aw cc ac 26 [.i w,.i v,.v x,.i t,.i a,.i b] (absH aa H) [.v dX,.i 1] (absH aa H):=by
 obtain⟨rs,h',hc,rfl,rfl⟩:=x26 (ls:=[.i w,.i v,.v x,.i t,.i a,.i b]) (K:=λrs h'=>rs=[.v dX,.i 1]/\h'=H) (H:=H) (glsI (glsI (glsV hx (glsI (glsI (glsI gls0)))))) (by
  unfold f26;simp only[qxh]
  simp(disch:=omega)only[↓qXX]
  refine af xz ?_
  rw[if_neg (by rw[hv];simp)]
  simp(disch:=omega)only[↓qXX]
  exact⟨by trivial,by trivial⟩)
 exact hc
structure BothC(ls:List Lf)(H:HL)(lx ix:Value)(e:Int)(h1:HL):Prop where
 c:aw cc ac 42 ls (absH aa H) [.v lx,.v ix,.i e] (absH aa h1)
 p:Pre H h1
 g1:aP lx=true
 g2:aP ix=true
section
variable {w v t a b e:Int} {x lx ix:Value} {H h1:HL} (hx:aP x=true) (hb:BothC [.i w,.i v,.v x,.i t,.i a,.i b] H lx ix e h1)
include hx hb
theorem xj:aw cc ac 21 [.i w,.i v,.v x,.i t,.i a,.i b] (absH aa H) [.v lx,.i e] (absH aa h1):=by
 obtain⟨rs,h',hc,rfl,rfl⟩:=x21 (ls:=[.i w,.i v,.v x,.i t,.i a,.i b]) (K:=λrs h'=>rs=[.v lx,.i e]/\h'=h1) (H:=H) (glsI (glsI (glsV hx (glsI (glsI (glsI gls0)))))) (by
  unfold f21;simp only[qxh]
  simp(disch:=omega)only[↓qXX]
  refine ai hb.c ?_
  simp(disch:=omega)only[↓qXX]
  exact⟨by trivial,by trivial⟩)
 exact hc
theorem ik:aw cc ac 13 [.i w,.i v,.v x,.i t,.i a,.i b] (absH aa H) [.v ix,.i e] (absH aa h1):=by
 obtain⟨rs,h',hc,rfl,rfl⟩:=x13 (ls:=[.i w,.i v,.v x,.i t,.i a,.i b]) (K:=λrs h'=>rs=[.v ix,.i e]/\h'=h1) (H:=H) (glsI (glsI (glsV hx (glsI (glsI (glsI gls0)))))) (by
  unfold f13;simp only[qxh]
  simp(disch:=omega)only[↓qXX]
  refine ai hb.c ?_
  simp(disch:=omega)only[↓qXX]
  exact⟨by trivial,by trivial⟩)
 exact hc
theorem up_e(he:e≠0):aw cc ac 14 [.i w,.i v,.v x,.i t,.i a,.i b] (absH aa H) [.v dX,.i e] (absH aa h1):=by
 obtain⟨rs,h',hc,rfl,rfl⟩:=x14 (ls:=[.i w,.i v,.v x,.i t,.i a,.i b]) (K:=λrs h'=>rs=[.v dX,.i e]/\h'=h1) (H:=H) (glsI (glsI (glsV hx (glsI (glsI (glsI gls0)))))) (by
  unfold f14;simp only[qxh]
  simp(disch:=omega)only[↓qXX]
  refine ai hb.c ?_
  simp(disch:=omega)only[↓qXX]
  exact⟨by trivial,by trivial⟩)
 exact hc
theorem sil_e(he:e≠0):aw cc ac 22 [.i w,.i v,.v x,.i t,.i a,.i b] (absH aa H) [.v dX,.i e] (absH aa h1):=by
 have hi:=ik hx hb
 obtain⟨rs,h',hc,rfl,rfl⟩:=x22 (ls:=[.i w,.i v,.v x,.i t,.i a,.i b]) (K:=λrs h'=>rs=[.v dX,.i e]/\h'=h1) (H:=H) (glsI (glsI (glsV hx (glsI (glsI (glsI gls0)))))) (by
  unfold f22;simp only[qxh]
  simp(disch:=omega)only[↓qXX]
  refine ai hi ?_
  simp(disch:=omega)only[↓qXX]
  exact⟨by trivial,by trivial⟩)
 exact hc
theorem dep_e(he:e≠0):aw cc ac 23 [.i w,.i v,.v x,.i t,.i a,.i b] (absH aa H) [.i 0,.i e] (absH aa h1):=by
 have hi:=ik hx hb
 obtain⟨rs,h',hc,rfl,rfl⟩:=x23 (ls:=[.i w,.i v,.v x,.i t,.i a,.i b]) (K:=λrs h'=>rs=[.i 0,.i e]/\h'=h1) (H:=H) (glsI (glsI (glsV hx (glsI (glsI (glsI gls0)))))) (by
  unfold f23;simp only[qxh]
  simp(disch:=omega)only[↓qXX]
  refine ai hi ?_
  simp(disch:=omega)only[↓qXX]
  exact⟨by trivial,by trivial⟩)
 exact hc
end
def flips_c{m:Mv}(hm:okM 16384 m):Cc 43 (mvl m) [.b (!decide (m.1<4))]:=by
 refine q43 rfl ?_;unfold f43;simp only[qxh]
 simp(disch:=omega)only[↓qXX]
 refine af (rA hm (by omega)) ?_
 simp(disch:=omega)only[↓qXX]
 by_cases h:m.1<4
 ·rw[p_geq_f (show Int.ofNat m.1<4 by show(m.1:Int)<4;omega),decide_eq_true h]
  simp(disch:=omega)only[↓qXX]
  rfl
 ·rw[p_geq_t (show(4:Int)<=Int.ofNat m.1 by show 4<=(m.1:Int);omega),decide_eq_false h]
  simp(disch:=omega)only[↓qXX]
  rfl
def upB(m:Mv):Bool:=decide (m.1<4)
def up_c{w v t a b:Int}{x lx ix:Value}{H h1:HL}(hx:aP x=true)(hb:BothC [.i w,.i v,.v x,.i t,.i a,.i b] H lx ix 0 h1){A:List Mv}(hA:Ful h1 lx 3 encM A)(hok:∀m∈A,okM 16384 m)(hn:A.length<=1000) :
  ∃ux G,aw cc ac 14 [.i w,.i v,.v x,.i t,.i a,.i b] (absH aa H) [.v ux,.i 0] (absH aa (h1++G))/\Ful (h1++G) ux 1 encT (A.map upB):=by
 obtain⟨rs,h',hc,ux,G,rfl,rfl,hu⟩:=x14 (ls:=[.i w,.i v,.v x,.i t,.i a,.i b]) (K:=λrs h'=>∃ux G,rs=[.v ux,.i 0]/\h'=h1++G/\Ful (h1++G) ux 1 encT (A.map upB)) (H:=H) (glsI (glsI (glsV hx (glsI (glsI (glsI gls0)))))) (by
  unfold f14;simp only[qxh]
  simp(disch:=omega)only[↓qXX]
  refine ai hb.c ?_
  simp(disch:=omega)only[↓qXX]
  have hL:=hA.ls bO
  refine bM hL ?_
  refine am (fj (by omega)) ?_
  simp(disch:=omega)only[↓qXX]
  rw[show(Int.ofNat A.length).toNat=A.length from rfl]
  refine bM hL ?_
  have z0:h1++[HO.o (.cells (aM [.bool false] A.length) 1 true)]=newE h1 1 encT (iy false (A.map upB) 0):=by
   rw[fillZ_0,qa3]
   exact tS (enc:=encT) (z:=false) rfl
  rw[z0]
  refine bW (σ:=Unit) A.length (λj _=>[.i (Int.ofNat j)]) (λj _=>newE h1 1 encT (iy false (A.map upB) j)) (λ_ _=>True) (j0:=0) (s0:=()) rfl rfl (qaW _) trivial ?_
  rintro j _ hj _ self hself
  simp(disch:=omega)only[↓qXX]
  by_cases hlt:j<A.length
  ·rw[aS hlt]
   simp(disch:=omega)only[↓qXX]
   obtain⟨m,hm⟩:=bn hlt
   refine bi (hL.pre (mt _ _ _ _)) rfl hm ?_
   unfold encM
   simp(disch:=omega)only[↓qXX]
   refine af (flips_c (hok m (qag hm))) ?_
   simp(disch:=omega)only[↓qXX]
   have hml:(A.map upB)[j]?=some (upB m):=by rw[qat,hm];rfl
   refine r_setN ie (a:=upB m) rfl (by rw[ns (by rw[qa3];exact hj),qa3];exact hlt) (by rw[ns (by rw[qa3];exact hj),qa3]) (by unfold encT upB;simp) ?_
   rw[tb hml]
   try simp(disch:=omega)only[↓qXX]
   rw[ce (by omega)]
   exact hself () hlt trivial
  ·obtain rfl:j=A.length:=by omega
   rw[aY (qan _)]
   simp(disch:=omega)only[↓qXX]
   have e1:iy false (A.map upB) A.length=A.map upB:=by
    have:=ta (z:=false) (A:=A.map upB)
    rwa [qa3]at this
   rw[e1]
   refine⟨_,_,rfl,rfl,h1.length,?_,?_⟩
   ·rw[qa3];rfl
   ·simp)
 exact⟨ux,G,hc,hu⟩
end Go.Am
set_option maxRecDepth 100000
namespace Go.Am
namespace Sx
section
variable [Val] [Kno] {C:Cfg} {T:Nat->Site}
abbrev K3:=Int×Int×Nat
def cc3(k:K3):List Value:=[.int .i64 k.1,.int .i64 k.2.1,.int .u8 (Int.ofNat k.2.2)]
def kv3(k:K3):Value:=.agg ⟨cc3 k⟩
abbrev kk3:List LK:=[.i .i64,.i .i64,.i .u8]
def difK_3(a b:K3):difK kk3 (cc3 a) (cc3 b)=some (decide (a=b)):=by
 have e1:dy .i64 .i64=true:=rfl
 have e2:dy .u8 .u8=true:=rfl
 obtain⟨a1,a2,a3⟩:=a
 obtain⟨b1,b2,b3⟩:=b
 simp only[cc3,difK,e1,e2,qV,qb5]
 have e3:decide (Int.ofNat a3=Int.ofNat b3)=decide (a3=b3):=decide_eq_decide.2 ⟨λh=>qct h,λh=>by rw[h]⟩
 rw[e3]
 by_cases h1:a1=b1<;>by_cases h2:a2=b2<;>by_cases h3:a3=b3<;>simp[h1,h2,h3]
def find3(k:K3):∀ {es:List MapEntry} {ks:List K3} (i:Nat),es.map (·.key)=ks.map kv3->iz kk3 (cc3 k) es i=some ((ks.idxOf? k).map (i + ·))
 | [],[],i,_=>rfl
 | [],_ :: _,i,h=>by simp at h
 |_ :: _,[],i,h=>by simp at h
 |e :: es,q :: ks,i,h=>by
  simp only[qav,qa2]at h
  have ih:=find3 k (i+1) h.2
  have hq:iz kk3 (cc3 k) (e :: es) i=if k=q then some (some i)else iz kk3 (cc3 k) es (i+1):=by
   simp only[iz,h.1,kv3]
   rw[difK_3]
   by_cases hk:k=q<;>simp[hk]
  rw[hq,qc2]
  by_cases hk:k=q
  ·subst hk
   simp
  ·rw[if_neg hk,ih,if_neg (by simp;exact λe=>hk e.symm),qdK]
   congr 2
   funext j
   simp only[Function.comp];omega
variable {kt:TypeId} (h1:aggT C.P kt=some true) (h2:flatK C.P 10000 kt=some kk3)
include h1 h2
theorem keyF_3(k:K3):keyF C.P kt (kv3 k)=true:=by
 have e1:dy .i64 .i64=true:=rfl
 have e2:dy .u8 .u8=true:=rfl
 unfold keyF kv3 cc3
 simp only[h1,h2,iR,e1,e2,qV]
 simp
theorem findF_3(k:K3){es:List MapEntry}{r:Option Nat}(hr:iz kk3 (cc3 k) es 0=some r):oU C.P kt (kv3 k) es=some r:=by
 unfold oU kv3
 simp only[h1,h2,ml,hr]
def ent3(ps:List (K3×Nat)):List MapEntry:=ps.mapIdx λi p=>{ key:=kv3 p.1,val:=.int .i64 (Int.ofNat p.2),born:=i }
def cnt3(ps:List (K3×Nat))(k:K3):Nat:=match (ps.map (·.1)).idxOf? k with
 |some j=>(ps[j]?.map (·.2)).getD 0
 |none=>0
def cM(k:K3)(ps:List (K3×Nat)):List (K3×Nat):=match (ps.map (·.1)).idxOf? k with
 |some _=>ps
 |none=>ps++[(k,0)]
omit h1 h2 in
theorem wq(ps:List (K3×Nat)):(ent3 ps).map (·.key)=(ps.map (·.1)).map kv3:=by
 unfold ent3
 apply qaR
 intro i
 simp only[qat,qbU,qdK]
 rfl
omit h1 h2 in
theorem ent3_len(ps:List (K3×Nat)):(ent3 ps).length=ps.length:=by simp[ent3]
omit h1 h2 in
theorem tu{ps:List (K3×Nat)}{k:K3}{j:Nat}(h:(ps.map (·.1)).idxOf? k=some j):∃n,ps[j]?=some (k,n):=by
 obtain⟨hj,h3,_⟩:=qdp.1 h
 have hj':j<ps.length:=by simpa using hj
 refine⟨ps[j].2,?_⟩
 rw[qar hj']
 congr 1
 refine qcM ?_ rfl
 simpa using h3
omit h1 h2 in
theorem rz{h:HL}{id c:Nat}{es:List MapEntry}(hm:h[id]?=some (.o (.map es c))):mapG (getH T h) id=some (es,c):=by
 unfold mapG
 rw[cC hm]
theorem lu3{h:HL}{id c:Nat}{ps:List (K3×Nat)}(hm:h[id]?=some (.o (.map (ent3 ps) c)))(k:K3) :
  luG C kt false (.int .i64 0) (.map (some id)) (kv3 k) false (getH T h)=some [.int .i64 (Int.ofNat (cnt3 ps k))]:=by
 unfold luG
 rw[keyF_3 h1 h2]
 simp only[qaF,qal,if_false]
 rw[rz hm]
 simp only
 rw[findF_3 h1 h2 k (find3 k 0 (wq ps))]
 unfold cnt3
 cases hi:(ps.map (·.1)).idxOf? k with
 |none=>simp[eK]
 |some j=>
  obtain⟨n,hn⟩:=tu hi
  simp only[qaz,qaL]
  have hv:en (ent3 ps) j=some (.int .i64 (Int.ofNat n)):=by
   unfold en ent3
   rw[qbU,hn]
   rfl
  rw[hv,hn]
  simp[eK]
theorem me3{h:HL}{id n:Nat}{ps:List (K3×Nat)}(hm:h[id]?=some (.o (.map (ent3 ps) ps.length)))(k:K3) :
  ∃j m,(cM k ps)[j]?=some (k,m)/\((cM k ps).map (·.1)).idxOf? k=some j/\meG C kt false (.int .i64 0) (.map (some id)) (kv3 k) (getH T h) n=some ([.set id (.map (ent3 (cM k ps)) (cM k ps).length)],[.int .i64 (Int.ofNat m),.int .i64 (Int.ofNat j)]):=by
 unfold meG
 simp only
 rw[keyF_3 h1 h2]
 simp only[qaF,qal,if_false]
 rw[rz hm]
 simp only
 rw[findF_3 h1 h2 k (find3 k 0 (wq ps))]
 unfold cM
 cases hi:(ps.map (·.1)).idxOf? k with
 |none=>
  refine⟨ps.length,0,by simp,?_,?_⟩
  ·rw[qdp]
   have hn:k∉ps.map (·.1):=List.idxOf?_eq_none_iff.1 hi
   refine⟨by simp,by simp,λj hj=>?_⟩
   have hj':j<ps.length:=hj
   simp only[qbJ,qav,qbk]
   rw[List.getElem_append_left (by simpa using hj')]
   intro e
   exact hn (e▸qc1 _)
  ·simp[eK,ent3,List.mapIdx_append]
 |some j=>
  obtain⟨m,hm'⟩:=tu hi
  refine⟨j,m,hm',hi,?_⟩
  simp only[qaz,qaL]
  have he:(ent3 ps)[j]?=some { key:=kv3 k,val:=.int .i64 (Int.ofNat m),born:=j }:=by
   unfold ent3
   rw[qbU,hm']
   rfl
  rw[he]
  have hs:Instr.sameBits 10000 (kv3 k) (kv3 k)=true:=by
   simp[kv3,cc3,Instr.sameBits]
  simp only[hs,if_true,eK]
  have hmod:(ent3 ps).modify j (λe=>{ e with key:=kv3 k })=ent3 ps:=by
   apply qaR
   intro i
   rw[qc7]
   split
   next hij=>
    subst hij
    rw[he];rfl
   ·simp
  rw[hmod]
  rfl
end
section
variable [Val] [Kno] {T:Nat->Site}
def es3{h:HL}{id n:Nat}{ps:List (K3×Nat)}(hm:h[id]?=some (.o (.map (ent3 ps) ps.length))){j:Nat}{k:K3}{m m':Nat}(hj:ps[j]?=some (k,m)) :
  esG (.map (some id)) (Int.ofNat j) (.int .i64 (Int.ofNat m')) (getH T h) n=some ([.set id (.map (ent3 (ps.set j (k,m'))) (ps.set j (k,m')).length)],[]):=by
 unfold esG
 simp only
 rw[rz hm]
 simp only
 have hjl:j<ps.length:=by
  rcases qaB j ps.length with h|h
  ·exact h
  ·rw[qah h]at hj;cases hj
 have hf:(ent3 ps).findIdx? (λe=>(e.born:Int)==Int.ofNat j)=some j:=by
  rw[qcc]
  refine⟨by rw[ent3_len];exact hjl,by simp[ent3],λi hi=>?_⟩
  simp[ent3]
  omega
 rw[hf]
 simp only[qb8]
 congr 5
 apply qaR
 intro i
 unfold ent3
 rw[qc7,qbU,qbU]
 by_cases hij:j=i
 ·subst hij
  rw[qaD hjl,hj]
  simp
 ·rw[qai hij]
  simp[hij]
def idx_app{k q:K3}(h:q≠k):∀l:List K3,(l++[k]).idxOf? q=l.idxOf? q
 | []=>by
  rw[qaG,qc2,if_neg (by simp;exact qbK h)]
  rfl
 |a :: l=>by rw[qaI,qc2,qc2,idx_app h l]
def bump3{ps:List (K3×Nat)}{k:K3}{j n:Nat}(hi:((cM k ps).map (·.1)).idxOf? k=some j)(q:K3):cnt3 ((cM k ps).set j (k,n)) q=if q=k then n else cnt3 ps q:=by
 obtain⟨m,hj⟩:=tu hi
 have hjl:=be hj
 have hk:((cM k ps).set j (k,n)).map (·.1)=(cM k ps).map (·.1):=by
  rw[qdD]
  refine oB ?_
  rw[qat,hj];rfl
 unfold cnt3
 rw[hk]
 by_cases hq:q=k
 ·subst hq
  rw[hi,if_pos rfl]
  simp only
  rw[qaD hjl];rfl
 ·rw[if_neg hq]
  have e1:((cM k ps).map (·.1)).idxOf? q=(ps.map (·.1)).idxOf? q:=by
   unfold cM
   split
   ·rfl
   ·rw[qbJ]
    exact idx_app hq _
  rw[e1]
  cases hi2:(ps.map (·.1)).idxOf? q with
  |none=>rfl
  |some i=>
   obtain⟨m2,h2⟩:=tu hi2
   simp only
   have hij:j≠i:=by
    rintro rfl
    rw[←e1]at hi2
    obtain⟨m3,h3⟩:=tu hi2
    rw[hj]at h3
    cases h3
    exact hq rfl
   rw[qai hij]
   unfold cM
   split
   ·rfl
   ·rw[qaf (be h2)]
end
end Sx
end Go.Am
set_option maxRecDepth 100000
set_option maxHeartbeats 8000000
namespace Go.Am
open Sx Go.Proofs
def MaxC(L:List Cl)(m:Nat):Prop:=(∀k,L.count k<=m)/\(m=0∨∃k∈L,L.count k=m)
def MaxC.nil:MaxC [] 0:=⟨λk=>by simp,.inl rfl⟩
def MaxC.eq{L:List Cl}{m n:Nat}(h:MaxC L m)(h':MaxC L n):m=n:=by
 have key:∀ {a b:Nat},MaxC L a->MaxC L b->a<=b:=λ{a b} ha hb=>by
  rcases ha.2 with e|⟨k,_,hk⟩
  ·omega
  ·have:=hb.1 k;omega
 have:=key h h';have:=key h' h;omega
def MaxC.snoc{L:List Cl}{m:Nat}(h:MaxC L m)(c:Cl):MaxC (L++[c]) (max m (L.count c+1)):=by
 have hc:∀k,(L++[c]).count k=if k=c then L.count c+1 else L.count k:=λk=>by
  rw[qdl,qc5]
  by_cases e:k=c
  ·subst e;simp
  ·rw[if_neg e,if_neg (by simpa using qbK e)];omega
 refine⟨λk=>?_,.inr ?_⟩
 ·rw[hc]
  have:=h.1 k
  split<;>omega
 ·by_cases hm:m<=L.count c+1
  ·exact⟨c,by simp,by rw[hc,if_pos rfl];omega⟩
  ·rcases h.2 with e|⟨k,hk,hkm⟩
   ·omega
   ·have hne:k≠c:=λe=>by subst e;omega
    exact⟨k,by simp[hk],by rw[hc,if_neg hne];omega⟩
def dep_c{w v t a b:Int}{x lx ix:Value}{H h1:HL}(hx:aP x=true)(hb:BothC [.i w,.i v,.v x,.i t,.i a,.i b] H lx ix 0 h1){I:List Cl}(hI:Ful h1 ix 3 aD I)(hn:I.length<=1000) :
  ∃m G,MaxC I m/\aw cc ac 23 [.i w,.i v,.v x,.i t,.i a,.i b] (absH aa H) [.i (.ofNat m),.i 0] (absH aa (h1++G)):=by
 have hi:=ik hx hb
 obtain⟨rs,h',hc,m,G,rfl,rfl,hm⟩:=x23 (ls:=[.i w,.i v,.v x,.i t,.i a,.i b]) (K:=λrs h'=>∃(m:Nat) (G:HL),rs=[.i (.ofNat m),.i 0]/\h'=h1++G/\MaxC I m) (H:=H) (glsI (glsI (glsV hx (glsI (glsI (glsI gls0)))))) (by
  unfold f23;simp only[qxh]
  simp(disch:=omega)only[↓qXX]
  refine ai hi ?_
  simp(disch:=omega)only[↓qXX]
  have hL:=hI.ls bF
  refine bM hL ?_
  refine bW (σ:=Nat×List (K3×Nat)) I.length (λj s=>[.i (Int.ofNat s.1),.i (Int.ofNat j)]) (λ_ s=>h1++[HO.o (.map (ent3 s.2) s.2.length)]) (λj s=>MaxC (I.take j) s.1/\∀k,cnt3 s.2 k=(I.take j).count k) (j0:=0) (s0:=(0,[])) rfl rfl (qaW _) ⟨by simpa using MaxC.nil,λk=>by simp[cnt3]⟩ ?_
  rintro j ⟨m,ps⟩ hj ⟨hm,hps⟩ self hself
  simp only at hm hps hself ⊢
  simp(disch:=omega)only[↓qXX]
  by_cases hlt:j<I.length
  ·rw[aS hlt]
   simp(disch:=omega)only[↓qXX]
   obtain⟨c,hc⟩:=bn hlt
   refine bi (hL.pre ⟨_,rfl⟩) rfl hc ?_
   unfold aD
   simp(disch:=omega)only[↓qXX]
   have ht:I.take (j+1)=I.take j++[c]:=by rw[qa6,hc];rfl
   refine eu (lu3 (C:=cc) (T:=aa) (by kernel_rfl) (by kernel_rfl) bA c) ?_
   simp(disch:=omega)only[↓qXX]
   have hb1:(I.take j).count c<=1000:=qbw List.count_le_length (by rw[qaJ];omega)
   rw[hps c,ce (by omega)]
   obtain⟨i,m0,g1,g2,g3⟩:=me3 (C:=cc) (T:=aa) (by kernel_rfl) (by kernel_rfl) (n:=(h1++[HO.o (.map (ent3 ps) ps.length)]).length) bA c
   refine cO g3 ?_
   have e1:bI (h1++[HO.o (.map (ent3 ps) ps.length)]) [.set h1.length (.map (ent3 (cM c ps)) (cM c ps).length)]=h1++[HO.o (.map (ent3 (cM c ps)) (cM c ps).length)]:=mJ
   rw[e1]
   simp(disch:=omega)only[↓qXX]
   have g4:=es3 (T:=aa) (h:=h1++[HO.o (.map (ent3 (cM c ps)) (cM c ps).length)]) (id:=h1.length) (n:=(h1++[HO.o (.map (ent3 (cM c ps)) (cM c ps).length)]).length) bA g1 (m':=(I.take j).count c+1)
   refine cO g4 ?_
   have hb3:=bump3 (n:=(I.take j).count c+1) g2
   generalize hps':(cM c ps).set i (c,(I.take j).count c+1)=ps' at *
   have e2:bI (h1++[HO.o (.map (ent3 (cM c ps)) (cM c ps).length)]) [.set h1.length (.map (ent3 ps') ps'.length)]=h1++[HO.o (.map (ent3 ps') ps'.length)]:=mJ
   rw[e2]
   refine eu (lu3 (C:=cc) (T:=aa) (by kernel_rfl) (by kernel_rfl) bA c) ?_
   simp(disch:=omega)only[↓qXX]
   have hcc:cnt3 ps' c=(I.take j).count c+1:=by rw[hb3,if_pos rfl]
   rw[hcc]
   have fin:self [.i (Int.ofNat (max m ((I.take j).count c+1))),.i (Int.ofNat j+1)] (h1++[HO.o (.map (ent3 ps') ps'.length)]):=hself (max m ((I.take j).count c+1),ps') hlt ⟨by rw[ht];exact hm.snoc c,λk=>by
    rw[ht,qdl,qc5,hb3,hps]
    by_cases e:k=c
    ·subst e;simp
    ·rw[if_neg e,if_neg (by simpa using qbK e)];rfl⟩
   by_cases hlm:m<(I.take j).count c+1
   ·rw[aS hlm]
    simp(disch:=omega)only[↓qXX]
    rw[ce (by omega)]
    rw[Nat.max_eq_right (by omega)]at fin
    exact fin
   ·rw[aY (by omega)]
    simp(disch:=omega)only[↓qXX]
    rw[ce (by omega)]
    rw[Nat.max_eq_left (by omega)]at fin
    exact fin
  ·obtain rfl:j=I.length:=by omega
   rw[aY (qan _)]
   simp(disch:=omega)only[↓qXX]
   rw[qbh]at hm
   exact⟨m,_,rfl,rfl,hm⟩)
 exact⟨m,G,hm,hc⟩
end Go.Am
set_option maxRecDepth 100000
namespace Go.Am
open Sx Go.Proofs Go.Shelf Go.Lib Go.Sort
section
variable [Val]
def wr_below [Glo]{C:Cfg}{base:Nat}{mu:HMap}{H:List HObj}{w w':World}(h:WR C base mu H w)(hb:Go.RowKit.Below w.heap.size w w')(hd:w.drawn<=w'.drawn):WR C base mu H w'/\Evo H mu w H mu w':=by
 refine⟨⟨λid o h1 h2=>?_,h.inj,h.own,h.ro,h.dom,λg vs hg=>?_⟩,⟨qan _,λ_ _=>rfl,hb.size,λb hb' _=>hb.block b hb',λb h=>.inr h,hb.os,hb.tape,hb.output,hd⟩⟩
 ·obtain⟨p,h3,h4⟩:=h.obj id o h1 h2
  exact⟨p,h3,by rw[hb.block _ (iV h2 h4)];exact h4⟩
 ·obtain⟨h1,h2,c,e,fr,h3,h4⟩:=h.glob g vs hg
  exact⟨h1,h2,c,e,fr,by rw[hb.block _ (qaE.1 h3).1];exact h3,h4⟩
def yX{W w':World}(h1:w'.os=W.os)(h2:w'.tape=W.tape)(h3:w'.output=W.output)(h4:W.drawn<=w'.drawn)(h5:W.heap.size<=w'.heap.size)(h6:∀b,b<W.heap.size->w'.heap[b]?=W.heap[b]?):∃q os',w'=grow (W.drewN q) os':=by
 refine⟨w'.drawn - W.drawn,w'.heap.extract W.heap.size w'.heap.size,?_⟩
 have e:w'.heap=W.heap++w'.heap.extract W.heap.size w'.heap.size:=by
  apply qcF
  intro i
  rw[Array.getElem?_append]
  split
  next hi=>exact h6 i hi
  next hi=>
   rw[Array.getElem?_extract]
   split
   ·congr 1;omega
   ·rw[qa9 (by omega)]
 obtain⟨hp,tp,dr,os,out⟩:=w'
 simp only at h1 h2 h3 h4 e
 subst h1 h2 h3
 unfold grow World.drewN
 simp only
 rw[←e,show W.drawn+(dr - W.drawn)=dr by omega]
def wy{α:Type} [Inhabited α]{enc:α->List Value}{e:Nat}(hk:∀x,(enc x).length=e){l:List α}{t:Nat}(ht:t<l.length*e):(l.flatMap enc)[t]?=some (Go.Sort.flatK enc e l.toArray)[t]!:=by
 rw[Go.Sort.get_flatK enc e l.toArray t (by simpa using ht)]
 have he:0<e:=by
  rcases qcJ e with h|h
  ·subst h;simp at ht
  ·exact h
 have hq:t / e<l.length:=Nat.div_lt_of_lt_mul (by rw[Nat.mul_comm];exact ht)
 have h1:=ko (e:=e) (enc:=enc) (l:=l) (λa _=>hk a) (i:=t / e) (a:=l[t / e]) (qar hq)
 have hr:=qb2 t he
 have e1:t=t / e*e+t%e:=by rw[Nat.mul_comm];exact(Nat.div_add_mod t e).symm
 have h2:((l.flatMap enc).drop (t / e*e))[t%e]?=(enc l[t / e])[t%e]?:=by
  rw[←h1,qa1,if_pos hr]
 rw[qa0,←e1]at h2
 rw[h2]
 have h3:(l.toArray)[t / e]! = l[t / e]:=by simp[hq]
 rw[h3,qar (by rw[hk];exact hr),List.getElem!_eq_getElem?_getD,qar (by rw[hk];exact hr)]
 rfl
def holds_of{α:Type} [Inhabited α]{enc:α->List Value}{e:Nat}(hk:∀x,(enc x).length=e)(hs:∀x,∀v∈enc x,Am.scalar v=true) [Glo]{mu:HMap}{p:Pl}{w:World}{l:List α}(hr:objR mu p w.heap[p.b]? (.cells (l.flatMap enc) e true)):HoldsK enc e w p.b p.o l.toArray:=by
 obtain⟨_,_,_,c,t,fr,h4,h5,h6,h7⟩:=hr
 obtain rfl:=h6 rfl
 intro j hj
 rw[Go.Sort.size_flatK]at hj
 have h1:=wy (enc:=enc) hk (l:=l) (t:=j) (by simpa using hj)
 obtain⟨v',h8,h9⟩:=h7 j _ h1
 have hsc:Am.scalar (Go.Sort.flatK enc e l.toArray)[j]! = true:=by
  have hm:=qag h1
  obtain⟨a,_,ha⟩:=qbd.1 hm
  exact hs a _ ha
 have:=bv hsc h9
 subst this
 exact⟨by simp[World.cell?,h4,h8],by simp[World.frozen?,h4]⟩
def yT{C:Cfg}{base:Nat}{mu:HMap}{H:List HObj}{w:World} [Glo](hW:WR C base mu H w){α:Type} [Inhabited α]{enc:α->List Value}{e:Nat}(hk:∀x,(enc x).length=e)(hs:∀x,∀v∈enc x,Am.scalar v=true){id:Nat}{p:Pl}{l l':List α}
  (hid:H[id]?=some (.cells (l.flatMap enc) e true)) (hp:mu id=some p) (hl:l'.length=l.length) (n:Nat) (os:Array Obj) :
  WR C base mu (H.set id (.cells (l'.flatMap enc) e true)) (sortWorldK enc e w p.b p.o n l'.toArray os)/\Evo H mu w (H.set id (.cells (l'.flatMap enc) e true)) mu (sortWorldK enc e w p.b p.o n l'.toArray os):=by
 obtain⟨p',hp',hr⟩:=hW.obj id _ hid rfl
 rw[hp]at hp'
 cases hp'
 obtain⟨h1,h2,h3,c,t,fr,h4,h5,h6,h7⟩:=hr
 have hll:(l'.flatMap enc).length=l'.length*e:=aR λa _=>hk a
 have hl0:(l.flatMap enc).length=l.length*e:=aR λa _=>hk a
 have hset:=hW.set (w':=Go.Sort.putRowK enc e (Go.Sort.ahead w n) p.b p.o l'.toArray) (x:=.cells (Go.Sort.putCells (λv:Value=>v) p.o (Go.Sort.flatK enc e l'.toArray) c) t fr) hid rfl hp (by
   apply qcF
   intro i
   show(w.heap.modify p.b _)[i]?=_
   rw[qcT,qbe]
   split
   next hi=>
    subst hi
    rw[h4,if_pos (qaE.1 h4).1]
    rfl
   ·rfl) rfl rfl rfl (.cells (l'.flatMap enc) e true) (λ_=>rfl) ⟨h1,by rw[hll,hl,←hl0];exact h2,by
    rw[qab]
    intro v hv
    obtain⟨a,_,ha⟩:=qbd.1 hv
    exact eA (hs a v ha),_,t,fr,rfl,by simp[Go.Sort.putCells,h5],h6,λi v hv=>by
    have hi:i<l'.length*e:=by rw[←hll];exact(qaQ.1 hv).1
    have hF:=wy (enc:=enc) hk (l:=l') hi
    rw[hv]at hF
    obtain⟨u,hu⟩ : ∃u,c[p.o+i]?=some u:=⟨c[p.o+i]'(by rw[h5];rw[hl0]at h2;rw[hl]at hi;omega),qbl _⟩
    refine⟨v,?_,?_⟩
    ·simp only[Go.Sort.putCells,Array.getElem?_mapIdx,hu,qaz]
     rw[if_pos ⟨by omega,by rw[Go.Sort.size_flatK];simpa using hi⟩,show p.o+i - p.o=i by omega,←qap hF]
    ·obtain⟨a,_,ha⟩:=qbd.1 (qag hv)
     exact .scalar (hs a v ha)⟩ (qdr _ _)
 obtain⟨a1,a2⟩:=hset
 obtain⟨b1,b2⟩:=wr_below (w':=sortWorldK enc e w p.b p.o n l'.toArray os) a1 ⟨rfl,rfl,rfl,by unfold sortWorldK grow;simp,λk hk=>by
  unfold sortWorldK grow
  simp only
  rw[qcv hk]⟩ (qan _)
 exact⟨b1,a2.trans b2⟩
def cmp_lays{C:Cfg}(hG:∀g vs,C.G g=some vs->vs.all gfl=true){α:Type} [Inhabited α]{enc:α->List Value}{e:Nat}{cf:α->α->Int}{g:FuncId}(hs:∀x,∀v∈enc x,Am.scalar v=true)
  (hc:∀x y,cX C g [.agg ⟨enc x⟩,.agg ⟨enc y⟩] [] (.int .i64 (cf x y)) []) [glo:Glo] {base:Nat} {mu:HMap} {H:List HObj} {w:World} (hW:WR C base mu H w) {blk:Nat} (hblk:base<=blk) (off n:Nat):CmpLays C.P g #[] enc e cf blk off n w:=by
 intro m os dk _ x y cs
 have hsame:∀b t,b<base->w.heap[b]?=some t->(sortWorldK enc e w blk off m dk os).heap[b]?=some t:=λb t hb' ht=>by
  unfold sortWorldK grow
  simp only
  rw[qcv (by rw[show(Go.Sort.putRowK enc e (Go.Sort.ahead w m) blk off dk).heap.size=w.heap.size from Go.Sort.size_putRow _ _ _ _ _];exact(qaE.1 ht).1)]
  show(w.heap.modify blk _)[b]?=_
  rw[qcT,if_neg (by omega)]
  exact ht
 generalize sortWorldK enc e w blk off m dk os=W at *
 have hW0:WR C W.heap.size (λ_=>none) [] W:=
  ⟨λid o h=>by simp at h,λi j oi oj pi pj h=>by simp at h,λi o p h=>by simp at h,λi o p h=>by simp at h,λ_ _=>rfl,λg vs hg=>by
   obtain⟨h1,h2,c,t,fr,h3,h4⟩:=hW.glob g vs hg
   have h5:=hsame _ _ h1 h3
   exact⟨(qaE.1 h5).1,h2,c,t,fr,h5,ii (hG g vs hg) h4⟩⟩
 have hag:∀x:α,VR noL (λ_=>none) (.agg ⟨enc x⟩) (.agg ⟨enc x⟩):=λx=>.agg rfl λi u v hu hv=>by
  rw[hu]at hv
  cases hv
  exact .scalar (hs x u (qag (by simpa using hu)))
 obtain⟨v,mu',w',a1,a2,a3,a4,fr,b1,b2,b3⟩:=hc x y glo W.heap.size (λ_=>none) W #[.agg (enc x).toArray,.agg (enc y).toArray] (qan _) (VRs.cons (hag x) (VRs.cons (hag y) .nil)) hW0 cs
 rw[show(#[Value.agg (enc x).toArray,Value.agg (enc y).toArray] ++ #[]) = #[Value.agg (enc x).toArray,Value.agg (enc y).toArray]by simp]
 exact⟨.returned v,w',fr,⟨by rw[bv rfl a1],yX a3.os a3.tape a3.output a3.dr a3.size λb hb=>a3.keep b hb no_own⟩,b1,b2,b3⟩
def srt{α:Type} [Inhabited α](cf:α->α->Int)(l:List α):List α:=(pdq (ltOf cf) l.toArray 0 l.length (Lib.bitLen l.length) true true).toList
def uH{α:Type} [Inhabited α]{cf:α->α->Int}(hO:SWO (ltOf cf))(l:List α):PermIn 0 l.length l.toArray (srt cf l).toArray/\SortedIn (ltOf cf) 0 l.length (srt cf l).toArray:=by
 have h:=pdq_sorts (ltOf cf) hO l.toArray 0 l.length (Lib.bitLen l.length) true true (qaW _) (by simp) (Or.inl rfl)
 unfold srt
 simpa using h
def srt_perm{α:Type} [Inhabited α]{cf:α->α->Int}(hO:SWO (ltOf cf))(l:List α):(srt cf l).Perm l:=by
 have h:=(uH hO l).1.2.2
 have hl:(srt cf l).length=l.length:=by
  have:=(uH hO l).1.1
  simpa using this
 simpa[List.extract_eq_take_drop,hl,qaO]using h
def srt_pair{α:Type} [Inhabited α]{cf:α->α->Int}(hO:SWO (ltOf cf))(l:List α):(srt cf l).Pairwise λx y=>ltOf cf y x=false:=by
 have hl:(srt cf l).length=l.length:=by
  have:=(uH hO l).1.1
  simpa using this
 rw[qdk]
 intro i j hi hj hij
 have h:=(uH hO l).2 i j (qaW _) hij (by omega)
 simpa[hi,hj]using h
def vO{C:Cfg}(hG:∀g vs,C.G g=some vs->vs.all gfl=true){ρ:Ren}(L:SlLaysF0.n6 C.P ρ){α:Type} [Inhabited α]{enc:α->List Value}{e:Nat}(aE:∀w,(isAgg (ρ.t 24)).run C.P w = .ok true w)(zE:∀w,(Go.sizeOf (ρ.t 24)).run C.P w = .ok e w)
  (hk:∀x,(enc x).length=e) (hs:∀x,∀v∈enc x,Am.scalar v=true) {cf:α->α->Int} (hO:SWO (ltOf cf)) {g:FuncId} (eg:∀args w,(callFunc g args).run C.P w = .ok (.enter g args) w)
  (hc:∀x y,cX C g [.agg ⟨enc x⟩,.agg ⟨enc y⟩] [] (.int .i64 (cf x y)) []) {H:List HObj} {id n cx:Nat} {l:List α} (hid:H[id]?=some (.cells (l.flatMap enc) e true)) (hn:n=l.length) (h0:0<n) (hl:n<4611686018427387904) :
  cX C (ρ.f 6) [.slice (some ⟨id,0,tag e⟩) n cx,.func (.func g) ⟨[]⟩ ⟨[]⟩] H (.tuple #[]) (H.set id (.cells ((srt cf l).flatMap enc) e true)):=by
 subst hn
 intro glo base mu w args' hb hargs hW cs
 obtain⟨v1,vs1,h1,h2,h3⟩:=hargs.uncons
 obtain⟨v2,vs2,rfl,h5,h6⟩:=h3.uncons
 obtain rfl:=h6.unnil
 have hargs':args' = #[v1,v2]:=qa7.1 h1
 subst hargs'
 obtain⟨p,cap,hp,rfl⟩ : ∃p cap,mu id=some p/\v1 = .slice (some ⟨p.b,p.o,none⟩) l.length cap:=by
  clear hid hl
  generalize l.length=N at *
  cases h2 with
  |scalar h=>simp[Am.scalar]at h
  |hslice h hr hl' hx=>exact⟨_,_,h,rfl⟩
  |hslice0 hx=>omega
 obtain⟨a',b',rfl,ha,hb'⟩ : ∃a' b',v2 = .func (.func g) a' b'/\a'.size=0/\b'.size=0:=by
  cases h5 with
  |scalar h=>simp[Am.scalar]at h
  |func hf ha hb _ _=>exact⟨_,_,rfl,ha.symm,hb.symm⟩
 obtain rfl:=qcS ha
 obtain rfl:=qcS hb'
 obtain⟨p',hp',hr⟩:=hW.obj id _ hid rfl
 rw[hp]at hp'
 cases hp'
 have hcon:=AnyQ.slices_SortFunc_eq L e aE zE enc hk (λx v hv=>by
  have:=hs x v hv
  unfold Am.scalar at this
  split at this<;>first|rfl|cases this) cf hO g #[] p.b p.o cap l.toArray w eg (cmp_lays hG hs hc hW (hW.own id _ p hid rfl hp) p.o l.toArray.size) (holds_of hk hs hr) (iV rfl hr) (by simpa using hl)
 obtain⟨e',w',fr,⟨rfl,n,os,rfl⟩,b1,b2,b3⟩:=hcon cs
 have hlen:(srt cf l).length=l.length:=by
  have:=(uH hO l).1.1
  simpa using this
 obtain⟨c1,c2⟩:=yT (l':=srt cf l) hW hk hs hid hp hlen n os
 have e2:(pdq (ltOf cf) l.toArray 0 l.toArray.size (Lib.bitLen l.toArray.size) true true)=(srt cf l).toArray:=by simp[srt]
 rw[e2]at b1 b3
 exact⟨.tuple #[],mu,_,.tuple (by simp) rfl (λi x y h=>by simp at h),c1,c2,L.f6.enters rfl _ _,fr,b1,b2,b3⟩
end
def renS:Ren:=⟨fun|6=>79|15=>122|14=>121|28=>151|29=>152|20=>143|21=>144|22=>145|23=>146|24=>147|25=>148|26=>149|27=>150|46=>177|47=>178|48=>179|49=>180|50=>181|57=>191|n=>n,
 fun|22=>51|24=>66|25=>158|39=>209|53=>250|55=>252|46=>243|45=>242|50=>247|66=>275|70=>279|76=>288|77=>152|n=>n,λn=>n⟩
def nmOf(P:Program)(f:FuncId):String:=match P.funcs[f]? with
 |some g=>g.name
 |none => ""
def bears_of {P:Program} {f:FuncId} {B:Func} (h1:(nmOf P f == "runtime.NumGoroutine")=false) (h2:P.funcs[f]?=some { B with name:=nmOf P f }):Bears P f B:=⟨_,h1,h2⟩
def layS:SlLaysF0.n6 Tryz.prog renS:=by
 constructor
 all_goals first
  |kernel_rfl
  |exact bears_of (by kernel_rfl) (by kernel_rfl)
  |exact λ_=>by kernel_rfl
end Go.Am
namespace Go.Am
namespace Sx
open Go.ChangeShapes Go.WideShapes Go.ChangeAt Go.WideMaps Go.WideElems Go.RowKit
def FitC:List LK->List Value->Prop
 | [],[]=>True
 | .i k :: ks,v :: vs=>(∃n,v = .int k n/\(Lit.int k n).wf=true)/\FitC ks vs
 | .b :: ks,v :: vs=>(∃t,v = .bool t)/\FitC ks vs
 |_,_=>False
def FitL:List LK->List Lf->Prop
 | [],[]=>True
 | .i k :: ks,.i n :: ls=>(Lit.int k n).wf=true/\FitL ks ls
 | .b :: ks,.b _ :: ls=>FitL ks ls
 |_,_=>False
def FitC.len:∀ {ks:List LK} {vs:List Value},FitC ks vs->vs.length=ks.length
 | [],[],_=>rfl
 | .i k :: ks,v :: vs,h=>by simp[FitC.len h.2]
 | .b :: ks,v :: vs,h=>by simp[FitC.len h.2]
 | .v :: _,_,h=>by cases h
 | [],_ :: _,h=>by cases h
 | .i _ :: _,[],h=>by cases h
 | .b :: _,[],h=>by cases h
def FitC.app:∀ {ks ks':List LK} {vs vs':List Value},FitC ks vs->FitC ks' vs'->FitC (ks++ks') (vs++vs')
 | [],_,[],_,_,h=>h
 | .i k :: ks,_,v :: vs,_,h,h'=>⟨h.1,FitC.app h.2 h'⟩
 | .b :: ks,_,v :: vs,_,h,h'=>⟨h.1,FitC.app h.2 h'⟩
 | .v :: _,_,_,_,h,_=>by cases h
 | [],_,_ :: _,_,h,_=>by cases h
 | .i _ :: _,_,[],_,h,_=>by cases h
 | .b :: _,_,[],_,h,_=>by cases h
def FitL.app:∀ {ks ks':List LK} {vs vs':List Lf},FitL ks vs->FitL ks' vs'->FitL (ks++ks') (vs++vs')
 | [],_,[],_,_,h=>h
 | .i k :: ks,_,.i v :: vs,_,h,h'=>⟨h.1,FitL.app h.2 h'⟩
 | .b :: ks,_,.b v :: vs,_,h,h'=>FitL.app (ks:=ks) h h'
 | .v :: _,_,_,_,h,_=>by cases h
 | [],_,_ :: _,_,h,_=>by cases h
 | .i _ :: _,_,[],_,h,_=>by cases h
 | .b :: _,_,[],_,h,_=>by cases h
 | .i _ :: _,_,.b _ :: _,_,h,_=>by cases h
 | .i _ :: _,_,.v _ :: _,_,h,_=>by cases h
 | .b :: _,_,.i _ :: _,_,h,_=>by cases h
 | .b :: _,_,.v _ :: _,_,h,_=>by cases h
def FitC.sl:∀ {ks:List LK} {vs:List Value},FitC ks vs->∃xs:List SL,xs.map SL.val=vs/\aQ xs ks=true/\(∀x∈xs,x.good)/\FitL ks (xs.map SL.lf)
 | [],[],_=>⟨[],rfl,rfl,λ_ h=>(by cases h),trivial⟩
 | .i k :: ks,v :: vs,h=>by
  obtain⟨⟨n,rfl,hw⟩,h2⟩:=h
  obtain⟨xs,a,b,c,d⟩:=FitC.sl h2
  exact⟨.i k n :: xs,by simp[a,SL.val],by simp[aQ,b,SL.is,dL],λx hx=>by
   rcases qak.1 hx with rfl|hx
   ·trivial
   ·exact c x hx,hw,d⟩
 | .b :: ks,v :: vs,h=>by
  obtain⟨⟨n,rfl⟩,h2⟩:=h
  obtain⟨xs,a,b,c,d⟩:=FitC.sl h2
  exact⟨.b n :: xs,by simp[a,SL.val],by simp[aQ,b,SL.is],λx hx=>by
   rcases qak.1 hx with rfl|hx
   ·trivial
   ·exact c x hx,d⟩
 | .v :: _,_,h=>by cases h
 | [],_ :: _,h=>by cases h
 | .i _ :: _,[],h=>by cases h
 | .b :: _,[],h=>by cases h
def flatF(F:TypeId->Option (List LK)):List Field->Nat->Option (List LK)
 | [],_=>some []
 |f :: fs,off=>match Nat.beq f.offset off,F f.type with
  |true,some ks=>(flatF F fs (off+ks.length)).map (ks ++ ·)
  |_,_=>none
def flatT(P:Program):Nat->TypeId->Option (List LK)
 |0,_=>none
 |d+1,t=>match P.underlying t with
  |some (.int k)=>some [.i k]
  |some .bool=>some [.b]
  |some (.struct fs)=>match flatF (flatT P d) fs.toList 0 with
   |some ks=>match Nat.beq ks.length (P.cellsOf t)with
    |true=>some ks
    |false=>none
   |none=>none
  |_=>none
section
variable {H:Type} {enc:TypeId×Value->H} {P:Program}
def jM{α:Type}(l:List α)(c:Nat):l.take (l.take c).length=l.take c:=by
 rw[qaJ]
 rcases Nat.le_total c l.length with h|h
 ·rw[qb0 h]
 ·rw[qds h,qaO h,qaO (qan _)]
def wx{F:TypeId->Option (List LK)}{w:World}{base:Nat}{sp:Nat->Bool}{held:Bool}{fuel:Nat}
  (hF:∀t ks,F t=some ks->∀cs (x:DataW H×List MemPlace),DataW.trod enc P w base sp held fuel t cs=some x->x.2=[]/\FitC ks cs/\∀w' b' s' h',DataW.trod enc P w' b' s' h' fuel t cs=some x) (cs:List Value) :
  ∀(fs:List Field) (off:Nat) (ks:List LK) (xs:List (DataW H×List MemPlace)),flatF F fs off=some ks->fs.mapM (λf=>DataW.trod enc P w base sp held fuel f.type ((cs.drop f.offset).take (P.cellsOf f.type)))=some xs->
   xs.flatMap (·.2)=[]/\FitC ks ((cs.drop off).take ks.length)/\∀w' b' s' h',fs.mapM (λf=>DataW.trod enc P w' b' s' h' fuel f.type ((cs.drop f.offset).take (P.cellsOf f.type)))=some xs
 | [],off,ks,xs,h1,h2=>by
  simp only[flatF,qaA]at h1
  subst h1
  simp only[qdM,qdG,qaA]at h2
  subst h2
  refine⟨rfl,by simp[FitC],λ_ _ _ _=>by simp⟩
 |f :: fs,off,ks,xs,h1,h2=>by
  simp only[flatF]at h1
  split at h1
  next k1 e1 e2=>
   obtain⟨k2,e3,rfl⟩:=qae.1 h1
   have e1:=qac e1
   rw[qb6]at h2
   obtain⟨x,h3,h2⟩:=qas.1 h2
   obtain⟨ys,h4,h2⟩:=qas.1 h2
   cases h2
   obtain⟨a1,a2,a3⟩:=hF _ _ e2 _ _ h3
   obtain⟨b1,b2,b3⟩:=wx hF cs fs _ k2 ys e3 h4
   refine⟨by simp[a1,b1],?_,λw' b' s' h'=>?_⟩
   ·rw[qay,qdN]
    refine FitC.app ?_ (by rw[qbY];exact b2)
    have hl:=FitC.len a2
    rw[e1]at a2 hl
    rw[←hl,jM]
    exact a2
   ·rw[qb6,a3 w' b' s' h',b3 w' b' s' h']
    rfl
  ·cases h1
def rh:∀(d:Nat) (t:TypeId) (ks:List LK),flatT P d t=some ks->∀(w:World) (base:Nat) (sp:Nat->Bool) (held:Bool) (fuel:Nat) (cs:List Value) (x:DataW H×List MemPlace),DataW.trod enc P w base sp held fuel t cs=some x->
  x.2=[]/\FitC ks cs/\∀w' b' s' h',DataW.trod enc P w' b' s' h' fuel t cs=some x
 |0,_,_,h=>by cases h
 |d+1,t,ks,h=>by
  intro w base sp held fuel cs x hx
  simp only[flatT]at h
  split at h
  next k e=>
   cases h
   obtain⟨n,rfl,rfl,hw⟩:=DataW.trod_int e hx
   refine⟨rfl,⟨⟨n,rfl,hw⟩,trivial⟩,λw' b' s' h'=>?_⟩
   cases fuel with
   |zero=>simp[DataW.trod]at hx
   |succ m=>simp[DataW.trod,e,hw]
  next e=>
   cases h
   obtain⟨n,rfl,rfl⟩:=DataW.trod_bool e hx
   refine⟨rfl,⟨⟨n,rfl⟩,trivial⟩,λw' b' s' h'=>?_⟩
   cases fuel with
   |zero=>simp[DataW.trod]at hx
   |succ m=>simp[DataW.trod,e]
  next fs e=>
   split at h
   next k2 e2=>
    split at h
    next e3=>
     cases h
     have e3:=qac e3
     cases fuel with
     |zero=>simp[DataW.trod]at hx
     |succ m=>
      simp only[DataW.trod,e]at hx
      split at hx
      next hl=>
       obtain⟨xs,h5,rfl⟩:=qae.1 hx
       obtain⟨a1,a2,a3⟩:=wx (λt ks h cs x hx=>rh d t ks h w base sp held m cs x hx) cs fs.toList 0 ks xs e2 h5
       rw[qbg,qaO (by omega)]at a2
       refine⟨a1,a2,λw' b' s' h'=>?_⟩
       simp only[DataW.trod,e,hl,if_true]
       rw[a3 w' b' s' h']
       rfl
      ·cases hx
    ·cases h
   ·cases h
  ·cases h
end
section
variable [Val]
end
end Sx
end Go.Am
namespace Go.Am
namespace Sx
def FitL.i{k:IntKind}{ks:List LK}{ls:List Lf}(h:FitL (.i k :: ks) ls):∃n r,ls = .i n :: r/\(Lit.int k n).wf=true/\FitL ks r:=by
 match ls,h with
 | .i n :: r,h=>exact⟨n,r,rfl,h.1,h.2⟩
def FitL.b{ks:List LK}{ls:List Lf}(h:FitL (.b :: ks) ls):∃n r,ls = .b n :: r/\FitL ks r:=by
 match ls,h with
 | .b n :: r,h=>exact⟨n,r,rfl,h⟩
def FitL.nil{ls:List Lf}(h:FitL [] ls):ls=[]:=by
 match ls,h with
 | [],_=>rfl
def wf_u8{n:Int}(h:(Lit.int .u8 n).wf=true):0<=n/\n<=255:=by
 simp only[Lit.wf,qaa,decide_eq_true_eq]at h
 exact h
def oI{H:Type}{enc:TypeId×Value->H}{P:Program}{w:World}{base:Nat}{sp:Nat->Bool}{held:Bool}:∀ {ts:List TypeId} {vs:List Value} {ds:List (DataW H)} {ps:List MemPlace},DataW.TrodAll enc P w base sp held ts vs ds ps->ds.length=ts.length
 | [],[],[],_,_=>rfl
 |_ :: _,_ :: _,_ :: _,_,h=>by
  obtain⟨p,q,_,h2,_⟩:=h
  simp[oI h2]
 | [],_ :: _,_,_,h=>by cases h
 | [],[],_ :: _,_,h=>by cases h
 |_ :: _,[],_,_,h=>by cases h
 |_ :: _,_ :: _,[],_,h=>by cases h
end Sx
end Go.Am
end

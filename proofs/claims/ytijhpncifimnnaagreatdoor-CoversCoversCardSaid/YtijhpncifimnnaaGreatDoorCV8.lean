/-
  PART 8 OF THE PROOF (no conditions).
-/
import Derived.Test.YtijhpncifimnnaaGreatDoorCV7
set_option linter.unusedSectionVars false
set_option linter.unusedSimpArgs false
set_option linter.unusedVariables false
set_option linter.constructorNameAsVariable false
set_option linter.defProp false
noncomputable section
set_option maxRecDepth 100000
set_option maxHeartbeats 16000000
namespace Go.Am
open Sx Go.Proofs Tw
namespace St
def cH(ws:List Nat)(i:Nat):Bool:=decide (i=0∨(ws[i - 1]?).getD 0<3)
def fz(z:Nat):Nat:=if z=3 then 1 else if z=4 then 2 else 0
def nxC(z:Nat)(c:Sq)(hd:Nat):Sq:=if z=1 then bes c hd else c
def nxH(z hd:Nat):Nat:=if z=1 then hd else if z=2 then(hd+2)%4 else if z=3 then(hd+1)%4 else(hd+3)%4
def wx{ws:List Nat}{i z:Nat}{laid:Bool}{c:Sq}{hd:Nat}(hz:ws[i]?=some z)(h4:1<=z/\z<=4)(a:K3) :
  a∈aW (ws.drop i) laid c hd↔(laid=true/\∃q,q∈bF (fz z)/\a=qc c hd q)∨a∈aW (ws.drop (i+1)) (cH ws (i+1)) (nxC z c hd) (nxH z hd):=by
 have e:ws.drop i=z :: ws.drop (i+1):=by
  have hlt:=aJ hz
  rw[qaY hlt]
  rw[qai hlt]at hz
  rw[qae hz]
 have hl:cH ws (i+1)=decide (z<3):=by
  unfold cH
  rw[qcr,hz]
  simp
 have hq:∀t,a∈(bF t).map (qc c hd)↔∃q,q∈bF t/\a=qc c hd q:=λt=>by
  rw[qaK]
  exact exists_congr λq=>and_congr_right λ_=>eq_comm
 have z4:z=1∨z=2∨z=3∨z=4:=by omega
 rw[e,hl]
 rw[aW,qas]
 refine or_congr ?_ ?_
 ·cases laid with
  |true=>rw[if_pos rfl];exact(hq _).trans ⟨λh=>⟨rfl,h⟩,λh=>h.2⟩
  |false=>rw[if_neg (by simp)];simp
 ·rcases z4 with rfl|rfl|rfl|rfl<;>exact Iff.rfl
def cells_end{ws:List Nat}{laid:Bool}{c:Sq}{hd:Nat}(a:K3):a∈aW (ws.drop ws.length) laid c hd↔laid=true/\∃q,q∈bF 0/\a=qc c hd q:=by
 rw[List.drop_length]
 unfold aW
 cases laid with
 |true=>
  rw[if_pos rfl,qaK]
  constructor
  ·rintro⟨q,h1,h2⟩
   exact⟨rfl,q,h1,h2.symm⟩
  ·rintro⟨_,q,h1,h2⟩
   exact⟨q,h1,h2.symm⟩
 |false=>rw[if_neg (by simp)];simp
def sY{t q:Nat}(h:q∈bF t):q<4:=by
 match t with
 |0=>simp[bF]at h;omega
 |1=>simp[bF]at h;omega
 |t+2=>simp[bF]at h;omega
def mn(z:Nat):List Value:=[.int .i64 (Int.ofNat z)]
def sa(z:Nat):(mn z).length=1:=rfl
def jc{h:HL}{i cx n:Nat}{l:List Nat}(hi:h[i]?=some (.o (.cells (l.flatMap mn) 1 true)))(hn:n=l.length):LsH h (.slice (some ⟨i,0,some 11⟩) n cx) 1 mn l:=by
 subst hn
 have hl:=aI (e:=1) (enc:=mn) (l:=l) λa _=>sa a
 exact⟨λa _=>sa a,hl,.inr ⟨i,0,cx,_,true,rfl,hi,Sx.cut_all hl⟩⟩
structure CvI(H:HL)(D:List K3)(ws:List Nat)(p0:Sq)(n:Int)(i:Nat)(s:Value×HL×List K3×Sq×Nat):Prop where
 ow:OwnL H.length s.2.1 s.1 3 cc3 s.2.2.1
 nd:s.2.2.1.Nodup
 sb:∀a∈s.2.2.1,a∈D
 hd:s.2.2.2.2<4
 bx:(-(n+i)<=s.2.2.2.1.1/\s.2.2.2.1.1<=n+i)/\(-(n+i)<=s.2.2.2.1.2/\s.2.2.2.1.2<=n+i)
 ce:∀a,a∈aW ws true p0 0↔a∈s.2.2.1∨a∈aW (ws.drop i) (cH ws i) s.2.2.2.1 s.2.2.2.2
 lo:Low H.length H s.2.1
 le:H.length<=s.2.1.length
structure CvQ(H:HL)(D out:List K3)(c:Sq)(hd t:Nat)(hq:HL)(qv:Value)(k:Nat)(v:Value)(h:HL)(o:List K3):Prop where
 ow:OwnL H.length h v 3 cc3 o
 nd:o.Nodup
 sb:∀a∈o,a∈D
 mm:∀a,a∈o↔a∈out∨∃q,q∈(bF t).take k/\a=qc c hd q
 lo:Low H.length H h
 le:H.length<=h.length
 qs:LsH h qv 1 mn (bF t)
 ne:∀j,Sx.blk qv=some j->Sx.blk v≠some j
def CvQ.skip{H:HL}{D out:List K3}{c:Sq}{hd t:Nat}{hq:HL}{qv:Value}{k:Nat}{v:Value}{h:HL}{o:List K3}(hI:CvQ H D out c hd t hq qv k v h o){q:Nat}(h1:(bF t)[k]?=some q)(hm:qc c hd q∈o):CvQ H D out c hd t hq qv (k+1) v h o:=
 ⟨hI.ow,hI.nd,hI.sb,λa=>by
  rw[hI.mm,qbw,h1]
  simp only[qcJ,qas,qap]
  constructor
  ·rintro(h|⟨q',h2,h3⟩)
   ·exact .inl h
   ·exact .inr ⟨q',.inl h2,h3⟩
  ·rintro(h|⟨q',h2|rfl,h3⟩)
   ·exact .inl h
   ·exact .inr ⟨q',h2,h3⟩
   ·rw[h3]
    exact(hI.mm _).1 hm,hI.lo,hI.le,hI.qs,hI.ne⟩
def CvQ.add{H:HL}{D out:List K3}{c:Sq}{hd t:Nat}{hq:HL}{qv:Value}{k:Nat}{v:Value}{h:HL}{o:List K3}(hI:CvQ H D out c hd t hq qv k v h o){q:Nat}(h1:(bF t)[k]?=some q)(hm:qc c hd q∉o)(hD:qc c hd q∈D){v':Value}{h':HL}
  (b1:OwnL H.length h' v' 3 cc3 (o++[qc c hd q])) (b3:∀(j:Nat) o,h[j]?=some o->Sx.blk v≠some j->h'[j]?=some o) (b4:h.length<=h'.length) (b5:Sx.blk v'=Sx.blk v∨∃j,Sx.blk v'=some j/\h.length<=j):CvQ H D out c hd t hq qv (k+1) v' h' (o++[qc c hd q]):=by
 refine⟨b1,?_,λa ha=>?_,λa=>?_,λj x hj hx=>b3 j x (hI.lo j x hj hx) λe=>?_,qbs hI.le b4,hI.qs.keep λj x hx hb=>b3 j x hx (hI.ne j hb),λj hj e=>?_⟩
 ·rw[qb5]
  refine⟨hI.nd,by simp,λa ha b hb=>?_⟩
  rw[qap]at hb
  subst hb
  exact λe=>hm (e▸ha)
 ·rcases qas.1 ha with ha|ha
  ·exact hI.sb a ha
  ·rw[qap]at ha
   exact ha▸hD
 ·rw[qas,hI.mm,qbw,h1,or_assoc]
  refine or_congr_right ?_
  simp only[qcJ,qas,qap]
  constructor
  ·rintro(⟨q',h2,h3⟩|rfl)
   ·exact⟨q',.inl h2,h3⟩
   ·exact⟨q,.inr rfl,rfl⟩
  ·rintro⟨q',h2|rfl,h3⟩
   ·exact .inl ⟨q',h2,h3⟩
   ·exact .inr h3
 ·have:=(hI.ow.blk e).1
  omega
 ·rcases b5 with b5|⟨i,b5,b6⟩
  ·exact hI.ne j hj (b5▸e)
  ·rw[b5]at e
   cases e
   have:=hI.qs.blkLt hj
   omega
def covered_c{H:HL}{x y:Value}{D:List K3}{ws:List Nat}{p:Sq}(hx:LsH H x 3 cc3 D)(hDn:D.length<=1000)(hp:(-1000<=p.1/\p.1<=1000)/\-1000<=p.2/\p.2<=1000)
  (hw:LsH H y 1 encS ws) (hok:∀z∈ws,1<=z/\z<=4) (hwn:ws.length<=1000) :
  ∃h' v b out,aK cc ab 8 [.v y,.i p.1,.i p.2,.i 0,.v x] (absH aa H) [.v v,.b b] (absH aa h')/\LsH h' v 3 cc3 out/\(b=true↔∀a∈aW ws true p 0,a∈D)/\(b=true->out.Nodup/\∀a,a∈out↔a∈aW ws true p 0)/\Low H.length H h'/\H.length<=h'.length:=by
 obtain⟨rs,h',e1,v,b,out,rfl,e2⟩:=x8 (ls:=[.v y,.i p.1,.i p.2,.i 0,.v x]) (H:=H) (K:=λrs h'=>∃v b out,rs=[.v v,.b b]/\LsH h' v 3 cc3 out/\(b=true↔∀a∈aW ws true p 0,a∈D)/\(b=true->out.Nodup/\∀a,a∈out↔a∈aW ws true p 0)/\Low H.length H h'/\H.length<=h'.length) (glsV hw.good (glsI (glsI (glsI (glsV hx.good gls0))))) (by
  unfold f8;simp only[qxh]
  simp(disch:=omega)only[↓qXX]
  refine cB (σ:=Value×HL×List K3×Sq×Nat) ws.length (λi s=>[.v s.1,.i s.2.2.2.1.1,.i s.2.2.2.1.2,.i (Int.ofNat s.2.2.2.2),.i (Int.ofNat i)]) (λ_ s=>s.2.1) (λi s=>CvI H D ws p 1000 i s) (j0:=0) (s0:=(.slice none 0 0,H,[],p,0)) rfl rfl (qaU _) ⟨OwnL.nil _ _ _ _,qda,(λa ha=>by cases ha),by show 0<4;omega,by simp only;omega,λa=>by simp[cH],Low.refl _,qah _⟩ ?_
  rintro i ⟨v,h,out,c,hd⟩ hi ⟨how,hnd,hsb,hhd,hbx,hce,hlow,hle⟩ self hself
  simp only at how hnd hsb hhd hbx hce hlow hle hself
  have hw':∀h',Low H.length H h'->LsH h' y 1 encS ws:=λh' hl=>hw.keep λj o ho hb=>hl j o (hw.blkLt hb) ho
  have hx':∀h',Low H.length H h'->LsH h' x 3 cc3 D:=λh' hl=>hx.keep λj o ho hb=>hl j o (hx.blkLt hb) ho
  simp(disch:=omega)only[↓qXX]
  refine be (hw' _ hlow) ?_
  rw[p_leq_t (by show(i:Int)<=(ws.length:Int);omega)]
  simp(disch:=omega)only[↓qXX]
  have lc:i=0∨(0<i/\∃a,ws[i - 1]?=some a/\(a<3∨3<=a)):=by
   by_cases h0:i=0
   ·exact .inl h0
   ·obtain⟨a,ha⟩:=aU (l:=ws) (i:=i - 1) (by omega)
    exact .inr ⟨by omega,a,ha,by omega⟩
  have zc:i=ws.length∨∃z,ws[i]?=some z/\(z=1∨z=2∨z=3∨z=4):=by
   by_cases e:i=ws.length
   ·exact .inl e
   ·obtain⟨z,hz⟩:=aU (l:=ws) (i:=i) (by omega)
    have:=hok z (qab hz)
    exact .inr ⟨z,hz,by omega⟩
  have hfail:∀h',Low H.length H h'->H.length<=h'.length->(∃a,a∈aW ws true p 0/\a∉D)->∃v b out,([.v (.slice none 0 0),.b false]:List Lf)=[.v v,.b b]/\LsH h' v 3 cc3 out/\(b=true↔∀a∈aW ws true p 0,a∈D)/\(b=true->out.Nodup/\∀a,a∈out↔a∈aW ws true p 0)/\Low H.length H h'/\H.length<=h'.length:=by
   rintro h' q1 q2 ⟨a,q3,q4⟩
   refine⟨_,_,[],rfl,LsH.nil _ 3 cc3,⟨λe=>(by cases e),λe=>absurd (e a q3) q4⟩,λe=>(by cases e),q1,q2⟩
  have hd4:∀q:Nat,q<4->(-9223372036854775808:Int)<=(hd:Int)+(q:Int)/\(hd:Int)+(q:Int)<=9223372036854775807:=λq hq=>by omega
  have inn:∀(t:Nat) (hq:HL) (qv:Value) (F:(List Lf->HL->Prop)->List Lf->HL->Prop),LsH hq qv 1 mn (bF t)->(∀j,Sx.blk qv=some j->h.length<=j)->Low h.length h hq->h.length<=hq.length->
    (∀k v' h' o',k<=(bF t).length->CvQ H D out c hd t hq qv k v' h' o'->∀self:List Lf->HL->Prop,(∀v'' h'' o'',k<(bF t).length->CvQ H D out c hd t hq qv (k+1) v'' h'' o''->self [.v v'',.i (Int.ofNat (k+1))] h'')->F self [.v v',.i (Int.ofNat k)] h')->
    P1.loop (@hid _ ⟨F⟩) [.v v,.i 0] hq:=by
   intro t hq qv F g1 g2 g3 g4 step
   refine cB (σ:=Value×HL×List K3) (bF t).length (λk s=>[.v s.1,.i (Int.ofNat k)]) (λ_ s=>s.2.1) (λk s=>CvQ H D out c hd t hq qv k s.1 s.2.1 s.2.2) (j0:=0) (s0:=(v,hq,out)) rfl rfl (qaU _) ?_ ?_
   ·exact⟨how.keep λj o ho hb=>g3 j o (aJ ho) ho,hnd,hsb,λa=>by simp,λj o hj hoo=>g3 j o (aJ (hlow j o hj hoo)) (hlow j o hj hoo),by show H.length<=hq.length;omega,g1,λj hj e=>by
     have:=g2 j hj
     have:=(how.blk e).2
     omega⟩
   ·rintro k ⟨v',h',o'⟩ hk hi self hs
    exact step k v' h' o' hk hi self λv'' h'' o'' a b=>hs (v'',h'',o'') a b
  have hlen:∀ {t k hq qv v' h' o'},CvQ H D out c hd t hq qv k v' h' o'->o'.length<=1000:=λhI=>qbs (cR hI.nd hI.sb) hDn
  have bQ:∀(m:Nat),h.length<=m->∀n cx j,Sx.blk (.slice (some ⟨m,0,some 11⟩) n cx)=some j->h.length<=j:=λm hm n cx j e=>by
   cases e
   exact hm
  rcases zc with e|⟨z,hz,hz4⟩
  ·subst e
   have hce':=λa=>(hce a).trans (or_congr_right (cells_end (c:=c) (hd:=hd) (laid:=cH ws ws.length) a))
   have hend:∀v' h' o',OwnL H.length h' v' 3 cc3 o'->o'.Nodup->(∀a∈o',a∈D)->(∀a,a∈o'↔a∈out∨(cH ws ws.length=true/\∃q,q∈bF 0/\a=qc c hd q))->Low H.length H h'->H.length<=h'.length->∃v b out,([.v v',.b true]:List Lf)=[.v v,.b b]/\LsH h' v 3 cc3 out/\(b=true↔∀a∈aW ws true p 0,a∈D)/\(b=true->out.Nodup/\∀a,a∈out↔a∈aW ws true p 0)/\Low H.length H h'/\H.length<=h'.length:=by
    intro v' h' o' q1 q2 q3 q4 q5 q6
    have q7:∀a,a∈o'↔a∈aW ws true p 0:=λa=>(q4 a).trans (hce' a).symm
    exact⟨_,_,o',rfl,q1.ls bK,⟨λ_ a ha=>q3 a ((q7 a).2 ha),λ_=>rfl⟩,λ_=>⟨q2,q7⟩,q5,q6⟩
   rcases lc with h0|⟨h0,a,ha,hlt|hge⟩
   rotate_left 2
   ·have hL:cH ws ws.length=false:=by
     unfold cH
     rw[decide_eq_false]
     rw[ha]
     simp only[qa8]
     omega
    rw[p_eql_f (by show((ws.length:Nat):Int)≠0;omega)]
    simp(disch:=omega)only[↓qXX]
    try rw[fj (by omega) (by omega)]
    try simp(disch:=omega)only[↓qXX]
    refine aS (hw' _ hlow) rfl ha ?_
    unfold encS
    simp(disch:=omega)only[↓qXX]
    rw[p_lss_f (by show(3:Int)<=(a:Int);omega)]
    simp(disch:=omega)only[↓qXX]
    refine be hw ?_
    rw[p_eql_t (by rfl)]
    simp(disch:=omega)only[↓qXX]
    exact hend v h out how hnd hsb (λa=>by rw[hL];simp) hlow hle
   all_goals
    have hL:cH ws ws.length=true:=by
     unfold cH
     rw[decide_eq_true]
     first
      |exact .inl h0
      |refine .inr ?_
       rw[ha]
       exact hlt
    first
     |rw[p_eql_t (by show((ws.length:Nat):Int)=0;omega)]
      simp(disch:=omega)only[↓qXX]
     |rw[p_eql_f (by show((ws.length:Nat):Int)≠0;omega)]
      simp(disch:=omega)only[↓qXX]
      try rw[fj (by omega) (by omega)]
      try simp(disch:=omega)only[↓qXX]
      refine aS (hw' _ hlow) rfl ha ?_
      unfold encS
      simp(disch:=omega)only[↓qXX]
      rw[p_lss_t (by show(a:Int)<3;omega)]
      simp(disch:=omega)only[↓qXX]
    refine be hw ?_
    rw[bb (qah _)]
    simp(disch:=omega)only[↓qXX]
    refine be hw ?_
    rw[bb (qah _)]
    simp(disch:=omega)only[↓qXX]
    have hsub:∀q,q∈bF 0->cH ws ws.length=true->qc c hd q∈aW ws true p 0:=λq hq hl=>(hce' _).2 (.inr ⟨hl,q,hq,rfl⟩)
    refine inn 0 _ _ _ (jc (cx:=5) (l:=bF 0) aQ rfl) (bQ _ (qah _) _ _) ((Low.refl h).app _) (by simp) ?_
    ·intro k v' h' o' hk hI self hs
     simp(disch:=omega)only[↓qXX]
     refine be hI.qs ?_
     have hol:=hlen hI
     by_cases hlt:k<(bF 0).length
     case pos=>
      rw[aP hlt]
      simp(disch:=omega)only[↓qXX]
      obtain⟨q,hq⟩:=aU hlt
      have hq4:=sY (qab hq)
      have hk4:k<4:=qbU hlt (by decide)
      refine aS hI.qs rfl hq ?_
      unfold mn
      simp(disch:=omega)only[↓qXX]
      have hqq:=hd4 q hq4
      first
       |rw[p_add (show(-9223372036854775808:Int)<=Int.ofNat hd+Int.ofNat q from hqq.1) hqq.2]
       |skip
      rw[show Int.ofNat hd+Int.ofNat q=Int.ofNat (hd+q)from rfl,aR (by omega),show Int.ofNat (hd+q)+1=Int.ofNat (hd+q+1)from rfl,rem4,p_conv8 (by show(0:Int)<=(((hd+q+1)%4:Nat):Int);omega) (by show(((hd+q+1)%4:Nat):Int)<=255;omega)]
      refine av (Go.Am.has_c (hx' _ hI.lo) (by omega) (qc c hd q) ⟨rfl,rfl,rfl⟩) ?_
      simp(disch:=omega)only[↓qXX]
      by_cases hDm:qc c hd q∈D
      case neg=>
       rw[decide_eq_false hDm]
       simp(disch:=omega)only[↓qXX,qbc]
       exact hfail h' hI.lo hI.le ⟨_,hsub q (qab hq) hL,hDm⟩
      rw[decide_eq_true hDm]
      simp(disch:=omega)only[↓qXX,qaG]
      refine av (Go.Am.has_c (hI.ow.ls bK) (by omega) (qc c hd q) ⟨rfl,rfl,rfl⟩) ?_
      simp(disch:=omega)only[↓qXX]
      by_cases hm:qc c hd q∈o'
      ·rw[decide_eq_true hm]
       simp(disch:=omega)only[↓qXX,qaG]
       rw[aR (by omega)]
       exact hs v' h' o' hlt (hI.skip hq hm)
      ·rw[decide_eq_false hm]
       simp(disch:=omega)only[↓qXX,qbc]
       refine hI.ow.ap1 (a:=qc c hd q) bK hI.le rfl rfl rfl (uy (by omega)) λv'' h'' b1 b2 b3 b4 b5=>?_
       simp(disch:=omega)only[↓qXX]
       refine aD b2 ?_
       simp(disch:=omega)only[↓qXX]
       rw[aR (by omega)]
       exact hs v'' h'' _ hlt (hI.add hq hm hDm b1 b3 b4 b5)
     have hk':k=(bF 0).length:=by omega
     rw[hk']at hI ⊢
     rw[bb (qah _)]
     simp(disch:=omega)only[↓qXX]
     have hmm:∀a,a∈o'↔a∈out∨(cH ws ws.length=true/\∃q,q∈bF 0/\a=qc c hd q):=λa=>(hI.mm a).trans (or_congr_right (by rw[qbn,hL];simp))
     refine be hw ?_
     rw[p_eql_t (by rfl)]
     simp(disch:=omega)only[↓qXX]
     exact hend v' h' o' hI.ow hI.nd hI.sb hmm hI.lo hI.le
  ·have hlt0:=aJ hz
   have hce':=λa=>(hce a).trans (or_congr_right (wx (c:=c) (hd:=hd) (laid:=cH ws i) hz (by omega) a))
   have hsub:∀q,q∈bF (fz z)->cH ws i=true->qc c hd q∈aW ws true p 0:=λq hq hl=>(hce' _).2 (.inr (.inl ⟨hl,q,hq,rfl⟩))
   obtain⟨da,db,d1,d2,d3,d4,d5,d6⟩:=bes_lit c hhd
   have hgo:∀v' h' o',OwnL H.length h' v' 3 cc3 o'->o'.Nodup->(∀a∈o',a∈D)->(∀a,a∈o'↔a∈out∨(cH ws i=true/\∃q,q∈bF (fz z)/\a=qc c hd q))->Low H.length H h'->H.length<=h'.length->self [.v v',.i (nxC z c hd).1,.i (nxC z c hd).2,.i (Int.ofNat (nxH z hd)),.i (Int.ofNat i+1)] h':=by
    intro v' h' o' q1 q2 q3 q4 q5 q6
    refine hself (v',h',o',nxC z c hd,nxH z hd) hlt0 ⟨q1,q2,q3,?_,?_,λa=>?_,q5,q6⟩
    ·show nxH z hd<4
     unfold nxH
     repeat' split
     all_goals omega
    ·show(-(1000+((i+1:Nat):Int))<=(nxC z c hd).1/\(nxC z c hd).1<=1000+((i+1:Nat):Int))/\(-(1000+((i+1:Nat):Int))<=(nxC z c hd).2/\(nxC z c hd).2<=1000+((i+1:Nat):Int))
     unfold nxC
     split<;>omega
    ·show _↔a∈o'∨a∈aW (ws.drop (i+1)) (cH ws (i+1)) (nxC z c hd) (nxH z hd)
     rw[hce',q4,or_assoc]
   rcases hz4 with rfl|rfl|rfl|rfl
   ·rcases lc with h0|⟨h0,a,ha,hlt|hge⟩
    rotate_left 2
    ·have hL:cH ws i=false:=by
      unfold cH
      rw[decide_eq_false]
      rw[ha]
      simp only[qa8]
      omega
     rw[p_eql_f (by show(i:Int)≠0;omega)]
     simp(disch:=omega)only[↓qXX]
     try rw[fj (by omega) (by omega)]
     try simp(disch:=omega)only[↓qXX]
     refine aS (hw' _ hlow) rfl ha ?_
     unfold encS
     simp(disch:=omega)only[↓qXX]
     rw[p_lss_f (by show(3:Int)<=(a:Int);omega)]
     simp(disch:=omega)only[↓qXX]
     refine be (hw) ?_
     rw[p_eql_f (by show(i:Int)≠(ws.length:Int);omega)]
     simp(disch:=omega)only[↓qXX]
     refine aS (hw' _ hlow) rfl hz ?_
     unfold encS
     simp(disch:=omega)only[↓qXX]
     rw[p_eql_t (by rfl)]
     simp(disch:=omega)only[↓qXX]
     obtain⟨i1,i2⟩:=vj (h:=h) (cx:=5) (n:=4) d1 rfl
     refine af i1 ?_
     refine eY i2 rfl ?_
     simp(disch:=omega)only[↓qXX]
     try rw[p_add (by omega) (by omega)]
     try simp(disch:=omega)only[↓qXX]
     obtain⟨i3,i4⟩:=vj (h:=h++[HO.o (.cells [.int .i64 1,.int .i64 0,.int .i64 (-1),.int .i64 0] 1 true)]) (cx:=5) (n:=4) d2 rfl
     refine af i3 ?_
     refine eY i4 rfl ?_
     simp(disch:=omega)only[↓qXX]
     try rw[p_add (by omega) (by omega)]
     try simp(disch:=omega)only[↓qXX]
     rw[←d3,←d4]
     rw[aR (by omega)]
     exact hgo _ _ _ (how.app _ |>.app _) hnd hsb (λa=>by rw[hL];simp) (hlow.app _ |>.app _) (by simp;have:=hle;omega)
    all_goals
     have hL:cH ws i=true:=by
      unfold cH
      rw[decide_eq_true]
      first
       |exact .inl h0
       |refine .inr ?_
        rw[ha]
        exact hlt
     first
      |rw[p_eql_t (by show((i:Nat):Int)=0;omega)]
       simp(disch:=omega)only[↓qXX]
      |rw[p_eql_f (by show((i:Nat):Int)≠0;omega)]
       simp(disch:=omega)only[↓qXX]
       try rw[fj (by omega) (by omega)]
       try simp(disch:=omega)only[↓qXX]
       refine aS (hw' _ hlow) rfl ha ?_
       unfold encS
       simp(disch:=omega)only[↓qXX]
       rw[p_lss_t (by show(a:Int)<3;omega)]
       simp(disch:=omega)only[↓qXX]
     refine be hw ?_
     rw[aP hlt0]
     simp(disch:=omega)only[↓qXX]
     refine aS (hw' _ (hlow.app _)) rfl hz ?_
     unfold encS
     simp(disch:=omega)only[↓qXX]
     rw[p_eql_f (by decide)]
     simp(disch:=omega)only[↓qXX]
     refine be hw ?_
     rw[aP hlt0]
     simp(disch:=omega)only[↓qXX]
     refine aS (hw' _ (hlow.app _)) rfl hz ?_
     unfold encS
     simp(disch:=omega)only[↓qXX]
     rw[p_eql_f (by decide)]
     simp(disch:=omega)only[↓qXX]
     refine inn 0 _ _ _ (jc (cx:=5) (l:=bF 0) aQ rfl) (bQ _ (qah _) _ _) ((Low.refl h).app _) (by simp) ?_
     ·intro k v' h' o' hk hI self hs
      simp(disch:=omega)only[↓qXX]
      refine be hI.qs ?_
      have hol:=hlen hI
      by_cases hlt:k<(bF 0).length
      case pos=>
       rw[aP hlt]
       simp(disch:=omega)only[↓qXX]
       obtain⟨q,hq⟩:=aU hlt
       have hq4:=sY (qab hq)
       have hk4:k<4:=qbU hlt (by decide)
       refine aS hI.qs rfl hq ?_
       unfold mn
       simp(disch:=omega)only[↓qXX]
       have hqq:=hd4 q hq4
       first
        |rw[p_add (show(-9223372036854775808:Int)<=Int.ofNat hd+Int.ofNat q from hqq.1) hqq.2]
        |skip
       rw[show Int.ofNat hd+Int.ofNat q=Int.ofNat (hd+q)from rfl,aR (by omega),show Int.ofNat (hd+q)+1=Int.ofNat (hd+q+1)from rfl,rem4,p_conv8 (by show(0:Int)<=(((hd+q+1)%4:Nat):Int);omega) (by show(((hd+q+1)%4:Nat):Int)<=255;omega)]
       refine av (Go.Am.has_c (hx' _ hI.lo) (by omega) (qc c hd q) ⟨rfl,rfl,rfl⟩) ?_
       simp(disch:=omega)only[↓qXX]
       by_cases hDm:qc c hd q∈D
       case neg=>
        rw[decide_eq_false hDm]
        simp(disch:=omega)only[↓qXX,qbc]
        exact hfail h' hI.lo hI.le ⟨_,hsub q (qab hq) hL,hDm⟩
       rw[decide_eq_true hDm]
       simp(disch:=omega)only[↓qXX,qaG]
       refine av (Go.Am.has_c (hI.ow.ls bK) (by omega) (qc c hd q) ⟨rfl,rfl,rfl⟩) ?_
       simp(disch:=omega)only[↓qXX]
       by_cases hm:qc c hd q∈o'
       ·rw[decide_eq_true hm]
        simp(disch:=omega)only[↓qXX,qaG]
        rw[aR (by omega)]
        exact hs v' h' o' hlt (hI.skip hq hm)
       ·rw[decide_eq_false hm]
        simp(disch:=omega)only[↓qXX,qbc]
        refine hI.ow.ap1 (a:=qc c hd q) bK hI.le rfl rfl rfl (uy (by omega)) λv'' h'' b1 b2 b3 b4 b5=>?_
        simp(disch:=omega)only[↓qXX]
        refine aD b2 ?_
        simp(disch:=omega)only[↓qXX]
        rw[aR (by omega)]
        exact hs v'' h'' _ hlt (hI.add hq hm hDm b1 b3 b4 b5)
      have hk':k=(bF 0).length:=by omega
      rw[hk']at hI ⊢
      rw[bb (qah _)]
      simp(disch:=omega)only[↓qXX]
      have hmm:∀a,a∈o'↔a∈out∨(cH ws i=true/\∃q,q∈bF 0/\a=qc c hd q):=λa=>(hI.mm a).trans (or_congr_right (by rw[qbn,hL];simp))
      refine be (hw) ?_
      rw[p_eql_f (by show(i:Int)≠(ws.length:Int);omega)]
      simp(disch:=omega)only[↓qXX]
      refine aS (hw' _ hI.lo) rfl hz ?_
      unfold encS
      simp(disch:=omega)only[↓qXX]
      rw[p_eql_t (by rfl)]
      simp(disch:=omega)only[↓qXX]
      obtain⟨i1,i2⟩:=vj (h:=h') (cx:=5) (n:=4) d1 rfl
      refine af i1 ?_
      refine eY i2 rfl ?_
      simp(disch:=omega)only[↓qXX]
      try rw[p_add (by omega) (by omega)]
      try simp(disch:=omega)only[↓qXX]
      obtain⟨i3,i4⟩:=vj (h:=h'++[HO.o (.cells [.int .i64 1,.int .i64 0,.int .i64 (-1),.int .i64 0] 1 true)]) (cx:=5) (n:=4) d2 rfl
      refine af i3 ?_
      refine eY i4 rfl ?_
      simp(disch:=omega)only[↓qXX]
      try rw[p_add (by omega) (by omega)]
      try simp(disch:=omega)only[↓qXX]
      rw[←d3,←d4]
      rw[aR (by omega)]
      exact hgo _ _ _ (hI.ow.app _ |>.app _) hI.nd hI.sb hmm (hI.lo.app _ |>.app _) (by simp;have:=hI.le;omega)
   ·rcases lc with h0|⟨h0,a,ha,hlt|hge⟩
    rotate_left 2
    ·have hL:cH ws i=false:=by
      unfold cH
      rw[decide_eq_false]
      rw[ha]
      simp only[qa8]
      omega
     rw[p_eql_f (by show(i:Int)≠0;omega)]
     simp(disch:=omega)only[↓qXX]
     try rw[fj (by omega) (by omega)]
     try simp(disch:=omega)only[↓qXX]
     refine aS (hw' _ hlow) rfl ha ?_
     unfold encS
     simp(disch:=omega)only[↓qXX]
     rw[p_lss_f (by show(3:Int)<=(a:Int);omega)]
     simp(disch:=omega)only[↓qXX]
     refine be (hw) ?_
     rw[p_eql_f (by show(i:Int)≠(ws.length:Int);omega)]
     simp(disch:=omega)only[↓qXX]
     refine aS (hw' _ hlow) rfl hz ?_
     unfold encS
     simp(disch:=omega)only[↓qXX]
     rw[p_eql_f (by decide)]
     simp(disch:=omega)only[↓qXX]
     rw[p_eql_t (by rfl)]
     simp(disch:=omega)only[↓qXX]
     try rw[p_add (show(-9223372036854775808:Int)<=Int.ofNat hd+2 from(hd4 2 (by omega)).1) (hd4 2 (by omega)).2]
     rw[show Int.ofNat hd+2=Int.ofNat (hd+2)from rfl,rem4]
     simp(disch:=omega)only[↓qXX]
     rw[aR (by omega)]
     exact hgo _ _ _ how hnd hsb (λa=>by rw[hL];simp) hlow hle
    all_goals
     have hL:cH ws i=true:=by
      unfold cH
      rw[decide_eq_true]
      first
       |exact .inl h0
       |refine .inr ?_
        rw[ha]
        exact hlt
     first
      |rw[p_eql_t (by show((i:Nat):Int)=0;omega)]
       simp(disch:=omega)only[↓qXX]
      |rw[p_eql_f (by show((i:Nat):Int)≠0;omega)]
       simp(disch:=omega)only[↓qXX]
       try rw[fj (by omega) (by omega)]
       try simp(disch:=omega)only[↓qXX]
       refine aS (hw' _ hlow) rfl ha ?_
       unfold encS
       simp(disch:=omega)only[↓qXX]
       rw[p_lss_t (by show(a:Int)<3;omega)]
       simp(disch:=omega)only[↓qXX]
     refine be hw ?_
     rw[aP hlt0]
     simp(disch:=omega)only[↓qXX]
     refine aS (hw' _ (hlow.app _)) rfl hz ?_
     unfold encS
     simp(disch:=omega)only[↓qXX]
     rw[p_eql_f (by decide)]
     simp(disch:=omega)only[↓qXX]
     refine be hw ?_
     rw[aP hlt0]
     simp(disch:=omega)only[↓qXX]
     refine aS (hw' _ (hlow.app _)) rfl hz ?_
     unfold encS
     simp(disch:=omega)only[↓qXX]
     rw[p_eql_f (by decide)]
     simp(disch:=omega)only[↓qXX]
     refine inn 0 _ _ _ (jc (cx:=5) (l:=bF 0) aQ rfl) (bQ _ (qah _) _ _) ((Low.refl h).app _) (by simp) ?_
     ·intro k v' h' o' hk hI self hs
      simp(disch:=omega)only[↓qXX]
      refine be hI.qs ?_
      have hol:=hlen hI
      by_cases hlt:k<(bF 0).length
      case pos=>
       rw[aP hlt]
       simp(disch:=omega)only[↓qXX]
       obtain⟨q,hq⟩:=aU hlt
       have hq4:=sY (qab hq)
       have hk4:k<4:=qbU hlt (by decide)
       refine aS hI.qs rfl hq ?_
       unfold mn
       simp(disch:=omega)only[↓qXX]
       have hqq:=hd4 q hq4
       first
        |rw[p_add (show(-9223372036854775808:Int)<=Int.ofNat hd+Int.ofNat q from hqq.1) hqq.2]
        |skip
       rw[show Int.ofNat hd+Int.ofNat q=Int.ofNat (hd+q)from rfl,aR (by omega),show Int.ofNat (hd+q)+1=Int.ofNat (hd+q+1)from rfl,rem4,p_conv8 (by show(0:Int)<=(((hd+q+1)%4:Nat):Int);omega) (by show(((hd+q+1)%4:Nat):Int)<=255;omega)]
       refine av (Go.Am.has_c (hx' _ hI.lo) (by omega) (qc c hd q) ⟨rfl,rfl,rfl⟩) ?_
       simp(disch:=omega)only[↓qXX]
       by_cases hDm:qc c hd q∈D
       case neg=>
        rw[decide_eq_false hDm]
        simp(disch:=omega)only[↓qXX,qbc]
        exact hfail h' hI.lo hI.le ⟨_,hsub q (qab hq) hL,hDm⟩
       rw[decide_eq_true hDm]
       simp(disch:=omega)only[↓qXX,qaG]
       refine av (Go.Am.has_c (hI.ow.ls bK) (by omega) (qc c hd q) ⟨rfl,rfl,rfl⟩) ?_
       simp(disch:=omega)only[↓qXX]
       by_cases hm:qc c hd q∈o'
       ·rw[decide_eq_true hm]
        simp(disch:=omega)only[↓qXX,qaG]
        rw[aR (by omega)]
        exact hs v' h' o' hlt (hI.skip hq hm)
       ·rw[decide_eq_false hm]
        simp(disch:=omega)only[↓qXX,qbc]
        refine hI.ow.ap1 (a:=qc c hd q) bK hI.le rfl rfl rfl (uy (by omega)) λv'' h'' b1 b2 b3 b4 b5=>?_
        simp(disch:=omega)only[↓qXX]
        refine aD b2 ?_
        simp(disch:=omega)only[↓qXX]
        rw[aR (by omega)]
        exact hs v'' h'' _ hlt (hI.add hq hm hDm b1 b3 b4 b5)
      have hk':k=(bF 0).length:=by omega
      rw[hk']at hI ⊢
      rw[bb (qah _)]
      simp(disch:=omega)only[↓qXX]
      have hmm:∀a,a∈o'↔a∈out∨(cH ws i=true/\∃q,q∈bF 0/\a=qc c hd q):=λa=>(hI.mm a).trans (or_congr_right (by rw[qbn,hL];simp))
      refine be (hw) ?_
      rw[p_eql_f (by show(i:Int)≠(ws.length:Int);omega)]
      simp(disch:=omega)only[↓qXX]
      refine aS (hw' _ hI.lo) rfl hz ?_
      unfold encS
      simp(disch:=omega)only[↓qXX]
      rw[p_eql_f (by decide)]
      simp(disch:=omega)only[↓qXX]
      rw[p_eql_t (by rfl)]
      simp(disch:=omega)only[↓qXX]
      try rw[p_add (show(-9223372036854775808:Int)<=Int.ofNat hd+2 from(hd4 2 (by omega)).1) (hd4 2 (by omega)).2]
      rw[show Int.ofNat hd+2=Int.ofNat (hd+2)from rfl,rem4]
      simp(disch:=omega)only[↓qXX]
      rw[aR (by omega)]
      exact hgo _ _ _ hI.ow hI.nd hI.sb hmm hI.lo hI.le
   ·rcases lc with h0|⟨h0,a,ha,hlt|hge⟩
    rotate_left 2
    ·have hL:cH ws i=false:=by
      unfold cH
      rw[decide_eq_false]
      rw[ha]
      simp only[qa8]
      omega
     rw[p_eql_f (by show(i:Int)≠0;omega)]
     simp(disch:=omega)only[↓qXX]
     try rw[fj (by omega) (by omega)]
     try simp(disch:=omega)only[↓qXX]
     refine aS (hw' _ hlow) rfl ha ?_
     unfold encS
     simp(disch:=omega)only[↓qXX]
     rw[p_lss_f (by show(3:Int)<=(a:Int);omega)]
     simp(disch:=omega)only[↓qXX]
     refine be (hw) ?_
     rw[p_eql_f (by show(i:Int)≠(ws.length:Int);omega)]
     simp(disch:=omega)only[↓qXX]
     refine aS (hw' _ hlow) rfl hz ?_
     unfold encS
     simp(disch:=omega)only[↓qXX]
     rw[p_eql_f (by decide)]
     simp(disch:=omega)only[↓qXX]
     rw[p_eql_f (by decide)]
     simp(disch:=omega)only[↓qXX]
     rw[p_eql_t (by rfl)]
     simp(disch:=omega)only[↓qXX]
     try rw[p_add (show(-9223372036854775808:Int)<=Int.ofNat hd+1 from(hd4 1 (by omega)).1) (hd4 1 (by omega)).2]
     rw[show Int.ofNat hd+1=Int.ofNat (hd+1)from rfl,rem4]
     simp(disch:=omega)only[↓qXX]
     rw[aR (by omega)]
     exact hgo _ _ _ how hnd hsb (λa=>by rw[hL];simp) hlow hle
    all_goals
     have hL:cH ws i=true:=by
      unfold cH
      rw[decide_eq_true]
      first
       |exact .inl h0
       |refine .inr ?_
        rw[ha]
        exact hlt
     first
      |rw[p_eql_t (by show((i:Nat):Int)=0;omega)]
       simp(disch:=omega)only[↓qXX]
      |rw[p_eql_f (by show((i:Nat):Int)≠0;omega)]
       simp(disch:=omega)only[↓qXX]
       try rw[fj (by omega) (by omega)]
       try simp(disch:=omega)only[↓qXX]
       refine aS (hw' _ hlow) rfl ha ?_
       unfold encS
       simp(disch:=omega)only[↓qXX]
       rw[p_lss_t (by show(a:Int)<3;omega)]
       simp(disch:=omega)only[↓qXX]
     refine be hw ?_
     rw[aP hlt0]
     simp(disch:=omega)only[↓qXX]
     refine aS (hw' _ (hlow.app _)) rfl hz ?_
     unfold encS
     simp(disch:=omega)only[↓qXX]
     rw[p_eql_t (by rfl)]
     simp(disch:=omega)only[↓qXX]
     refine be hw ?_
     rw[aP hlt0]
     simp(disch:=omega)only[↓qXX]
     refine aS (hw' _ ((hlow.app _).app _)) rfl hz ?_
     unfold encS
     simp(disch:=omega)only[↓qXX]
     rw[p_eql_f (by decide)]
     simp(disch:=omega)only[↓qXX]
     refine inn 1 _ _ _ (jc (cx:=3) (l:=bF 1) aQ rfl) (bQ _ (by simp) _ _) (((Low.refl h).app _).app _) (by simp) ?_
     ·intro k v' h' o' hk hI self hs
      simp(disch:=omega)only[↓qXX]
      refine be hI.qs ?_
      have hol:=hlen hI
      by_cases hlt:k<(bF 1).length
      case pos=>
       rw[aP hlt]
       simp(disch:=omega)only[↓qXX]
       obtain⟨q,hq⟩:=aU hlt
       have hq4:=sY (qab hq)
       have hk4:k<4:=qbU hlt (by decide)
       refine aS hI.qs rfl hq ?_
       unfold mn
       simp(disch:=omega)only[↓qXX]
       have hqq:=hd4 q hq4
       first
        |rw[p_add (show(-9223372036854775808:Int)<=Int.ofNat hd+Int.ofNat q from hqq.1) hqq.2]
        |skip
       rw[show Int.ofNat hd+Int.ofNat q=Int.ofNat (hd+q)from rfl,aR (by omega),show Int.ofNat (hd+q)+1=Int.ofNat (hd+q+1)from rfl,rem4,p_conv8 (by show(0:Int)<=(((hd+q+1)%4:Nat):Int);omega) (by show(((hd+q+1)%4:Nat):Int)<=255;omega)]
       refine av (Go.Am.has_c (hx' _ hI.lo) (by omega) (qc c hd q) ⟨rfl,rfl,rfl⟩) ?_
       simp(disch:=omega)only[↓qXX]
       by_cases hDm:qc c hd q∈D
       case neg=>
        rw[decide_eq_false hDm]
        simp(disch:=omega)only[↓qXX,qbc]
        exact hfail h' hI.lo hI.le ⟨_,hsub q (qab hq) hL,hDm⟩
       rw[decide_eq_true hDm]
       simp(disch:=omega)only[↓qXX,qaG]
       refine av (Go.Am.has_c (hI.ow.ls bK) (by omega) (qc c hd q) ⟨rfl,rfl,rfl⟩) ?_
       simp(disch:=omega)only[↓qXX]
       by_cases hm:qc c hd q∈o'
       ·rw[decide_eq_true hm]
        simp(disch:=omega)only[↓qXX,qaG]
        rw[aR (by omega)]
        exact hs v' h' o' hlt (hI.skip hq hm)
       ·rw[decide_eq_false hm]
        simp(disch:=omega)only[↓qXX,qbc]
        refine hI.ow.ap1 (a:=qc c hd q) bK hI.le rfl rfl rfl (uy (by omega)) λv'' h'' b1 b2 b3 b4 b5=>?_
        simp(disch:=omega)only[↓qXX]
        refine aD b2 ?_
        simp(disch:=omega)only[↓qXX]
        rw[aR (by omega)]
        exact hs v'' h'' _ hlt (hI.add hq hm hDm b1 b3 b4 b5)
      have hk':k=(bF 1).length:=by omega
      rw[hk']at hI ⊢
      rw[bb (qah _)]
      simp(disch:=omega)only[↓qXX]
      have hmm:∀a,a∈o'↔a∈out∨(cH ws i=true/\∃q,q∈bF 1/\a=qc c hd q):=λa=>(hI.mm a).trans (or_congr_right (by rw[qbn,hL];simp))
      refine be (hw) ?_
      rw[p_eql_f (by show(i:Int)≠(ws.length:Int);omega)]
      simp(disch:=omega)only[↓qXX]
      refine aS (hw' _ hI.lo) rfl hz ?_
      unfold encS
      simp(disch:=omega)only[↓qXX]
      rw[p_eql_f (by decide)]
      simp(disch:=omega)only[↓qXX]
      rw[p_eql_f (by decide)]
      simp(disch:=omega)only[↓qXX]
      rw[p_eql_t (by rfl)]
      simp(disch:=omega)only[↓qXX]
      try rw[p_add (show(-9223372036854775808:Int)<=Int.ofNat hd+1 from(hd4 1 (by omega)).1) (hd4 1 (by omega)).2]
      rw[show Int.ofNat hd+1=Int.ofNat (hd+1)from rfl,rem4]
      simp(disch:=omega)only[↓qXX]
      rw[aR (by omega)]
      exact hgo _ _ _ hI.ow hI.nd hI.sb hmm hI.lo hI.le
   ·rcases lc with h0|⟨h0,a,ha,hlt|hge⟩
    rotate_left 2
    ·have hL:cH ws i=false:=by
      unfold cH
      rw[decide_eq_false]
      rw[ha]
      simp only[qa8]
      omega
     rw[p_eql_f (by show(i:Int)≠0;omega)]
     simp(disch:=omega)only[↓qXX]
     try rw[fj (by omega) (by omega)]
     try simp(disch:=omega)only[↓qXX]
     refine aS (hw' _ hlow) rfl ha ?_
     unfold encS
     simp(disch:=omega)only[↓qXX]
     rw[p_lss_f (by show(3:Int)<=(a:Int);omega)]
     simp(disch:=omega)only[↓qXX]
     refine be (hw) ?_
     rw[p_eql_f (by show(i:Int)≠(ws.length:Int);omega)]
     simp(disch:=omega)only[↓qXX]
     refine aS (hw' _ hlow) rfl hz ?_
     unfold encS
     simp(disch:=omega)only[↓qXX]
     rw[p_eql_f (by decide)]
     simp(disch:=omega)only[↓qXX]
     rw[p_eql_f (by decide)]
     simp(disch:=omega)only[↓qXX]
     rw[p_eql_f (by decide)]
     simp(disch:=omega)only[↓qXX]
     try rw[p_add (show(-9223372036854775808:Int)<=Int.ofNat hd+3 from(hd4 3 (by omega)).1) (hd4 3 (by omega)).2]
     rw[show Int.ofNat hd+3=Int.ofNat (hd+3)from rfl,rem4]
     simp(disch:=omega)only[↓qXX]
     rw[aR (by omega)]
     exact hgo _ _ _ how hnd hsb (λa=>by rw[hL];simp) hlow hle
    all_goals
     have hL:cH ws i=true:=by
      unfold cH
      rw[decide_eq_true]
      first
       |exact .inl h0
       |refine .inr ?_
        rw[ha]
        exact hlt
     first
      |rw[p_eql_t (by show((i:Nat):Int)=0;omega)]
       simp(disch:=omega)only[↓qXX]
      |rw[p_eql_f (by show((i:Nat):Int)≠0;omega)]
       simp(disch:=omega)only[↓qXX]
       try rw[fj (by omega) (by omega)]
       try simp(disch:=omega)only[↓qXX]
       refine aS (hw' _ hlow) rfl ha ?_
       unfold encS
       simp(disch:=omega)only[↓qXX]
       rw[p_lss_t (by show(a:Int)<3;omega)]
       simp(disch:=omega)only[↓qXX]
     refine be hw ?_
     rw[aP hlt0]
     simp(disch:=omega)only[↓qXX]
     refine aS (hw' _ (hlow.app _)) rfl hz ?_
     unfold encS
     simp(disch:=omega)only[↓qXX]
     rw[p_eql_f (by decide)]
     simp(disch:=omega)only[↓qXX]
     refine be hw ?_
     rw[aP hlt0]
     simp(disch:=omega)only[↓qXX]
     refine aS (hw' _ (hlow.app _)) rfl hz ?_
     unfold encS
     simp(disch:=omega)only[↓qXX]
     rw[p_eql_t (by rfl)]
     simp(disch:=omega)only[↓qXX]
     refine inn 2 _ _ _ (jc (cx:=3) (l:=bF 2) aQ rfl) (bQ _ (by simp) _ _) (((Low.refl h).app _).app _) (by simp) ?_
     ·intro k v' h' o' hk hI self hs
      simp(disch:=omega)only[↓qXX]
      refine be hI.qs ?_
      have hol:=hlen hI
      by_cases hlt:k<(bF 2).length
      case pos=>
       rw[aP hlt]
       simp(disch:=omega)only[↓qXX]
       obtain⟨q,hq⟩:=aU hlt
       have hq4:=sY (qab hq)
       have hk4:k<4:=qbU hlt (by decide)
       refine aS hI.qs rfl hq ?_
       unfold mn
       simp(disch:=omega)only[↓qXX]
       have hqq:=hd4 q hq4
       first
        |rw[p_add (show(-9223372036854775808:Int)<=Int.ofNat hd+Int.ofNat q from hqq.1) hqq.2]
        |skip
       rw[show Int.ofNat hd+Int.ofNat q=Int.ofNat (hd+q)from rfl,aR (by omega),show Int.ofNat (hd+q)+1=Int.ofNat (hd+q+1)from rfl,rem4,p_conv8 (by show(0:Int)<=(((hd+q+1)%4:Nat):Int);omega) (by show(((hd+q+1)%4:Nat):Int)<=255;omega)]
       refine av (Go.Am.has_c (hx' _ hI.lo) (by omega) (qc c hd q) ⟨rfl,rfl,rfl⟩) ?_
       simp(disch:=omega)only[↓qXX]
       by_cases hDm:qc c hd q∈D
       case neg=>
        rw[decide_eq_false hDm]
        simp(disch:=omega)only[↓qXX,qbc]
        exact hfail h' hI.lo hI.le ⟨_,hsub q (qab hq) hL,hDm⟩
       rw[decide_eq_true hDm]
       simp(disch:=omega)only[↓qXX,qaG]
       refine av (Go.Am.has_c (hI.ow.ls bK) (by omega) (qc c hd q) ⟨rfl,rfl,rfl⟩) ?_
       simp(disch:=omega)only[↓qXX]
       by_cases hm:qc c hd q∈o'
       ·rw[decide_eq_true hm]
        simp(disch:=omega)only[↓qXX,qaG]
        rw[aR (by omega)]
        exact hs v' h' o' hlt (hI.skip hq hm)
       ·rw[decide_eq_false hm]
        simp(disch:=omega)only[↓qXX,qbc]
        refine hI.ow.ap1 (a:=qc c hd q) bK hI.le rfl rfl rfl (uy (by omega)) λv'' h'' b1 b2 b3 b4 b5=>?_
        simp(disch:=omega)only[↓qXX]
        refine aD b2 ?_
        simp(disch:=omega)only[↓qXX]
        rw[aR (by omega)]
        exact hs v'' h'' _ hlt (hI.add hq hm hDm b1 b3 b4 b5)
      have hk':k=(bF 2).length:=by omega
      rw[hk']at hI ⊢
      rw[bb (qah _)]
      simp(disch:=omega)only[↓qXX]
      have hmm:∀a,a∈o'↔a∈out∨(cH ws i=true/\∃q,q∈bF 2/\a=qc c hd q):=λa=>(hI.mm a).trans (or_congr_right (by rw[qbn,hL];simp))
      refine be (hw) ?_
      rw[p_eql_f (by show(i:Int)≠(ws.length:Int);omega)]
      simp(disch:=omega)only[↓qXX]
      refine aS (hw' _ hI.lo) rfl hz ?_
      unfold encS
      simp(disch:=omega)only[↓qXX]
      rw[p_eql_f (by decide)]
      simp(disch:=omega)only[↓qXX]
      rw[p_eql_f (by decide)]
      simp(disch:=omega)only[↓qXX]
      rw[p_eql_f (by decide)]
      simp(disch:=omega)only[↓qXX]
      try rw[p_add (show(-9223372036854775808:Int)<=Int.ofNat hd+3 from(hd4 3 (by omega)).1) (hd4 3 (by omega)).2]
      rw[show Int.ofNat hd+3=Int.ofNat (hd+3)from rfl,rem4]
      simp(disch:=omega)only[↓qXX]
      rw[aR (by omega)]
      exact hgo _ _ _ hI.ow hI.nd hI.sb hmm hI.lo hI.le)
 exact⟨h',v,b,out,e1,e2⟩
end St
end Go.Am
set_option maxRecDepth 100000
namespace Go.Am
open Sx Go.Proofs
def eqOn(a b:Option Nat):Bool:=match a,b with
 |none,none=>true
 |some a,some b=>Nat.beq a b
 |_,_=>false
def eqOn_ok{a b:Option Nat}(h:eqOn a b=true):a=b:=by
 cases a<;>cases b<;>first|rfl|(cases h;done)|exact congrArg some (qad h)
def eqVs(x y:Value):Bool:=match x,y with
 | .slice (some a) n c,.slice (some b) m d=>Nat.beq a.block b.block&&(Nat.beq a.off b.off&&(eqOn a.spot b.spot&&(Nat.beq n m&&Nat.beq c d)))
 | .slice none 0 0,.slice none 0 0=>true
 |_,_=>false
def eqVs_ok{x y:Value}(h:eqVs x y=true):x=y:=by
 unfold eqVs at h
 split at h
 next a n c b m d=>
  simp only[qaa]at h
  obtain⟨h1,h2,h3,h4,h5⟩:=h
  have h1:=qad h1
  have h2:=qad h2
  have h3:=eqOn_ok h3
  have h4:=qad h4
  have h5:=qad h5
  have e:a=b:=by
   cases a;cases b
   simp only at *
   simp_all
  rw[e,h4,h5]
 ·rfl
 ·cases h
def eqLg(x y:Lf):Bool:=match x,y with
 | .v x,.v y=>eqVs x y
 |x,y=>eqLf x y
def eqLg_ok{x y:Lf}(h:eqLg x y=true):x=y:=by
 unfold eqLg at h
 split at h
 ·rw[eqVs_ok h]
 ·exact oq h
def eqLgs:List Lf->List Lf->Bool
 | [],[]=>true
 |x :: l,y :: m=>eqLg x y&&eqLgs l m
 |_,_=>false
def va:∀ {l m:List Lf},eqLgs l m=true->l=m
 | [],[],_=>rfl
 |x :: l,y :: m,h=>by
  simp only[eqLgs,qaa]at h
  rw[eqLg_ok h.1,va h.2]
 | [],_ :: _,h=>by cases h
 |_ :: _,[],h=>by cases h
abbrev Bls:=List (Nat×List Value)
def blH(bl:Bls):List HObj:=bl.map λb=>.cells b.2 b.1 false
def isBl:Bls->HTr->Nat->Bool
 | [],h,i=>Nat.beq h.n i
 |b :: bl,h,i=>(match h.at i with
  |some (.t n e false c)=>Nat.beq n b.2.length&&(Nat.beq e b.1&&qa c b.2 0)
  |_=>false)&&isBl bl h (i+1)
def isBl_ok:∀ {bl:Bls} {h:HTr} {i:Nat},isBl bl h i=true->h.n=i+bl.length/\∀j (hj:j<bl.length),(toL h)[i+j]?=some (.o (.cells bl[j].2 bl[j].1 false))/\bl[j].2.all flat=true
 | [],h,i,hb=>⟨(qad hb),λj hj=>by simp at hj⟩
 |b :: bl,h,i,hb=>by
  simp only[isBl,qaa]at hb
  obtain⟨h1,h2⟩:=hb
  obtain⟨h3,h4⟩:=isBl_ok h2
  refine⟨by rw[h3];simp;omega,λj hj=>?_⟩
  cases j with
  |succ j=>
   have:=h4 j (by simpa using hj)
   rw[show i+(j+1)=i+1+j by omega]
   simpa using this
  |zero=>
   split at h1
   next n e c hat=>
    simp only[qaa]at h1
    obtain⟨q1,q2,q3⟩:=h1
    have q1:=qad q1
    have q2:=qad q2
    obtain⟨q4,q5⟩:=oo q3
    refine⟨?_,q5⟩
    rw[qcf,iO,hat]
    show some (HO.o (.cells (bN c n) e false))=some (HO.o (.cells b.2 b.1 false))
    subst q1 q2
    have hc:bN c b.2.length=b.2:=by
     apply List.ext_getElem
     ·rw[bg]
     ·intro k hk hk'
      have:=dz c (i:=k) (n:=b.2.length) hk'
      rw[qai hk]at this
      rw[qae this,←q4 k hk',qaM]
    rw[hc]
   ·cases h1
def isBl_abs{T:Nat->Site}{bl:Bls}{h:HTr}(hb:isBl bl h 0=true):absH T (toL h)=blH bl/\h.n=bl.length:=by
 obtain⟨h1,h2⟩:=isBl_ok hb
 refine⟨?_,by rw[h1];omega⟩
 apply qaZ
 intro j
 unfold absH blH
 rw[qau,qau]
 by_cases hj:j<bl.length
 ·have:=(h2 j hj).1
  rw[qaM]at this
  rw[this,qai hj];rfl
 ·rw[qaj (by rw[cP];omega),qaj (by omega)];rfl
structure KR1 where
 f:Nat
 ls:List Lf
 bl:Bls
 rs:List Lf
def qB(l:List KR1)(f:Nat)(ls:List Lf)(h:HTr):Option (List Lf):=match l with
 | []=>none
 |p :: l=>match Nat.beq p.f f with
  |false=>qB l f ls h
  |true=>match eqLgs p.ls ls with
   |false=>qB l f ls h
   |true=>match isBl p.bl h 0 with
    |false=>qB l f ls h
    |true=>some p.rs
def sI{f:Nat}{ls rs:List Lf}{h:HTr}:∀ {l:List KR1},qB l f ls h=some rs->∃p∈l,p.f=f/\p.ls=ls/\isBl p.bl h 0=true/\p.rs=rs
 | [],hh=>by cases hh
 |p :: l,hh=>by
  have rec_:qB l f ls h=some rs->∃p'∈p :: l,p'.f=f/\p'.ls=ls/\isBl p'.bl h 0=true/\p'.rs=rs:=λh1=>by
   obtain⟨q,q1,q2⟩:=sI h1
   exact⟨q,qam _ q1,q2⟩
  unfold qB at hh
  split at hh
  ·exact rec_ hh
  next e1=>
   split at hh
   ·exact rec_ hh
   next e2=>
    split at hh
    ·exact rec_ hh
    next e3=>
     cases hh
     exact⟨p,qaA,qad e1,va e2,e3,rfl⟩
def hasR(l:List KR1)(f:Nat):Bool:=match l with
 | []=>false
 |p :: l=>match Nat.beq p.f f with
  |true=>true
  |false=>hasR l f
def runKR(l:List KR1)(c:ac):ac:=λck=>match ck with
 | .f f=>match hasR l f with
  |false=>c (.f f)
  |true=>λls h K=>ext h (c (.f f) ls h K) ls .empty λls0 h0=>@Option.rec _ (λ_=>RT) (c (.f f) ls h K) (λrs=>K rs h) (qB l f ls0 h0)
 | .y κ vs i=>c (.y κ vs i)
def KROk(p:KR1):Prop:=∃sg H',ab p.f=some sg/\sg.rs.all SK.plain=true/\neuN p.f=none/\aK cc ab p.f p.ls (blH p.bl) p.rs H'
def AllR(l:List KR1):Prop:=∀p∈l,KROk p
def AllR.nil:AllR []:=λ_ h=>by cases h
def AllR.cons{p:KR1}{l:List KR1}(h:KROk p)(hl:AllR l):AllR (p :: l):=λq hq=>by
 rcases qal.1 hq with rfl|hq
 ·exact h
 ·exact hl q hq
def AllR.app{l m:List KR1}(h:AllR l)(hm:AllR m):AllR (l++m):=λp hp=>by
 rcases qas.1 hp with hp|hp
 ·exact h p hp
 ·exact hm p hp
def runKR_ok{l:List KR1}{c:ac}(hc:Cok c)(hl:AllR l):Cok (runKR l c):=by
 refine⟨λf ls h K w hls hk=>?_,λκ vs i ls h K w st pd xs e hy hk=>hc.y κ vs i ls h K w st pd xs e hy hk⟩
 have hk:(match hasR l f with
  |false=>c (.f f)
  |true=>λls h K=>ext h (c (.f f) ls h K) ls .empty λls0 h0=>@Option.rec _ (λ_=>RT) (c (.f f) ls h K) (λrs=>K rs h) (qB l f ls0 h0)) ls h K=some w:=hk
 cases ef:hasR l f with
 |false=>rw[ef]at hk;exact hc.f f ls h K w hls hk
 |true=>
  rw[ef]at hk
  rcases mw (T:=aa) ls .empty _ id (λj o hj=>by cases hj) hk with h1|⟨ls0,h1,σ,a1,_,_,a4,a5,a6⟩
  ·exact hc.f f ls h K w hls h1
  ·cases e:qB l f ls0 h1 with
   |none=>rw[e]at a1;exact hc.f f ls h K w hls a1
   |some rs=>
    rw[e]at a1
    obtain⟨p,hp,rfl,rfl,q3,rfl⟩:=sI e
    obtain⟨sg,H',s1,s2,s3,s4⟩:=hl p hp
    obtain⟨q4,q5⟩:=isBl_abs (T:=aa) q3
    rw[←q4]at s4
    have key:=tF (N:=neuN) mixed gw s1 s2 s3 (H:=absH aa (toL h)) σ s4 a4 (λx hx=>by
     have:=a6 x hx
     rw[di,cP]
     exact this)
    rw[a5]at key
    exact⟨_,h,key,a1⟩
def mkBl(bl:Bls):HTr->(HTr->RT)->RT:=@List.rec _ (λ_=>HTr->(HTr->RT)->RT) (λh k=>k h) (λb _ ih h k=>nP (.cells b.2 b.1 false) λx=>gE h x λh=>ih h k) bl
def mkBl_ok:∀(bl:Bls) (h:HTr) (k:HTr->RT),∃h',mkBl bl h k=k h'/\absH aa (toL h')=absH aa (toL h)++blH bl
 | [],h,k=>⟨h,rfl,by simp[blH]⟩
 |b :: bl,h,k=>by
  have e:mkBl (b :: bl) h k=nP (.cells b.2 b.1 false) λx=>gE h x λh=>mkBl bl h k:=rfl
  obtain⟨x,x1,x2⟩:=gR (o:=.cells b.2 b.1 false) (k:=λx=>gE h x λh=>mkBl bl h k)
  obtain⟨h',a1,a2⟩:=mkBl_ok bl (h.push x) k
  refine⟨h',by rw[e,x2,eQ,a1],?_⟩
  rw[a2,eS,x1]
  simp[absH,absO,blH]
def mM{p:KR1}{g:FB}(hc:Ent p.f g){sg:Sig}(h1:ab p.f=some sg)(h2:sg.rs.all SK.plain=true)(h3:neuN p.f=none)(h4:de p.ls)(h:(mkBl p.bl .empty λh=>@Option.rec _ (λ_=>RT) none (λrs=>ans (eqLs rs p.rs)) (g p.ls h tell))=yes):KROk p:=by
 obtain⟨h',a1,a2⟩:=mkBl_ok p.bl .empty λh=>@Option.rec _ (λ_=>RT) none (λrs=>ans (eqLs rs p.rs)) (g p.ls h tell)
 rw[a1]at h
 cases e:g p.ls h' tell with
 |none=>rw[e]at h;cases h
 |some rs=>
  rw[e]at h
  have h:ans (eqLs rs p.rs)=yes:=h
  have h:=gO (ans_yes h)
  subst h
  obtain⟨rs',h'',b1,b2⟩:=hc p.ls h' tell _ h4 e
  rw[kB]at b2
  cases b2
  have e0:absH aa (toL HTr.empty)=[]:=rfl
  rw[e0,qaV]at a2
  rw[a2]at b1
  exact⟨sg,_,h1,h2,h3,b1⟩
def known_c{g:Nat}{w:FB}(hc:Ent g w){ls rs:List Lf}{sg:Sig}(hs:ab g=some sg)(hp:sg.plain=true)(hg:gy ls=true)(h:isAns rs (w ls .empty tell)=true):∀H,aK cc ab g ls H rs H:=by
 cases e:w ls .empty tell with
 |none=>rw[e]at h;cases h
 |some rs'=>
  rw[e]at h
  have h:eqLs rs' rs=true:=h
  rw[gO h]at e
  obtain⟨rs'',h',a1,a2⟩:=hc ls .empty tell _ (cE hg) e
  rw[kB]at a2
  cases a2
  exact qR g sg ls _ _ hs hp a1
end Go.Am
end

/-
  PART 7 OF THE PROOF (no conditions).
-/
import Derived.Test.YtijdjcjlfbgpgaaGreatDoorCL6
set_option linter.unusedSectionVars false
set_option linter.unusedSimpArgs false
set_option linter.unusedVariables false
set_option linter.constructorNameAsVariable false
set_option linter.defProp false
noncomputable section
set_option maxRecDepth 100000
set_option maxHeartbeats 16000000
namespace Go.Am
open Sx Go.Proofs Tw
def rC(L:List Sq):Nat->Sq->Nat->List K3->Nat->Bool
 |0,p,head,al,t=>decide ((covL p head (bg t) al).length=4*L.length)
 |m+1,p,head,al,t=>decide ((covL p head (bg t) al).length=4*L.length)||((decide (bes p ((head+hdN t)%4)∈L)&&ce L m (bes p ((head+hdN t)%4)) ((head+hdN t)%4) (covL p head (bg t) al))||ce L m p (((head+hdN t)%4+2)%4) (covL p head (bg t) al))
def lC(L:List Sq)(m:Nat)(p:Sq)(head:Nat)(al:List K3):ce L m p head al=(List.range 3).any (rC L m p head al):=by
 cases m<;>rfl
def iK(L:List Sq)(m:Nat)(p:Sq)(head:Nat)(al:List K3)(t:Nat):rC L (m+1) p head al t=(decide ((covL p head (bg t) al).length=4*L.length)||((decide (bes p ((head+hdN t)%4)∈L)&&ce L m (bes p ((head+hdN t)%4)) ((head+hdN t)%4) (covL p head (bg t) al))||ce L m p (((head+hdN t)%4+2)%4) (covL p head (bg t) al))):=rfl
def uG{L:List Sq}{m:Nat}{p:Sq}{head:Nat}{al:List K3}{t:Nat}(ht:t<3)(h:rC L m p head al t=true):ce L m p head al=true:=by
 rw[lC,any3]
 exact⟨t,ht,h⟩
def rV{L:List Sq}{m:Nat}{p:Sq}{head:Nat}{al:List K3}(h:∀t,t<3->rC L m p head al t=false):ce L m p head al=false:=by
 rw[lC,qch]
 intro e
 obtain⟨t,ht,e⟩:=any3.1 e
 rw[h t ht]at e
 cases e
def size24{n:Nat}(h:n<=1000000000000):bO n 24=true:=by
 unfold bO
 rw[qbc (by omega),qbc (by omega)];rfl
def covL_snoc{p:Sq}{head q:Nat}{l:List Nat}{al:List K3}:covL p head (l++[q]) al=addC (covL p head l al) (qc p head q):=by
 unfold covL
 rw[List.foldl_append]
 rfl
def InL.len{L:List Sq}{al:List K3}(h:InL L al):al.length<=4*L.length:=by
 rw[←eK]
 exact bM h.nd λa ha=>du.2 (h.sub a ha)
def rX{h:HL}{i cx n:Nat}{l:List Nat}(hi:h[i]?=some (.o (.cells (l.flatMap jP) 1 true)))(hn:n=l.length):LsH h (.slice (some ⟨i,0,some 11⟩) n cx) 1 jP l:=by
 subst hn
 have hl:=bn (e:=1) (enc:=jP) (l:=l) λa _=>hO a
 exact⟨λa _=>hO a,hl,.inr ⟨i,0,cx,_,true,rfl,hi,Sx.cut_all hl⟩⟩
abbrev qA:HO:=HO.o (.cells [.int .i64 0,.int .i64 1,.int .i64 2,.int .i64 3] 1 true)
abbrev qB:HO:=HO.o (.cells [.int .i64 1,.int .i64 2] 1 true)
abbrev qC:HO:=HO.o (.cells [.int .i64 2,.int .i64 3] 1 true)
abbrev qT(h:HL):HO:=HO.o (.cells [.slice (some ⟨h.length,0,some 11⟩) 4 5,.slice (some ⟨(h++[qA]).length,0,some 11⟩) 2 3,.slice (some ⟨(h++[qA]++[qB]).length,0,some 11⟩) 2 3] 1 true)
def gd_sl{i n c:Nat}:aX (.slice (some ⟨i,0,some 11⟩) n c)=true:=by simp[aX,noLoc,aY,bV,bp,aV,ay]
def lits_q{h:HL}{t:Nat}(ht:t<3){K:List Value->Prop}(hk:∀qv,LsH (h++[qA]++[qB]++[qC]++[qT h]) qv 1 jP (bg t)->aX qv=true->K [qv]) :
  P1.opt (idS 1 (.slice (some ⟨(h++[qA]++[qB]++[qC]).length,0,some 11⟩) 3 4) (Int.ofNat t)) (@hid _ ⟨λx=>P1.peek (.lg cc 1 x) (h++[qA]++[qB]++[qC]++[qT h]) (@hid _ ⟨K⟩)⟩):=by
 have hls:LsH (h++[qA]++[qB]++[qC]++[qT h]) (.slice (some ⟨(h++[qA]++[qB]++[qC]).length,0,some 11⟩) 3 4) 1 (λv=>[v]) [.slice (some ⟨h.length,0,some 11⟩) 4 5,.slice (some ⟨(h++[qA]).length,0,some 11⟩) 2 3,.slice (some ⟨(h++[qA]++[qB]).length,0,some 11⟩) 2 3]:=
  ⟨λ_ _=>rfl,rfl,.inr ⟨_,0,4,_,true,rfl,aE,Sx.cut_all rfl⟩⟩
 have:t=0∨t=1∨t=2:=by omega
 rcases this with rfl|rfl|rfl
 ·exact dj hls rfl rfl (hk _ (rX (l:=[0,1,2,3]) (aL (aL (aL aE))) rfl) gd_sl)
 ·exact dj hls rfl rfl (hk _ (rX (l:=[1,2]) (aL (aL aE)) rfl) gd_sl)
 ·exact dj hls rfl rfl (hk _ (rX (l:=[2,3]) (aL aE) rfl) gd_sl)
def hd_lit{t:Nat}(ht:t<3):([0,1,3]:List Int)[t]?=some (Int.ofNat (hdN t)):=by
 have:t=0∨t=1∨t=2:=by omega
 rcases this with rfl|rfl|rfl<;>rfl
def hd_le(t:Nat):hdN t<=3:=by
 match t with
 |0=>simp[hdN]
 |1=>simp[hdN]
 |t+2=>simp[hdN]
def tu{m:Nat}(h:m<=1000000){K:Int->Prop}:P1.ari .sub .i64 (Int.ofNat (m+1)) 1 (@hid _ ⟨K⟩)=K (Int.ofNat m):=by
 rw[p_sub (by show(-9223372036854775808:Int)<=((m+1:Nat):Int) - 1;omega) (by show((m+1:Nat):Int) - 1<=9223372036854775807;omega)]
 congr 1
 show((m+1:Nat):Int) - 1=(m:Int)
 omega
def oO{L:List Sq}{D:List K3}(hD:SetOf L D)(hn:L.length<=40)(hb:∀c∈L,(-100<=c.1/\c.1<=100)/\-100<=c.2/\c.2<=100):∀(m:Nat),m<=1000->∀ {H:HL} {x y:Value} {p:Sq} {head:Nat} {r:Int} {al:List K3},LsH H x 3 cc3 D->LsH H y 3 cc3 al->InL L al->p∈L->head<4->
  ∃h',aQ cc ab 9 [.v x,.i p.1,.i p.2,.i r,.i (Int.ofNat head),.i (Int.ofNat m),.v y] (absH aa H) [.b (ce L m p head al)] (absH aa h')/\Low H.length H h'/\H.length<=h'.length:=by
 intro m
 induction m using Nat.strongRecOn with
 |ind m ih=>
  intro hm H x y p head r al hx hy hal hp hhd
  have hDl:=hD.len
  have hpb:=hb p hp
  have hall:=hal.len
  obtain⟨rs,h',e1,rfl,e2⟩:=x9 (ls:=[.v x,.i p.1,.i p.2,.i r,.i (Int.ofNat head),.i (Int.ofNat m),.v y]) (H:=H) (K:=λrs h'=>rs=[.b (ce L m p head al)]/\Low H.length H h'/\H.length<=h'.length) (glsV hx.good (glsI (glsI (glsI (glsI (glsI (glsV hy.good gls0))))))) (by
   unfold f9;simp only[qxh]
   simp(disch:=omega)only[↓qXX]
   refine bY (σ:=HL) 3 (λt _=>[.i (Int.ofNat t)]) (λ_ s=>s) (λt s=>Low H.length H s/\H.length<=s.length/\∀t',t'<t->rC L m p head al t'=false) (j0:=0) (s0:=H) rfl rfl (qaP _) ⟨Low.refl _,qag _,λt' ht'=>by omega⟩ ?_
   rintro t h ht ⟨hlow,hle,hno⟩ self hself
   simp(disch:=omega)only[↓qXX]
   by_cases ht3:t<3
   case neg=>
    obtain rfl:t=3:=by omega
    rw[p_lss_f (by show(3:Int)<=((3:Nat):Int);omega)]
    simp(disch:=omega)only[↓qXX]
    exact⟨by rw[rV hno],hlow,hle⟩
   rw[p_lss_t (by show(t:Int)<3;omega)]
   simp(disch:=omega)only[↓qXX]
   have hnext:∀h',Low h.length h h'->h.length<=h'.length->rC L m p head al t=false->self [.i (Int.ofNat t+1)] h':=λh' a1 a2 a3=>hself h' ht3 ⟨λi o hi hoo=>a1 i o (aI (hlow i o hi hoo)) (hlow i o hi hoo),by omega,λt' ht'=>by
    by_cases e:t'=t
    ·subst e
     exact a3
    ·exact hno t' (by omega)⟩
   have hyes:∀h',Low h.length h h'->h.length<=h'.length->rC L m p head al t=true->([.b true]:List Lf)=[.b (ce L m p head al)]/\Low H.length H h'/\H.length<=h'.length:=λh' a1 a2 a3=>⟨by rw[uG ht3 a3],λi o hi hoo=>a1 i o (aI (hlow i o hi hoo)) (hlow i o hi hoo),by omega⟩
   refine lits_q ht3 λqv hqv hqg=>?_
   have hlow4:Low h.length h (h++[qA]++[qB]++[qC]++[qT h]):=(((((Low.refl h).app _).app _).app _).app _)
   have hle4:h.length<=(h++[qA]++[qB]++[qC]++[qT h]).length:=by simp
   have hx4:LsH (h++[qA]++[qB]++[qC]++[qT h]) x 3 cc3 D:=(hx.keep λj o ho hbj=>hlow j o (hx.blkLt hbj) ho).low hlow4
   have hy4:LsH (h++[qA]++[qB]++[qC]++[qT h]) y 3 cc3 al:=(hy.keep λj o ho hbj=>hlow j o (hy.blkLt hbj) ho).low hlow4
   simp(disch:=omega)only[↓qXX]
   refine az hqg ?_
   simp(disch:=omega)only[↓qXX]
   change P1.heap _ (h++[qA]++[qB]++[qC]++[qT h]++[HO.o (.cells [] 3 true)]) _
   generalize h++[qA]++[qB]++[qC]++[qT h]=h4 at *
   have ho0:OwnL h4.length (h4++[HO.o (.cells [] 3 true)]) (.slice (some ⟨h4.length,0,some 13⟩) 0 1) 3 cc3 []:=.inr ⟨h4.length,1,rfl,qag _,aE,.inr rfl⟩
   have hy5:LsH (h4++[HO.o (.cells [] 3 true)]) y 3 cc3 al:=hy4.pre ⟨_,rfl⟩
   refine ho0.ap (new:=al) (k:=al.length) cA (by simp) (slG_sl hy5.2) rfl (size24 (by simp;omega)) λv5 h5 b1 b2 b3 b4 b5=>?_
   simp(disch:=omega)only[↓qXX]
   refine az b2 ?_
   simp(disch:=omega)only[↓qXX]
   have hlow5:Low h4.length h4 h5:=λi o hi hoo=>b3 i o (aL hoo) (λe=>by have:h4.length=i:=qai e;omega)
   have hle5:h4.length<=h5.length:=by simp at b4;omega
   rw[qbv]at b1
   have hqn:=quad_le t
   have hinl:∀i,InL L (covL p head ((bg t).take i) al):=λi=>(iM hp _ hal).1
   refine bY (σ:=Value×HL) (bg t).length (λi s=>[.v s.1,.i (Int.ofNat i)]) (λ_ s=>s.2) (λi s=>OwnL h4.length s.2 s.1 3 cc3 (covL p head ((bg t).take i) al)/\Low h4.length h4 s.2/\h4.length<=s.2.length) (j0:=0) (s0:=(v5,h5)) rfl rfl (qaP _) ⟨b1,hlow5,hle5⟩ ?_
   clear b1 b2 b3 b4 b5 hlow5 hle5 hy5 ho0
   rintro i ⟨v,h6⟩ hi ⟨ho6,hlow6,hle6⟩ self6 hself6
   simp only at ho6 hlow6 hle6 hself6
   simp(disch:=omega)only[↓qXX]
   have hq6:=hqv.low hlow6
   have hlen6:=(hinl i).len
   refine dc hq6 ?_
   by_cases hlt6:i<(bg t).length
   case pos=>
    rw[cb hlt6]
    simp(disch:=omega)only[↓qXX]
    obtain⟨q,hq⟩:=bQ hlt6
    have hq4:=quad_lt (qad hq)
    refine dj hq6 rfl hq ?_
    unfold jP
    simp(disch:=omega)only[↓qXX]
    rw[p_add (by show(-9223372036854775808:Int)<=(head:Int)+(q:Int);omega) (by show(head:Int)+(q:Int)<=9223372036854775807;omega),show Int.ofNat head+Int.ofNat q=Int.ofNat (head+q)from rfl,cp (by omega),show Int.ofNat (head+q)+1=Int.ofNat (head+q+1)from rfl,rem4,p_conv8 (by show(0:Int)<=(((head+q+1)%4:Nat):Int);omega) (by show(((head+q+1)%4:Nat):Int)<=255;omega)]
    refine aG (has_c (ho6.ls cA) (by omega) (qc p head q) ⟨rfl,rfl,rfl⟩) ?_
    simp(disch:=omega)only[↓qXX]
    have hcv:covL p head ((bg t).take (i+1)) al=addC (covL p head ((bg t).take i) al) (qc p head q):=by
     rw[qbQ,hq]
     exact covL_snoc
    have hgo:∀(v':Value) (h':HL),OwnL h4.length h' v' 3 cc3 (covL p head ((bg t).take (i+1)) al)->Low h4.length h4 h'->h4.length<=h'.length->self6 [.v v',.i (Int.ofNat i+1)] h':=λv' h' c1 c2 c3=>hself6 (v',h') hlt6 ⟨c1,c2,c3⟩
    by_cases hm:qc p head q∈covL p head ((bg t).take i) al
    ·rw[decide_eq_true hm]
     simp(disch:=omega)only[↓qXX,qaS]
     rw[cp (by omega)]
     refine hgo _ _ ?_ hlow6 hle6
     rw[hcv,addC,if_pos hm]
     exact ho6
    ·rw[decide_eq_false hm]
     simp(disch:=omega)only[↓qXX,qbI]
     refine ho6.ap1 (a:=qc p head q) cA hle6 rfl rfl rfl (size24 (by omega)) λv' h' c1 c2 c3 c4 c5=>?_
     simp(disch:=omega)only[↓qXX]
     refine az c2 ?_
     simp(disch:=omega)only[↓qXX]
     rw[cp (by omega)]
     refine hgo _ _ ?_ (λj o hj hoo=>c3 j o (hlow6 j o hj hoo) λe=>?_) (by omega)
     ·rw[hcv,addC,if_neg hm]
      exact c1
     ·have:=(ho6.blk e).1
      omega
   obtain rfl:i=(bg t).length:=by omega
   rw[bZ (qag _)]
   simp(disch:=omega)only[↓qXX]
   rw[qbY]at ho6 hlen6
   have hInN:InL L (covL p head (bg t) al):=(iM hp _ hal).1
   clear hself6 self6 hinl
   have hlowh:Low h.length h h6:=λj o hj hoo=>hlow6 j o (aI (hlow4 j o hj hoo)) (hlow4 j o hj hoo)
   have hleh:h.length<=h6.length:=by omega
   have hx6:=hx4.low hlow6
   have hls6:=ho6.ls cA
   refine dc hls6 ?_
   refine dc hx6 ?_
   by_cases hfull:(covL p head (bg t) al).length=D.length
   ·rw[p_eql_t (by rw[hfull])]
    simp(disch:=omega)only[↓qXX]
    refine hyes _ hlowh hleh ?_
    have hd1:decide ((covL p head (bg t) al).length=4*L.length)=true:=decide_eq_true (by omega)
    cases m with
    |zero=>exact hd1
    |succ m=>rw[iK,hd1];rfl
   have hd1:decide ((covL p head (bg t) al).length=4*L.length)=false:=decide_eq_false (by omega)
   rw[p_eql_f (λe=>hfull (qcJ e))]
   simp(disch:=omega)only[↓qXX]
   cases m with
   |zero=>
    rw[p_eql_t (by rfl)]
    simp(disch:=omega)only[↓qXX]
    rw[cp (by omega)]
    exact hnext _ hlowh hleh hd1
   |succ m=>
   rw[p_eql_f (by show((m+1:Nat):Int)≠0;omega)]
   simp(disch:=omega)only[↓qXX]
   have hh4:(head+hdN t)%4<4:=qbj _ (by omega)
   obtain⟨i1,i2⟩:=lit_at (h:=h6) (cx:=4) (n:=3) (hd_lit ht3) rfl
   refine ax i1 ?_
   refine dt i2 rfl ?_
   simp(disch:=omega)only[↓qXX]
   have hdl:=hd_le t
   rw[p_add (by show(-9223372036854775808:Int)<=(head:Int)+(hdN t:Int);omega) (by show(head:Int)+(hdN t:Int)<=9223372036854775807;omega),show Int.ofNat head+Int.ofNat (hdN t)=Int.ofNat (head+hdN t)from rfl,rem4]
   simp(disch:=omega)only[↓qXX]
   have hls7:LsH (h6++[HO.o (.cells [.int .i64 0,.int .i64 1,.int .i64 3] 1 true)]) v 3 cc3 (covL p head (bg t) al):=hls6.pre ⟨_,rfl⟩
   have hx7:LsH (h6++[HO.o (.cells [.int .i64 0,.int .i64 1,.int .i64 3] 1 true)]) x 3 cc3 D:=hx6.pre ⟨_,rfl⟩
   have hlow7:Low h.length h (h6++[HO.o (.cells [.int .i64 0,.int .i64 1,.int .i64 3] 1 true)]):=hlowh.app _
   have hle7:h.length<=(h6++[HO.o (.cells [.int .i64 0,.int .i64 1,.int .i64 3] 1 true)]).length:=by simp;omega
   obtain⟨da,db,d1,d2,d3,d4,d5,d6⟩:=bes_lit p hh4
   obtain⟨k,hk⟩ : ∃k,k=(head+hdN t)%4:=⟨_,rfl⟩
   rw[←hk]at d1 d2 d3 d4 hh4 ⊢
   change P1.opt _ _
   clear i1 i2
   generalize h6++[HO.o (.cells [.int .i64 0,.int .i64 1,.int .i64 3] 1 true)]=h7 at *
   obtain⟨i1,i2⟩:=lit_at (h:=h7) (cx:=5) (n:=4) d1 rfl
   refine ax i1 ?_
   refine dt i2 rfl ?_
   simp(disch:=omega)only[↓qXX]
   try rw[p_add (by omega) (by omega)]
   try simp(disch:=omega)only[↓qXX]
   obtain⟨i3,i4⟩:=lit_at (h:=h7++[HO.o (.cells [.int .i64 1,.int .i64 0,.int .i64 (-1),.int .i64 0] 1 true)]) (cx:=5) (n:=4) d2 rfl
   refine ax i3 ?_
   refine dt i4 rfl ?_
   simp(disch:=omega)only[↓qXX]
   try rw[p_add (by omega) (by omega)]
   rw[←d3,←d4]
   have hlen8:(h7++[HO.o (.cells [.int .i64 1,.int .i64 0,.int .i64 (-1),.int .i64 0] 1 true)]).length=h7.length+1:=by simp
   have hsep:Sx.sepL [(.slice (some ⟨h7.length,0,some 11⟩) 4 5,(0,.slice (some ⟨(h7++[HO.o (.cells [.int .i64 1,.int .i64 0,.int .i64 (-1),.int .i64 0] 1 true)]).length,0,some 11⟩) 4 5)),(.slice (some ⟨(h7++[HO.o (.cells [.int .i64 1,.int .i64 0,.int .i64 (-1),.int .i64 0] 1 true)]).length,0,some 11⟩) 4 5,(0,.pointer (some ⟨h7.length,0+k*1,none⟩))),(.slice (some ⟨h7.length,0,some 11⟩) 4 5,(0,.pointer (some ⟨(h7++[HO.o (.cells [.int .i64 1,.int .i64 0,.int .i64 (-1),.int .i64 0] 1 true)]).length,0+k*1,none⟩)))]=some ():=by
    rw[hlen8]
    show(match ol [h7.length] [h7.length+1]with|true=>(match ol [h7.length+1] [h7.length]with|true=>(match ol [h7.length] [h7.length+1]with|true=>Sx.sepL []|false=>none)|false=>none)|false=>none)=some ()
    rw[sep_ok (by omega),sep_ok (by omega)]
    rfl
   refine ax (x:=()) hsep ?_
   have hls9:LsH (h7++[HO.o (.cells [.int .i64 1,.int .i64 0,.int .i64 (-1),.int .i64 0] 1 true)]++[HO.o (.cells [.int .i64 0,.int .i64 1,.int .i64 0,.int .i64 (-1)] 1 true)]) v 3 cc3 (covL p head (bg t) al):=(hls7.pre ⟨_,rfl⟩).pre ⟨_,rfl⟩
   have hx9:LsH (h7++[HO.o (.cells [.int .i64 1,.int .i64 0,.int .i64 (-1),.int .i64 0] 1 true)]++[HO.o (.cells [.int .i64 0,.int .i64 1,.int .i64 0,.int .i64 (-1)] 1 true)]) x 3 cc3 D:=(hx7.pre ⟨_,rfl⟩).pre ⟨_,rfl⟩
   have hlow9:Low h.length h (h7++[HO.o (.cells [.int .i64 1,.int .i64 0,.int .i64 (-1),.int .i64 0] 1 true)]++[HO.o (.cells [.int .i64 0,.int .i64 1,.int .i64 0,.int .i64 (-1)] 1 true)]):=(hlow7.app _).app _
   have hle9:h.length<=(h7++[HO.o (.cells [.int .i64 1,.int .i64 0,.int .i64 (-1),.int .i64 0] 1 true)]++[HO.o (.cells [.int .i64 0,.int .i64 1,.int .i64 0,.int .i64 (-1)] 1 true)]).length:=by simp;omega
   try change P1.call _ _ _ _
   clear i1 i2 i3 i4 hsep hlen8
   generalize h7++[HO.o (.cells [.int .i64 1,.int .i64 0,.int .i64 (-1),.int .i64 0] 1 true)]++[HO.o (.cells [.int .i64 0,.int .i64 1,.int .i64 0,.int .i64 (-1)] 1 true)]=h9 at *
   refine aG (has_c hx9 (by omega) (sqC (bes p k)) ⟨rfl,rfl,rfl⟩) ?_
   simp(disch:=omega)only[↓qXX]
   have hmD:sqC (bes p k)∈D↔bes p k∈L:=by
    rw[hD.mem]
    exact⟨λh=>h.1,λh=>⟨h,by show 0<4;omega⟩⟩
   have hkk:(k+2)%4<4:=qbj _ (by omega)
   have hadd:∀ {K:Int->Prop},P1.ari .add .i64 (Int.ofNat k) 2 (@hid _ ⟨K⟩)=K (Int.ofNat (k+2)):=λ{K}=>p_add (by show(-9223372036854775808:Int)<=(k:Int)+2;omega) (by show(k:Int)+2<=9223372036854775807;omega)
   by_cases hin:bes p k∈L
   ·rw[decide_eq_true (hmD.2 hin)]
    simp(disch:=omega)only[↓qXX]
    rw[tu (by omega)]
    obtain⟨h10,hcall,hlow10,hle10⟩:=ih m (by omega) (by omega) (r:=0) hx9 hls9 hInN hin hh4
    refine aG hcall ?_
    clear hcall
    simp(disch:=omega)only[↓qXX]
    have hlow10':Low h.length h h10:=λj o hj hoo=>hlow10 j o (aI (hlow9 j o hj hoo)) (hlow9 j o hj hoo)
    cases hr:ce L m (bes p k) k (covL p head (bg t) al)with
    |true=>
     simp(disch:=omega)only[↓qXX]
     refine hyes _ hlow10' (by omega) ?_
     rw[iK,←hk,decide_eq_true hin,hr]
     simp
    |false=>
     simp(disch:=omega)only[↓qXX]
     rw[hadd,rem4]
     rw[tu (by omega)]
     obtain⟨h11,hcall,hlow11,hle11⟩:=ih m (by omega) (by omega) (r:=r) (hx9.low hlow10) (hls9.low hlow10) hInN hp hkk
     refine aG hcall ?_
     clear hcall
     simp(disch:=omega)only[↓qXX]
     have hlow11':Low h.length h h11:=λj o hj hoo=>hlow11 j o (aI (hlow10' j o hj hoo)) (hlow10' j o hj hoo)
     cases hr2:ce L m p ((k+2)%4) (covL p head (bg t) al)with
     |true=>
      simp(disch:=omega)only[↓qXX]
      refine hyes _ hlow11' (by omega) ?_
      rw[iK,←hk,hr2]
      simp
     |false=>
      simp(disch:=omega)only[↓qXX]
      rw[cp (by omega)]
      refine hnext _ hlow11' (by omega) ?_
      rw[iK,←hk,hd1,hr,hr2]
      simp
   ·rw[decide_eq_false (λe=>hin (hmD.1 e))]
    simp(disch:=omega)only[↓qXX]
    rw[hadd,rem4]
    rw[tu (by omega)]
    obtain⟨h11,hcall,hlow11,hle11⟩:=ih m (by omega) (by omega) (r:=r) hx9 hls9 hInN hp hkk
    refine aG hcall ?_
    clear hcall
    simp(disch:=omega)only[↓qXX]
    have hlow11':Low h.length h h11:=λj o hj hoo=>hlow11 j o (aI (hlow9 j o hj hoo)) (hlow9 j o hj hoo)
    cases hr2:ce L m p ((k+2)%4) (covL p head (bg t) al)with
    |true=>
     simp(disch:=omega)only[↓qXX]
     refine hyes _ hlow11' (by omega) ?_
     rw[iK,←hk,hr2]
     simp
    |false=>
     simp(disch:=omega)only[↓qXX]
     rw[cp (by omega)]
     refine hnext _ hlow11' (by omega) ?_
     rw[iK,←hk,hd1,hr2,decide_eq_false hin]
     simp)
  exact⟨h',e1,e2⟩
end Go.Am
namespace Go.Am
namespace Sx
section
variable [Val]
end
section
variable [Val]
end
end Sx
end Go.Am
set_option maxRecDepth 100000
namespace Go.Am
open Sx Go.Proofs
def isAns(rs':List Lf):Option (List Lf)->Bool:=λo=>@Option.rec _ (λ_=>Bool) false (λrs=>eqLs rs rs') o
def eqCell(a b:Value):Bool:=match a,b with
 | .int k n,.int k' n'=>cV k k'&&eqZK n n'
 | .bool t,.bool t'=>eqBK t t'
 |_,_=>false
def eqCell_ok{a b:Value}(h:eqCell a b=true):a=b/\flat b=true:=by
 unfold eqCell at h
 split at h
 ·simp only[qaa]at h
  have h2:=h.2
  rw[ov,beq_iff_eq]at h2
  rw[cU h.1,h2]
  exact⟨rfl,rfl⟩
 next a b=>
  cases a<;>cases b<;>first|exact⟨rfl,rfl⟩|cases h
 ·cases h
def ot(c:Tr Value):List Value->Nat->Bool
 | [],_=>true
 |v :: l,i=>eqCell ((bc i).get nilV c) v&&ot c l (i+1)
def mO{c:Tr Value}:∀ {l:List Value} {i:Nat},ot c l i=true->(∀j (h:j<l.length),(bc (i+j)).get nilV c=l[j])/\l.all flat=true
 | [],i,_=>⟨λj h=>by simp at h,rfl⟩
 |v :: l,i,h=>by
  simp only[ot,qaa]at h
  obtain⟨h1,h2⟩:=eqCell_ok h.1
  obtain⟨h3,h4⟩:=mO h.2
  refine⟨λj hj=>?_,by simp[h2,h4]⟩
  cases j with
  |zero=>exact h1
  |succ j=>
   have:=h3 j (by simpa using hj)
   rw[show i+(j+1)=i+1+j by omega]
   simpa using this
def eqOn(a b:Option Nat):Bool:=match a,b with
 |none,none=>true
 |some a,some b=>Nat.beq a b
 |_,_=>false
def eqOn_ok{a b:Option Nat}(h:eqOn a b=true):a=b:=by
 cases a<;>cases b<;>first|rfl|(cases h;done)|exact congrArg some (qab h)
def eqVs(x y:Value):Bool:=match x,y with
 | .slice (some a) n c,.slice (some b) m d=>Nat.beq a.block b.block&&(Nat.beq a.off b.off&&(eqOn a.spot b.spot&&(Nat.beq n m&&Nat.beq c d)))
 | .slice none 0 0,.slice none 0 0=>true
 |_,_=>false
def eqVs_ok{x y:Value}(h:eqVs x y=true):x=y:=by
 unfold eqVs at h
 split at h
 next a n c b m d=>
  simp only[qaa]at h
  obtain⟨h1,h2,h3,h4,h5⟩:=h
  have h1:=qab h1
  have h2:=qab h2
  have h3:=eqOn_ok h3
  have h4:=qab h4
  have h5:=qab h5
  have e:a=b:=by
   cases a;cases b
   simp only at *
   simp_all
  rw[e,h4,h5]
 ·rfl
 ·cases h
def eqLg(x y:Lf):Bool:=match x,y with
 | .v x,.v y=>eqVs x y
 |x,y=>eqLf x y
def eqLg_ok{x y:Lf}(h:eqLg x y=true):x=y:=by
 unfold eqLg at h
 split at h
 ·rw[eqVs_ok h]
 ·exact mP h
def eqLgs:List Lf->List Lf->Bool
 | [],[]=>true
 |x :: l,y :: m=>eqLg x y&&eqLgs l m
 |_,_=>false
def sW:∀ {l m:List Lf},eqLgs l m=true->l=m
 | [],[],_=>rfl
 |x :: l,y :: m,h=>by
  simp only[eqLgs,qaa]at h
  rw[eqLg_ok h.1,sW h.2]
 | [],_ :: _,h=>by cases h
 |_ :: _,[],h=>by cases h
abbrev Bls:=List (Nat×List Value)
def blH(bl:Bls):List HObj:=bl.map λb=>.cells b.2 b.1 false
def isBl:Bls->HTr->Nat->Bool
 | [],h,i=>Nat.beq h.n i
 |b :: bl,h,i=>(match h.at i with
  |some (.t n e false c)=>Nat.beq n b.2.length&&(Nat.beq e b.1&&ot c b.2 0)
  |_=>false)&&isBl bl h (i+1)
def isBl_ok:∀ {bl:Bls} {h:HTr} {i:Nat},isBl bl h i=true->h.n=i+bl.length/\∀j (hj:j<bl.length),(toL h)[i+j]?=some (.o (.cells bl[j].2 bl[j].1 false))/\bl[j].2.all flat=true
 | [],h,i,hb=>⟨(qab hb),λj hj=>by simp at hj⟩
 |b :: bl,h,i,hb=>by
  simp only[isBl,qaa]at hb
  obtain⟨h1,h2⟩:=hb
  obtain⟨h3,h4⟩:=isBl_ok h2
  refine⟨by rw[h3];simp;omega,λj hj=>?_⟩
  cases j with
  |succ j=>
   have:=h4 j (by simpa using hj)
   rw[show i+(j+1)=i+1+j by omega]
   simpa using this
  |zero=>
   split at h1
   next n e c hat=>
    simp only[qaa]at h1
    obtain⟨q1,q2,q3⟩:=h1
    have q1:=qab q1
    have q2:=qab q2
    obtain⟨q4,q5⟩:=mO q3
    refine⟨?_,q5⟩
    rw[qce,gS,hat]
    show some (HO.o (.cells (bo c n) e false))=some (HO.o (.cells b.2 b.1 false))
    subst q1 q2
    have hc:bo c b.2.length=b.2:=by
     apply List.ext_getElem
     ·rw[aO]
     ·intro k hk hk'
      have:=de c (i:=k) (n:=b.2.length) hk'
      rw[qao hk]at this
      rw[qai this,←q4 k hk',qaD]
    rw[hc]
   ·cases h1
def isBl_abs{T:Nat->Site}{bl:Bls}{h:HTr}(hb:isBl bl h 0=true):absH T (toL h)=blH bl/\h.n=bl.length:=by
 obtain⟨h1,h2⟩:=isBl_ok hb
 refine⟨?_,by rw[h1];omega⟩
 apply qaT
 intro j
 unfold absH blH
 rw[qaw,qaw]
 by_cases hj:j<bl.length
 ·have:=(h2 j hj).1
  rw[qaD]at this
  rw[this,qao hj];rfl
 ·rw[qah (by rw[cC];omega),qah (by omega)];rfl
structure KR1 where
 f:Nat
 ls:List Lf
 bl:Bls
 rs:List Lf
def oQ(l:List KR1)(f:Nat)(ls:List Lf)(h:HTr):Option (List Lf):=match l with
 | []=>none
 |p :: l=>match Nat.beq p.f f with
  |false=>oQ l f ls h
  |true=>match eqLgs p.ls ls with
   |false=>oQ l f ls h
   |true=>match isBl p.bl h 0 with
    |false=>oQ l f ls h
    |true=>some p.rs
def qM{f:Nat}{ls rs:List Lf}{h:HTr}:∀ {l:List KR1},oQ l f ls h=some rs->∃p∈l,p.f=f/\p.ls=ls/\isBl p.bl h 0=true/\p.rs=rs
 | [],hh=>by cases hh
 |p :: l,hh=>by
  have rec_:oQ l f ls h=some rs->∃p'∈p :: l,p'.f=f/\p'.ls=ls/\isBl p'.bl h 0=true/\p'.rs=rs:=λh1=>by
   obtain⟨q,q1,q2⟩:=qM h1
   exact⟨q,qan _ q1,q2⟩
  unfold oQ at hh
  split at hh
  ·exact rec_ hh
  next e1=>
   split at hh
   ·exact rec_ hh
   next e2=>
    split at hh
    ·exact rec_ hh
    next e3=>
     cases hh
     exact⟨p,qaJ,qab e1,sW e2,e3,rfl⟩
def hasR(l:List KR1)(f:Nat):Bool:=match l with
 | []=>false
 |p :: l=>match Nat.beq p.f f with
  |true=>true
  |false=>hasR l f
def runKR(l:List KR1)(c:ac):ac:=λck=>match ck with
 | .f f=>match hasR l f with
  |false=>c (.f f)
  |true=>λls h K=>ext h (c (.f f) ls h K) ls .empty λls0 h0=>@Option.rec _ (λ_=>RT) (c (.f f) ls h K) (λrs=>K rs h) (oQ l f ls0 h0)
 | .y κ vs i=>c (.y κ vs i)
def KROk(p:KR1):Prop:=∃sg H',ab p.f=some sg/\sg.rs.all SK.plain=true/\neuN p.f=none/\aQ cc ab p.f p.ls (blH p.bl) p.rs H'
def AllR(l:List KR1):Prop:=∀p∈l,KROk p
def AllR.nil:AllR []:=λ_ h=>by cases h
def AllR.cons{p:KR1}{l:List KR1}(h:KROk p)(hl:AllR l):AllR (p :: l):=λq hq=>by
 rcases qaq.1 hq with rfl|hq
 ·exact h
 ·exact hl q hq
def AllR.app{l m:List KR1}(h:AllR l)(hm:AllR m):AllR (l++m):=λp hp=>by
 rcases qay.1 hp with hp|hp
 ·exact h p hp
 ·exact hm p hp
def runKR_ok{l:List KR1}{c:ac}(hc:Cok c)(hl:AllR l):Cok (runKR l c):=by
 refine⟨λf ls h K w hls hk=>?_,λκ vs i ls h K w st pd xs e hy hk=>hc.y κ vs i ls h K w st pd xs e hy hk⟩
 have hk:(match hasR l f with
  |false=>c (.f f)
  |true=>λls h K=>ext h (c (.f f) ls h K) ls .empty λls0 h0=>@Option.rec _ (λ_=>RT) (c (.f f) ls h K) (λrs=>K rs h) (oQ l f ls0 h0)) ls h K=some w:=hk
 cases ef:hasR l f with
 |false=>rw[ef]at hk;exact hc.f f ls h K w hls hk
 |true=>
  rw[ef]at hk
  rcases kZ (T:=aa) ls .empty _ id (λj o hj=>by cases hj) hk with h1|⟨ls0,h1,σ,a1,_,_,a4,a5,a6⟩
  ·exact hc.f f ls h K w hls h1
  ·cases e:oQ l f ls0 h1 with
   |none=>rw[e]at a1;exact hc.f f ls h K w hls a1
   |some rs=>
    rw[e]at a1
    obtain⟨p,hp,rfl,rfl,q3,rfl⟩:=qM e
    obtain⟨sg,H',s1,s2,s3,s4⟩:=hl p hp
    obtain⟨q4,q5⟩:=isBl_abs (T:=aa) q3
    rw[←q4]at s4
    have key:=rE (N:=neuN) mixed iV s1 s2 s3 (H:=absH aa (toL h)) σ s4 a4 (λx hx=>by
     have:=a6 x hx
     rw[cQ,cC]
     exact this)
    rw[a5]at key
    exact⟨_,h,key,a1⟩
def mkBl(bl:Bls):HTr->(HTr->RT)->RT:=@List.rec _ (λ_=>HTr->(HTr->RT)->RT) (λh k=>k h) (λb _ ih h k=>my (.cells b.2 b.1 false) λx=>fP h x λh=>ih h k) bl
def mkBl_ok:∀(bl:Bls) (h:HTr) (k:HTr->RT),∃h',mkBl bl h k=k h'/\absH aa (toL h')=absH aa (toL h)++blH bl
 | [],h,k=>⟨h,rfl,by simp[blH]⟩
 |b :: bl,h,k=>by
  have e:mkBl (b :: bl) h k=my (.cells b.2 b.1 false) λx=>fP h x λh=>mkBl bl h k:=rfl
  obtain⟨x,x1,x2⟩:=gc (o:=.cells b.2 b.1 false) (k:=λx=>fP h x λh=>mkBl bl h k)
  obtain⟨h',a1,a2⟩:=mkBl_ok bl (h.push x) k
  refine⟨h',by rw[e,x2,eo,a1],?_⟩
  rw[a2,eq,x1]
  simp[absH,absO,blH]
def lB{p:KR1}{g:FB}(hc:Ent p.f g){sg:Sig}(h1:ab p.f=some sg)(h2:sg.rs.all SK.plain=true)(h3:neuN p.f=none)(h4:cz p.ls)(h:(mkBl p.bl .empty λh=>@Option.rec _ (λ_=>RT) none (λrs=>ans (eqLs rs p.rs)) (g p.ls h tell))=yes):KROk p:=by
 obtain⟨h',a1,a2⟩:=mkBl_ok p.bl .empty λh=>@Option.rec _ (λ_=>RT) none (λrs=>ans (eqLs rs p.rs)) (g p.ls h tell)
 rw[a1]at h
 cases e:g p.ls h' tell with
 |none=>rw[e]at h;cases h
 |some rs=>
  rw[e]at h
  have h:ans (eqLs rs p.rs)=yes:=h
  have h:=iP (ans_yes h)
  subst h
  obtain⟨rs',h'',b1,b2⟩:=hc p.ls h' tell _ h4 e
  rw[mh]at b2
  cases b2
  have e0:absH aa (toL HTr.empty)=[]:=rfl
  rw[e0,qbv]at a2
  rw[a2]at b1
  exact⟨sg,_,h1,h2,h3,b1⟩
def known_c{g:Nat}{w:FB}(hc:Ent g w){ls rs:List Lf}{sg:Sig}(hs:ab g=some sg)(hp:sg.plain=true)(hg:jE ls=true)(h:isAns rs (w ls .empty tell)=true):∀H,aQ cc ab g ls H rs H:=by
 cases e:w ls .empty tell with
 |none=>rw[e]at h;cases h
 |some rs'=>
  rw[e]at h
  have h:eqLs rs' rs=true:=h
  rw[iP h]at e
  obtain⟨rs'',h',a1,a2⟩:=hc ls .empty tell _ (co hg) e
  rw[mh]at a2
  cases a2
  exact tK g sg ls _ _ hs hp a1
end Go.Am
end

/-
  PART 10 OF THE PROOF (no conditions).
-/
import Derived.Test.YtoeibflkihlloaaGreatDoorCE9
import Derived.SevenTiedAt
import Derived.Test.YtoeibflkihlloaaGreatDoorCards
import Derived.Test.YtoeibflkihlloaaGreatDoorTie
set_option linter.unusedSectionVars false
set_option linter.unusedSimpArgs false
set_option linter.unusedVariables false
set_option linter.constructorNameAsVariable false
set_option linter.defProp false
noncomputable section
set_option maxRecDepth 100000
set_option maxHeartbeats 16000000
namespace Go.Am
open Sx Go.Proofs
def krL_ok:AllR [ql0,ql1,ql2,ql3,ql4]:=.cons ql0_ok (.cons ql1_ok (.cons ql2_ok (.cons ql3_ok (.cons ql4_ok .nil))))
def kA:∀H,aw cc ab 12 [] H [.b true] H:=known_c (ok12 (runKR_ok (gT 60) krL_ok)) rfl (by kernel_rfl) rfl (by kernel_rfl)
end Go.Am
namespace Go.Am
namespace Sx
def sw{α:Type}{ks:TG}{enc:α->Tl}{ok:α->Prop}(dec:∀cs,FitC ks cs->∃a,enc a=cs/\ok a):∀(n:Nat) (cells:Tl),cells.length=n*ks.length->(∀i,i<n->FitC ks ((cells.drop (i*ks.length)).take ks.length))->∃l:List α,l.length=n/\l.flatMap enc=cells/\∀a∈l,ok a
 |0,cells,hl,_=>⟨[],rfl,by
   simp only[qcx,qbg]at hl
   rw[hl];rfl,λ_ h=>by cases h⟩
 |n+1,cells,hl,hf=>by
  obtain⟨a,h1,h2⟩:=dec _ (by have:=hf 0 (by omega);rw[qcx,qaV]at this;exact this)
  obtain⟨l,h3,h4,h5⟩:=sw dec n (cells.drop ks.length) (by rw[qbO,hl,qbH];omega) (λi hi=>by
   have:=hf (i+1) (by omega)
   rw[qbU]
   rw[qbH,qcd,Nat.add_comm]at this
   exact this)
  refine⟨a :: l,by simp[h3],?_,λb hb=>?_⟩
  ·rw[qbz,h1,h4,qbt]
  ·rcases qal.1 hb with rfl|hb
   ·exact h2
   ·exact h5 b hb
def ls_of{α:Type}{ks:TG}{enc:α->Tl}{ok:α->Prop}(hlen:∀a,(enc a).length=ks.length)(dec:∀cs,FitC ks cs->∃a,enc a=cs/\ok a){h:HL}{x:Value}{n:Nat}{cells:Tl}(hs:SlC h x ks.length n cells)(hf:∀i,i<n->FitC ks ((cells.drop (i*ks.length)).take ks.length)) :
  ∃l:List α,LsH h x ks.length enc l/\l.length=n/\∀a∈l,ok a:=by
 obtain⟨l,h1,h2,h3⟩:=sw dec n cells hs.1 hf
 refine⟨l,⟨λa _=>hlen a,?_⟩,h1,h3⟩
 rw[h1,h2];exact hs
def bm.i{h:HL}{k:TI}{ks:List CK2}{ls:TE}(hf:bm h (.i k :: ks) ls):∃n r,ls = .i n :: r/\(Lit.int k n).wf=true/\bm h ks r:=by
 match ls,hf with
 | .i n :: r,hf=>exact⟨n,r,rfl,hf.1,hf.2⟩
def bm.b{h:HL}{ks:List CK2}{ls:TE}(hf:bm h (.b :: ks) ls):∃n r,ls = .b n :: r/\bm h ks r:=by
 match ls,hf with
 | .b n :: r,hf=>exact⟨n,r,rfl,hf⟩
def bm.s{h:HL}{es:TG}{ks:List CK2}{ls:TE}(hf:bm h (.s es :: ks) ls):∃x r n cells,ls = .v x :: r/\SlC h x es.length n cells/\n<=maxLen/\(∀i,i<n->FitC es ((cells.drop (i*es.length)).take es.length))/\bm h ks r:=by
 match ls,hf with
 | .v x :: r,⟨⟨n,cells,h1,h2,h3⟩,h4⟩=>exact⟨x,r,n,cells,rfl,h1,h2,h3,h4⟩
def bm.nil{h:HL}{ls:TE}(hf:bm h [] ls):ls=[]:=by
 match ls,hf with
 | [],_=>rfl
def hp_at(bl:List Blk2):HpAt (bl.map λb=>HO.o b.1) 0 bl:=λi b hb=>by
 rw[qaL,qaz,hb];rfl
def absH_bl(T:Tt)(bl:List Blk2):absH T (bl.map λb=>HO.o b.1)=bl.map (·.1):=by
 induction bl with
 |nil=>rfl
 |cons b l ih=>show absO T (.o b.1) :: absH T (l.map λb=>HO.o b.1)=_;rw[ih];rfl
end Sx
end Go.Am
namespace Go.Am
open Sx Go.Proofs Tw
namespace St
def pa00{K:Tu}:P1.ari .add .i64 0 0 (@hid _ ⟨K⟩)=K 0:=by
 rw[p_add (by omega) (by omega)]
 rfl
def lG{H:HL}{xl xg xw:Value}{D:List K3}{G:List (Int×Int)}{ws:TB}{p:K3}(hl:LsH H xl 3 cc3 D)(hq:∀a∈D,a.2.2<=255)(hG:LsH H xg 2 ou G)(hb:∀a∈G,(0<=a.1/\a.1<=255)/\0<=a.2/\a.2<=255)(hw:LsH H xw 1 encS ws)(hwq:∀z∈ws,z<=255){X Y:Int}(hX:0<=X/\X<=255)(hY:0<=Y/\Y<=255) :
  ∃h',aw cc ab 4 [.v xl,.i X,.i Y,.v xg,.v xw,.i p.1,.i p.2.1,.i (Int.ofNat p.2.2)] (absH aa H) [.b true] (absH aa h'):=by
 obtain⟨rs,h',h1,h2⟩:=x4 (ls:=[.v xl,.i X,.i Y,.v xg,.v xw,.i p.1,.i p.2.1,.i (Int.ofNat p.2.2)]) (H:=H) (K:=λrs h'=>rs=[.b true]) (glsV hl.good (glsI (glsI (glsV hG.good (glsV hw.good (glsI (glsI (glsI gls0)))))))) (by
  unfold f4;simp only[qxh]
  refine p_x ?_
  refine bI hl ?_
  by_cases h60:60<D.length
  ·rw[p_gtr_t (by show(60:Int)<(D.length:Int);omega)]
   refine p_x ?_
   refine ac kA ?_
   simp(disch:=omega)only[↓qXX]
  rw[p_gtr_f (by show(D.length:Int)<=60;omega)]
  refine p_x ?_
  refine bI hw ?_
  by_cases h10:10<ws.length
  ·rw[p_gtr_t (by show(10:Int)<(ws.length:Int);omega)]
   refine p_x ?_
   refine ac kA ?_
   simp(disch:=omega)only[↓qXX]
  rw[p_gtr_f (by show(ws.length:Int)<=10;omega)]
  refine p_x ?_
  refine ah (tP hl (by omega) hq) ?_
  refine p_x ?_
  refine vX λt ht=>?_
  refine ij (λl' h'=>l'=[.i (chkC D)]/\Low H.length H h'/\H.length<=h'.length/\(chkC D=0->∃R:List Sq,Go.Am.SetOf R D/\R.Nodup/\Con R)) ?_ ?_
  rotate_left
  ·intro jn hjn
   by_cases hS:chkS D=0
   ·rw[qdC hS]at ht
    subst ht
    refine p_x ?_
    obtain⟨h1,hcall,hR,hlow,hle⟩:=uk hl (by omega) hS
    refine ah hcall ?_
    refine p_x ?_
    exact hjn _ _ ⟨rfl,hlow,hle,hR⟩
   ·rw[qdB hS]at ht
    subst ht
    refine p_x ?_
    rw[←vl hS]
    have hne:chkC D≠0:=by
     rw[vl hS]
     exact hS
    exact hjn _ _ ⟨rfl,Low.refl _,qaf _,λe=>absurd e hne⟩
  rintro _ h ⟨rfl,hlow,hle,hR⟩
  have key:∀ {h' h'':HL},Low H.length H h'->Low h'.length h' h''->Low H.length H h'':=λa b i o hi hoo=>b i o (av (a i o hi hoo)) (a i o hi hoo)
  have hl':∀ {h':HL},Low H.length H h'->LsH h' xl 3 cc3 D:=λa=>hl.keep λi o hi hbk=>a i o (hl.blkLt hbk) hi
  refine p_x ?_
  by_cases he:chkC D=0
  case' neg=>
   obtain⟨h1,hcall,b1,c1⟩:=walkE_c (hl' hlow) (by omega) hq he
   refine ah hcall ?_
   clear hcall
   refine p_x ?_
   have w1:=key hlow b1
   obtain⟨h2,hcall,b2,c2⟩:=coversE_c (y:=.slice none 0 0) (a:=0) (b:=0) (c:=0) (hl' w1) (by omega) hq he rfl
   refine ah hcall ?_
   clear hcall
   refine p_x ?_
   have w2:=key w1 b2
   obtain⟨h3,hcall,b3,c3⟩:=leastE_c (hl' w2) (by omega) hq he
   refine ah hcall ?_
   clear hcall
   refine p_x ?_
   have w3:=key w2 b3
   obtain⟨h4,hcall,b4,c4⟩:=pZ (hl' w3) (by omega) hq he
   refine ah hcall ?_
   clear hcall
   refine p_x ?_
   have w4:=key w3 b4
   obtain⟨hz,hcall,b5,c5⟩:=jh (hl' w4) (by omega) hq
   refine ah hcall ?_
   clear hcall
   have hlowz:=key w4 b5
   have hlez:H.length<=hz.length:=by omega
   simp(disch:=omega)only[↓qXX]
   repeat (first|simp(disch:=omega)only[↓qXX]|rw[p_neq_f rfl]|rw[p_neq_t he]|rw[p_eql_f he]|refine af (x:=(0:Int)) rfl ?_|rw[pa00])
  case' pos=>
   obtain⟨R,hD,hnd,hcon⟩:=hR he
   have hDl:=hD.len
   obtain⟨hin,hasc⟩ : (∀a∈D,inC a)/\AscC D:=by
    refine oN.1 ?_
    refine Decidable.byContradiction λhne=>?_
    rw[vl hne]at he
    exact hne he
   have h0:0<R.length:=by
    refine Nat.pos_of_ne_zero λe=>?_
    have:D=[]:=qbg.1 (by omega)
    rw[chkC_7 (oN.2 ⟨hin,hasc⟩) this]at he
    omega
   have hbR:∀c∈R,(-4096<=c.1/\c.1<=4096)/\-4096<=c.2/\c.2<=4096:=λc hc=>by
    have:=hin (c.1,c.2,0) (hD.mem.2 ⟨hc,by show 0<4;omega⟩)
    exact⟨this.1,this.2.1⟩
   obtain⟨a0,ha0⟩:=aP (l:=D) (i:=0) (by omega)
   rw[he]
   obtain⟨rs,h1,hcall,v1,rfl,l1,b1,c1,_,_⟩:=walk_c (hl' hlow) hD h0 (by omega) hnd hcon hbR ha0
   refine ah hcall ?_
   clear hcall
   refine p_x ?_
   have w1:=key hlow b1
   have hfin:∃h2 b e,aw cc ab 8 [.v xl,.v (.slice none 0 0),.i 0,.i 0,.i 0] (absH aa h1) [.b b,.i e] (absH aa h2)/\Low h1.length h1 h2/\h1.length<=h2.length:=by
    obtain⟨h2,b,q1,q2,q3⟩:=sz (p:=(0,0,0)) (ws:=[]) (y:=.slice none 0 0) (hl' w1) hD h0 (by omega) hnd hcon hbR (LsH.nil _ 1 encS) (λz hz=>by cases hz) (by simp)
    exact⟨h2,b,_,q1,q2,q3⟩
   obtain⟨h2,bb,ee,hcall,b2,c2⟩:=hfin
   refine ah hcall ?_
   clear hcall
   refine p_x ?_
   have w2:=key w1 b2
   obtain⟨h3,nn,e3,hcall,b3,c3,hlim⟩ : ∃h3 nn e3,aw cc ab 15 [.v xl] (absH aa h2) [.i nn,.i e3] (absH aa h3)/\Low h2.length h2 h3/\h2.length<=h3.length/\((e3=3/\3<R.length)∨(e3=0/\R.length<=3)):=by
    by_cases h3:3<R.length
    ·obtain⟨h3',q1,q2,q3⟩:=leastL_c (hl' w2) hD h3 (by omega) hnd hcon hbR
     exact⟨h3',_,_,q1,q2,q3,.inl ⟨rfl,h3⟩⟩
    ·obtain⟨h3',n,q1,q2,q3⟩:=least3_c (hl' w2) hD h0 (by omega) hnd hcon hbR
     exact⟨h3',_,_,q1,q2,q3,.inr ⟨rfl,by omega⟩⟩
   refine ah hcall ?_
   clear hcall
   refine p_x ?_
   have w3:=key w2 b3
   obtain⟨h4,hcall,b4,c4⟩:=kV (hl' w3) hD h0 (by omega) hnd hcon hbR
   refine ah hcall ?_
   clear hcall
   refine p_x ?_
   have w4:=key w3 b4
   obtain⟨hz,hcall,b5,c5⟩:=Go.Am.check_c (hl' w4) hD h0 (by omega) hnd hcon hbR
   refine ah hcall ?_
   clear hcall
   have hlowz:=key w4 b5
   have hlez:H.length<=hz.length:=by omega
   refine p_x ?_
   refine bI hl ?_
   rw[p_quo_nn (by show(0:Int)<=(D.length:Int);omega) (by omega) (by show(D.length:Int)<=9223372036854775807;omega)]
   rw[p_neq_f (by show(R.length:Int)=(D.length:Int) / 4;omega)]
   refine p_x ?_
   rcases hlim with⟨rfl,h3l⟩|⟨rfl,h3l⟩
   all_goals
    first
     |rw[p_eql_t rfl]
     |rw[p_eql_f (by omega)]
    try simp(disch:=omega)only[↓qXX]
    first
     |rw[p_gtr_t (by show(3:Int)<(R.length:Int);omega)]
     |rw[p_gtr_f (by show(R.length:Int)<=3;omega)]
    try simp(disch:=omega)only[↓qXX]
    rw[eqsBd,qdC rfl]
    simp(disch:=omega)only[↓qXX,qaI]
  all_goals
   have hGz:LsH hz xg 2 ou G:=hG.keep λi o hi hbk=>hlowz i o (hG.blkLt hbk) hi
   obtain⟨rs,k1,hcall,v0,L0,rfl,hg,ho1,hlow1,hle1⟩:=of_c hGz hb hX hY
   refine ah hcall ?_
   clear hcall
   refine p_x ?_
   have hls0:=ho1.ls cB
   have hbL0:∀c∈L0,-4096<=c.1/\c.1<=4096/\-4096<=c.2/\c.2<=4096:=λc hc=>by
    have:=hg.bd c hc
    omega
   have hbL1:∀c∈L0,(-4096<=c.1/\c.1<=4096)/\-4096<=c.2/\c.2<=4096:=λc hc=>by
    have:=hg.bd c hc
    omega
   have hL12:=hg.le
   obtain⟨rs,k2,hcall,v2,D2,rfl,hD2,ho2,hlow2,hle2⟩:=set_c hls0 hg.ne (by omega) hg.nd hbL0
   refine ah hcall ?_
   clear hcall
   refine p_x ?_
   have hls2:=ho2.ls cB
   have hwz:LsH k2 xw 1 encS ws:=hw.keep λi o hi hbk=>by
    have a1:=hlowz i o (hw.blkLt hbk) hi
    have a2:=hlow1 i o (av a1) a1
    exact hlow2 i o (av a2) a2
   have hD2l:=hD2.len
   refine ah (tH hwz hwq (by omega)) ?_
   refine p_x ?_
   obtain⟨k3,b3,hcall,hlow3,hle3⟩:=sz (p:=p) hls2 hD2 hg.ne (by omega) hg.nd hg.con hbL1 hwz hwq (by omega)
   by_cases he:chkR ws=0
   ·rw[p_eql_t he]
    refine p_x ?_
    by_cases hq0:p.2.2=0
    ·rw[p_neq_f (by rw[hq0];rfl)]
     refine p_x ?_
     refine ah (Go.Am.has_c hls2 (by omega) p ⟨rfl,rfl,rfl⟩) ?_
     refine p_x ?_
     by_cases hm:p∈D2
     ·have hc0:covE D2 ws p=0:=by
       unfold covE
       rw[qdE (by simp[he]),qdE (by simp[hq0,hm])]
      rw[hc0]at hcall
      rw[qdC hm]
      simp(disch:=omega)only[↓qXX,qaI]
      refine ah hcall ?_
      simp(disch:=omega)only[↓qXX]
      try rw[p_eql_t he.symm]
      try simp(disch:=omega)only[↓qXX]
      refine ac kA ?_
      simp(disch:=omega)only[↓qXX]
     ·have hc1:covE D2 ws p=1:=by
       unfold covE
       rw[qdE (by simp[he]),qdD (.inr hm)]
      rw[hc1]at hcall
      rw[qdB hm]
      simp(disch:=omega)only[↓qXX,qba]
      refine ah hcall ?_
      refine p_x ?_
      refine ac kA ?_
      simp(disch:=omega)only[↓qXX]
    ·have hc1:covE D2 ws p=1:=by
      unfold covE
      rw[qdE (by simp[he]),qdD (.inl hq0)]
     rw[hc1]at hcall
     rw[p_neq_t (show Int.ofNat p.2.2≠0 from λh=>hq0 (qbP h))]
     refine p_x ?_
     refine ah hcall ?_
     refine p_x ?_
     refine ac kA ?_
     simp(disch:=omega)only[↓qXX]
   ·have hc1:covE D2 ws p=chkR ws:=by
     unfold covE
     rw[qdD he]
    rw[hc1]at hcall
    rw[p_eql_f he]
    refine p_x ?_
    refine ah hcall ?_
    simp(disch:=omega)only[↓qXX]
    try rw[p_eql_t rfl]
    try simp(disch:=omega)only[↓qXX]
    refine ac kA ?_
    simp(disch:=omega)only[↓qXX])
 subst h2
 exact⟨h',h1⟩
def decG(cs:Tl)(h:FitC [.i .u8,.i .u8] cs):∃p:Int×Int,ou p=cs/\(0<=p.1/\p.1<=255)/\0<=p.2/\p.2<=255:=by
 obtain⟨v1,v2,rfl⟩ : ∃v1 v2,cs=[v1,v2]:=by
  have hl:=FitC.len h
  match cs,hl with
  | [v1,v2],_=>exact⟨v1,v2,rfl⟩
 obtain⟨⟨a,rfl,ha⟩,⟨b,rfl,hb⟩,_⟩:=h
 exact⟨(a,b),rfl,vc ha,vc hb⟩
def decS(cs:Tl)(h:FitC [.i .u8] cs):∃p:Nat,encS p=cs/\p<=255:=by
 obtain⟨v1,rfl⟩ : ∃v1,cs=[v1]:=by
  have hl:=FitC.len h
  match cs,hl with
  | [v1],_=>exact⟨v1,rfl⟩
 obtain⟨⟨a,rfl,ha⟩,_⟩:=h
 have:=vc ha
 refine⟨a.toNat,?_,by omega⟩
 unfold encS
 rw[show Int.ofNat a.toNat=a by show((a.toNat:Nat):Int)=a;omega]
def decL(cs:Tl)(h:FitC [.i .i64,.i .i64,.i .u8] cs):∃p:K3,cc3 p=cs/\p.2.2<=255:=by
 obtain⟨v1,v2,v3,rfl⟩ : ∃v1 v2 v3,cs=[v1,v2,v3]:=by
  have hl:=FitC.len h
  match cs,hl with
  | [v1,v2,v3],_=>exact⟨v1,v2,v3,rfl⟩
 obtain⟨⟨a,rfl,ha⟩,⟨b,rfl,hb⟩,⟨c,rfl,hc⟩,_⟩:=h
 have:=vc hc
 refine⟨(a,b,c.toNat),?_,by show c.toNat<=255;omega⟩
 unfold cc3
 rw[show Int.ofNat (a,b,c.toNat).2.2=c by show((c.toNat:Nat):Int)=c;omega]
def coversErrors_leaves(ls:TE)(h:HL)(hf:bm h [.s [.i .i64,.i .i64,.i .u8],.i .u8,.i .u8,.s [.i .u8,.i .u8],.s [.i .u8],.i .i64,.i .i64,.i .u8] ls):∃h',aw cc ab 4 ls (absH aa h) [.b true] (absH aa h'):=by
 obtain⟨s,ls,n,cells,rfl,h1,hn,h3,hf⟩:=hf.s
 obtain⟨w,ls,rfl,hw,hf⟩:=hf.i
 obtain⟨v,ls,rfl,hv,hf⟩:=hf.i
 obtain⟨s1,ls,n1,cells1,rfl,f1,fn,f3,hf⟩:=hf.s
 obtain⟨s2,ls,n2,cells2,rfl,g1,gn,g3,hf⟩:=hf.s
 obtain⟨a,ls,rfl,ha,hf⟩:=hf.i
 obtain⟨b,ls,rfl,hb,hf⟩:=hf.i
 obtain⟨c,ls,rfl,hc,hf⟩:=hf.i
 obtain rfl:=hf.nil
 obtain⟨l,hl,hlen,hk⟩:=ls_of (enc:=cc3) (ok:=λp:K3=>p.2.2<=255) (λ_=>rfl) decL h1 h3
 obtain⟨l1,hl1,hlen1,hk1⟩:=ls_of (enc:=ou) (ok:=λp:Int×Int=>(0<=p.1/\p.1<=255)/\0<=p.2/\p.2<=255) (λ_=>rfl) decG f1 f3
 obtain⟨l2,hl2,hlen2,hk2⟩:=ls_of (enc:=encS) (ok:=λp:Nat=>p<=255) (λ_=>rfl) decS g1 g3
 have hc8:=vc hc
 have:=lG (p:=(a,b,c.toNat)) hl hk hl1 hk1 hl2 hk2 (vc hw) (vc hv)
 rw[show Int.ofNat (a,b,c.toNat).2.2=c by show((c.toNat:Nat):Int)=c;omega]at this
 exact this
end St
end Go.Am
namespace Go.Am
namespace Sx
open Go.ChangeShapes Go.WideShapes Go.ChangeAt Go.WideMaps Go.WideElems Go.RowKit
def un1(P:TF)(e:TM)(d:DataW Unit):Ti:=match unD P 4 e d with
 |some [x]=>some x
 |_=>none
def un1s(P:TF)(e:TM):List (DataW Unit)->Option (Tl)
 | []=>some []
 |d :: l=>match un1 P e d,un1s P e l with
  |some x,some xs=>some (x :: xs)
  |_,_=>none
def wK{P:TF}{e:TM}:∀ {l:List (DataW Unit)} {xs:Tl},un1s P e l=some xs->xs.length=l.length/\∀(i:Nat) d x,l[i]?=some d->xs[i]?=some x->unD P 4 e d=some [x]
 | [],xs,h=>by
  simp only[un1s,qaq]at h
  subst h
  exact⟨rfl,λi d x h=>by simp at h⟩
 |d :: l,xs,h=>by
  simp only[un1s]at h
  split at h
  next x ys h1 h2=>
   cases h
   obtain⟨h3,h4⟩:=wK h2
   refine⟨by simp[h3],λi d' x' hd hx=>?_⟩
   cases i with
   |zero=>
    simp only[qaR,qaq]at hd hx
    subst hd hx
    unfold un1 at h1
    split at h1
    ·cases h1;assumption
    ·cases h1
   |succ i=>exact h4 i d' x' (by simpa using hd) (by simpa using hx)
  ·cases h
def laid_sl{P:TF}{w:World}{laid:List (String×DataW Unit)}{ps:List MemPlace}(h:DataW.LaidVars P w laid ps){n:String}{ds:List (DataW Unit)}(hm:(n,.agg ds)∈laid)
  {g:Nat} {t st e:TM} {m:Nat}
  (hg:P.globalNamed n=some g) (ht:(P.globals[g]?).map (·.type)=some t) (hu:P.underlying t=some (.array m st)) (hs:P.underlying st=some (.slice e)) (hc1:P.cellsOf st=1) (hc2:P.cellsOf e=1) (hct:P.cellsOf t=m) :
  ∃c ty fr,w.heap[g]?=some (.cells c ty fr)/\c.size=m/\∀i,i<m->∀es xs,ds[i]?=some (.slice es [])->un1s P e es=some xs->xs≠[]->
   ∃b o cap,c[i]?=some (.slice (some ⟨b,o,none⟩) xs.length cap)/\xs.length<=cap/\∀(j:Nat) x,xs[j]?=some x->w.cell? ⟨b,o+j,none⟩=some x:=by
 induction laid generalizing ps with
 |nil=>cases hm
 |cons x l ih=>
  obtain⟨n0,d0⟩:=x
  obtain⟨g0,t0,cs,fuel,p,q,a1,a2,a3,a4,a5,a6⟩:=h
  rcases qal.1 hm with he|hm
  ·cases he
   rw[hg]at a1;cases a1
   rw[ht]at a2;cases a2
   unfold World.var? at a3
   rw[hg]at a3
   simp only[qak]at a3
   split at a3
   next c ty fr hh=>
    cases a3
    obtain⟨ys,k,rfl,hx,hl,hyl,hy⟩:=DataW.trod_array hu a4
    rw[hct]at hl
    have hcs:cs.size=m:=by simpa using hl
    refine⟨cs,ty,fr,hh,hcs,λi hi es xs hd hxs hne=>?_⟩
    have h1:=hy i hi
    rw[hc1,qcg]at h1
    have h2:(cs.toList.drop i).take 1=[cs[i]'(by omega)]:=by
     rw[qa9 (by simpa using(by omega:i<cs.size))]
     simp
    rw[h2]at h1
    obtain⟨hx1,_⟩:=qcQ hx
    have hx2:=DataW.agg.inj hx1
    obtain⟨y,hy1⟩ : ∃y,ys[i]?=some y:=⟨ys[i]'(by omega),qai (by omega)⟩
    rw[hy1]at h1
    have hy2:y.1 = .slice es []:=by
     rw[hx2,qaz,hy1]at hd
     exact qae hd
    rcases DataW.trod_slice hs h1 with⟨_,rfl⟩|⟨a,len,cap,elems,rest,k',rfl,hv,rfl,_,hlc,_,hlen,hel,_,_⟩
    ·cases hy2
    ·obtain⟨hes,_⟩:=DataW.slice.inj hy2
     have hv:cs[i]'(by omega) = .slice (some a) len cap:=by simpa using hv
     obtain⟨hn1,hn2⟩:=wK hxs
     have hle:xs.length=len:=by rw[hn1,←hes,qay,hlen]
     subst hle
     have key:∀(j:Nat) x,xs[j]?=some x->w.cell? ((a.add j).add 0)=some x:=by
      intro j x hj
      have hjl:j<xs.length:=(qaP.1 hj).1
      have h3:=hel j hjl
      rw[hc2,qcg]at h3
      obtain⟨z,hz⟩ : ∃z,elems[j]?=some z:=⟨elems[j]'(by omega),qai (by omega)⟩
      rw[hz]at h3
      obtain⟨ci,h4,h5⟩:=qar.1 h3
      have h6:es[j]?=some z.1:=by rw[←hes,qaz,hz];rfl
      have h7:=unD_ok 4 e _ _ (hn2 j _ _ h6 hj) _ ci z.2 h5
      have h8:=(World.cells?_some h4).2.2 0 (by omega)
      rw[h7]at h8
      simpa using h8
     obtain⟨b,o,sp⟩:=a
     have hsp:sp=none:=by
      cases xs with
      |nil=>exact absurd rfl hne
      |cons x xs=>
       have h9:=key 0 x rfl
       unfold World.cell? at h9
       split at h9
       ·cases sp with
        |none=>rfl
        |some k=>simp[Addr.add]at h9
       ·cases h9
     subst hsp
     refine⟨b,o,cap,?_,hlc,λj x hj=>?_⟩
     ·rw[qbp (by omega),hv]
     ·have h9:((⟨b,o,none⟩ : Addr).add j).add 0=⟨b,o+j,none⟩:=by
       unfold Addr.add
       by_cases hj0:j=0<;>simp[hj0]
      rw[←h9]
      exact key j x hj
   ·cases a3
  ·exact ih a5 hm
def cells_at [Val] [Glo]{w:World}{b o:Nat}{xs:Tl}(hx:xs.all flat=true)(hne:xs≠[])(h:∀(j:Nat) x,xs[j]?=some x->w.cell? ⟨b,o+j,none⟩=some x) :
  b<w.heap.size/\∃c e fr,w.heap[b]?=some (.cells c e fr)/\bO (λ_=>none) xs c o:=by
 have g:∀(j:Nat) x,xs[j]?=some x->∃c e fr,w.heap[b]?=some (.cells c e fr)/\c[o+j]?=some x:=by
  intro j x hj
  have h1:=h j x hj
  unfold World.cell? at h1
  split at h1
  next c e fr hc=>
   exact⟨c,e,fr,hc,by simpa using h1⟩
  ·cases h1
 cases xs with
 |nil=>exact absurd rfl hne
 |cons x xs=>
  obtain⟨c,e,fr,h1,_⟩:=g 0 x rfl
  refine⟨(qav.1 h1).1,c,e,fr,h1,λi v hv=>?_⟩
  obtain⟨c',e',fr',h2,h3⟩:=g i v hv
  rw[h1]at h2
  cases h2
  exact⟨v,h3,.of_flat (qag.1 hx v (qab hv))⟩
end Sx
end Go.Am
namespace Go.Proofs.YtoeibflkihlloaaGreatDoor
open Go Go.Am Go.Am.Sx
open Go.ChangeShapes Go.WideShapes Go.ChangeAt Go.WideMaps Go.WideElems Go.RowKit
abbrev laidC:List (String×DataW Unit):= [("crimp/moves.turns",Rows.laid_crimp_moves_turns), ("crimp/cells.quarters",Rows.laid_crimp_cells_quarters), ("crimp/covers.heads",Rows.laid_crimp_covers_heads), ("crimp/covers.ways",Rows.laid_crimp_covers_ways)]
def name0 : Tryz.prog.globalNamed "crimp/covers.ways" = some 0:=by kernel_rfl
def name1 : Tryz.prog.globalNamed "crimp/covers.heads" = some 1:=by kernel_rfl
def name2 : Tryz.prog.globalNamed "crimp/moves.turns" = some 2:=by kernel_rfl
def name3 : Tryz.prog.globalNamed "crimp/cells.quarters" = some 3:=by kernel_rfl
abbrev gloOf(p0 p1 p2 p3:Nat×Nat):Glo:=⟨λg=>match g - 1000000 with
 |0=>p0
 |1=>p1
 |2=>p2
 |_=>p3⟩
def of_laid{W:World}(h:laidMetH Tryz.prog laidC W):∃_:Glo,∀(g:Nat) (vs:Tl),cc.G g=some vs->
  gBlk g<W.heap.size/\vs.all aU=true/\∃c e fr,W.heap[gBlk g]?=some (.cells c e fr)/\bO (λ_=>none) vs c (gOff g):=by
 rw[MakeChecks.laidMetH_plain _ _ _ (by kernel_rfl)]at h
 obtain⟨ps,h,_,_⟩:=h
 obtain⟨c,ty,fr,hc,hsz,hall⟩:=laid_sl h (n := "crimp/covers.ways") (ds:=[.slice [.lit (.int .u8 1)] [],.slice [.lit (.int .u8 2),.lit (.int .u8 4),.lit (.int .u8 1)] [],.slice [.lit (.int .u8 2),.lit (.int .u8 1)] [],.slice [.lit (.int .u8 2),.lit (.int .u8 3),.lit (.int .u8 1)] []])
  (qap _ (qap _ (qap _ qaE))) (t:=57) (st:=28) (e:=59) (m:=4) name0 (by kernel_rfl) (by kernel_rfl) (by kernel_rfl) (by kernel_rfl) (by kernel_rfl) (by kernel_rfl)
 obtain⟨b0,o0,k0,e0,l0,m0⟩:=hall 0 (by omega) _ gl4 rfl (by kernel_rfl) (by simp[gl4])
 obtain⟨b1,o1,k1,e1,l1,m1⟩:=hall 1 (by omega) _ gl5 rfl (by kernel_rfl) (by simp[gl5])
 obtain⟨b2,o2,k2,e2,l2,m2⟩:=hall 2 (by omega) _ gl6 rfl (by kernel_rfl) (by simp[gl6])
 obtain⟨b3,o3,k3,e3,l3,m3⟩:=hall 3 (by omega) _ gl7 rfl (by kernel_rfl) (by simp[gl7])
 let G:Glo:=gloOf (b0,o0) (b1,o1) (b2,o2) (b3,o3)
 refine⟨G,λg vs hg=>?_⟩
 have hcell:=gl_cell g vs hg
 unfold cc at hg
 simp only at hg
 split at hg
 ·cases hg
  exact ng (by kernel_rfl) hcell (by kernel_rfl) (kz h "crimp/moves.turns" Rows.laid_crimp_moves_turns qaE 2 179 8 gl2 name2 (by kernel_rfl) (by kernel_rfl))
 ·cases hg
  exact ng (by kernel_rfl) hcell (by kernel_rfl) (kz h "crimp/cells.quarters" Rows.laid_crimp_cells_quarters (qap _ qaE) 3 204 8 gl3 name3 (by kernel_rfl) (by kernel_rfl))
 ·cases hg
  exact ng (by kernel_rfl) hcell (by kernel_rfl) (kz h "crimp/covers.heads" Rows.laid_crimp_covers_heads (qap _ (qap _ qaE)) 1 55 8 gl1 name1 (by kernel_rfl) (by kernel_rfl))
 ·cases hg
  rw[uy (by kernel_rfl),uz (by kernel_rfl)]
  refine⟨(qav.1 hc).1,hcell,c,ty,fr,hc,λi v hv=>?_⟩
  rw[qaL]
  match i,hv with
  |0,hv=>cases hv;exact⟨_,e0,.gslice l0 (.inl rfl)⟩
  |1,hv=>cases hv;exact⟨_,e1,.gslice l1 (.inl rfl)⟩
  |2,hv=>cases hv;exact⟨_,e2,.gslice l2 (.inl rfl)⟩
  |3,hv=>cases hv;exact⟨_,e3,.gslice l3 (.inl rfl)⟩
  |n+4,hv=>simp[gl0]at hv
 ·have go:∀(n b o:Nat) (xs:Tl),Nat.beq g n=true->gBlk n=b->gOff n=o->xs.all flat=true->xs≠[]->xs=vs->(∀(j:Nat) x,xs[j]?=some x->W.cell? ⟨b,o+j,none⟩=some x)->
    gBlk g<W.heap.size/\vs.all aU=true/\∃c e fr,W.heap[gBlk g]?=some (.cells c e fr)/\bO (λ_=>none) vs c (gOff g):=by
   intro n b o xs hb h1 h2 h3 h4 h5 h6
   obtain rfl:=qac hb
   obtain⟨a1,a2⟩:=cells_at h3 h4 h6
   subst h1 h2 h5
   exact⟨a1,hcell,a2⟩
  unfold glx at hg
  split at hg
  ·exact go 1000000 b0 o0 gl4 (by assumption) rfl rfl (by kernel_rfl) (by simp[gl4]) (qae hg) m0
  ·exact go 1000001 b1 o1 gl5 (by assumption) rfl rfl (by kernel_rfl) (by simp[gl5]) (qae hg) m1
  ·exact go 1000002 b2 o2 gl6 (by assumption) rfl rfl (by kernel_rfl) (by simp[gl6]) (qae hg) m2
  ·exact go 1000003 b3 o3 gl7 (by assumption) rfl rfl (by kernel_rfl) (by simp[gl7]) (qae hg) m3
  ·cases hg
def own:ownKnob Tryz.prog.godebug=none:=by kernel_rfl
def door_met(os:Os)(args:Tj):laidMetH Tryz.prog laidC ((World.doorLaid Tryz.prog 400 os).forCall (λ_ _=>0) ⟨#[],args,[]⟩).memory:=
 laidMetH_of_parts3 (fuel:=8) (laidMet_of_run' 8 (by kernel_rfl) (by kernel_rfl)) (by kernel_rfl) (by kernel_rfl)
end Go.Proofs.YtoeibflkihlloaaGreatDoor
end

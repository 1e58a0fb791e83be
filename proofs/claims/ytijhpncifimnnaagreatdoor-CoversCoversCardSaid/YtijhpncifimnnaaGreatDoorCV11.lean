/-
  PART 11 OF THE PROOF (no conditions).
-/
import Derived.Test.YtijhpncifimnnaaGreatDoorCV10
import Derived.SevenTiedAt
import Derived.Test.YtijhpncifimnnaaGreatDoorCards
import Derived.Test.YtijhpncifimnnaaGreatDoorTie
set_option linter.unusedSectionVars false
set_option linter.unusedSimpArgs false
set_option linter.unusedVariables false
set_option linter.constructorNameAsVariable false
set_option linter.defProp false
noncomputable section
set_option maxRecDepth 100000
namespace Go.Am
open Sx Go.Proofs
def krL_ok:AllR [ql0,ql1,ql2,ql3,ql4]:=.cons ql0_ok (.cons ql1_ok (.cons ql2_ok (.cons ql3_ok (.cons ql4_ok .nil))))
def qz:∀H,aK cc ab 4 [] H [.b true] H:=known_c (ok4 (runKR_ok (gG 60) krL_ok)) rfl (by kernel_rfl) rfl (by kernel_rfl)
end Go.Am
set_option maxRecDepth 100000
namespace Go.Am
namespace Sx
def rS{α:Type}{ks:List LK}{enc:α->List Value}{ok:α->Prop}(dec:∀cs,FitC ks cs->∃a,enc a=cs/\ok a):∀(n:Nat) (cells:List Value),cells.length=n*ks.length->(∀i,i<n->FitC ks ((cells.drop (i*ks.length)).take ks.length))->∃l:List α,l.length=n/\l.flatMap enc=cells/\∀a∈l,ok a
 |0,cells,hl,_=>⟨[],rfl,by
   simp only[qcv,qbp]at hl
   rw[hl];rfl,λ_ h=>by cases h⟩
 |n+1,cells,hl,hf=>by
  obtain⟨a,h1,h2⟩:=dec _ (by have:=hf 0 (by omega);rw[qcv,qa6]at this;exact this)
  obtain⟨l,h3,h4,h5⟩:=rS dec n (cells.drop ks.length) (by rw[qbK,hl,qbC];omega) (λi hi=>by
   have:=hf (i+1) (by omega)
   rw[qbR]
   rw[qbC,qb8,Nat.add_comm]at this
   exact this)
  refine⟨a :: l,by simp[h3],?_,λb hb=>?_⟩
  ·rw[qbE,h1,h4,qby]
  ·rcases qal.1 hb with rfl|hb
   ·exact h2
   ·exact h5 b hb
def ls_of{α:Type}{ks:List LK}{enc:α->List Value}{ok:α->Prop}(hlen:∀a,(enc a).length=ks.length)(dec:∀cs,FitC ks cs->∃a,enc a=cs/\ok a){h:HL}{x:Value}{n:Nat}{cells:List Value}(hs:SlC h x ks.length n cells)(hf:∀i,i<n->FitC ks ((cells.drop (i*ks.length)).take ks.length)) :
  ∃l:List α,LsH h x ks.length enc l/\l.length=n/\∀a∈l,ok a:=by
 obtain⟨l,h1,h2,h3⟩:=rS dec n cells hs.1 hf
 refine⟨l,⟨λa _=>hlen a,?_⟩,h1,h3⟩
 rw[h1,h2];exact hs
def bo.i{h:HL}{k:IntKind}{ks:List CK2}{ls:List Lf}(hf:bo h (.i k :: ks) ls):∃n r,ls = .i n :: r/\(Lit.int k n).wf=true/\bo h ks r:=by
 match ls,hf with
 | .i n :: r,hf=>exact⟨n,r,rfl,hf.1,hf.2⟩
def bo.b{h:HL}{ks:List CK2}{ls:List Lf}(hf:bo h (.b :: ks) ls):∃n r,ls = .b n :: r/\bo h ks r:=by
 match ls,hf with
 | .b n :: r,hf=>exact⟨n,r,rfl,hf⟩
def bo.s{h:HL}{es:List LK}{ks:List CK2}{ls:List Lf}(hf:bo h (.s es :: ks) ls):∃x r n cells,ls = .v x :: r/\SlC h x es.length n cells/\n<=maxLen/\(∀i,i<n->FitC es ((cells.drop (i*es.length)).take es.length))/\bo h ks r:=by
 match ls,hf with
 | .v x :: r,⟨⟨n,cells,h1,h2,h3⟩,h4⟩=>exact⟨x,r,n,cells,rfl,h1,h2,h3,h4⟩
def bo.nil{h:HL}{ls:List Lf}(hf:bo h [] ls):ls=[]:=by
 match ls,hf with
 | [],_=>rfl
def hp_at(bl:List Blk2):HpAt (bl.map λb=>HO.o b.1) 0 bl:=λi b hb=>by
 rw[qaM,qau,hb];rfl
def absH_bl(T:Nat->Site)(bl:List Blk2):absH T (bl.map λb=>HO.o b.1)=bl.map (·.1):=by
 induction bl with
 |nil=>rfl
 |cons b l ih=>show absO T (.o b.1) :: absH T (l.map λb=>HO.o b.1)=_;rw[ih];rfl
end Sx
end Go.Am
set_option maxRecDepth 100000
set_option maxHeartbeats 16000000
namespace Go.Am
open Sx Go.Proofs Tw
namespace St
def qI{ws:List Nat}(h:Ok3 ws){z:Nat}(hz:z<3∨∀a,ws[ws.length - 1]?=some a->a<3):Ok3 (ws++[z]):=by
 intro i a b h1 h2
 by_cases e1:i+1<ws.length
 ·rw[qag (by omega)]at h1
  rw[qag e1]at h2
  exact h i a b h1 h2
 ·have:=aJ h2
  rw[qaC,List.length_singleton]at this
  have e:i+1=ws.length:=by omega
  rw[qao (by omega),e,qbz]at h2
  simp only[qaO,qar]at h2
  rw[qag (by omega),show i=ws.length - 1 by omega]at h1
  rcases hz with hz|hz
  ·omega
  ·have:=hz a h1
   omega
def fA(z:Nat):(encS z).length=1:=rfl
def size1{n:Nat}(h:n<=1000000):bC n 1=true:=by
 unfold bC
 rw[qaX (by omega),qaX (by omega)];rfl
def covD_nd{L:List Sq}{D:List K3}(h:Go.Am.SetOf L D)(hL:L.Nodup):D.Nodup:=h.perm.nodup_iff.2 (vQ hL)
def kX{H:HL}{x y:Value}{G:List (Int×Int)}{S:List Nat}(hG:LsH H x 2 pX G)(hb:∀a∈G,(0<=a.1/\a.1<=255)/\0<=a.2/\a.2<=255)(hS:LsH H y 1 encS S)(hSb:∀a∈S,a<=255){X Y F:Int}(hX:0<=X/\X<=255)(hY:0<=Y/\Y<=255)(hF:0<=F/\F<=255) :
  ∃h',aK cc ab 3 [.i X,.i Y,.v x,.v y,.i F] (absH aa H) [.b true] (absH aa h'):=by
 obtain⟨rs,h',h1,h2⟩:=x3 (ls:=[.i X,.i Y,.v x,.v y,.i F]) (H:=H) (K:=λrs h'=>rs=[.b true]) (glsI (glsI (glsV hG.good (glsV hS.good (glsI gls0))))) (by
  unfold f3;simp only[qxh]
  simp(disch:=omega)only[↓qXX]
  refine be hS ?_
  by_cases h12:12<S.length
  ·rw[p_gtr_t (by show(12:Int)<(S.length:Int);omega)]
   simp(disch:=omega)only[↓qXX]
   refine ae qz ?_
   simp(disch:=omega)only[↓qXX]
  rw[p_gtr_f (by show(S.length:Int)<=12;omega)]
  simp(disch:=omega)only[↓qXX]
  obtain⟨rs,h1,hcall,v0,L,rfl,hg,ho1,hlow1,hle1⟩:=of_c hG hb hX hY
  refine av hcall ?_
  clear hcall
  simp(disch:=omega)only[↓qXX]
  have hls0:=ho1.ls bK
  have hL12:=hg.le
  have hne:=hg.ne
  have hbL:∀c∈L,-100<=c.1/\c.1<=100/\-100<=c.2/\c.2<=100:=λc hc=>by
   have:=hg.bd c hc
   omega
  have hbL2:∀c∈L,(-100<=c.1/\c.1<=100)/\-100<=c.2/\c.2<=100:=λc hc=>by
   have:=hg.bd c hc
   omega
  obtain⟨rs,h2,hcall,v2,D,rfl,hD,ho2,hlow2,hle2⟩:=set_c hls0 hne (by omega) hg.nd hbL
  refine av hcall ?_
  clear hcall
  simp(disch:=omega)only[↓qXX]
  have hDl:=hD.len
  have hS2:LsH h2 y 1 encS S:=hS.keep λj o ho hbj=>hlow2 j o (aJ (hlow1 j o (hS.blkLt hbj) ho)) (hlow1 j o (hS.blkLt hbj) ho)
  have hlsL:=hls0.low hlow2
  have hls2:=ho2.ls bK
  refine cB (σ:=Value×HL×List Nat) S.length (λj s=>[.v s.1,.i (Int.ofNat j)]) (λ_ s=>s.2.1) (λj s=>OwnL h2.length s.2.1 s.1 1 encS s.2.2/\(∀z∈s.2.2,1<=z/\z<=4)/\Ok3 s.2.2/\s.2.2.length<=j/\Low h2.length h2 s.2.1/\h2.length<=s.2.1.length) (j0:=0) (s0:=(.slice none 0 0,h2,[])) rfl rfl (qaU _) ⟨OwnL.nil _ _ _ _,(λz hz=>by cases hz),(λi a b h1 h2=>by simp at h1),by simp,Low.refl _,qah _⟩ ?_
  rintro j ⟨v,h,ws⟩ hj ⟨ho,hok,h3,hwl,hlow,hle⟩ self hself
  simp only at ho hok h3 hwl hlow hle hself
  simp(disch:=omega)only[↓qXX]
  refine be hS ?_
  by_cases hlt:j<S.length
  case pos=>
   rw[aP hlt]
   simp(disch:=omega)only[↓qXX]
   obtain⟨a,ha⟩:=aU hlt
   refine aS (hS2.low hlow) rfl ha ?_
   unfold encS
   simp(disch:=omega)only[↓qXX]
   have ha4:=hSb a (qab ha)
   rw[show(4:Int)=Int.ofNat 4 from rfl,um (by omega)]
   try simp(disch:=omega)only[↓qXX]
   obtain⟨z,hz⟩ : ∃z:Nat,z=1+a%4:=⟨_,rfl⟩
   have hz4:1<=z/\z<=4:=by omega
   try rw[p_add8 (by show(0:Int)<=1+((a%4:Nat):Int);omega) (by show 1+((a%4:Nat):Int)<=255;omega)]
   rw[show 1+Int.ofNat (a%4)=Int.ofNat z by show(1:Int)+((a%4:Nat):Int)=(z:Int);omega]
   clear hz
   have hlen:ws.length<=1000:=by omega
   have hap:Ok3 (ws++[z])->∀K:List Value->HL->Prop,(∀v' h',ba v'=true->self [.v v',.i (Int.ofNat j+1)] h'->K [v'] h')->P1.heap (.ap cc 1 1 v (.slice (some ⟨h.length,0,some 11⟩) 1 2)) (h++[.o (.cells (encS z) 1 true)]) (@hid _ ⟨K⟩):=λhk K hK=>by
    refine ho.ap1 (a:=z) fA hle rfl rfl rfl (size1 (by omega)) λv' h' b1 b2 b3 b4 b5=>hK v' h' b2 ?_
    refine hself (v',h',ws++[z]) hlt ⟨b1,λc hc=>?_,hk,by show(ws++[z]).length<=j+1;simp;omega,λi o hi hoo=>b3 i o (hlow i o hi hoo) λe=>?_,by show h2.length<=h'.length;omega⟩
    ·rcases qas.1 hc with hc|hc
     ·exact hok c hc
     ·rw[qap]at hc
      exact hc▸hz4
    ·have:=(ho.blk e).1
     omega
   by_cases hz3:z<3
   ·rw[p_lss_t (by show(z:Int)<3;omega)]
    simp(disch:=omega)only[↓qXX]
    refine hap (qI h3 (.inl hz3)) _ λv' h' g1 g2=>?_
    simp(disch:=omega)only[↓qXX]
    refine aD g1 ?_
    simp(disch:=omega)only[↓qXX]
    rw[aR (by omega)]
    exact g2
   rw[p_lss_f (by show(3:Int)<=(z:Int);omega)]
   simp(disch:=omega)only[↓qXX]
   refine be (ho.ls fA) ?_
   by_cases h0:ws.length=0
   ·rw[p_eql_t (by show(ws.length:Int)=0;omega)]
    simp(disch:=omega)only[↓qXX]
    refine hap (qI h3 (.inr λa ha=>?_)) _ λv' h' g1 g2=>?_
    ·have:=aJ ha
     omega
    simp(disch:=omega)only[↓qXX]
    refine aD g1 ?_
    simp(disch:=omega)only[↓qXX]
    rw[aR (by omega)]
    exact g2
   rw[p_eql_f (by show(ws.length:Int)≠0;omega)]
   simp(disch:=omega)only[↓qXX]
   refine be (ho.ls fA) ?_
   rw[fj (by omega) (by omega)]
   obtain⟨b,hb1⟩:=aU (l:=ws) (i:=ws.length - 1) (by omega)
   refine aS (ho.ls fA) rfl hb1 ?_
   unfold encS
   simp(disch:=omega)only[↓qXX]
   by_cases hb3:b<3
   ·rw[p_lss_t (by show(b:Int)<3;omega)]
    simp(disch:=omega)only[↓qXX]
    refine hap (qI h3 (.inr λa ha=>?_)) _ λv' h' g1 g2=>?_
    ·rw[hb1]at ha
     cases ha
     exact hb3
    simp(disch:=omega)only[↓qXX]
    refine aD g1 ?_
    simp(disch:=omega)only[↓qXX]
    rw[aR (by omega)]
    exact g2
   ·rw[p_lss_f (by show(3:Int)<=(b:Int);omega)]
    simp(disch:=omega)only[↓qXX]
    rw[aR (by omega)]
    exact hself (v,h,ws) hlt ⟨ho,hok,h3,by show ws.length<=j+1;omega,hlow,hle⟩
  obtain rfl:j=S.length:=by omega
  rw[bb (qah _)]
  simp(disch:=omega)only[↓qXX]
  obtain⟨u,hu⟩ : ∃u:Nat,F=Int.ofNat u:=⟨F.toNat,by show F=((F.toNat:Nat):Int);omega⟩
  rw[hu]
  try simp(disch:=omega)only[↓qXX]
  refine be hls0 ?_
  rw[qaF,um hne]
  have hlt2:u%L.length<L.length:=qbY _ hne
  obtain⟨p,hp⟩:=aU hlt2
  have hpm:=qab hp
  have hpb:=hbL2 p hpm
  refine aS (hlsL.low hlow) rfl (by rw[qau,hp];rfl) ?_
  simp only[sqC,cc3]
  simp(disch:=omega)only[↓qXX]
  have hw12:ws.length<=12:=by omega
  have hnm:nmv ws<=ws.length:=qcQ _ _
  obtain⟨h5,b1,hcall,hb1,hlow5,hle5⟩:=covers_c (hls2.low hlow) hD hne (by omega) hg.nd hg.con hbL2 hpm (ho.ls fA) hok h3 (by omega) (by omega)
  refine av hcall ?_
  clear hcall
  simp(disch:=omega)only[↓qXX]
  obtain⟨h6,v6,b2,out,hcall,hlo,hb2,hb3,hlow6,hle6⟩:=covered_c (D:=D) (p:=p) (((hls2.low hlow).low hlow5)) (by omega) ⟨by omega,by omega⟩ ((ho.ls fA).low hlow5) hok (by omega)
  refine av hcall ?_
  clear hcall
  simp(disch:=omega)only[↓qXX]
  have hDnd:=covD_nd hD hg.nd
  have key:b2=true->(b1=true↔out.length=D.length):=λhb=>by
   obtain⟨o1,o2⟩:=hb3 hb
   have o3:=hb2.1 hb
   rw[hb1]
   constructor
   ·intro he
    refine Nat.le_antisymm (cR o1 λa ha=>o3 a ((o2 a).1 ha)) (cR hDnd λa ha=>(o2 a).2 ((he a).2 ha))
   ·intro he a
    refine⟨o3 a,λha=>?_⟩
    rw[←o2]
    refine Decidable.byContradiction λhn=>?_
    have:=cR (a:=a :: out) (b:=D) (qb7.2 ⟨hn,o1⟩) λc hc=>by
     rcases qal.1 hc with rfl|hc
     ·exact ha
     ·exact o3 c ((o2 c).1 hc)
    simp only[qaE]at this
    omega
  cases b2 with
  |true=>
   try simp(disch:=omega)only[↓qXX]
   refine be hlo ?_
   refine be hls2 ?_
   have k1:=key rfl
   by_cases hlen:out.length=D.length
   ·rw[p_eql_t (by rw[hlen])]
    try simp(disch:=omega)only[↓qXX]
    obtain rfl:=k1.2 hlen
    try simp(disch:=omega)only[↓qXX]
    rw[eqsBd,decide_eq_true rfl]
    try simp(disch:=omega)only[↓qXX]
    refine ae qz ?_
    try simp(disch:=omega)only[↓qXX]
   ·rw[p_eql_f (λe=>hlen (qb4 e))]
    try simp(disch:=omega)only[↓qXX]
    obtain rfl:b1=false:=by
     cases b1 with
     |false=>rfl
     |true=>exact absurd (k1.1 rfl) hlen
    try simp(disch:=omega)only[↓qXX]
    rw[eqsBd,decide_eq_true rfl]
    try simp(disch:=omega)only[↓qXX]
    refine ae qz ?_
    try simp(disch:=omega)only[↓qXX]
  |false=>
   try simp(disch:=omega)only[↓qXX]
   obtain rfl:b1=false:=by
    cases b1 with
    |false=>rfl
    |true=>
     have:=hb2.2 λa ha=>(hb1.1 rfl a).1 ha
     cases this
   try simp(disch:=omega)only[↓qXX]
   rw[eqsBd,decide_eq_true rfl]
   try simp(disch:=omega)only[↓qXX]
   refine ae qz ?_
   try simp(disch:=omega)only[↓qXX])
 subst h2
 exact⟨h',h1⟩
def decG(cs:List Value)(h:FitC [.i .u8,.i .u8] cs):∃p:Int×Int,pX p=cs/\(0<=p.1/\p.1<=255)/\0<=p.2/\p.2<=255:=by
 obtain⟨v1,v2,rfl⟩ : ∃v1 v2,cs=[v1,v2]:=by
  have hl:=FitC.len h
  match cs,hl with
  | [v1,v2],_=>exact⟨v1,v2,rfl⟩
 obtain⟨⟨a,rfl,ha⟩,⟨b,rfl,hb⟩,_⟩:=h
 exact⟨(a,b),rfl,xk ha,xk hb⟩
def decS(cs:List Value)(h:FitC [.i .u8] cs):∃p:Nat,encS p=cs/\p<=255:=by
 obtain⟨v1,rfl⟩ : ∃v1,cs=[v1]:=by
  have hl:=FitC.len h
  match cs,hl with
  | [v1],_=>exact⟨v1,rfl⟩
 obtain⟨⟨a,rfl,ha⟩,_⟩:=h
 have:=xk ha
 refine⟨a.toNat,?_,by omega⟩
 unfold encS
 rw[show Int.ofNat a.toNat=a by show((a.toNat:Nat):Int)=a;omega]
def coversCovers_leaves(ls:List Lf)(h:HL)(hf:bo h [.i .u8,.i .u8,.s [.i .u8,.i .u8],.s [.i .u8],.i .u8] ls):∃h',aK cc ab 3 ls (absH aa h) [.b true] (absH aa h'):=by
 obtain⟨w,ls,rfl,hw,hf⟩:=hf.i
 obtain⟨v,ls,rfl,hv,hf⟩:=hf.i
 obtain⟨s,ls,n,cells,rfl,h1,hn,h3,hf⟩:=hf.s
 obtain⟨s2,ls,n2,cells2,rfl,g1,gn,g3,hf⟩:=hf.s
 obtain⟨f,ls,rfl,hF,hf⟩:=hf.i
 obtain rfl:=hf.nil
 obtain⟨l,hl,hlen,hk⟩:=ls_of (enc:=pX) (ok:=λp:Int×Int=>(0<=p.1/\p.1<=255)/\0<=p.2/\p.2<=255) (λ_=>rfl) decG h1 h3
 obtain⟨l2,hl2,hlen2,hk2⟩:=ls_of (enc:=encS) (ok:=λp:Nat=>p<=255) (λ_=>rfl) decS g1 g3
 exact kX hl hk hl2 hk2 (xk hw) (xk hv) (xk hF)
end St
end Go.Am
namespace Go.Am
namespace Sx
open Go.ChangeShapes Go.WideShapes Go.ChangeAt Go.WideMaps Go.WideElems Go.RowKit
def un1(P:Program)(e:TypeId)(d:DataW Unit):Option Value:=match unD P 4 e d with
 |some [x]=>some x
 |_=>none
def un1s(P:Program)(e:TypeId):List (DataW Unit)->Option (List Value)
 | []=>some []
 |d :: l=>match un1 P e d,un1s P e l with
  |some x,some xs=>some (x :: xs)
  |_,_=>none
def wl{P:Program}{e:TypeId}:∀ {l:List (DataW Unit)} {xs:List Value},un1s P e l=some xs->xs.length=l.length/\∀(i:Nat) d x,l[i]?=some d->xs[i]?=some x->unD P 4 e d=some [x]
 | [],xs,h=>by
  simp only[un1s,qar]at h
  subst h
  exact⟨rfl,λi d x h=>by simp at h⟩
 |d :: l,xs,h=>by
  simp only[un1s]at h
  split at h
  next x ys h1 h2=>
   cases h
   obtain⟨h3,h4⟩:=wl h2
   refine⟨by simp[h3],λi d' x' hd hx=>?_⟩
   cases i with
   |zero=>
    simp only[qaO,qar]at hd hx
    subst hd hx
    unfold un1 at h1
    split at h1
    ·cases h1;assumption
    ·cases h1
   |succ i=>exact h4 i d' x' (by simpa using hd) (by simpa using hx)
  ·cases h
def laid_sl{P:Program}{w:World}{laid:List (String×DataW Unit)}{ps:List MemPlace}(h:DataW.LaidVars P w laid ps){n:String}{ds:List (DataW Unit)}(hm:(n,.agg ds)∈laid)
  {g:Nat} {t st e:TypeId} {m:Nat}
  (hg:P.globalNamed n=some g) (ht:(P.globals[g]?).map (·.type)=some t) (hu:P.underlying t=some (.array m st)) (hs:P.underlying st=some (.slice e)) (hc1:P.cellsOf st=1) (hc2:P.cellsOf e=1) (hct:P.cellsOf t=m) :
  ∃c ty fr,w.heap[g]?=some (.cells c ty fr)/\c.size=m/\∀i,i<m->∀es xs,ds[i]?=some (.slice es [])->un1s P e es=some xs->xs≠[]->
   ∃b o cap,c[i]?=some (.slice (some ⟨b,o,none⟩) xs.length cap)/\xs.length<=cap/\∀(j:Nat) x,xs[j]?=some x->w.cell? ⟨b,o+j,none⟩=some x:=by
 induction laid generalizing ps with
 |nil=>cases hm
 |cons x l ih=>
  obtain⟨n0,d0⟩:=x
  obtain⟨g0,t0,cs,fuel,p,q,a1,a2,a3,a4,a5,a6⟩:=h
  rcases qal.1 hm with he|hm
  ·cases he
   rw[hg]at a1;cases a1
   rw[ht]at a2;cases a2
   unfold World.var? at a3
   rw[hg]at a3
   simp only[qak]at a3
   split at a3
   next c ty fr hh=>
    cases a3
    obtain⟨ys,k,rfl,hx,hl,hyl,hy⟩:=DataW.trod_array hu a4
    rw[hct]at hl
    have hcs:cs.size=m:=by simpa using hl
    refine⟨cs,ty,fr,hh,hcs,λi hi es xs hd hxs hne=>?_⟩
    have h1:=hy i hi
    rw[hc1,qcl]at h1
    have h2:(cs.toList.drop i).take 1=[cs[i]'(by omega)]:=by
     rw[qaY (by simpa using(by omega:i<cs.size))]
     simp
    rw[h2]at h1
    obtain⟨hx1,_⟩:=Prod.mk.inj hx
    have hx2:=DataW.agg.inj hx1
    obtain⟨y,hy1⟩ : ∃y,ys[i]?=some y:=⟨ys[i]'(by omega),qai (by omega)⟩
    rw[hy1]at h1
    have hy2:y.1 = .slice es []:=by
     rw[hx2,qau,hy1]at hd
     exact qae hd
    rcases DataW.trod_slice hs h1 with⟨_,rfl⟩|⟨a,len,cap,elems,rest,k',rfl,hv,rfl,_,hlc,_,hlen,hel,_,_⟩
    ·cases hy2
    ·obtain⟨hes,_⟩:=DataW.slice.inj hy2
     have hv:cs[i]'(by omega) = .slice (some a) len cap:=by simpa using hv
     obtain⟨hn1,hn2⟩:=wl hxs
     have hle:xs.length=len:=by rw[hn1,←hes,qaF,hlen]
     subst hle
     have key:∀(j:Nat) x,xs[j]?=some x->w.cell? ((a.add j).add 0)=some x:=by
      intro j x hj
      have hjl:j<xs.length:=(qaI.1 hj).1
      have h3:=hel j hjl
      rw[hc2,qcl]at h3
      obtain⟨z,hz⟩ : ∃z,elems[j]?=some z:=⟨elems[j]'(by omega),qai (by omega)⟩
      rw[hz]at h3
      obtain⟨ci,h4,h5⟩:=qaq.1 h3
      have h6:es[j]?=some z.1:=by rw[←hes,qau,hz];rfl
      have h7:=unD_ok 4 e _ _ (hn2 j _ _ h6 hj) _ ci z.2 h5
      have h8:=(World.cells?_some h4).2.2 0 (by omega)
      rw[h7]at h8
      simpa using h8
     obtain⟨b,o,sp⟩:=a
     have hsp:sp=none:=by
      cases xs with
      |nil=>exact absurd rfl hne
      |cons x xs=>
       have h9:=key 0 x rfl
       unfold World.cell? at h9
       split at h9
       ·cases sp with
        |none=>rfl
        |some k=>simp[Addr.add]at h9
       ·cases h9
     subst hsp
     refine⟨b,o,cap,?_,hlc,λj x hj=>?_⟩
     ·rw[qbj (by omega),hv]
     ·have h9:((⟨b,o,none⟩ : Addr).add j).add 0=⟨b,o+j,none⟩:=by
       unfold Addr.add
       by_cases hj0:j=0<;>simp[hj0]
      rw[←h9]
      exact key j x hj
   ·cases a3
  ·exact ih a5 hm
def pT [Val] [Glo]{w:World}{b o:Nat}{xs:List Value}(hx:xs.all flat=true)(hne:xs≠[])(h:∀(j:Nat) x,xs[j]?=some x->w.cell? ⟨b,o+j,none⟩=some x) :
  b<w.heap.size/\∃c e fr,w.heap[b]?=some (.cells c e fr)/\bJ (λ_=>none) xs c o:=by
 have g:∀(j:Nat) x,xs[j]?=some x->∃c e fr,w.heap[b]?=some (.cells c e fr)/\c[o+j]?=some x:=by
  intro j x hj
  have h1:=h j x hj
  unfold World.cell? at h1
  split at h1
  next c e fr hc=>
   exact⟨c,e,fr,hc,by simpa using h1⟩
  ·cases h1
 cases xs with
 |nil=>exact absurd rfl hne
 |cons x xs=>
  obtain⟨c,e,fr,h1,_⟩:=g 0 x rfl
  refine⟨(qat.1 h1).1,c,e,fr,h1,λi v hv=>?_⟩
  obtain⟨c',e',fr',h2,h3⟩:=g i v hv
  rw[h1]at h2
  cases h2
  exact⟨v,h3,.of_flat (qaf.1 hx v (qab hv))⟩
end Sx
end Go.Am
set_option maxRecDepth 100000
namespace Go.Proofs.YtijhpncifimnnaaGreatDoor
open Go Go.Am Go.Am.Sx
open Go.ChangeShapes Go.WideShapes Go.ChangeAt Go.WideMaps Go.WideElems Go.RowKit
abbrev laidC:List (String×DataW Unit):= [("crimp/moves.turns",Rows.laid_crimp_moves_turns), ("crimp/cells.quarters",Rows.laid_crimp_cells_quarters), ("crimp/covers.heads",Rows.laid_crimp_covers_heads), ("crimp/covers.ways",Rows.laid_crimp_covers_ways)]
def name0 : Tryz.prog.globalNamed "crimp/covers.ways" = some 0:=by kernel_rfl
def name1 : Tryz.prog.globalNamed "crimp/covers.heads" = some 1:=by kernel_rfl
def name2 : Tryz.prog.globalNamed "crimp/moves.turns" = some 2:=by kernel_rfl
def name3 : Tryz.prog.globalNamed "crimp/cells.quarters" = some 3:=by kernel_rfl
abbrev gloOf(p0 p1 p2 p3:Nat×Nat):Glo:=⟨λg=>match g - 1000000 with
 |0=>p0
 |1=>p1
 |2=>p2
 |_=>p3⟩
def of_laid{W:World}(h:laidMetH Tryz.prog laidC W):∃_:Glo,∀(g:Nat) (vs:List Value),cc.G g=some vs->
  gBlk g<W.heap.size/\vs.all aX=true/\∃c e fr,W.heap[gBlk g]?=some (.cells c e fr)/\bJ (λ_=>none) vs c (gOff g):=by
 rw[MakeChecks.laidMetH_plain _ _ _ (by kernel_rfl)]at h
 obtain⟨ps,h,_,_⟩:=h
 obtain⟨c,ty,fr,hc,hsz,hall⟩:=laid_sl h (n := "crimp/covers.ways") (ds:=[.slice [.lit (.int .u8 1)] [],.slice [.lit (.int .u8 2),.lit (.int .u8 4),.lit (.int .u8 1)] [],.slice [.lit (.int .u8 2),.lit (.int .u8 1)] [],.slice [.lit (.int .u8 2),.lit (.int .u8 3),.lit (.int .u8 1)] []])
  (qam _ (qam _ (qam _ qaA))) (t:=62) (st:=30) (e:=31) (m:=4) name0 (by kernel_rfl) (by kernel_rfl) (by kernel_rfl) (by kernel_rfl) (by kernel_rfl) (by kernel_rfl)
 obtain⟨b0,o0,k0,e0,l0,m0⟩:=hall 0 (by omega) _ gl4 rfl (by kernel_rfl) (by simp[gl4])
 obtain⟨b1,o1,k1,e1,l1,m1⟩:=hall 1 (by omega) _ gl5 rfl (by kernel_rfl) (by simp[gl5])
 obtain⟨b2,o2,k2,e2,l2,m2⟩:=hall 2 (by omega) _ gl6 rfl (by kernel_rfl) (by simp[gl6])
 obtain⟨b3,o3,k3,e3,l3,m3⟩:=hall 3 (by omega) _ gl7 rfl (by kernel_rfl) (by simp[gl7])
 let G:Glo:=gloOf (b0,o0) (b1,o1) (b2,o2) (b3,o3)
 refine⟨G,λg vs hg=>?_⟩
 have hcell:=gl_cell g vs hg
 unfold cc at hg
 simp only at hg
 split at hg
 ·cases hg
  exact mG (by kernel_rfl) hcell (by kernel_rfl) (jR h "crimp/moves.turns" Rows.laid_crimp_moves_turns qaA 2 176 8 gl2 name2 (by kernel_rfl) (by kernel_rfl))
 ·cases hg
  exact mG (by kernel_rfl) hcell (by kernel_rfl) (jR h "crimp/cells.quarters" Rows.laid_crimp_cells_quarters (qam _ qaA) 3 201 8 gl3 name3 (by kernel_rfl) (by kernel_rfl))
 ·cases hg
  exact mG (by kernel_rfl) hcell (by kernel_rfl) (jR h "crimp/covers.heads" Rows.laid_crimp_covers_heads (qam _ (qam _ qaA)) 1 60 8 gl1 name1 (by kernel_rfl) (by kernel_rfl))
 ·cases hg
  rw[tT (by kernel_rfl),tU (by kernel_rfl)]
  refine⟨(qat.1 hc).1,hcell,c,ty,fr,hc,λi v hv=>?_⟩
  rw[qaM]
  match i,hv with
  |0,hv=>cases hv;exact⟨_,e0,.gslice l0 (.inl rfl)⟩
  |1,hv=>cases hv;exact⟨_,e1,.gslice l1 (.inl rfl)⟩
  |2,hv=>cases hv;exact⟨_,e2,.gslice l2 (.inl rfl)⟩
  |3,hv=>cases hv;exact⟨_,e3,.gslice l3 (.inl rfl)⟩
  |n+4,hv=>simp[gl0]at hv
 ·have go:∀(n b o:Nat) (xs:List Value),Nat.beq g n=true->gBlk n=b->gOff n=o->xs.all flat=true->xs≠[]->xs=vs->(∀(j:Nat) x,xs[j]?=some x->W.cell? ⟨b,o+j,none⟩=some x)->
    gBlk g<W.heap.size/\vs.all aX=true/\∃c e fr,W.heap[gBlk g]?=some (.cells c e fr)/\bJ (λ_=>none) vs c (gOff g):=by
   intro n b o xs hb h1 h2 h3 h4 h5 h6
   obtain rfl:=qad hb
   obtain⟨a1,a2⟩:=pT h3 h4 h6
   subst h1 h2 h5
   exact⟨a1,hcell,a2⟩
  unfold glx at hg
  split at hg
  ·exact go 1000000 b0 o0 gl4 (by assumption) rfl rfl (by kernel_rfl) (by simp[gl4]) (qae hg) m0
  ·exact go 1000001 b1 o1 gl5 (by assumption) rfl rfl (by kernel_rfl) (by simp[gl5]) (qae hg) m1
  ·exact go 1000002 b2 o2 gl6 (by assumption) rfl rfl (by kernel_rfl) (by simp[gl6]) (qae hg) m2
  ·exact go 1000003 b3 o3 gl7 (by assumption) rfl rfl (by kernel_rfl) (by simp[gl7]) (qae hg) m3
  ·cases hg
def own:ownKnob Tryz.prog.godebug=none:=by kernel_rfl
def door_met(os:Os)(args:Array Value):laidMetH Tryz.prog laidC ((World.doorLaid Tryz.prog 400 os).forCall (λ_ _=>0) ⟨#[],args,[]⟩).memory:=
 laidMetH_of_parts3 (fuel:=8) (laidMet_of_run' 8 (by kernel_rfl) (by kernel_rfl)) (by kernel_rfl) (by kernel_rfl)
end Go.Proofs.YtijhpncifimnnaaGreatDoor
end

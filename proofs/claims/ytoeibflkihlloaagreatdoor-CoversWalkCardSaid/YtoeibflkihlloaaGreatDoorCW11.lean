/-
  PART 11 OF THE PROOF (no conditions).
-/
import Derived.Test.YtoeibflkihlloaaGreatDoorCW10
import Derived.SevenTiedAt
import Derived.Test.YtoeibflkihlloaaGreatDoorCards
import Derived.Test.YtoeibflkihlloaaGreatDoorTie
set_option linter.unusedSectionVars false
set_option linter.unusedSimpArgs false
set_option linter.unusedVariables false
set_option linter.constructorNameAsVariable false
set_option linter.defProp false
noncomputable section
set_option maxRecDepth 100000
set_option maxHeartbeats 16000000
namespace Go.Am
open Sx Go.Proofs
def krL_ok:AllR [ql0,ql1,ql2,ql3,ql4]:=.cons ql0_ok (.cons ql1_ok (.cons ql2_ok (.cons ql3_ok (.cons ql4_ok .nil))))
def lives21:∀H,aK cc ab 12 [] H [.b true] H:=known_c (ok12 (runKR_ok (gP 60) krL_ok)) rfl (by kernel_rfl) rfl (by kernel_rfl)
end Go.Am
namespace Go.Am
namespace Sx
def si{α:Type}{ks:TG}{enc:α->Tl}{ok:α->Prop}(dec:∀cs,FitC ks cs->∃a,enc a=cs/\ok a):∀(n:Nat) (cells:Tl),cells.length=n*ks.length->(∀i,i<n->FitC ks ((cells.drop (i*ks.length)).take ks.length))->∃l:List α,l.length=n/\l.flatMap enc=cells/\∀a∈l,ok a
 |0,cells,hl,_=>⟨[],rfl,by
   simp only[qcw,qbn]at hl
   rw[hl];rfl,λ_ h=>by cases h⟩
 |n+1,cells,hl,hf=>by
  obtain⟨a,h1,h2⟩:=dec _ (by have:=hf 0 (by omega);rw[qcw,qa1]at this;exact this)
  obtain⟨l,h3,h4,h5⟩:=si dec n (cells.drop ks.length) (by rw[qbN,hl,qbF];omega) (λi hi=>by
   have:=hf (i+1) (by omega)
   rw[qbS]
   rw[qbF,qb9,Nat.add_comm]at this
   exact this)
  refine⟨a :: l,by simp[h3],?_,λb hb=>?_⟩
  ·rw[qbI,h1,h4,qbt]
  ·rcases qal.1 hb with rfl|hb
   ·exact h2
   ·exact h5 b hb
def ls_of{α:Type}{ks:TG}{enc:α->Tl}{ok:α->Prop}(hlen:∀a,(enc a).length=ks.length)(dec:∀cs,FitC ks cs->∃a,enc a=cs/\ok a){h:HL}{x:Value}{n:Nat}{cells:Tl}(hs:SlC h x ks.length n cells)(hf:∀i,i<n->FitC ks ((cells.drop (i*ks.length)).take ks.length)) :
  ∃l:List α,LsH h x ks.length enc l/\l.length=n/\∀a∈l,ok a:=by
 obtain⟨l,h1,h2,h3⟩:=si dec n cells hs.1 hf
 refine⟨l,⟨λa _=>hlen a,?_⟩,h1,h3⟩
 rw[h1,h2];exact hs
def bo.i{h:HL}{k:TH}{ks:List CK2}{ls:TD}(hf:bo h (.i k :: ks) ls):∃n r,ls = .i n :: r/\(Lit.int k n).wf=true/\bo h ks r:=by
 match ls,hf with
 | .i n :: r,hf=>exact⟨n,r,rfl,hf.1,hf.2⟩
def bo.b{h:HL}{ks:List CK2}{ls:TD}(hf:bo h (.b :: ks) ls):∃n r,ls = .b n :: r/\bo h ks r:=by
 match ls,hf with
 | .b n :: r,hf=>exact⟨n,r,rfl,hf⟩
def bo.s{h:HL}{es:TG}{ks:List CK2}{ls:TD}(hf:bo h (.s es :: ks) ls):∃x r n cells,ls = .v x :: r/\SlC h x es.length n cells/\n<=maxLen/\(∀i,i<n->FitC es ((cells.drop (i*es.length)).take es.length))/\bo h ks r:=by
 match ls,hf with
 | .v x :: r,⟨⟨n,cells,h1,h2,h3⟩,h4⟩=>exact⟨x,r,n,cells,rfl,h1,h2,h3,h4⟩
def bo.nil{h:HL}{ls:TD}(hf:bo h [] ls):ls=[]:=by
 match ls,hf with
 | [],_=>rfl
def hp_at(bl:List Blk2):HpAt (bl.map λb=>HO.o b.1) 0 bl:=λi b hb=>by
 rw[qaL,qax,hb];rfl
def absH_bl(T:Tt)(bl:List Blk2):absH T (bl.map λb=>HO.o b.1)=bl.map (·.1):=by
 induction bl with
 |nil=>rfl
 |cons b l ih=>show absO T (.o b.1) :: absH T (l.map λb=>HO.o b.1)=_;rw[ih];rfl
end Sx
end Go.Am
namespace Go.Am
open Sx Go.Proofs Tw
namespace St
def covD_nd{L:List Sq}{D:List K3}(h:Go.Am.SetOf L D)(hL:L.Nodup):D.Nodup:=h.perm.nodup_iff.2 (wk hL)
def first_0{L:List Sq}{D:List K3}(h:Go.Am.SetOf L D){a0:K3}(ha:D[0]?=some a0):a0.2.2=0:=by
 have hm:=h.mem.1 (qab ha)
 have h0:(a0.1,a0.2.1,0)∈D:=h.mem.2 ⟨hm.1,by show 0<4;omega⟩
 obtain⟨i,hi⟩:=qaW h0
 by_cases hi0:i=0
 ·subst hi0
  rw[ha]at hi
  have:=qae hi
  rw[this]
 ·have:=h.srt 0 i _ _ (by omega) ha hi
  unfold ltC3 at this
  simp only at this
  omega
def nY{H:HL}{x:Value}{G:List (Int×Int)}(hG:LsH H x 2 qo G)(hb:∀a∈G,(0<=a.1/\a.1<=255)/\0<=a.2/\a.2<=255){X Y:Int}(hX:0<=X/\X<=255)(hY:0<=Y/\Y<=255) :
  ∃h',aK cc ab 3 [.i X,.i Y,.v x] (absH aa H) [.b true] (absH aa h'):=by
 obtain⟨rs,h',h1,h2⟩:=x3 (ls:=[.i X,.i Y,.v x]) (H:=H) (K:=λrs h'=>rs=[.b true]) (glsI (glsI (glsV hG.good gls0))) (by
  unfold f3;simp only[qxh]
  refine p_x ?_
  obtain⟨rs,h1,hcall,v0,L,rfl,hg,ho1,hlow1,hle1⟩:=of_c hG hb hX hY
  refine am hcall ?_
  clear hcall
  refine p_x ?_
  have hls0:=ho1.ls bM
  have hL12:=hg.le
  have hne:=hg.ne
  have hbL:∀c∈L,-100<=c.1/\c.1<=100/\-100<=c.2/\c.2<=100:=λc hc=>by
   have:=hg.bd c hc
   omega
  have hbL2:∀c∈L,(-100<=c.1/\c.1<=100)/\-100<=c.2/\c.2<=100:=λc hc=>by
   have:=hg.bd c hc
   omega
  obtain⟨rs,h2,hcall,v2,D,rfl,hD,ho2,hlow2,hle2⟩:=set_c hls0 hne (by omega) hg.nd hbL
  refine am hcall ?_
  clear hcall
  refine p_x ?_
  have hDl:=hD.len
  have hls2:=ho2.ls bM
  obtain⟨a0,ha0⟩:=aY (l:=D) (i:=0) (by omega)
  have hm0:=(hD.mem.1 (qab ha0)).1
  have hq0:=first_0 hD ha0
  have hte:=top_ev hm0
  obtain⟨hcv,hnm⟩:=top_cov hm0 hg.con
  have hln:=top_len hm0
  have hst:∀a∈(topT L (a0.1,a0.2.1)).steps.take (topT L (a0.1,a0.2.1)).last,1<=a/\a<=4:=λa ha=>hte.st a (qbd ha)
  have h3:Ok3 ((topT L (a0.1,a0.2.1)).steps.take (topT L (a0.1,a0.2.1)).last):=hte.ok.take _
  have hlen:((topT L (a0.1,a0.2.1)).steps.take (topT L (a0.1,a0.2.1)).last).length<=72:=by rw[qaI];omega
  obtain⟨rs,h4,hcall,v4,rfl,hl4,hlow4,hle4,hb4,hc4⟩:=walk_c hls2 hD hne (by omega) hg.nd hg.con hbL2 ha0
  refine am hcall ?_
  clear hcall
  generalize (topT L (a0.1,a0.2.1)).steps.take (topT L (a0.1,a0.2.1)).last=ws at *
  refine p_x ?_
  have hls4:=hls2.low hlow4
  have hcD:∀a,a∈aD ws true (a0.1,a0.2.1) 0↔a∈D:=λa=>(hcv a).trans hD.mem.symm
  obtain⟨h5,b1,hcall,hb1,hlow5,hle5⟩:=covers_c hls4 hD hne (by omega) hg.nd hg.con hbL2 hm0 hl4 hst h3 (by omega) (by omega)
  refine am hcall ?_
  clear hcall
  obtain rfl:=hb1.2 hcD
  refine p_x ?_
  have hl5:=hl4.low hlow5
  have hls5:=hls4.low hlow5
  refine am (vA hl5 hst h3 (by omega)) ?_
  refine p_x ?_
  obtain⟨h6,hcall,hlow6,hle6⟩:=xF hls5 hD hne (by omega) hg.nd hg.con hbL2
  refine am hcall ?_
  clear hcall
  refine p_x ?_
  have hls6:=hls5.low hlow6
  have hl6:=hl5.low hlow6
  simp(disch:=omega)only[↓qXX,qaE]
  refine af hc4 ?_
  refine bc hl6 ?_
  rw[p_neq_f rfl]
  refine p_x ?_
  refine bc hls0 ?_
  rw[qaF,p_neq_f rfl]
  refine p_x ?_
  have hnn:(ws.filter λa=>decide (a<3)).length=nmv ws:=rfl
  rw[hnn]
  rw[p_mul (by show(-9223372036854775808:Int)<=4*(L.length:Int);omega) (by show 4*(L.length:Int)<=9223372036854775807;omega)]
  rw[p_sub (by show(-9223372036854775808:Int)<=4*(L.length:Int) - 3;omega) (by show 4*(L.length:Int) - 3<=9223372036854775807;omega)]
  rw[p_gtr_f (by show((1+nmv ws:Nat):Int)<=4*(L.length:Int) - 3;omega)]
  refine p_x ?_
  refine aV hls6 (i:=0) rfl ha0 ?_
  unfold cc3
  refine p_x ?_
  rw[hq0]
  try simp(disch:=omega)only[↓qXX,qaE]
  rw[show(Int.ofNat 0)=(0:Int)from rfl]
  try simp(disch:=omega)only[↓qXX,qaE]
  obtain⟨h7,v7,b2,out,hcall,hlo,hb2,hb3,hlow7,hle7⟩:=covered_c (D:=D) (p:=(a0.1,a0.2.1)) hls6 (by omega) (by have:=hg.bd _ hm0;omega) hl6 hst (by omega)
  refine am hcall ?_
  clear hcall
  obtain rfl:=hb2.2 λa ha=>(hcD a).1 ha
  refine p_x ?_
  refine bc hlo ?_
  refine bc hls2 ?_
  obtain⟨o1,o2⟩:=hb3 rfl
  have hol:out.length=D.length:=Nat.le_antisymm (cW o1 λa ha=>(hcD a).1 ((o2 a).1 ha)) (cW (covD_nd hD hg.nd) λa ha=>(o2 a).2 ((hcD a).2 ha))
  rw[p_eql_t (by rw[hol])]
  refine p_x ?_
  refine ae lives21 ?_
  simp(disch:=omega)only[↓qXX])
 subst h2
 exact⟨h',h1⟩
def decG(cs:Tl)(h:FitC [.i .u8,.i .u8] cs):∃p:Int×Int,qo p=cs/\(0<=p.1/\p.1<=255)/\0<=p.2/\p.2<=255:=by
 obtain⟨v1,v2,rfl⟩ : ∃v1 v2,cs=[v1,v2]:=by
  have hl:=FitC.len h
  match cs,hl with
  | [v1,v2],_=>exact⟨v1,v2,rfl⟩
 obtain⟨⟨a,rfl,ha⟩,⟨b,rfl,hb⟩,_⟩:=h
 exact⟨(a,b),rfl,wf_u8 ha,wf_u8 hb⟩
def coversWalk_leaves(ls:TD)(h:HL)(hf:bo h [.i .u8,.i .u8,.s [.i .u8,.i .u8]] ls):∃h',aK cc ab 3 ls (absH aa h) [.b true] (absH aa h'):=by
 obtain⟨w,ls,rfl,hw,hf⟩:=hf.i
 obtain⟨v,ls,rfl,hv,hf⟩:=hf.i
 obtain⟨s,ls,n,cells,rfl,h1,hn,h3,hf⟩:=hf.s
 obtain rfl:=hf.nil
 obtain⟨l,hl,hlen,hk⟩:=ls_of (enc:=qo) (ok:=λp:Int×Int=>(0<=p.1/\p.1<=255)/\0<=p.2/\p.2<=255) (λ_=>rfl) decG h1 h3
 exact nY hl hk (wf_u8 hw) (wf_u8 hv)
end St
end Go.Am
namespace Go.Am
namespace Sx
open Go.ChangeShapes Go.WideShapes Go.ChangeAt Go.WideMaps Go.WideElems Go.RowKit
def un1(P:TE)(e:TK)(d:DataW Unit):Ti:=match unD P 4 e d with
 |some [x]=>some x
 |_=>none
def un1s(P:TE)(e:TK):List (DataW Unit)->Option (Tl)
 | []=>some []
 |d :: l=>match un1 P e d,un1s P e l with
  |some x,some xs=>some (x :: xs)
  |_,_=>none
def wF{P:TE}{e:TK}:∀ {l:List (DataW Unit)} {xs:Tl},un1s P e l=some xs->xs.length=l.length/\∀(i:Nat) d x,l[i]?=some d->xs[i]?=some x->unD P 4 e d=some [x]
 | [],xs,h=>by
  simp only[un1s,qas]at h
  subst h
  exact⟨rfl,λi d x h=>by simp at h⟩
 |d :: l,xs,h=>by
  simp only[un1s]at h
  split at h
  next x ys h1 h2=>
   cases h
   obtain⟨h3,h4⟩:=wF h2
   refine⟨by simp[h3],λi d' x' hd hx=>?_⟩
   cases i with
   |zero=>
    simp only[qaR,qas]at hd hx
    subst hd hx
    unfold un1 at h1
    split at h1
    ·cases h1;assumption
    ·cases h1
   |succ i=>exact h4 i d' x' (by simpa using hd) (by simpa using hx)
  ·cases h
def laid_sl{P:TE}{w:World}{laid:List (String×DataW Unit)}{ps:List MemPlace}(h:DataW.LaidVars P w laid ps){n:String}{ds:List (DataW Unit)}(hm:(n,.agg ds)∈laid)
  {g:Nat} {t st e:TK} {m:Nat}
  (hg:P.globalNamed n=some g) (ht:(P.globals[g]?).map (·.type)=some t) (hu:P.underlying t=some (.array m st)) (hs:P.underlying st=some (.slice e)) (hc1:P.cellsOf st=1) (hc2:P.cellsOf e=1) (hct:P.cellsOf t=m) :
  ∃c ty fr,w.heap[g]?=some (.cells c ty fr)/\c.size=m/\∀i,i<m->∀es xs,ds[i]?=some (.slice es [])->un1s P e es=some xs->xs≠[]->
   ∃b o cap,c[i]?=some (.slice (some ⟨b,o,none⟩) xs.length cap)/\xs.length<=cap/\∀(j:Nat) x,xs[j]?=some x->w.cell? ⟨b,o+j,none⟩=some x:=by
 induction laid generalizing ps with
 |nil=>cases hm
 |cons x l ih=>
  obtain⟨n0,d0⟩:=x
  obtain⟨g0,t0,cs,fuel,p,q,a1,a2,a3,a4,a5,a6⟩:=h
  rcases qal.1 hm with he|hm
  ·cases he
   rw[hg]at a1;cases a1
   rw[ht]at a2;cases a2
   unfold World.var? at a3
   rw[hg]at a3
   simp only[qak]at a3
   split at a3
   next c ty fr hh=>
    cases a3
    obtain⟨ys,k,rfl,hx,hl,hyl,hy⟩:=DataW.trod_array hu a4
    rw[hct]at hl
    have hcs:cs.size=m:=by simpa using hl
    refine⟨cs,ty,fr,hh,hcs,λi hi es xs hd hxs hne=>?_⟩
    have h1:=hy i hi
    rw[hc1,qcm]at h1
    have h2:(cs.toList.drop i).take 1=[cs[i]'(by omega)]:=by
     rw[qaY (by simpa using(by omega:i<cs.size))]
     simp
    rw[h2]at h1
    obtain⟨hx1,_⟩:=Prod.mk.inj hx
    have hx2:=DataW.agg.inj hx1
    obtain⟨y,hy1⟩ : ∃y,ys[i]?=some y:=⟨ys[i]'(by omega),qai (by omega)⟩
    rw[hy1]at h1
    have hy2:y.1 = .slice es []:=by
     rw[hx2,qax,hy1]at hd
     exact qae hd
    rcases DataW.trod_slice hs h1 with⟨_,rfl⟩|⟨a,len,cap,elems,rest,k',rfl,hv,rfl,_,hlc,_,hlen,hel,_,_⟩
    ·cases hy2
    ·obtain⟨hes,_⟩:=DataW.slice.inj hy2
     have hv:cs[i]'(by omega) = .slice (some a) len cap:=by simpa using hv
     obtain⟨hn1,hn2⟩:=wF hxs
     have hle:xs.length=len:=by rw[hn1,←hes,qaF,hlen]
     subst hle
     have key:∀(j:Nat) x,xs[j]?=some x->w.cell? ((a.add j).add 0)=some x:=by
      intro j x hj
      have hjl:j<xs.length:=(qaN.1 hj).1
      have h3:=hel j hjl
      rw[hc2,qcm]at h3
      obtain⟨z,hz⟩ : ∃z,elems[j]?=some z:=⟨elems[j]'(by omega),qai (by omega)⟩
      rw[hz]at h3
      obtain⟨ci,h4,h5⟩:=qar.1 h3
      have h6:es[j]?=some z.1:=by rw[←hes,qax,hz];rfl
      have h7:=unD_ok 4 e _ _ (hn2 j _ _ h6 hj) _ ci z.2 h5
      have h8:=(World.cells?_some h4).2.2 0 (by omega)
      rw[h7]at h8
      simpa using h8
     obtain⟨b,o,sp⟩:=a
     have hsp:sp=none:=by
      cases xs with
      |nil=>exact absurd rfl hne
      |cons x xs=>
       have h9:=key 0 x rfl
       unfold World.cell? at h9
       split at h9
       ·cases sp with
        |none=>rfl
        |some k=>simp[Addr.add]at h9
       ·cases h9
     subst hsp
     refine⟨b,o,cap,?_,hlc,λj x hj=>?_⟩
     ·rw[qbo (by omega),hv]
     ·have h9:((⟨b,o,none⟩ : Addr).add j).add 0=⟨b,o+j,none⟩:=by
       unfold Addr.add
       by_cases hj0:j=0<;>simp[hj0]
      rw[←h9]
      exact key j x hj
   ·cases a3
  ·exact ih a5 hm
def qi [Val] [Glo]{w:World}{b o:Nat}{xs:Tl}(hx:xs.all flat=true)(hne:xs≠[])(h:∀(j:Nat) x,xs[j]?=some x->w.cell? ⟨b,o+j,none⟩=some x) :
  b<w.heap.size/\∃c e fr,w.heap[b]?=some (.cells c e fr)/\bL (λ_=>none) xs c o:=by
 have g:∀(j:Nat) x,xs[j]?=some x->∃c e fr,w.heap[b]?=some (.cells c e fr)/\c[o+j]?=some x:=by
  intro j x hj
  have h1:=h j x hj
  unfold World.cell? at h1
  split at h1
  next c e fr hc=>
   exact⟨c,e,fr,hc,by simpa using h1⟩
  ·cases h1
 cases xs with
 |nil=>exact absurd rfl hne
 |cons x xs=>
  obtain⟨c,e,fr,h1,_⟩:=g 0 x rfl
  refine⟨(qat.1 h1).1,c,e,fr,h1,λi v hv=>?_⟩
  obtain⟨c',e',fr',h2,h3⟩:=g i v hv
  rw[h1]at h2
  cases h2
  exact⟨v,h3,.of_flat (qag.1 hx v (qab hv))⟩
end Sx
end Go.Am
namespace Go.Proofs.YtoeibflkihlloaaGreatDoor
open Go Go.Am Go.Am.Sx
open Go.ChangeShapes Go.WideShapes Go.ChangeAt Go.WideMaps Go.WideElems Go.RowKit
abbrev laidC:List (String×DataW Unit):= [("crimp/moves.turns",Rows.laid_crimp_moves_turns), ("crimp/cells.quarters",Rows.laid_crimp_cells_quarters), ("crimp/covers.heads",Rows.laid_crimp_covers_heads), ("crimp/covers.ways",Rows.laid_crimp_covers_ways)]
def name0 : Tryz.prog.globalNamed "crimp/covers.ways" = some 0:=by kernel_rfl
def name1 : Tryz.prog.globalNamed "crimp/covers.heads" = some 1:=by kernel_rfl
def name2 : Tryz.prog.globalNamed "crimp/moves.turns" = some 2:=by kernel_rfl
def name3 : Tryz.prog.globalNamed "crimp/cells.quarters" = some 3:=by kernel_rfl
abbrev gloOf(p0 p1 p2 p3:Nat×Nat):Glo:=⟨λg=>match g - 1000000 with
 |0=>p0
 |1=>p1
 |2=>p2
 |_=>p3⟩
def of_laid{W:World}(h:laidMetH Tryz.prog laidC W):∃_:Glo,∀(g:Nat) (vs:Tl),cc.G g=some vs->
  gBlk g<W.heap.size/\vs.all aX=true/\∃c e fr,W.heap[gBlk g]?=some (.cells c e fr)/\bL (λ_=>none) vs c (gOff g):=by
 rw[MakeChecks.laidMetH_plain _ _ _ (by kernel_rfl)]at h
 obtain⟨ps,h,_,_⟩:=h
 obtain⟨c,ty,fr,hc,hsz,hall⟩:=laid_sl h (n := "crimp/covers.ways") (ds:=[.slice [.lit (.int .u8 1)] [],.slice [.lit (.int .u8 2),.lit (.int .u8 4),.lit (.int .u8 1)] [],.slice [.lit (.int .u8 2),.lit (.int .u8 1)] [],.slice [.lit (.int .u8 2),.lit (.int .u8 3),.lit (.int .u8 1)] []])
  (qan _ (qan _ (qan _ qaB))) (t:=57) (st:=28) (e:=59) (m:=4) name0 (by kernel_rfl) (by kernel_rfl) (by kernel_rfl) (by kernel_rfl) (by kernel_rfl) (by kernel_rfl)
 obtain⟨b0,o0,k0,e0,l0,m0⟩:=hall 0 (by omega) _ gl4 rfl (by kernel_rfl) (by simp[gl4])
 obtain⟨b1,o1,k1,e1,l1,m1⟩:=hall 1 (by omega) _ gl5 rfl (by kernel_rfl) (by simp[gl5])
 obtain⟨b2,o2,k2,e2,l2,m2⟩:=hall 2 (by omega) _ gl6 rfl (by kernel_rfl) (by simp[gl6])
 obtain⟨b3,o3,k3,e3,l3,m3⟩:=hall 3 (by omega) _ gl7 rfl (by kernel_rfl) (by simp[gl7])
 let G:Glo:=gloOf (b0,o0) (b1,o1) (b2,o2) (b3,o3)
 refine⟨G,λg vs hg=>?_⟩
 have hcell:=gl_cell g vs hg
 unfold cc at hg
 simp only at hg
 split at hg
 ·cases hg
  exact mQ (by kernel_rfl) hcell (by kernel_rfl) (kj h "crimp/moves.turns" Rows.laid_crimp_moves_turns qaB 2 179 8 gl2 name2 (by kernel_rfl) (by kernel_rfl))
 ·cases hg
  exact mQ (by kernel_rfl) hcell (by kernel_rfl) (kj h "crimp/cells.quarters" Rows.laid_crimp_cells_quarters (qan _ qaB) 3 204 8 gl3 name3 (by kernel_rfl) (by kernel_rfl))
 ·cases hg
  exact mQ (by kernel_rfl) hcell (by kernel_rfl) (kj h "crimp/covers.heads" Rows.laid_crimp_covers_heads (qan _ (qan _ qaB)) 1 55 8 gl1 name1 (by kernel_rfl) (by kernel_rfl))
 ·cases hg
  rw[ul (by kernel_rfl),um (by kernel_rfl)]
  refine⟨(qat.1 hc).1,hcell,c,ty,fr,hc,λi v hv=>?_⟩
  rw[qaL]
  match i,hv with
  |0,hv=>cases hv;exact⟨_,e0,.gslice l0 (.inl rfl)⟩
  |1,hv=>cases hv;exact⟨_,e1,.gslice l1 (.inl rfl)⟩
  |2,hv=>cases hv;exact⟨_,e2,.gslice l2 (.inl rfl)⟩
  |3,hv=>cases hv;exact⟨_,e3,.gslice l3 (.inl rfl)⟩
  |n+4,hv=>simp[gl0]at hv
 ·have go:∀(n b o:Nat) (xs:Tl),Nat.beq g n=true->gBlk n=b->gOff n=o->xs.all flat=true->xs≠[]->xs=vs->(∀(j:Nat) x,xs[j]?=some x->W.cell? ⟨b,o+j,none⟩=some x)->
    gBlk g<W.heap.size/\vs.all aX=true/\∃c e fr,W.heap[gBlk g]?=some (.cells c e fr)/\bL (λ_=>none) vs c (gOff g):=by
   intro n b o xs hb h1 h2 h3 h4 h5 h6
   obtain rfl:=qad hb
   obtain⟨a1,a2⟩:=qi h3 h4 h6
   subst h1 h2 h5
   exact⟨a1,hcell,a2⟩
  unfold glx at hg
  split at hg
  ·exact go 1000000 b0 o0 gl4 (by assumption) rfl rfl (by kernel_rfl) (by simp[gl4]) (qae hg) m0
  ·exact go 1000001 b1 o1 gl5 (by assumption) rfl rfl (by kernel_rfl) (by simp[gl5]) (qae hg) m1
  ·exact go 1000002 b2 o2 gl6 (by assumption) rfl rfl (by kernel_rfl) (by simp[gl6]) (qae hg) m2
  ·exact go 1000003 b3 o3 gl7 (by assumption) rfl rfl (by kernel_rfl) (by simp[gl7]) (qae hg) m3
  ·cases hg
def own:ownKnob Tryz.prog.godebug=none:=by kernel_rfl
def door_met(os:Os)(args:Tj):laidMetH Tryz.prog laidC ((World.doorLaid Tryz.prog 400 os).forCall (λ_ _=>0) ⟨#[],args,[]⟩).memory:=
 laidMetH_of_parts3 (fuel:=8) (laidMet_of_run' 8 (by kernel_rfl) (by kernel_rfl)) (by kernel_rfl) (by kernel_rfl)
end Go.Proofs.YtoeibflkihlloaaGreatDoor
end

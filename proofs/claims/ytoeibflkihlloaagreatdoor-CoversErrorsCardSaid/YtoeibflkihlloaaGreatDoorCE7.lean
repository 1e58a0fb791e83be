/-
  PART 7 OF THE PROOF (no conditions).
-/
import Derived.Test.YtoeibflkihlloaaGreatDoorCE6
set_option linter.unusedSectionVars false
set_option linter.unusedSimpArgs false
set_option linter.unusedVariables false
set_option linter.constructorNameAsVariable false
set_option linter.defProp false
noncomputable section
set_option maxRecDepth 100000
set_option maxHeartbeats 16000000
namespace Go.Am
open Sx Go.Proofs Tw
def sl_take{α:Type}{h:HL}{v:Value}{e:Nat}{enc:α->Tl}{l:List α}(hs:LsH h v e enc l){n:Nat}(hn:n<=l.length):∃v',slS e v none (some (Int.ofNat n)) none=some v'/\LsH h v' e enc (l.take n)/\aS v'=true/\blk v'=blk v:=by
 have hl:=aD (l:=l) hs.1
 have hl2:=aD (l:=l.take n) λa ha=>hs.1 a (qbm ha)
 have hlen:(l.take n).length=n:=by rw[qaG];omega
 obtain⟨h1,h2,⟨rfl,h3⟩|⟨id,off,cx,vs,rw',rfl,h3,h4⟩⟩:=hs
 ·have hn0:n=0:=by omega
  have hl0:l=[]:=qbg.1 h3
  subst hn0 hl0
  exact⟨.slice none 0 0,rfl,LsH.nil _ _ _,rfl,rfl⟩
 ·have hr:slS e (.slice (some ⟨id,off,tag e⟩) l.length cx) none (some (Int.ofNat n)) none=some (.slice (some ⟨id,off,tag e⟩) n cx):=by
   unfold slS
   have e1:¬(tag e≠some 1/\tag e≠tag e):=by simp
   simp only[qdE e1]
   have e2:(0:Int)<=(none:Tq).getD 0/\(none:Tq).getD 0<=(some (Int.ofNat n)).getD ((l.length:Nat):Int)/\bR l.length cx (some (Int.ofNat n)) none:=by
    refine⟨by simp,by simp,?_⟩
    unfold bR
    left
    show((n:Nat):Int)<=(l.length:Int)
    omega
   rw[qdD e2,df,df,df]
   simp[bE]
  have hls:LsH h (.slice (some ⟨id,off,tag e⟩) n cx) e enc (l.take n):=by
   refine⟨λa ha=>h1 a (qbm ha),by rw[hl2],.inr ⟨id,off,cx,vs,rw',by rw[hlen],h3,?_⟩⟩
   have hc:=mN h4 (o:=0) (k:=n*e) (by
    rw[qaL]
    exact qbn e hn)
   rw[qca,qaV]at hc
   rw[hlen,hc]
   congr 1
   have e1:l.flatMap enc=(l.take n).flatMap enc++(l.drop n).flatMap enc:=by rw[←qcc,qbt]
   rw[e1,qcq (by rw[hl2,hlen];exact qaf _),qaS (by rw[hl2,hlen];exact qaf _)]
  exact⟨_,hr,hls,hls.good,rfl⟩
def sl_clip{α:Type}{h:HL}{v:Value}{e:Nat}{enc:α->Tl}{l:List α}(hs:LsH h v e enc l):∃v',slS e v none (some (Int.ofNat l.length)) (some (Int.ofNat l.length))=some v'/\LsH h v' e enc l/\aS v'=true/\blk v'=blk v/\capS v'=some (Int.ofNat l.length):=by
 have hs':=hs
 obtain⟨h1,h2,⟨rfl,h3⟩|⟨id,off,cx,vs,rw',rfl,h3,h4⟩⟩:=hs
 ·have hl0:l=[]:=qbg.1 h3
  subst hl0
  exact⟨.slice none 0 0,rfl,LsH.nil _ _ _,rfl,rfl,rfl⟩
 ·have hr:slS e (.slice (some ⟨id,off,tag e⟩) l.length cx) none (some (Int.ofNat l.length)) (some (Int.ofNat l.length))=some (.slice (some ⟨id,off,tag e⟩) l.length (l.length+1)):=by
   unfold slS
   have e1:¬(tag e≠some 1/\tag e≠tag e):=by simp
   simp only[qdE e1]
   have e2:(0:Int)<=(none:Tq).getD 0/\(none:Tq).getD 0<=(some (Int.ofNat l.length)).getD ((l.length:Nat):Int)/\bR l.length cx (some (Int.ofNat l.length)) (some (Int.ofNat l.length)):=by
    refine⟨by simp,by simp,?_⟩
    unfold bR
    refine⟨rfl,by simp,.inl (by show(l.length:Int)<=(l.length:Int);omega)⟩
   rw[qdD e2,df,df,df]
   simp[bE]
  have hls:LsH h (.slice (some ⟨id,off,tag e⟩) l.length (l.length+1)) e enc l:=⟨h1,h2,.inr ⟨id,off,_,vs,rw',rfl,h3,h4⟩⟩
  exact⟨_,hr,hls,hls.good,rfl,rfl⟩
def clipS_c{h:HL}{x:Value}{l:TB}(hl:LsH h x 1 encS l):∃x',aw cc ab 23 [.v x] (absH aa h) [.v x'] (absH aa h)/\LsH h x' 1 encS l/\aS x'=true/\blk x'=blk x/\capS x'=some (Int.ofNat l.length):=by
 obtain⟨x',h1,h2,h3,h4,h5⟩:=sl_clip hl
 refine⟨x',xK x23 (glsV hl.good gls0) ?_,h2,h3,h4,h5⟩
 unfold f23;simp only[qxh]
 refine p_x ?_
 refine bI hl (bI hl (af h1 (ak h3 ?_)))
 trivial
def eM{a:Nat}(h:1<=a/\a<=4):Cc 27 [.i (Int.ofNat a)] [.b (decide (3<=a))]:=by
 have:a=1∨a=2∨a=3∨a=4:=by omega
 refine q27 rfl ?_;unfold f27;simp only[qxh]
 rcases this with rfl|rfl|rfl|rfl
 all_goals
  simp only[show Int.ofNat 1=(1:Int)from rfl,show Int.ofNat 2=(2:Int)from rfl,show Int.ofNat 3=(3:Int)from rfl,show Int.ofNat 4=(4:Int)from rfl]
  simp(disch:=omega)only[↓qXX]
  try rfl
abbrev cloP:Value:=.func (.func 35) ⟨[]⟩ ⟨[]⟩
def check1_c{a:Nat}(h:1<=a/\a<=4):Cc 35 [.i (Int.ofNat a)] [.b false]:=by
 have:a=1∨a=2∨a=3∨a=4:=by omega
 refine q35 rfl ?_;unfold f35;simp only[qxh]
 rcases this with rfl|rfl|rfl|rfl
 all_goals
  simp only[show Int.ofNat 1=(1:Int)from rfl,show Int.ofNat 2=(2:Int)from rfl,show Int.ofNat 3=(3:Int)from rfl,show Int.ofNat 4=(4:Int)from rfl]
  simp(disch:=omega)only[↓qXX]
  try rfl
def anyP_c{h:HL}{x:Value}{l:TB}(hl:LsH h x 1 encS l)(hok:∀a∈l,1<=a/\a<=4)(hn:l.length<=100000):aw cc ab 34 [.v x,.v cloP] (absH aa h) [.b false] (absH aa h):=by
 have h1:aw cc ab 46 [.v x,.v cloP] (absH aa h) [.i (-1)] (absH aa h):=by
  refine xK x46 (glsV hl.good (glsV rfl gls0)) ?_
  unfold f46;simp only[qxh]
  refine p_x ?_
  refine bI hl ?_
  refine dg l.length (λ_=>True) rfl (qaO _) trivial ?_
  intro j hj _ self hself
  refine p_x ?_
  by_cases hlt:j<l.length
  ·rw[bf hlt]
   refine p_x ?_
   obtain⟨c,hc⟩:=aP hlt
   refine bQ hl rfl hc ?_
   unfold encS
   repeat (first|simp(disch:=omega)only[↓qXX]|refine fl (jg (check1_c (hok c (qab hc)) _) rfl [.leaf (.i .u8 (Int.ofNat c))] rfl rfl) ?_)
   rw[bg (by omega)]
   exact hself hlt trivial
  ·rw[bj (by omega)]
   simp(disch:=omega)only[↓qXX]
   trivial
 refine xK x34 (glsV hl.good (glsV rfl gls0)) ?_
 unfold f34;simp only[qxh]
 repeat (first|simp(disch:=omega)only[↓qXX]|refine ah h1 ?_)
 trivial
def rC{h:HL}{x:Value}{l:TB}(hl:LsH h x 1 encS l)(hok:∀a∈l,1<=a/\a<=4)(h3:Ok3 l)(hn:l.length<=255):aw cc ab 17 [.v x] (absH aa h) [.i 0] (absH aa h):=by
 exact xK x17 (glsV hl.good gls0) (by
  unfold f17;simp only[qxh]
  simp(disch:=omega)only[↓qXX]
  try refine ak rfl ?_
  refine ah (anyP_c hl hok (by omega)) ?_
  refine p_x ?_
  refine bI hl ?_
  refine bG (σ:=Nat) l.length (λj s=>[.i (Int.ofNat s),.i (Int.ofNat j)]) (λ_ _=>h) (λj s=>s<=1+j) (j0:=0) (s0:=1) rfl rfl (qaO _) (qaf _) ?_
  intro j s hj hs self hself
  refine p_x ?_
  by_cases hlt:j<l.length
  ·rw[bf hlt]
   refine p_x ?_
   obtain⟨a,ha⟩:=aP hlt
   have ha4:=hok a (qab ha)
   refine bQ hl rfl ha ?_
   unfold encS
   refine p_x ?_
   refine ac (eM ha4) ?_
   refine p_x ?_
   by_cases ht:3<=a
   ·have hnext:=hself s hlt (by omega)
    rw[qdC ht]
    refine p_x ?_
    by_cases hj0:j=0
    ·subst hj0
     rw[p_gtr_f (by show((0:Nat):Int)<=0;omega)]
     refine p_x ?_
     refine ac (eM ha4) ?_
     refine p_x ?_
     rw[qdC ht]
     simp(disch:=omega)only[↓qXX,qaI]
     rw[bg (by omega)]
     exact hnext
    ·rw[p_gtr_t (by show(0:Int)<(j:Int);omega)]
     refine p_x ?_
     rw[oB (by omega) (by omega)]
     obtain⟨b,hb⟩:=aP (l:=l) (i:=j - 1) (by omega)
     refine bQ hl rfl hb ?_
     unfold encS
     refine p_x ?_
     refine ac (eM (hok b (qab hb))) ?_
     have hb3:¬3<=b:=λh=>h3 (j - 1) b a hb (by rw[show j - 1+1=j by omega];exact ha) ⟨h,ht⟩
     refine p_x ?_
     rw[qdB hb3]
     refine p_x ?_
     refine ac (eM ha4) ?_
     refine p_x ?_
     rw[qdC ht]
     simp(disch:=omega)only[↓qXX,qaI]
     rw[bg (by omega)]
     exact hnext
   ·have hnext:=hself (s+1) hlt (by omega)
    rw[qdB ht]
    refine p_x ?_
    refine ac (eM ha4) ?_
    refine p_x ?_
    rw[qdB ht]
    simp(disch:=omega)only[↓qXX,qba]
    rw[bg (by omega)]
    refine p_x ?_
    rw[bg (by omega)]
    exact hnext
  ·rw[bj (by omega)]
   refine p_x ?_
   rw[p_gtr_f (by show(s:Int)<=256;omega)]
   simp(disch:=omega)only[↓qXX]
   trivial)
def top_ev{L:List Sq}{c:Sq}(hc:c∈L):Ev L ⟨[],[],0,0⟩ (topT L c):=by
 exact(iI L (free L []) c ⟨[],[],0,0⟩ ev0 hc (by simp) (qaf _)).1
def top_len{L:List Sq}{c:Sq}(hc:c∈L):(topT L c).steps.length<=6*L.length:=by
 have h:=top_ev hc
 have h1:=h.le
 have h2:=h.small
 simp only[qbA]at h1
 omega
def WalkOk(H:HL)(L:List Sq)(c:Sq)(rs:TE)(h':HL):Prop:=∃v,rs=[.v v,.i c.1,.i c.2,.i 0,.i 0]/\LsH h' v 1 encS ((topT L c).steps.take (topT L c).last)/\Low H.length H h'/\H.length<=h'.length/\(∀i,blk v=some i->H.length<=i)/\capS v=some (Int.ofNat ((topT L c).steps.take (topT L c).last).length)
def walk_c{H:HL}{x:Value}{L:List Sq}{D:List K3}(hl:LsH H x 3 cc3 D)(hD:SetOf L D)(h0:0<L.length)(hn:L.length<=40)(hnd:L.Nodup)(hcon:Con L)(hb:∀c∈L,(-4096<=c.1/\c.1<=4096)/\-4096<=c.2/\c.2<=4096){a0:K3}(ha0:D[0]?=some a0) :
  ∃rs h',aw cc ab 7 [.v x] (absH aa H) rs (absH aa h')/\WalkOk H L (a0.1,a0.2.1) rs h':=by
 have hDl:=hD.len
 have hm0:=(hD.mem.1 (qab ha0)).1
 have hb0:=hb _ hm0
 have htl:=top_len hm0
 have hte:=top_ev hm0
 exact x7 (K:=WalkOk H L (a0.1,a0.2.1)) (glsV hl.good gls0) (by
  unfold f7;simp only[qxh]
  refine p_x ?_
  have hl1:LsH (H++[HO.o (.cells [.slice none 0 0] 1 true)]) x 3 cc3 D:=hl.pre ⟨_,rfl⟩
  have hlen1:(H++[HO.o (.cells [.slice none 0 0] 1 true)]).length=H.length+1:=by simp
  obtain⟨h2,hcall,hlow2,hle2⟩:=check_c hl1 hD h0 (by omega) hnd hcon hb
  refine ah hcall ?_
  have hl2:=hl1.low hlow2
  have hw2:h2[H.length]?=some (.o (.cells [.slice none 0 0] 1 true)):=hlow2 _ _ (by rw[hlen1];omega) aH
  have hH2:Low H.length H h2:=((Low.refl H).app _).trans (hlow2.le (by rw[hlen1];omega))
  rw[hlen1]at hle2
  clear hcall hlow2 hl1 hlen1
  refine p_x ?_
  obtain⟨rs,h3,hcall,o,ks,rfl,rfl,hset,hknd,hkm⟩:=squares_c hD hl2 (by omega)
  refine ah hcall ?_
  have hl3:LsH (h2++[o]) x 3 cc3 D:=hl2.pre ⟨_,rfl⟩
  have hw3:(h2++[o])[H.length]?=some (.o (.cells [.slice none 0 0] 1 true)):=bo hw2
  have hH3:Low H.length H (h2++[o]):=hH2.app _
  have g3:(h2++[o]).length=h2.length+1:=by simp
  clear hcall hl2 hw2 hH2
  refine p_x ?_
  generalize h2++[o]=h3 at *
  generalize hbd:h2.length=b at *
  rw[g3]
  refine gi (vs:=[.map none]) (by rw[←g3];exact aH) rfl ?_
  rw[←g3,dD,g3]
  have p4:(h3++[HO.o (.cells [.map (some b)] 1 true)])[b+1]?=some (.o (.cells [.map (some b)] 1 true)):=by rw[←g3];exact aH
  have s4:Set3 (h3++[HO.o (.cells [.map (some b)] 1 true)]) b ks:=hset.keep λ_ ho=>bo ho
  have w4:(h3++[HO.o (.cells [.map (some b)] 1 true)])[H.length]?=some (.o (.cells [.slice none 0 0] 1 true)):=bo hw3
  have l4:LsH (h3++[HO.o (.cells [.map (some b)] 1 true)]) x 3 cc3 D:=hl3.pre ⟨_,rfl⟩
  have H4:Low H.length H (h3++[HO.o (.cells [.map (some b)] 1 true)]):=hH3.app _
  have g4:(h3++[HO.o (.cells [.map (some b)] 1 true)]).length=b+2:=by simp[g3]
  clear hset hw3 hl3 hH3 g3
  generalize h3++[HO.o (.cells [.map (some b)] 1 true)]=h4 at *
  try simp(disch:=omega)only[↓qXX]
  refine lK (o:=0) (k:=1) (a:=a0) (i:=0) l4 rfl ha0 rfl (by omega) ?_
  simp only[cc3,qaV,qaW,qbb]
  refine p_x ?_
  refine lK (o:=1) (k:=1) (a:=a0) (i:=0) l4 rfl ha0 rfl (by omega) ?_
  simp only[cc3,qbr,qaV,qaW,qbb]
  refine p_x ?_
  rw[g4]
  refine gi (vs:=[.int .i64 0]) (by rw[←g4];exact aH) rfl ?_
  rw[←g4,dD,g4]
  try simp(disch:=omega)only[↓qXX]
  have g5:(h4++[HO.o (.cells [.int .i64 0] 1 true)]).length=b+3:=by simp[g4]
  rw[g5]
  refine gi (vs:=[.int .i64 0]) (by rw[←g5];exact aH) rfl ?_
  rw[←g5,dD,g5]
  try simp(disch:=omega)only[↓qXX]
  have g6:(h4++[HO.o (.cells [.int .i64 0] 1 true)]++[HO.o (.cells [.int .i64 0] 1 true)]).length=b+4:=by simp[g4]
  rw[g6]
  refine ak rfl ?_
  refine gi (vs:=[.nilFunc]) (by rw[←g6];exact aH) rfl ?_
  rw[←g6,dD,g6]
  try simp(disch:=omega)only[↓qXX]
  have hWS:WS H.length b L (h4++[HO.o (.cells [.int .i64 0] 1 true)]++[HO.o (.cells [.int .i64 0] 1 true)]++[HO.o (.cells [cloV H.length b] 1 true)]) ⟨[],[],0,0⟩ (.slice none 0 0):=
   ⟨by omega,⟨ks,s4.keep λ_ ho=>bo (bo (bo ho)),hknd,λa=>(hkm a).trans ⟨λ⟨c,h1,h2⟩=>⟨c,h1,(by simp),h2⟩,λ⟨c,h1,_,h2⟩=>⟨c,h1,h2⟩⟩⟩,bo (bo (bo p4)),bo (bo (bo w4)),OwnL.nil _ _ _ _,bo (bo (by rw[←g4];exact aH)),bo (by rw[←g5];exact aH),by rw[←g6];exact aH,by simp[g4]⟩
  have H7:Low H.length H (h4++[HO.o (.cells [.int .i64 0] 1 true)]++[HO.o (.cells [.int .i64 0] 1 true)]++[HO.o (.cells [cloV H.length b] 1 true)]):=((H4.app _).app _).app _
  generalize h4++[HO.o (.cells [.int .i64 0] 1 true)]++[HO.o (.cells [.int .i64 0] 1 true)]++[HO.o (.cells [cloV H.length b] 1 true)]=h7 at *
  clear g4 g5 g6 p4 s4 w4 l4 H4
  refine cL (bv hWS.pv) rfl ?_
  refine p_x ?_
  refine ak rfl ?_
  refine p_x ?_
  obtain⟨rs,h8,hcall,rfl,x8,hw8,hlow8⟩:=walk1_c hb (by omega) (free L []) (a0.1,a0.2.1) h7 ⟨[],[],0,0⟩ (.slice none 0 0) hWS ev0 (qaf _) hm0 (by simp) (qaf _)
  refine fl (gr (args:=[.agg ⟨cc3 (sqC (a0.1,a0.2.1))⟩]) hcall rfl [.agg [.i .i64 a0.1,.i .i64 a0.2.1,.i .u8 0],.leaf (.v (ptrB (b+1))),.leaf (.v (ptrB H.length)),.leaf (.v (ptrB (b+3))),.leaf (.v (ptrB (b+2))),.leaf (.v (ptrB (b+4)))] rfl rfl rfl) ?_
  clear hWS hcall
  have H8:=H7.trans hlow8
  change WS H.length b L h8 (topT L (a0.1,a0.2.1)) x8 at hw8
  obtain⟨t,ht⟩ : ∃t,t=topT L (a0.1,a0.2.1):=⟨_,rfl⟩
  rw[←ht]at hw8 hte htl
  refine p_x ?_
  refine cL (bv hw8.pw) rfl ?_
  refine p_x ?_
  refine ak (hw8.ow.good fK) ?_
  refine p_x ?_
  refine cL (bv hw8.pt) rfl ?_
  refine p_x ?_
  obtain⟨x9,e9,l9,gd9,b9⟩:=sl_take (hw8.ow.ls fK) hte.la
  refine af e9 ?_
  refine ak gd9 ?_
  obtain⟨x10,hcall,l10,gd10,b10,c10⟩:=clipS_c l9
  refine ah hcall ?_
  refine p_x ?_
  refine gi hw8.pw rfl ?_
  try simp(disch:=omega)only[↓qXX]
  have hbk:∀i,blk x10=some i->b+5<=i:=λi hi=>by
   rw[b10,b9]at hi
   exact(hw8.ow.blk hi).1
  have hlt:=hw8.lt
  have hlnn:=hw8.ln
  have l11:LsH (h8.set H.length (.o (.cells [x10] 1 true))) x10 1 encS (t.steps.take t.last):=l10.keep λj o hj hb=>by
   have:=hbk j hb
   exact bn hj (by omega)
  have w11:(h8.set H.length (.o (.cells [x10] 1 true)))[H.length]?=some (.o (.cells [x10] 1 true)):=nc hw8.pw
  have H11:Low H.length H (h8.set H.length (.o (.cells [x10] 1 true))):=H8.set (qaf _) _
  have n11:(h8.set H.length (.o (.cells [x10] 1 true))).length=h8.length:=by simp
  generalize h8.set H.length (.o (.cells [x10] 1 true))=h11 at *
  refine cL (bv w11) rfl ?_
  refine p_x ?_
  refine ak gd10 ?_
  refine p_x ?_
  refine ah (rC l11 (λa ha=>hte.st a (qbm ha)) (hte.ok.take _) (by rw[qaG];omega)) ?_
  refine p_x ?_
  refine cL (bv w11) rfl ?_
  refine p_x ?_
  refine ak gd10 ?_
  refine p_x ?_
  refine gi w11 rfl ?_
  try simp(disch:=omega)only[↓qXX]
  have e12:h11.set H.length (.o (.cells [x10] 1 true))=h11:=eK w11
  rw[e12]
  refine dc ((bv w11).ld rfl) ?_
  refine p_x ?_
  refine ak gd10 ?_
  refine p_x ?_
  exact⟨x10,rfl,ht▸l11,H11,by omega,(λi hi=>by
   have:=hbk i hi
   omega),ht▸c10⟩)
end Go.Am
namespace Go.Am
namespace Sx
section
variable [Val] [Kno] {C:Cfg} {Sg:Tb} {T:Tt}
variable {κ:Type} [DecidableEq κ] (kc:κ->Tl) {kk:TG} (hd:∀a b,difK kk (kc a) (kc b)=some (decide (a=b)))
include hd
theorem findK(k:κ):∀ {es:Th} {ks:List κ} (i:Nat),es.map (·.key)=ks.map (λk=>.agg ⟨kc k⟩)->fi kk (kc k) es i=some ((ks.idxOf? k).map (i + ·))
 | [],[],i,_=>rfl
 | [],_ :: _,i,h=>by simp at h
 |_ :: _,[],i,h=>by simp at h
 |e :: es,q :: ks,i,h=>by
  simp only[qas,qax]at h
  have ih:=findK k (i+1) h.2
  have hq:fi kk (kc k) (e :: es) i=if k=q then some (some i)else fi kk (kc k) es (i+1):=by
   simp only[fi,h.1]
   rw[hd]
   by_cases hk:k=q<;>simp[hk]
  rw[hq,List.idxOf?_cons]
  by_cases hk:k=q
  ·subst hk
   simp
  ·rw[qdE hk,ih,qdE (by simp;exact λe=>hk e.symm),qdx]
   congr 2
   funext j
   simp only[Function.comp];omega
omit hd in
def SetK(h:HL)(id:Nat)(ks:List κ):Prop:=∃es c,h[id]?=some (.o (.map es c))/\es.map (·.key)=ks.map (λk=>.agg ⟨kc k⟩)/\∀e∈es,e.val = .bool true
variable {kt:TM} (h1:aggT C.P kt=some true) (h2:flatK C.P 10000 kt=some kk) (h3:∀a,∃r,fq kk (kc a) (kc a)=some r)
include h1 h2 h3
omit hd in
theorem keyFK(k:κ):keyF C.P kt (.agg ⟨kc k⟩)=true:=by
 obtain⟨r,hr⟩:=h3 k
 unfold keyF
 simp only[h1,h2,hr]
omit h3 hd in
theorem findFK(k:κ){es:Th}{r:Tp}(hr:fi kk (kc k) es 0=some r):lH C.P kt (.agg ⟨kc k⟩) es=some r:=by
 unfold lH
 simp only[h1,h2,jp,hr]
theorem r_luK{h:HL}{id:Nat}{ks:List κ}{K:Te}(hs:SetK kc h id ks)(k:κ){v:Value}(hv:v = .agg ⟨kc k⟩)(hk:K [.bool (decide (k∈ks))]) :
  (PH C Sg T).peek (.fn (luG C kt false (.bool false) (.map (some id)) v false)) h (@hid _ ⟨K⟩):=by
 subst hv
 obtain⟨es,c,a1,a2,a3⟩:=hs
 refine dc (cs:=[.bool (decide (k∈ks))]) ?_ hk
 show luG C kt false (.bool false) (.map (some id)) (.agg ⟨kc k⟩) false (getH T h)=_
 unfold luG
 rw[keyFK kc h1 h2 h3 k]
 simp only[qaI,qao,if_false]
 rw[fS a1]
 simp only
 rw[findFK kc h1 h2 k (findK kc hd k 0 a2)]
 cases hi:ks.idxOf? k with
 |none=>
  rw[qdB (qb9.1 hi)]
  simp[ez]
 |some j=>
  obtain⟨hj,hjk,_⟩:=qcI.1 hi
  have hlen:es.length=ks.length:=by
   have:=congrArg List.length a2
   simpa using this
  have he:es[j]?=some (es[j]'(by omega)):=qai _
  have hv:=a3 _ (qb7 (show j<es.length by omega))
  rw[qdC (hjk▸qb7 hj)]
  simp only[qaC,qaL]
  have hv2:dy es j=some (.bool true):=by
   unfold dy
   rw[he]
   simp[hv]
  rw[hv2]
  simp[ez]
theorem r_muK{h:HL}{id:Nat}{ks:List κ}{K:Ta}(hs:SetK kc h id ks)(k:κ)(hn:k∉ks){v:Value}(hv:v = .agg ⟨kc k⟩)(hk:∀o,SetK kc (h.set id o) id (ks++[k])->K [] (h.set id o)) :
  (PH C Sg T).heap (.fn (muG C kt (.map (some id)) v (.bool true))) h (@hid _ ⟨K⟩):=by
 subst hv
 obtain⟨es,c,a1,a2,a3⟩:=hs
 have hrun:(Hp.fn (muG C kt (.map (some id)) (.agg ⟨kc k⟩) (.bool true))).run (getH T h) h.length=some ([.set id (.map (es++[{ key:=.agg ⟨kc k⟩,val:=.bool true,born:=c }]) (c+1))],[]):=by
  show muG C kt (.map (some id)) (.agg ⟨kc k⟩) (.bool true) (getH T h) h.length=_
  unfold muG
  simp only
  rw[keyFK kc h1 h2 h3 k]
  simp only[qaI,qao,if_false]
  rw[fS a1]
  simp only
  rw[findFK kc h1 h2 k (findK kc hd k 0 a2),qb9.2 hn]
  rfl
 refine bC hrun (hk _ ⟨_,_,qaH (av a1),by simp[a2],λe hm=>?_⟩)
 rcases qau.1 hm with hm|hm
 ·exact a3 e hm
 ·simp only[qam]at hm
  subst hm;rfl
end
def eqB_dec(a b:Bool):eqB a b=decide (a=b):=by cases a<;>cases b<;>rfl
def difK_b:∀(l m:Tz),l.length=m.length->difK (List.replicate l.length .b) (l.map .bool) (m.map .bool)=some (decide (l=m))
 | [],[],_=>rfl
 | [],_ :: _,h=>by simp at h
 |_ :: _,[],h=>by simp at h
 |a :: l,b :: m,h=>by
  have ih:=difK_b l m (by simpa using h)
  simp only[qaD,qb3,qas,difK,eqB_dec,ih,qax]
  by_cases hab:a=b<;>simp[hab]
def fastK_b:∀(l:Tz),fq (List.replicate l.length .b) (l.map .bool) (l.map .bool)=some true
 | []=>rfl
 |a :: l=>by
  simp only[qaD,qb3,qas,fq,fastK_b l,eqB_dec,decide_true]
end Sx
end Go.Am
namespace Go.Am
open Sx Go.Proofs Tw
def qU{h:HL}{x:Value}{l:List K3}(hl:LsH h x 3 cc3 l)(hn:l.length<=100000)(a:K3){p q r:Int}(ha:p=a.1/\q=a.2.1/\r=Int.ofNat a.2.2) :
  ∃n:Int,aw cc ab 31 [.v x,.i p,.i q,.i r] (absH aa h) [.i n] (absH aa h)/\((n = -1/\a∉l)∨∃i,n=Int.ofNat i/\l[i]?=some a):=by
 obtain⟨rfl,rfl,rfl⟩:=ha
 obtain⟨rs,h',h1,n,rfl,rfl,h2⟩:=x31 (ls:=[.v x,.i a.1,.i a.2.1,.i (Int.ofNat a.2.2)]) (H:=h) (K:=λrs h'=>∃n:Int,rs=[.i n]/\h'=h/\((n = -1/\a∉l)∨∃i,n=Int.ofNat i/\l[i]?=some a)) (glsV hl.good (glsI (glsI (glsI gls0)))) (by
  unfold f31;simp only[qxh]
  refine p_x ?_
  refine bI hl ?_
  refine dg l.length (λj=>∀i,i<j->l[i]?≠some a) (j0:=0) rfl (qaO _) (λi hi=>by omega) ?_
  intro j hj he self hself
  refine p_x ?_
  by_cases hlt:j<l.length
  ·rw[bf hlt]
   refine p_x ?_
   obtain⟨b,hb⟩:=aP hlt
   refine bQ hl rfl hb ?_
   unfold cc3
   refine p_x ?_
   rw[eqs3]
   by_cases hba:a=b
   ·subst hba
    rw[qdC rfl]
    refine p_x ?_
    exact⟨_,rfl,by trivial,.inr ⟨j,rfl,hb⟩⟩
   ·rw[qdB hba]
    refine p_x ?_
    rw[bg (by omega)]
    refine hself hlt λi hi=>?_
    by_cases hij:i=j
    ·subst hij
     rw[hb]
     exact λe=>hba (qae e).symm
    ·exact he i (by omega)
  ·rw[bj (by omega)]
   refine p_x ?_
   refine⟨_,rfl,by trivial,.inl ⟨rfl,λhm=>?_⟩⟩
   obtain⟨i,hi⟩:=qaM hm
   exact he i (by have:=av hi;omega) hi)
 exact⟨n,h1,h2⟩
def vG{h:HL}{x:Value}{l:List K3}(hl:LsH h x 3 cc3 l)(hn:l.length<=100000)(a:K3){p q r:Int}(ha:p=a.1/\q=a.2.1/\r=Int.ofNat a.2.2):aw cc ab 25 [.v x,.i p,.i q,.i r] (absH aa h) [.b (decide (a∈l))] (absH aa h):=by
 obtain⟨n,h1,h2⟩:=qU hl hn a ha
 have h3:aw cc ab 38 [.v x,.i p,.i q,.i r] (absH aa h) [.b (decide (a∈l))] (absH aa h):=by
  refine xK x38 (glsV hl.good (glsI (glsI (glsI gls0)))) ?_
  unfold f38;simp only[qxh]
  refine p_x ?_
  refine ah h1 ?_
  refine p_x ?_
  rcases h2 with⟨rfl,h2⟩|⟨i,rfl,h2⟩
  ·rw[p_geq_f (by omega)]
   exact⟨by rw[qdB h2],rfl⟩
  ·rw[p_geq_t (by show(0:Int)<=(i:Int);omega)]
   exact⟨by rw[qdC (qab h2)],rfl⟩
 refine xK x25 (glsV hl.good (glsI (glsI (glsI gls0)))) ?_
 unfold f25;simp only[qxh]
 repeat (first|simp(disch:=omega)only[↓qXX]|refine ah h3 ?_)
 trivial
def encB(t:Bool):Tl:=[.bool t]
def eqsBd{a b:Bool}{K:Tn}:P1.eqs [(.b a,.b b)] (@hid _ ⟨K⟩)=K (decide (a=b)):=by
 show K (ch _)=_
 cases a<;>cases b<;>rfl
def anyF_c{h:HL}{x:Value}{l:Tz}(hl:LsH h x 1 encB l)(hn:l.length<=100000):aw cc ab 32 [.v x,.b false] (absH aa h) [.b (decide (false∈l))] (absH aa h):=by
 obtain⟨rs,h',h1,n,rfl,rfl,h2⟩:=x45 (ls:=[.v x,.b false]) (H:=h) (K:=λrs h'=>∃n:Int,rs=[.i n]/\h'=h/\((n = -1/\false∉l)∨∃i,n=Int.ofNat i/\l[i]?=some false)) (glsV hl.good (glsB gls0)) (by
  unfold f45;simp only[qxh]
  refine p_x ?_
  refine bI hl ?_
  refine dg l.length (λj=>∀i,i<j->l[i]?≠some false) (j0:=0) rfl (qaO _) (λi hi=>by omega) ?_
  intro j hj he self hself
  refine p_x ?_
  by_cases hlt:j<l.length
  ·rw[bf hlt]
   refine p_x ?_
   obtain⟨b,hb⟩:=aP hlt
   refine bQ hl rfl hb ?_
   unfold encB
   refine p_x ?_
   rw[eqsBd]
   by_cases hba:false=b
   ·subst hba
    rw[qdC rfl]
    refine p_x ?_
    exact⟨_,rfl,by trivial,.inr ⟨j,rfl,hb⟩⟩
   ·rw[qdB hba]
    refine p_x ?_
    rw[bg (by omega)]
    refine hself hlt λi hi=>?_
    by_cases hij:i=j
    ·subst hij
     rw[hb]
     exact λe=>hba (qae e).symm
    ·exact he i (by omega)
  ·rw[bj (by omega)]
   refine p_x ?_
   refine⟨_,rfl,by trivial,.inl ⟨rfl,λhm=>?_⟩⟩
   obtain⟨i,hi⟩:=qaM hm
   exact he i (by have:=av hi;omega) hi)
 refine xK x32 (glsV hl.good (glsB gls0)) ?_
 unfold f32;simp only[qxh]
 refine p_x ?_
 refine ah h1 ?_
 refine p_x ?_
 rcases h2 with⟨rfl,h2⟩|⟨i,rfl,h2⟩
 ·rw[p_geq_f (by omega)]
  exact⟨by rw[qdB h2],rfl⟩
 ·rw[p_geq_t (by show(0:Int)<=(i:Int);omega)]
  exact⟨by rw[qdC (qab h2)],rfl⟩
def kV{H:HL}{x:Value}{L:List Sq}{D:List K3}(hl:LsH H x 3 cc3 D)(hD:SetOf L D)(h0:0<L.length)(hn:L.length<=200)(hnd:L.Nodup)(hcon:Con L)(hb:∀c∈L,(-4096<=c.1/\c.1<=4096)/\-4096<=c.2/\c.2<=4096) :
  ∃h',aw cc ab 10 [.v x] (absH aa H) [.i (Int.ofNat L.length),.i 0] (absH aa h')/\Low H.length H h'/\H.length<=h'.length:=by
 obtain⟨h1,hc,hlow,hle⟩:=check_c hl hD h0 hn hnd hcon hb
 refine⟨h1,xK x10 (glsV hl.good gls0) ?_,hlow,hle⟩
 have hDl:=hD.len
 unfold f10;simp only[qxh]
 refine p_x ?_
 refine ah hc ?_
 refine p_x ?_
 refine bI (hl.low hlow) ?_
 rw[p_quo_nn (by show(0:Int)<=(D.length:Int);omega) (by omega) (by show(D.length:Int)<=9223372036854775807;omega)]
 have e:(Int.ofNat D.length / 4:Int)=Int.ofNat L.length:=by
  show((D.length:Int) / 4:Int)=(L.length:Int)
  omega
 rw[e]
 trivial
def length_c{h:HL}{x:Value}{l:TB}(hl:LsH h x 1 encS l)(hok:∀a∈l,1<=a/\a<=4)(h3:Ok3 l)(hn:l.length<=255):aw cc ab 9 [.v x] (absH aa h) [.i (Int.ofNat (1+(l.filter λa=>decide (a<3)).length)),.i 0] (absH aa h):=by
 refine xK x9 (glsV hl.good gls0) ?_
 unfold f9;simp only[qxh]
 refine p_x ?_
 refine ah (rC hl hok h3 hn) ?_
 refine p_x ?_
 refine bI hl ?_
 refine bG (σ:=Nat) l.length (λj s=>[.i (Int.ofNat s),.i (Int.ofNat j)]) (λ_ _=>h) (λj s=>s=1+((l.take j).filter λa=>decide (a<3)).length) (j0:=0) (s0:=1) rfl rfl (qaO _) (by simp) ?_
 rintro j s hj hs self hself
 have hbd:((l.take j).filter λa=>decide (a<3)).length<=j:=qbh (qce _ _) (by rw[qaG];omega)
 refine p_x ?_
 by_cases hlt:j<l.length
 ·rw[bf hlt]
  refine p_x ?_
  obtain⟨a,ha⟩:=aP hlt
  have ha4:=hok a (qab ha)
  have ht:l.take (j+1)=l.take j++[a]:=by
   rw[qbC,ha];rfl
  refine bQ hl rfl ha ?_
  unfold encS
  refine p_x ?_
  refine ac (eM ha4) ?_
  refine p_x ?_
  by_cases h3:3<=a
  ·rw[qdC h3]
   simp(disch:=omega)only[↓qXX,qaI]
   rw[bg (by omega)]
   refine hself s hlt ?_
   rw[ht,qcH,hs]
   simp;omega
  ·rw[qdB h3]
   simp(disch:=omega)only[↓qXX,qba]
   rw[bg (by omega)]
   refine p_x ?_
   rw[bg (by omega)]
   refine hself (s+1) hlt ?_
   rw[ht,qcH,hs]
   simp[show a<3 by omega];omega
 ·obtain rfl:j=l.length:=by omega
  rw[bj (qaf _)]
  refine p_x ?_
  rw[qbJ]at hs
  refine⟨by rw[hs],by trivial⟩
namespace St
def eW(c:Crs):(encC c).length=3:=rfl
def pV{n:Nat}(h:n<=1000000000000):bJ n 16=true:=by
 unfold bJ
 rw[qaZ (by omega),qaZ (by omega)];rfl
def ap2{α:Type}{n0 e:Nat}{enc:α->Tl}{l:List α}{h:HL}{v:Value}{bytes m:Nat}{a b:α}{new:Tl}{sp:Tp}{K:Ta}(henc:∀a,(enc a).length=e)(ho:OwnL n0 h v e enc l)(hn0:n0<=h.length)(hm:m=h.length)(hnew:new=enc a++enc b)(hsp:sp=some (e+10))(hs:bJ (l.length+2) bytes=true)
  (hk:∀v' h',OwnL n0 h' v' e enc (l++[a,b])->aS v'=true->(∀(j:Nat) o,h[j]?=some o->Sx.blk v≠some j->h'[j]?=some o)->h.length<=h'.length->K [v'] h') :
  P1.heap (.ap cc e bytes v (.slice (some ⟨m,0,sp⟩) 2 3)) (h++[.o (.cells new e true)]) (@hid _ ⟨K⟩):=by
 subst hm hnew hsp
 have ho':OwnL n0 (h++[HO.o (.cells (enc a++enc b) e true)]) v e enc l:=ho.app _
 refine ho'.ap (new:=[a,b]) (k:=2) henc (by simp;omega) ?_ rfl hs λv' h' a1 a2 a3 a4 a5=>hk v' h' a1 a2 (λj o hj hb=>a3 j o (bo hj) hb) (by simp at a4;omega)
 have hlen:(enc a++enc b).length=2*e:=by rw[qaB,henc,henc];omega
 have hx:SlC (h++[HO.o (.cells (enc a++enc b) e true)]) (.slice (some ⟨h.length,0,tag e⟩) 2 3) e 2 (enc a++enc b):=⟨hlen,.inr ⟨h.length,0,3,enc a++enc b,true,rfl,aH,Sx.cut_all hlen⟩⟩
 have h1:slG cc e (getH aa (h++[HO.o (.cells (enc a++enc b) e true)])) (.slice (some ⟨h.length,0,tag e⟩) 2 3)=some ([a,b].flatMap enc,2):=by
  rw[tS hx]
  simp
 exact h1
def vN{α:Type}{h:HL}{v:Value}{e:Nat}{enc:α->Tl}{l:List α}(hs:LsH h v e enc l):chk2 v=some ():=by
 have:bz v=true:=by
  rcases hs.2.2 with⟨rfl,_⟩|⟨id,off,cx,vs,rw',rfl,_,_⟩
  ·rfl
  ·simp[bz,bp,tag]
 unfold chk2
 rw[this]
 rfl
def clipC_c{h:HL}{x:Value}{l:TD}(hl:LsH h x 3 encC l):∃x',aw cc ab 61 [.v x] (absH aa h) [.v x'] (absH aa h)/\LsH h x' 3 encC l/\aS x'=true:=by
 obtain⟨x',h1,h2,h3,h4⟩:=sl_clip hl
 refine⟨x',xK x61 (glsV hl.good gls0) ?_,h2,h3⟩
 unfold f61;simp only[qxh]
 refine p_x ?_
 refine bI hl (bI hl (af h1 (ak h3 ?_)))
 trivial
def lift5{w:Nat}(hw:w<=256):∀ {l:TD},(∀c∈l,okU w c)->∃J:List C5,J.map crF=l
 | [],_=>⟨[],rfl⟩
 |c :: l,h=>by
  obtain⟨J,hJ⟩:=lift5 hw λa ha=>h a (qap _ ha)
  obtain⟨⟨u,e,h1,h2,h3⟩,h4,h5⟩:=h c qaE
  obtain⟨a1,a2,_⟩:=wL h3
  obtain⟨k,hk⟩:=Int.eq_ofNat_of_zero_le (show 0<=c.2.2 by omega)
  rw[hk]at h4 h5
  refine⟨(⟨u,by omega⟩,⟨e,a2⟩,⟨k,by omega⟩) :: J,?_⟩
  rw[qas,hJ]
  congr 1
  exact qcC h1.symm (qcC h2.symm hk.symm)
def len0:Cc 65 [.i 0] [.i 0]:=vb (by kernel_rfl) rfl (by kernel_rfl) rfl
def sort0_c{H:HL}{v:Value}(hv:LsH H v 3 encC []):aw cc ab 59 [.v v,.v xa] (absH aa H) [] (absH aa H):=by
 obtain⟨rs,h',h1,e1,e2⟩:=x59 (ls:=[.v v,.v xa]) (K:=λrs h'=>rs=[]/\h'=H) (H:=H) (glsV hv.good (glsV rfl gls0)) (by
  unfold f59;simp only[qxh]
  repeat (first|simp(disch:=omega)only[↓qXX]|refine bI hv ?_|refine ac len0 ?_)
  obtain⟨rs,h',g1,g2,g3⟩:=x68 (ls:=[.v v,.i 0,.i (Int.ofNat ([]:TD).length),.i 0,.v xa]) (K:=λrs h'=>rs=[]/\h'=H) (H:=H) (glsV hv.good (glsI (glsI (glsI (glsV rfl gls0))))) (by
   unfold f68;simp only[qxh]
   refine p_x ?_
   refine⟨1,?_⟩
   refine hidL ?_
   rw[show Int.ofNat ([]:TD).length=0 from rfl]
   simp(disch:=omega)only[↓qXX]
   try rw[p_sub (by omega) (by omega)]
   try simp(disch:=omega)only[↓qXX]
   obtain⟨rs,h',g1,g2,g3⟩:=x86 (ls:=[.v v,.i 0,.i 0,.v xa]) (K:=λrs h'=>rs=[]/\h'=H) (H:=H) (glsV hv.good (glsI (glsI (glsV rfl gls0)))) (by
    unfold f86;simp only[qxh]
    refine p_x ?_
    refine⟨1,?_⟩
    refine hidL ?_
    simp(disch:=omega)only[↓qXX]
    trivial)
   rw[g2,g3]at g1
   refine ah g1 ?_
   simp(disch:=omega)only[↓qXX]
   trivial)
  rw[g2,g3]at g1
  refine ah g1 ?_
  simp(disch:=omega)only[↓qXX]
  trivial)
 rw[e1,e2]at h1
 exact h1
def asc5{D:List C5}(h:D.Pairwise λx y=>¬k5 y<k5 x)(hn:((D.map crF).map cK).Nodup):(D.map crF).Pairwise λa b=>ltC a b=true:=by
 rw[qcW,List.Nodup,qcl]at hn
 refine qcl.2 ((h.and hn).imp λ{x y} ⟨h1,h2⟩=>?_)
 have hx:=x.2.1.isLt
 have hy:=y.2.1.isLt
 have hne:¬(x.1.val=y.1.val/\x.2.1.val=y.2.1.val):=λ⟨e1,e2⟩=>h2 (by
  show cK (crF x)=cK (crF y)
  unfold cK crF
  rw[e1,e2])
 unfold k5 at h1
 simp only[qaY]at h1
 unfold ltC crF
 simp only[qbs,qaa,qdA,qaY]
 omega
def iD{s:Nat}(h:s<=100000){K:Tu}:P1.ari .mul .i64 4 (Int.ofNat s) (@hid _ ⟨K⟩)=K (Int.ofNat (4*s)):=by
 rw[p_mul (by show(-9223372036854775808:Int)<=4*(s:Int);omega) (by show 4*(s:Int)<=9223372036854775807;omega)]
 congr 1
def vY{l:List (Lf×Lf)}{t:Bool}{K:Tn}(h:ch l=t)(hk:K t):P1.eqs l (@hid _ ⟨K⟩):=by
 subst h
 exact hk
def pattern_c{H:HL}{x:Value}{ws:TB}(hl:LsH H x 1 encS ws)(hok:∀z∈ws,1<=z/\z<=4)(h3:Ok3 ws)(hn:ws.length<=250) :
  ∃h' v l,aw cc ab 47 [.v x] (absH aa H) [.i (Int.ofNat (1+nmv ws)),.i 1,.v v,.i 0] (absH aa h')/\LsH h' v 3 encC l/\l.Perm (outW ws 0 true)/\(l.Pairwise λa b=>ltC a b=true)/\Low H.length H h'/\H.length<=h'.length:=by
 obtain⟨rs,h',e1,v,l,rfl,e2⟩:=x47 (ls:=[.v x]) (H:=H) (K:=λrs h'=>∃v l,rs=[.i (Int.ofNat (1+nmv ws)),.i 1,.v v,.i 0]/\LsH h' v 3 encC l/\l.Perm (outW ws 0 true)/\(l.Pairwise λa b=>ltC a b=true)/\Low H.length H h'/\H.length<=h'.length) (glsV hl.good gls0) (by
  unfold f47;simp only[qxh]
  refine p_x ?_
  refine ah (length_c hl hok h3 (by omega)) ?_
  refine p_x ?_
  refine bI hl ?_
  change P1.loop _ [.i 0,.b true,.i 0,.i (Int.ofNat (1+nmv ws)),.i 1,.v (.slice none 0 0)] _
  refine bG (σ:=(Nat×Bool×List Crs)×Value×HL) ws.length (λj s=>[.i (Int.ofNat s.1.1),.b s.1.2.1,.i (Int.ofNat j),.i (Int.ofNat (1+nmv ws)),.i 1,.v s.2.1]) (λ_ s=>s.2.2) (λj s=>OwnL H.length s.2.2 s.2.1 3 encC s.1.2.2/\s.1.2.2++outW (ws.drop j) s.1.1 s.1.2.1=outW ws 0 true/\s.1.1<=j/\s.1.2.2.length<=2*j/\Low H.length H s.2.2/\H.length<=s.2.2.length) (j0:=0) (s0:=((0,true,[]),.slice none 0 0,H)) rfl rfl (qaO _) ⟨OwnL.nil _ _ _ _,by simp,qaf _,by simp,Low.refl _,qaf _⟩ ?_
  rintro j ⟨⟨s,up,out⟩,v,h⟩ hj ⟨ho,hout,hs,hlen,hlow,hle⟩ self hself
  simp only at ho hout hs hlen hlow hle hself
  have hl':=hl.low hlow
  refine p_x ?_
  by_cases hlt:j<ws.length
  case pos=>
   rw[bf hlt]
   refine p_x ?_
   obtain⟨z,hz⟩:=aP hlt
   have hz4:=hok z (qab hz)
   have hdr:ws.drop j=z :: ws.drop (j+1):=by
    rw[qa9 hlt]
    rw[qai hlt]at hz
    rw[qae hz]
   rw[hdr]at hout
   refine bQ hl' rfl hz ?_
   unfold encS
   refine p_x ?_
   have z4:z=1∨z=2∨z=3∨z=4:=by omega
   cases up with
   |true=>
    refine p_x ?_
    rcases z4 with rfl|rfl|rfl|rfl
    · -- z=1,up=true
     rw[p_eql_t (by rfl)]
     refine p_x ?_
     rw[bg (by omega)]
     try simp(disch:=omega)only[↓qXX]
     rw[bg (by omega)]
     exact hself ((s+1,true,out),v,h) hlt ⟨ho,by simpa[outW]using hout,by show s+1<=j+1;omega,by show out.length<=2*(j+1);omega,hlow,hle⟩
    · -- z=2,up=true
     rw[p_eql_f (by decide)]
     refine p_x ?_
     rw[p_eql_t (by rfl)]
     refine p_x ?_
     rw[iD (by omega)]
     try simp(disch:=omega)only[↓qXX]
     rw[bg (by omega)]
     refine p_x ?_
     refine ho.ap1 (a:=(Int.ofNat (4*s+1),0,kd true)) eW hle rfl rfl rfl (pV (by omega)) λv' h' b1 b2 b3 b4 b5=>?_
     refine p_x ?_
     refine ak b2 ?_
     try simp(disch:=omega)only[↓qXX]
     rw[bg (by omega)]
     try simp(disch:=omega)only[↓qXX]
     rw[bg (by omega)]
     exact hself ((s+1,false,out++[(Int.ofNat (4*s+1),0,kd true)]),v',h') hlt ⟨b1,by simpa[outW,kd]using hout,by show s+1<=j+1;omega,by show(out++_).length<=_;simp;omega,λi o hi hoo=>b3 i o (hlow i o hi hoo) λe=>by
      have:=(ho.blk e).1
      omega,by show H.length<=h'.length;omega⟩
    · -- z=3,up=true
     rw[p_eql_f (by decide)]
     refine p_x ?_
     rw[p_eql_f (by decide)]
     refine p_x ?_
     rw[p_eql_t (by rfl)]
     simp(disch:=omega)only[↓qXX]
     try (refine vY (t:=true) rfl ?_;simp(disch:=omega)only[↓qXX])
     rw[iD (by omega)]
     try simp(disch:=omega)only[↓qXX]
     rw[iD (by omega)]
     try simp(disch:=omega)only[↓qXX]
     rw[bg (by omega)]
     refine p_x ?_
     refine ap2 (a:=(Int.ofNat (4*s),2,kd true)) (b:=(Int.ofNat (4*s+1),2,kd true)) eW ho hle rfl rfl rfl (pV (by omega)) λv' h' b1 b2 b3 b4=>?_
     refine p_x ?_
     refine ak b2 ?_
     try simp(disch:=omega)only[↓qXX]
     rw[bg (by omega)]
     exact hself ((s,false,out++[(Int.ofNat (4*s),2,kd true),(Int.ofNat (4*s+1),2,kd true)]),v',h') hlt ⟨b1,by simpa[outW,kd]using hout,by show s<=j+1;omega,by show(out++_).length<=_;simp;omega,λi o hi hoo=>b3 i o (hlow i o hi hoo) λe=>by
      have:=(ho.blk e).1
      omega,by show H.length<=h'.length;omega⟩
    · -- z=4,up=true
     rw[p_eql_f (by decide)]
     refine p_x ?_
     rw[p_eql_f (by decide)]
     refine p_x ?_
     rw[p_eql_f (by decide)]
     simp(disch:=omega)only[↓qXX]
     try (refine vY (t:=false) rfl ?_;simp(disch:=omega)only[↓qXX])
     rw[iD (by omega)]
     try simp(disch:=omega)only[↓qXX]
     rw[iD (by omega)]
     try simp(disch:=omega)only[↓qXX]
     rw[p_add (by show(-9223372036854775808:Int)<=((4*s:Nat):Int)+2;omega) (by show((4*s:Nat):Int)+2<=9223372036854775807;omega)]
     refine p_x ?_
     refine ap2 (a:=(Int.ofNat (4*s),1,kd true)) (b:=(Int.ofNat (4*s+2),1,kd true)) eW ho hle rfl rfl rfl (pV (by omega)) λv' h' b1 b2 b3 b4=>?_
     refine p_x ?_
     refine ak b2 ?_
     try simp(disch:=omega)only[↓qXX]
     rw[bg (by omega)]
     exact hself ((s,false,out++[(Int.ofNat (4*s),1,kd true),(Int.ofNat (4*s+2),1,kd true)]),v',h') hlt ⟨b1,by simpa[outW,kd]using hout,by show s<=j+1;omega,by show(out++_).length<=_;simp;omega,λi o hi hoo=>b3 i o (hlow i o hi hoo) λe=>by
      have:=(ho.blk e).1
      omega,by show H.length<=h'.length;omega⟩
   |false=>
    refine p_x ?_
    rcases z4 with rfl|rfl|rfl|rfl
    · -- z=1,up=false
     rw[p_eql_t (by rfl)]
     refine p_x ?_
     rw[bg (by omega)]
     try simp(disch:=omega)only[↓qXX]
     rw[bg (by omega)]
     exact hself ((s+1,false,out),v,h) hlt ⟨ho,by simpa[outW]using hout,by show s+1<=j+1;omega,by show out.length<=2*(j+1);omega,hlow,hle⟩
    · -- z=2,up=false
     rw[p_eql_f (by decide)]
     refine p_x ?_
     rw[p_eql_t (by rfl)]
     refine p_x ?_
     rw[iD (by omega)]
     try simp(disch:=omega)only[↓qXX]
     rw[bg (by omega)]
     refine p_x ?_
     refine ho.ap1 (a:=(Int.ofNat (4*s+1),0,kd false)) eW hle rfl rfl rfl (pV (by omega)) λv' h' b1 b2 b3 b4 b5=>?_
     refine p_x ?_
     refine ak b2 ?_
     try simp(disch:=omega)only[↓qXX]
     rw[bg (by omega)]
     try simp(disch:=omega)only[↓qXX]
     rw[bg (by omega)]
     exact hself ((s+1,true,out++[(Int.ofNat (4*s+1),0,kd false)]),v',h') hlt ⟨b1,by simpa[outW,kd]using hout,by show s+1<=j+1;omega,by show(out++_).length<=_;simp;omega,λi o hi hoo=>b3 i o (hlow i o hi hoo) λe=>by
      have:=(ho.blk e).1
      omega,by show H.length<=h'.length;omega⟩
    · -- z=3,up=false
     rw[p_eql_f (by decide)]
     refine p_x ?_
     rw[p_eql_f (by decide)]
     refine p_x ?_
     rw[p_eql_t (by rfl)]
     simp(disch:=omega)only[↓qXX]
     try (refine vY (t:=false) rfl ?_;simp(disch:=omega)only[↓qXX])
     rw[iD (by omega)]
     try simp(disch:=omega)only[↓qXX]
     rw[iD (by omega)]
     try simp(disch:=omega)only[↓qXX]
     rw[p_add (by show(-9223372036854775808:Int)<=((4*s:Nat):Int)+2;omega) (by show((4*s:Nat):Int)+2<=9223372036854775807;omega)]
     refine p_x ?_
     refine ap2 (a:=(Int.ofNat (4*s),1,kd false)) (b:=(Int.ofNat (4*s+2),1,kd false)) eW ho hle rfl rfl rfl (pV (by omega)) λv' h' b1 b2 b3 b4=>?_
     refine p_x ?_
     refine ak b2 ?_
     try simp(disch:=omega)only[↓qXX]
     rw[bg (by omega)]
     exact hself ((s,true,out++[(Int.ofNat (4*s),1,kd false),(Int.ofNat (4*s+2),1,kd false)]),v',h') hlt ⟨b1,by simpa[outW,kd]using hout,by show s<=j+1;omega,by show(out++_).length<=_;simp;omega,λi o hi hoo=>b3 i o (hlow i o hi hoo) λe=>by
      have:=(ho.blk e).1
      omega,by show H.length<=h'.length;omega⟩
    · -- z=4,up=false
     rw[p_eql_f (by decide)]
     refine p_x ?_
     rw[p_eql_f (by decide)]
     refine p_x ?_
     rw[p_eql_f (by decide)]
     simp(disch:=omega)only[↓qXX]
     try (refine vY (t:=true) rfl ?_;simp(disch:=omega)only[↓qXX])
     rw[iD (by omega)]
     try simp(disch:=omega)only[↓qXX]
     rw[iD (by omega)]
     try simp(disch:=omega)only[↓qXX]
     rw[bg (by omega)]
     refine p_x ?_
     refine ap2 (a:=(Int.ofNat (4*s),2,kd false)) (b:=(Int.ofNat (4*s+1),2,kd false)) eW ho hle rfl rfl rfl (pV (by omega)) λv' h' b1 b2 b3 b4=>?_
     refine p_x ?_
     refine ak b2 ?_
     try simp(disch:=omega)only[↓qXX]
     rw[bg (by omega)]
     exact hself ((s,true,out++[(Int.ofNat (4*s),2,kd false),(Int.ofNat (4*s+1),2,kd false)]),v',h') hlt ⟨b1,by simpa[outW,kd]using hout,by show s<=j+1;omega,by show(out++_).length<=_;simp;omega,λi o hi hoo=>b3 i o (hlow i o hi hoo) λe=>by
      have:=(ho.blk e).1
      omega,by show H.length<=h'.length;omega⟩
  obtain rfl:j=ws.length:=by omega
  rw[bj (qaf _)]
  refine p_x ?_
  rw[List.drop_length]at hout
  have hout':out=outW ws 0 true:=by rw[←hout];simp[outW]
  have hw:=fW ws 0 0 0 0 hok
  have hnm:nmv ws<=ws.length:=qce _ _
  obtain⟨J,hJ⟩:=lift5 (w:=(ribL ws 0 0 0 0).length) (by omega) (l:=out) λc hc=>out_ok hok h3 (by rw[←hout'];exact hc)
  by_cases h0:0<out.length
  ·rcases ho with⟨_,he⟩|⟨id,cx,rfl,hid,hcell,hcx⟩
   ·rw[he]at h0;simp at h0
   have hJl:J.length=out.length:=by rw[←hJ,qay]
   obtain⟨D,hD,hDs,hcall⟩:=sort5_c (cx:=cx) (J:=J) (by rw[hJ];exact hcell) (by omega) (by omega)
   rw[hJl]at hcall
   refine ah hcall ?_
   clear hcall
   refine p_x ?_
   have hls:LsH (putE h id 3 encC (D.map crF)) (.slice (some ⟨id,0,tag 3⟩) out.length cx) 3 encC (D.map crF):=by
    have:=putE_ls (cx:=cx) eW (av hcell) (l:=D.map crF)
    rw[qay,hD.length_eq,hJl]at this
    exact this
   obtain⟨x',c1,c2,c3⟩:=clipC_c hls
   refine ah c1 ?_
   refine p_x ?_
   refine af (x:=()) (vN c2) ?_
   have hperm:(D.map crF).Perm (outW ws 0 true):=by
    rw[←hout',←hJ]
    exact hD.map crF
   refine⟨_,_,rfl,c2,hperm,asc5 hDs (pat_ok hok h3 hperm).2.1,λi o hi hoo=>?_,?_⟩
   ·rw[dj (by omega)]
    exact hlow i o hi hoo
   ·unfold putE
    rw[qbl]
    exact hle
  ·have he:out=[]:=qbg.1 (by omega)
   have hv:=ho.ls eW
   rw[he]at hv
   refine ah (sort0_c hv) ?_
   refine p_x ?_
   obtain⟨x',c1,c2,c3⟩:=clipC_c hv
   refine ah c1 ?_
   refine p_x ?_
   refine af (x:=()) (vN c2) ?_
   refine⟨_,_,rfl,c2,?_,List.Pairwise.nil,hlow,hle⟩
   rw[←hout',he])
 exact⟨h',v,l,e1,e2⟩
end St
namespace St
def imW(ws:TB):TK:=(List.range (4*(ribL ws 0 0 0 0).length*1)).map (imC (λs=>(dAt (ribL ws 0 0 0 0) s).1) (λs=>(dAt (ribL ws 0 0 0 0) s).2.2.1) (λs=>(dAt (ribL ws 0 0 0 0) s).2.2.2.1) (λs=>(dAt (ribL ws 0 0 0 0) s).2.2.2.2))
def root_f:∀(ws:TB),(∀z∈ws,1<=z/\z<=4)->Ok3 ws->jF (dAt (ribL ws 0 0 0 0) 0).1=if ws.head? = some 3 then(7,0,0)else(0,0,0)
 | [],_,_=>rfl
 |z :: ws,hok,h3=>by
  have key:∀(f:Nat),(∀a,ws.head? = some a->a<3)->(∀a∈ws,1<=a)->(dAt (ribL ws f 0 0 0) 0).1=f:=by
   intro f hh hp
   cases ws with
   |nil=>rfl
   |cons a ws=>
    have h1:=hh a rfl
    have h2:=hp a qaE
    have:a=1∨a=2:=by omega
    rcases this with rfl|rfl<;>rfl
  have hz:=hok z qaE
  have hp:∀a∈ws,1<=a:=λa ha=>(hok a (qap _ ha)).1
  have z4:z=1∨z=2∨z=3∨z=4:=by omega
  rcases z4 with rfl|rfl|rfl|rfl
  ·rfl
  ·rfl
  ·show jF (dAt (ribL ws 1 0 0 0) 0).1=_
   rw[key 1 (rk h3 (by omega)) hp]
   rfl
  ·show jF (dAt (ribL ws 2 0 0 0) 0).1=_
   rw[key 2 (rk h3 (by omega)) hp]
   rfl
def rn:∀(ws:TB) (s:Nat) (up:Bool),(outW ws s up).length<=2*ws.length
 | [],_,_=>by simp[outW]
 |z :: ws,s,up=>by
  unfold outW
  have h1:=rn ws (s+1) up
  have h2:=rn ws (s+1) (!up)
  have h3:=rn ws s (!up)
  split
  ·simp only[qaD];omega
  ·split
   ·simp only[qaD];omega
   ·split<;>simp only[qaD]<;>omega
def ident_c:Cc 48 [] [.i 0,.i 0,.i 0]:=by
 refine q48 rfl ?_;unfold f48;simp only[qxh]
 try simp(disch:=omega)only[↓qXX]
def imagesW_c{H:HL}{x:Value}{ws:TB}(hl:LsH H x 1 encS ws)(hok:∀z∈ws,1<=z/\z<=4)(h3:Ok3 ws)(hn:ws.length<=250)(hn2:nmv ws<=59) :
  ∃h' v,aw cc ab 36 [.v x] (absH aa H) [.v v,.i 0] (absH aa h')/\LsH h' v 3 aG (imW ws)/\Low H.length H h'/\H.length<=h'.length:=by
 obtain⟨h1,v1,l,hcall,hl1,hp,hasc,hlow1,hle1⟩:=pattern_c hl hok h3 hn
 have hw:=fW ws 0 0 0 0 hok
 obtain⟨p1,p2,p3⟩:=pat_ok hok h3 hp
 have hR:=rib_of ws
 have hww:1<=(ribL ws 0 0 0 0).length/\(ribL ws 0 0 0 0).length<=60:=by omega
 have hlen:l.length<=1000:=by
  have h5:=hp.length_eq
  have h6:=rn ws 0 true
  omega
 have hck:=check_c hww hl1 p1 hasc hlen
 obtain⟨ix,h2,hcall2,hpre,hls⟩:=images_c (w:=(ribL ws 0 0 0 0).length) (v:=1) ⟨hww.1,hww.2,rfl⟩ p2 hlen hl1 hck (GR_cons hR hww p3) (GR_0 hR) (λc hc=>GR_ok hR hww.2 hc) (ii (rE _) (by omega))
 rw[im_eq hR]at hls
 have hls':LsH h2 ix 3 aG (imW ws):=hls
 have hcall3:aw cc ab 50 ([.i (Int.ofNat (1+nmv ws)),.i 1,.v v1]++mvl (if ws.head? = some 3 then(7,0,0)else(0,0,0))) (absH aa h1) [.v ix,.i 0] (absH aa h2):=by
  rw[←root_f ws hok h3,←hw]
  exact hcall2
 have hl1':=hl.low hlow1
 have hlow2:Low H.length H h2:=λi o hi hoo=>Pre.get hpre (hlow1 i o hi hoo)
 have hle2:H.length<=h2.length:=qbh hle1 hpre.len
 obtain⟨rs,h',e1,rfl,rfl⟩:=x36 (ls:=[.v x]) (H:=H) (K:=λrs h'=>rs=[.v ix,.i 0]/\h'=h2) (glsV hl.good gls0) (by
  unfold f36;simp only[qxh]
  refine p_x ?_
  refine ah hcall ?_
  refine p_x ?_
  refine ac ident_c ?_
  refine p_x ?_
  refine bI hl1' ?_
  cases ws with
  |nil=>
   rw[p_gtr_f (by simp)]
   refine p_x ?_
   refine ah hcall3 ?_
   simp(disch:=omega)only[↓qXX]
   trivial
  |cons z ws=>
   rw[p_gtr_t (by show(0:Int)<((z :: ws).length:Int);simp only[qaD];omega)]
   refine p_x ?_
   refine bQ hl1' (i:=0) (a:=z) rfl rfl ?_
   unfold encS
   refine p_x ?_
   by_cases hz:z=3
   ·subst hz
    rw[p_eql_t (by rfl)]
    refine p_x ?_
    refine ac (mlof_c (l:=(4,0)) ⟨by decide,by decide⟩ ⟨by decide,by decide⟩) ?_
    simp only[mvl,ofM,qa8,qa3]
    refine p_x ?_
    refine ah hcall3 ?_
    simp(disch:=omega)only[↓qXX]
    trivial
   ·rw[p_eql_f (show Int.ofNat z≠3 from λe=>hz (qbP e))]
    refine p_x ?_
    rw[qdE (by simpa using hz)]at hcall3
    refine ah hcall3 ?_
    simp(disch:=omega)only[↓qXX]
    trivial)
 exact⟨_,ix,e1,hls',hlow2,hle2⟩
end St
end Go.Am
namespace Go.Am
open Sx Go.Proofs
namespace St
def cmpC(a b:Cl):Int:=orI [cmpI a.2.1 b.2.1,cmpI a.1 b.1,cmpI (Int.ofNat a.2.2) (Int.ofNat b.2.2)]
def ltL(a b:Cl):Prop:=a.2.1<b.2.1∨(a.2.1=b.2.1/\(a.1<b.1∨(a.1=b.1/\a.2.2<b.2.2)))
instance (a b : Cl) : Decidable (ltL a b) := by unfold ltL; exact inferInstance
def cmpC_lt(a b:Cl):cmpC a b<0↔ltL a b:=by
 unfold cmpC ltL
 simp only[orI]
 have h1:=@cmpI_0 a.2.1 b.2.1
 have h2:=@cmpI_0 a.1 b.1
 have e1:cmpI a.2.1 b.2.1<0↔a.2.1<b.2.1:=by unfold cmpI;split<;>(try split)<;>omega
 have e2:cmpI a.1 b.1<0↔a.1<b.1:=by unfold cmpI;split<;>(try split)<;>omega
 have e3:cmpI (Int.ofNat a.2.2) (Int.ofNat b.2.2)<0↔a.2.2<b.2.2:=by
  have:(Int.ofNat a.2.2<Int.ofNat b.2.2)↔a.2.2<b.2.2:=Int.ofNat_lt
  unfold cmpI
  split<;>(try split)<;>omega
 have e4:=@cmpI_0 (Int.ofNat a.2.2) (Int.ofNat b.2.2)
 split
 next g1=>
  split
  next g2=>
   split
   next g3=>
    have:=e4.1 g3
    have:a.2.2=b.2.2:=qbP this
    omega
   ·omega
  ·omega
 ·omega
def ltL_tri{a b:Cl}:ltL a b∨a=b∨ltL b a:=by
 obtain⟨a1,a2,a3⟩:=a
 obtain⟨b1,b2,b3⟩:=b
 simp only[ltL,qbY]
 omega
def nq{a:Cl}:¬ltL a a:=by unfold ltL;omega
def ltL_tr{a b c:Cl}(h:ltL a b)(k:ltL b c):ltL a c:=by unfold ltL at *;omega
abbrev C4:=Int×Int×Fin 4
def clF(a:C4):Cl:=(a.1,a.2.1,a.2.2.val)
def enc4(a:C4):Tl:=aG (clF a)
def cf4(a b:C4):Int:=cmpC (clF a) (clF b)
def lt4(a b:C4):Go.Proofs.ltOf cf4 a b=decide (ltL (clF a) (clF b)):=by
 unfold Go.Proofs.ltOf cf4
 rw[decide_eq_decide]
 exact cmpC_lt _ _
def swo4:Go.Sort.SWO (Go.Proofs.ltOf cf4) where
 irrefl x:=by rw[lt4,qdB];exact nq
 trans x y z h1 h2:=by
  rw[lt4,qdA]at *
  exact ltL_tr h1 h2
 ntrans x y z h1 h2:=by
  rw[lt4,decide_eq_false_iff_not]at *
  intro h
  unfold ltL at *
  omega
def cmp4(a b:C4):cM cc 30 [.agg ⟨enc4 a⟩,.agg ⟨enc4 b⟩] [] (.int .i64 (cf4 a b)) []:=by
 have ha:=a.2.2.isLt
 have hb:=b.2.2.isLt
 have hc:=Go.Am.cell_c (x:=a.1) (y:=a.2.1) (q:=Int.ofNat a.2.2.val) (x':=b.1) (y':=b.2.1) (q':=Int.ofNat b.2.2.val) (by simp only[qaY];omega) (by simp only[qaY];omega) []
 exact gp (N:=neuN) mixed (Sg:=ab) (sg:=⟨[.agg [.i .i64,.i .i64,.i .u8],.agg [.i .i64,.i .i64,.i .u8]],[li]⟩) rfl hc (xs:=[.agg [.i .i64 a.1,.i .i64 a.2.1,.i .u8 (Int.ofNat a.2.2.val)],.agg [.i .i64 b.1,.i .i64 b.2.1,.i .u8 (Int.ofNat b.2.2.val)]]) rfl rfl (ys:=[.leaf (.i .i64 (cf4 a b))]) rfl rfl
abbrev cloC:Value:=.func (.func 30) ⟨[]⟩ ⟨[]⟩
def sort_c{H:HL}{id cx:Nat}{J:List C4}(hid:H[id]?=some (.o (.cells ((J.map clF).flatMap aG) 3 true)))(h0:0<J.length)(hl:J.length<=100000) :
  ∃D:List C4,D.Perm J/\(D.Pairwise λx y=>¬ltL (clF y) (clF x))/\aw cc ab 52 [.v (.slice (some ⟨id,0,tag 3⟩) J.length cx),.v cloC] (absH aa H) [] (absH aa (putE H id 3 aG (D.map clF))):=by
 have e1:∀L:List C4,(L.map clF).flatMap aG=L.flatMap enc4:=λL=>by rw[List.flatMap_map];rfl
 refine⟨srt cf4 J,wD swo4 J,?_,?_⟩
 ·refine(wC swo4 J).imp λ{x y} h=>?_
  rw[lt4,decide_eq_false_iff_not]at h
  exact h
 ·have hid2:(absH aa H)[id]?=some (.cells (J.flatMap enc4) 3 true):=by
   rw[←e1]
   unfold absH
   rw[qaz,hid]
   rfl
  have hok:=nY (C:=cc) gM layS (enc:=enc4) (e:=3) (λw=>by kernel_rfl) (λw=>by kernel_rfl) (λ_=>rfl) (λx v hv=>by
   simp only[enc4,aG,qal,qbx,or_false]at hv
   rcases hv with rfl|rfl|rfl<;>rfl) swo4 (g:=30) (λargs w=>by kernel_rfl) cmp4 (cx:=cx) hid2 rfl h0 (by omega)
  have hset:(absH aa H).set id (.cells ((srt cf4 J).flatMap enc4) 3 true)=absH aa (putE H id 3 aG ((srt cf4 J).map clF)):=by
   unfold putE
   rw[e1,rY]
   rfl
  rw[hset]at hok
  exact⟨⟨[lv,lv],[]⟩,[.leaf (.v (.slice (some ⟨id,0,tag 3⟩) J.length cx)),.leaf (.v cloC)],[],rfl,⟨rfl,rfl,λy hy=>by
   simp only[qal,qbx,or_false]at hy
   rcases hy with rfl|rfl
   ·exact au (show aS (.slice (some ⟨id,0,tag 3⟩) J.length cx)=true by simp[aS,noLoc,aZ,bz,bp,aR,aI,tag])
   ·exact au rfl⟩,⟨rfl,rfl,λy hy=>by cases hy⟩,⟨0,.inr ⟨.inl (by kernel_rfl),hok⟩⟩⟩
end St
namespace St
def vCl(c:Cl):Bool:=decide (-4096<=c.1/\c.1<=4096/\-4096<=c.2.1/\c.2.1<=4096)
def Ful{α:Type}(h:HL)(x:Value)(e:Nat)(enc:α->Tl)(l:List α):Prop:=∃id,x = .slice (some ⟨id,0,tag e⟩) l.length (l.length+1)/\h[id]?=some (.o (.cells (l.flatMap enc) e true))
def Ful.ls{α:Type}{h:HL}{x:Value}{e:Nat}{enc:α->Tl}{l:List α}(henc:∀a,(enc a).length=e)(hf:Ful h x e enc l):LsH h x e enc l:=by
 obtain⟨id,rfl,h1⟩:=hf
 exact kB henc h1 rfl
def Ful.pre{α:Type}{h h':HL}{x:Value}{e:Nat}{enc:α->Tl}{l:List α}(hf:Ful h x e enc l)(hp:Pre h h'):Ful h' x e enc l:=by
 obtain⟨id,rfl,h1⟩:=hf
 exact⟨id,rfl,hp.get h1⟩
def Ful.cap{α:Type}{h:HL}{x:Value}{e:Nat}{enc:α->Tl}{l:List α}(hf:Ful h x e enc l):capS x=some (Int.ofNat l.length):=by
 obtain⟨id,rfl,h1⟩:=hf
 exact cap_full
def okCl(c:Cl):Prop:=vCl c=true/\c.2.2<4
def wrong_c{h:HL}{x:Value}{l:TK}(hl:LsH h x 3 aG l)(hok:∀c∈l,okCl c)(hn:l.length<=100000):aw cc ab 29 [.v x] (absH aa h) [.b false] (absH aa h):=by
 obtain⟨b,h1,h2⟩:=wR (l:=l) hl hn
 obtain rfl:=h2.2 λa ha=>by
  obtain⟨h3,h4⟩:=hok a ha
  unfold vCl at h3
  rw[qdA]at h3
  exact⟨⟨h3.1,h3.2.1⟩,⟨h3.2.2.1,h3.2.2.2⟩,h4⟩
 exact h1
def r_apE{α:Type}{e kb:Nat}{enc:α->Tl}{h:HL}{x:Value}{new:List α}{m:Nat}{K:Ta}(hg:h[m]?=some (.o (.cells [] e true)))(hx:LsH h x e enc new)(hn:0<new.length)(hb:new.length*kb<=140737488355328)(hb':new.length<=140737488355328)
  (hk:K [.slice (some ⟨h.length,0,tag e⟩) new.length 0] (h++[.o (.cells (new.flatMap enc) e true)])) :
  P1.heap (.ap cc e kb (.slice (some ⟨m,0,tag e⟩) 0 1) x) h (@hid _ ⟨K⟩):=by
 have hsz:bJ (0+new.length) kb=true:=by
  rw[qaL]
  unfold bJ
  rw[qaZ hb',qaZ hb];rfl
 have hcut:cut ([]:Tl) 0 (0*e)=some []:=Sx.cut_all (by simp)
 have hrun:apG cc e kb (.slice (some ⟨m,0,tag e⟩) 0 1) x (getH aa h) h.length=some ([.push (.cells ([]++new.flatMap enc) e true)],[.slice (some ⟨h.length,0,tag e⟩) (0+new.length) 0]):=by
  unfold apG
  rw[tS hx.2]
  simp only[ne_eq,not_true_eq_false,if_false]
  rw[bB hg]
  simp only[ne_eq,not_true_eq_false,if_false]
  rw[hcut]
  simp only
  rw[qdE (by omega),qdD hsz]
 refine bC (show(Hp.ap cc e kb (.slice (some ⟨m,0,tag e⟩) 0 1) x).run _ _=_ from hrun) ?_
 rw[qaL]
 exact hk
abbrev sl3(id n cx:Nat):Value:=.slice (some ⟨id,0,tag 3⟩) n cx
def clone_c{h:HL}{x:Value}{l:TK}(hl:LsH h x 3 aG l)(h0:0<l.length)(hn:l.length<=100000):aw cc ab 51 [.v x] (absH aa h) [.v (sl3 (h.length+1) l.length 0)] (absH aa (h++[.o (.cells [] 3 true),.o (.cells (l.flatMap aG) 3 true)])):=by
 have hx:∃a n c,x = .slice (some a) n c:=by
  rcases hl.2.2 with⟨_,hz⟩|⟨id,off,cx,vs,rw',rfl,_,_⟩
  ·omega
  ·exact⟨_,_,_,rfl⟩
 exact xK x51 (glsV hl.good gls0) (by
  unfold f51;simp only[qxh]
  refine p_x ?_
  obtain⟨a,n,c,rfl⟩:=hx
  repeat (first|simp(disch:=omega)only[↓qXX]|refine af (x:=false) rfl ?_|refine r_apE (kb:=24) (h:=h++[.o (.cells [] 3 true)]) (m:=h.length) aH (hl.pre ⟨_,rfl⟩) h0 (by omega) (by omega) ?_)
  refine ak (by simp[aS,noLoc,aZ,bz,bp,aR,aI,tag]) ?_
  refine⟨by simp,by simp⟩)
def cmN(L:TK):Nat->List Cl
 |0=>[]
 |n+1=>match L[n]? with
  |none=>cmN L n
  |some c=>if 0<n/\L[n - 1]?=some c then cmN L n else cmN L n++[c]
def cmN_len{L:TK}:∀n,(cmN L n).length<=n
 |0=>qaf _
 |n+1=>by
  have:=cmN_len (L:=L) n
  unfold cmN
  split
  ·omega
  ·split
   ·omega
   ·rw[qaB];simp only[qaD,qbA];omega
def ls_off{α:Type}{e:Nat}{enc:α->Tl}(henc:∀a,(enc a).length=e){h:HL}{id cx o n:Nat}{L:List α}(hg:h[id]?=some (.o (.cells (L.flatMap enc) e true)))(ho:o<=L.length)(hn:n=L.length - o):LsH h (.slice (some ⟨id,o*e,tag e⟩) n cx) e enc (L.drop o):=by
 have hd:(L.drop o).length=n:=by rw[qbO];omega
 refine⟨λa _=>henc a,aD λa _=>henc a,.inr ⟨id,o*e,cx,_,true,by rw[hd],hg,?_⟩⟩
 have e1:L.flatMap enc=(L.take o).flatMap enc++(L.drop o).flatMap enc:=by rw[←qcc,qbt]
 have e2:((L.take o).flatMap enc).length=o*e:=by rw[aD λa _=>henc a,qaG,qa5 ho]
 have e3:((L.drop o).flatMap enc).length=(L.drop o).length*e:=aD λa _=>henc a
 rw[Sx.cut_some]
 refine⟨by rw[e1,qaB,e2,e3];exact qaf _,?_⟩
 rw[e1,←e2,List.drop_left',←e3,qbJ]
 rfl
end St
namespace St
abbrev zC:Cl:=(0,0,0)
def ls_pre{α:Type}{e:Nat}{enc:α->Tl}(henc:∀a,(enc a).length=e){h:HL}{id cx k:Nat}{L:List α}(hg:h[id]?=some (.o (.cells (L.flatMap enc) e true)))(hk:k<=L.length):LsH h (.slice (some ⟨id,0,tag e⟩) k cx) e enc (L.take k):=by
 have hd:(L.take k).length=k:=by rw[qaG];omega
 refine⟨λa _=>henc a,aD λa _=>henc a,.inr ⟨id,0,cx,_,true,by rw[hd],hg,?_⟩⟩
 have e1:L.flatMap enc=(L.take k).flatMap enc++(L.drop k).flatMap enc:=by rw[←qcc,qbt]
 have e3:((L.take k).flatMap enc).length=(L.take k).length*e:=aD λa _=>henc a
 rw[Sx.cut_some]
 refine⟨by rw[e1,qaB,e3];omega,?_⟩
 rw[qaV,e1,←e3,qdv]
 rfl
def wy{id n cx o k:Nat}{x:Int}(hx:x=Int.ofNat k)(hk:k<=n):slS 3 (.slice (some ⟨id,o,tag 3⟩) n cx) (some x) none none=some (.slice (some ⟨id,o+k*3,tag 3⟩) (n - k) (cx - k)):=by
 subst hx
 unfold slS
 simp only
 rw[qdE (by simp),qdD (by simp[bR];omega)]
 simp[df,bE]
def slS_upto{id n cx o k:Nat}{x:Int}(hx:x=Int.ofNat k)(hk:k<=n):slS 3 (.slice (some ⟨id,o,tag 3⟩) n cx) none (some x) none=some (.slice (some ⟨id,o,tag 3⟩) k cx):=by
 subst hx
 unfold slS
 simp only
 rw[qdE (by simp),qdD (by simp[bR];omega)]
 simp[df,bE]
def xn{id o n cx:Nat}:aS (.slice (some ⟨id,o,tag 3⟩) n cx)=true:=by simp[aS,noLoc,aZ,bz,bp,aR,aI,tag]
def clear_r{h:HL}{id k n c:Nat}{L:TK}{K:Ta}(hlt:id<h.length)(hn:n=L.length - k)(hk:k<=L.length)(hK:K [] (putE h id 3 aG (L.take k++List.replicate n zC))) :
  P1.heap (.fn (clG 3 [.int .i64 0,.int .i64 0,.int .u8 0] (.slice (some ⟨id,k*3,tag 3⟩) n c))) (putE h id 3 aG L) (@hid _ ⟨K⟩):=by
 have hz:bi [.int .i64 0,.int .i64 0,.int .u8 0] n=(List.replicate n zC).flatMap aG:=by
  rw[←ir (enc:=aG) (z:=zC) (n:=n)]
  rfl
 have e1:L.flatMap aG=(L.take k).flatMap aG++(L.drop k).flatMap aG:=by rw[←qcc,qbt]
 have e2:((L.take k).flatMap aG).length=k*3:=by rw[aD λa _=>bP a,qaG,qa5 hk]
 have e3:((L.drop k).flatMap aG).length=n*3:=by rw[aD λa _=>bP a,qbO,hn]
 have e4:((List.replicate n zC).flatMap aG).length=n*3:=by rw[aD λa _=>bP a,qcV]
 have hs:splice (L.flatMap aG) (k*3) (bi [.int .i64 0,.int .i64 0,.int .u8 0] n)=some ((L.take k++List.replicate n zC).flatMap aG):=by
  unfold splice
  rw[hz,e4,e1,qaB,e2,e3,qdD (qaf _),qdv e2,qbL (by rw[qaB,e2,e3];exact qaf _),qa6,qcc]
 have hrun:(Hp.fn (clG 3 [.int .i64 0,.int .i64 0,.int .u8 0] (.slice (some ⟨id,k*3,tag 3⟩) n c))).run (getH aa (putE h id 3 aG L)) (putE h id 3 aG L).length=some ([.set id (.cells ((L.take k++List.replicate n zC).flatMap aG) 3 true)],[]):=by
  show clG 3 [.int .i64 0,.int .i64 0,.int .u8 0] (.slice (some ⟨id,k*3,tag 3⟩) n c) (getH aa (putE h id 3 aG L)) (putE h id 3 aG L).length=_
  unfold clG
  simp only[ne_eq,not_true_eq_false,if_false]
  rw[bB (dN hlt)]
  simp only[ne_eq,not_true_eq_false,if_false]
  rw[hs]
  rfl
 refine bC hrun ?_
 have:cz (putE h id 3 aG L) [.set id (.cells ((L.take k++List.replicate n zC).flatMap aG) 3 true)]=putE h id 3 aG (L.take k++List.replicate n zC):=wo
 rw[this]
 exact hK
def eqsC{a b:Cl}{K:Tn}:P1.eqs [(.i a.1,.i b.1),(.i a.2.1,.i b.2.1),(.i (Int.ofNat a.2.2),.i (Int.ofNat b.2.2))] (@hid _ ⟨K⟩)=K (decide (a=b)):=by
 show K (ch _)=_
 have e:ch [(.i a.1,.i b.1),(.i a.2.1,.i b.2.1),(.i (Int.ofNat a.2.2),.i (Int.ofNat b.2.2))]=decide (a=b):=by
  rw[qbM]
  simp[ch,gF,Prod.ext_iff]
  intro _ _
  omega
 rw[e]
def lU{L:TK}{n:Nat}{c:Cl}(hc:L[n]?=some c):cmN L (n+1)=if 0<n/\L[n - 1]?=some c then cmN L n else cmN L n++[c]:=by
 rw[cmN,hc]
def compact_c{h:HL}{id:Nat}{L:TK}(hg:h[id]?=some (.o (.cells (L.flatMap aG) 3 true)))(hn:L.length<=100000) :
  ∃cx L',aw cc ab 53 [.v (sl3 id L.length 0)] (absH aa h) [.v (sl3 id (cmN L L.length).length cx)] (absH aa (putE h id 3 aG L'))/\L'.length=L.length/\L'.take (cmN L L.length).length=cmN L L.length:=by
 have hlt:=av hg
 have hself0:putE h id 3 aG L=h:=by
  unfold putE
  exact eK hg
 obtain⟨rs,h',h1,cx,L',rfl,rfl,e1,e2⟩:=x53 (ls:=[.v (sl3 id L.length 0)]) (K:=λrs h'=>∃cx L',rs=[.v (sl3 id (cmN L L.length).length cx)]/\h'=putE h id 3 aG L'/\L'.length=L.length/\L'.take (cmN L L.length).length=cmN L L.length) (H:=h) (glsV xn gls0) (by
  unfold f53;simp only[qxh]
  refine p_x ?_
  have hl:=kB bP (cx:=0) hg rfl
  have full:∀k,(k=L.length/\cmN L k=L.take k)->∃cx L',[Lf.v (sl3 id L.length 0)]=[.v (sl3 id (cmN L L.length).length cx)]/\h=putE h id 3 aG L'/\L'.length=L.length/\L'.take (cmN L L.length).length=cmN L L.length:=λk ⟨hk,hkk⟩=>by
   subst hk
   rw[qbJ]at hkk
   refine⟨0,L,by rw[hkk],hself0.symm,rfl,by rw[hkk,qbJ]⟩
  refine bI hl ?_
  by_cases h2:L.length<2
  ·rw[p_lss_t (show Int.ofNat L.length<2 by show(L.length:Int)<2;omega)]
   refine p_x ?_
   refine full _ ⟨rfl,?_⟩
   rw[qbJ]
   rcases L with _|⟨a,_|⟨b,L⟩⟩
   ·rfl
   ·rfl
   ·simp at h2;omega
  ·rw[p_lss_f (show 2<=Int.ofNat L.length by show 2<=(L.length:Int);omega)]
   refine p_x ?_
   refine dg L.length (λi=>1<=i/\cmN L i=L.take i) (j0:=1) rfl (by omega) ⟨qaf _,by
    rcases L with _|⟨a,L⟩
    ·simp at h2
    ·simp[cmN]⟩ ?_
   rintro i hi ⟨hi1,hcm⟩ self hself
   refine p_x ?_
   refine bI hl ?_
   by_cases hlti:i<L.length
   ·rw[bf hlti]
    refine p_x ?_
    obtain⟨a,ha⟩:=aP hlti
    obtain⟨b,hb⟩:=aP (l:=L) (i:=i - 1) (by omega)
    refine bQ hl rfl ha ?_
    unfold aG
    refine p_x ?_
    rw[oB (by omega) (by omega)]
    refine bQ hl rfl hb ?_
    unfold aG
    refine p_x ?_
    rw[eqsC]
    by_cases hab:a=b
    case neg=>
     rw[qdB hab]
     refine p_x ?_
     rw[bg (by omega)]
     refine hself hlti ⟨by omega,?_⟩
     rw[lU ha,qdE (by rw[hb];intro q;exact hab (qae q.2).symm),hcm,qbC,ha]
     rfl
    rw[qdC hab]
    refine p_x ?_
    rw[wy rfl (by omega)]
    refine af rfl (ak xn ?_)
    rw[qaL]
    have c0:cmN L (i+1)=L.take i:=by rw[lU ha,qdD ⟨by omega,by rw[hb,hab]⟩,hcm]
    refine bG (σ:=Nat×List Cl) (L.length - i) (λz s=>[.i (Int.ofNat s.1),.i (Int.ofNat z)]) (λ_ s=>putE h id 3 aG s.2) (λz s=>1<=z/\s.2.length=L.length/\s.1+1<=i+z/\s.1=(cmN L (i+z)).length/\s.2.take s.1=cmN L (i+z)/\∀j,i+z<=j+1->s.2[j]?=L[j]?) (j0:=1) (s0:=(i,L)) rfl hself0.symm (by omega) ⟨qaf _,rfl,qaf _,by rw[c0,qaG];simp only;omega,by rw[c0],λ_ _=>rfl⟩ ?_
    clear self hself
    rintro z ⟨k,L2⟩ hz ⟨hz1,hl2,hk1,hk2,hk3,hk4⟩ self hself
    simp only at hl2 hk1 hk2 hk3 hk4 hself ⊢
    have hg2:(putE h id 3 aG L2)[id]?=some (.o (.cells (L2.flatMap aG) 3 true)):=dN hlt
    have hls:=ls_off bP (cx:=0 - i) (n:=L.length - i) hg2 (o:=i) (by omega) (by omega)
    refine p_x ?_
    have hll:=hls.len
    rw[qbO,hl2]at hll
    refine af hll ?_
    by_cases hltz:z<L.length - i
    ·rw[bf hltz]
     refine p_x ?_
     obtain⟨c,hc⟩:=aP (l:=L) (i:=i+z) (by omega)
     obtain⟨d,hd⟩:=aP (l:=L) (i:=i+z - 1) (by omega)
     refine bQ hls (i:=z) (a:=c) rfl (by rw[qaX,hk4 _ (by omega)];exact hc) ?_
     unfold aG
     refine p_x ?_
     rw[oB (by omega) (by omega)]
     refine bQ hls (i:=z - 1) (a:=d) rfl (by rw[qaX,show i+(z - 1)=i+z - 1 by omega,hk4 _ (by omega)];exact hd) ?_
     unfold aG
     refine p_x ?_
     rw[eqsC]
     have hst:=lU hc
     by_cases hcd:c=d
     ·rw[qdC hcd]
      simp(disch:=omega)only[↓qXX,qaI]
      rw[bg (by omega)]
      have e5:cmN L (i+(z+1))=cmN L (i+z):=by rw[←qbG,hst,qdD ⟨by omega,by rw[hd,hcd]⟩]
      exact hself (k,L2) hltz ⟨by omega,hl2,by simp only;omega,by rw[e5];exact hk2,by rw[e5];exact hk3,λj hj=>hk4 j (by omega)⟩
     ·rw[qdB hcd]
      simp(disch:=omega)only[↓qXX,qba]
      refine bQ hls (i:=z) (a:=c) rfl (by rw[qaX,hk4 _ (by omega)];exact hc) ?_
      unfold aG
      refine p_x ?_
      refine r_set bP (a:=c) (l:=L2) (len:=L.length) (cx:=0) hlt rfl (show k<L2.length by omega) hl2 rfl ?_
      try simp(disch:=omega)only[↓qXX]
      rw[bg (by omega)]
      refine p_x ?_
      rw[bg (by omega)]
      have e5:cmN L (i+(z+1))=cmN L (i+z)++[c]:=by rw[←qbG,hst,qdE (by rw[hd];intro q;exact hcd (qae q.2).symm)]
      refine hself (k+1,L2.set k c) hltz ⟨by omega,by simp only[qbl];exact hl2,by simp only;omega,by rw[e5,qaB];simp only[qaD,qbA];omega,?_,λj hj=>?_⟩
      ·rw[e5,qbC,qaH (by omega),←hk3]
       congr 1
       apply qa0
       intro q
       rw[qaT,qaT]
       split
       ·rw[qaA (by omega)]
       ·rfl
      ·simp only
       rw[qaA (by omega)]
       exact hk4 j (by omega)
    ·rw[bj (by omega)]
     refine p_x ?_
     obtain rfl:z=L.length - i:=by omega
     have e6:i+(L.length - i)=L.length:=by omega
     rw[e6]at hk2 hk3 hk1
     rw[wy rfl (by omega)]
     refine af rfl (ak xn ?_)
     rw[qaL]
     refine clear_r (L:=L2) (n:=L.length - k) hlt (by rw[hl2]) (by omega) ?_
     try simp(disch:=omega)only[↓qXX]
     rw[slS_upto rfl (by omega)]
     refine af rfl (ak xn ?_)
     refine⟨_,_,by rw[←hk2],rfl,by rw[qaB,qaG,qcV];omega,?_⟩
     rw[←hk2,qdv (by rw[qaG];omega)]
     exact hk3
   ·rw[bj (by omega)]
    refine p_x ?_
    exact full _ ⟨by omega,hcm⟩)
 exact⟨cx,L',h1,e1,e2⟩
end St
namespace St
def SetOf(I D:TK):Prop:=D.Pairwise ltL/\∀c,c∈D↔c∈I
def SetOf.eq{I:TK}:∀ {D E:TK},(D.Pairwise ltL)->(E.Pairwise ltL)->(∀c,c∈D↔c∈E)->D=E
 | [],[],_,_,_=>rfl
 | [],b :: E,_,_,h=>by have:=(h b).2 qaE;cases this
 |a :: D,[],_,_,h=>by have:=(h a).1 qaE;cases this
 |a :: D,b :: E,h1,h2,h=>by
  rw[qcJ]at h1 h2
  have hab:a=b:=by
   rcases qal.1 ((h a).1 qaE)with e|e
   ·exact e
   ·rcases qal.1 ((h b).2 qaE)with e'|e'
    ·exact e'.symm
    ·exact absurd (ltL_tr (h1.1 b e') (h2.1 a e)) nq
  subst hab
  congr 1
  refine SetOf.eq (I:=I) h1.2 h2.2 λc=>?_
  constructor
  ·intro hc
   rcases qal.1 ((h c).1 (qap _ hc))with e|e
   ·subst e;exact absurd (h1.1 _ hc) nq
   ·exact e
  ·intro hc
   rcases qal.1 ((h c).2 (qap _ hc))with e|e
   ·subst e;exact absurd (h2.1 _ hc) nq
   ·exact e
def cmN_set{S:TK}(hS:S.Pairwise λx y=>¬ltL y x):∀n,n<=S.length->(cmN S n).Pairwise ltL/\∀c,c∈cmN S n↔c∈S.take n
 |0,_=>⟨List.Pairwise.nil,λc=>by simp[cmN]⟩
 |n+1,hn=>by
  obtain⟨i1,i2⟩:=cmN_set hS n (by omega)
  obtain⟨c,hc⟩:=aP (l:=S) (i:=n) (by omega)
  have hlt:∀(i j:Nat) x y,i<j->S[i]?=some x->S[j]?=some y->¬ltL y x:=λi j x y hij hx hy=>by
   obtain⟨h1,rfl⟩:=qaP.1 hx
   obtain⟨h2,rfl⟩:=qaP.1 hy
   exact qbK.1 hS i j h1 h2 hij
  have ht:S.take (n+1)=S.take n++[c]:=by rw[qbC,hc];rfl
  rw[lU hc,ht]
  split
  next h=>
   refine⟨i1,λx=>?_⟩
   rw[i2,qau,qam]
   refine⟨.inl,λq=>q.elim id λe=>?_⟩
   subst e
   have hm:(S.take n)[n - 1]?=some x:=by rw[qaT,qdD (by omega)];exact h.2
   exact qab hm
  next h=>
   refine⟨?_,λx=>by rw[qau,qau,i2]⟩
   rw[List.pairwise_append]
   refine⟨i1,List.pairwise_singleton _ _,λx hx y hy=>?_⟩
   rw[qam]at hy
   subst hy
   rw[i2]at hx
   obtain⟨i,hi⟩:=qaM hx
   rw[qaT]at hi
   split at hi
   case isFalse=>cases hi
   rename_i hin
   have h3:=hlt i n x y hin hi hc
   rcases ltL_tri (a:=x) (b:=y)with q|q|q
   ·exact q
   ·exfalso
    subst q
    obtain⟨d,hd⟩:=aP (l:=S) (i:=n - 1) (by omega)
    have h4:=hlt (n - 1) n d x (by omega) hd hc
    by_cases hi2:i=n - 1
    ·subst hi2
     exact h ⟨by omega,hi⟩
    ·have h5:=hlt i (n - 1) x d (by omega) hi hd
     rcases ltL_tri (a:=x) (b:=d)with q|q|q
     ·exact h4 q
     ·exact h ⟨by omega,by rw[hd,q]⟩
     ·exact h5 q
   ·exact absurd q h3
def ex_c4:∀ {I:TK},(∀c∈I,c.2.2<4)->∃J:List C4,J.map clF=I
 | [],_=>⟨[],rfl⟩
 |c :: I,h=>by
  obtain⟨J,hJ⟩:=ex_c4 (I:=I) λd hd=>h d (qap _ hd)
  exact⟨(c.1,c.2.1,⟨c.2.2,h c qaE⟩) :: J,by rw[qas,hJ];rfl⟩
def clip_c(H:HL){id n cx:Nat}:aw cc ab 54 [.v (sl3 id n cx)] (absH aa H) [.v (sl3 id n (n+1))] (absH aa H):=by
 obtain⟨rs,h',h1,e1,e2⟩:=x54 (ls:=[.v (sl3 id n cx)]) (K:=λrs h'=>rs=[.v (sl3 id n (n+1))]/\h'=H) (H:=H) (glsV xn gls0) (by
  unfold f54;simp only[qxh]
  refine p_x ?_
  refine af (x:=Int.ofNat n) rfl ?_
  refine af (x:=Int.ofNat n) rfl ?_
  have e:slS 3 (sl3 id n cx) none (some (Int.ofNat n)) (some (Int.ofNat n))=some (sl3 id n (n+1)):=by
   unfold slS sl3
   simp only
   rw[qdE (by simp),qdD (by simp[bR])]
   simp[df,bE]
  refine af e ?_
  refine ak xn ?_
  trivial)
 rw[e1,e2]at h1
 exact h1
def OwnP(n0:Nat)(h:HL)(v:Value)(D:TK):Prop:=∃(id:Nat) (L:TK),v=sl3 id D.length (D.length+1)/\n0<=id/\h[id]?=some (HO.o (.cells (L.flatMap aG) 3 true))/\D.length<=L.length/\L.take D.length=D
def OwnP.ls{n0:Nat}{h:HL}{v:Value}{D:TK}(ho:OwnP n0 h v D):LsH h v 3 aG D:=by
 obtain⟨id,L,rfl,h1,h2,h3,h4⟩:=ho
 have:=ls_pre bP (cx:=D.length+1) h2 h3
 rw[h4]at this
 exact this
def OwnP.le{n0 n1:Nat}{h:HL}{v:Value}{D:TK}(ho:OwnP n0 h v D)(hn:n1<=n0):OwnP n1 h v D:=by
 obtain⟨id,L,h0,h1,h2⟩:=ho
 exact⟨id,L,h0,qbh hn h1,h2⟩
def sof_c{h:HL}{x:Value}{I:TK}(hl:LsH h x 3 aG I)(hok:∀c∈I,okCl c)(h0:0<I.length)(hn:I.length<=1000) :
  ∃dx G D,aw cc ab 37 [.v x] (absH aa h) [.v dx,.i 0] (absH aa (h++G))/\OwnP h.length (h++G) dx D/\SetOf I D/\D.length<=I.length:=by
 have hw:=wrong_c hl hok (by omega)
 have hcl:=clone_c hl h0 (by omega)
 obtain⟨J,rfl⟩:=ex_c4 (I:=I) λc hc=>(hok c hc).2
 rw[qay]at hcl h0 hn
 have hid:(h++[HO.o (.cells [] 3 true),HO.o (.cells ((J.map clF).flatMap aG) 3 true)])[h.length+1]?=some (HO.o (.cells ((J.map clF).flatMap aG) 3 true)):=by
  rw[qan (by omega),show h.length+1 - h.length=1 by omega];rfl
 obtain⟨D,d1,d2,d3⟩:=sort_c (cx:=0) hid h0 (by omega)
 have hid2:(putE (h++[HO.o (.cells [] 3 true),HO.o (.cells ((J.map clF).flatMap aG) 3 true)]) (h.length+1) 3 aG (D.map clF))[h.length+1]?=some (HO.o (.cells ((D.map clF).flatMap aG) 3 true)):=dN (av hid)
 have hDl:(D.map clF).length=J.length:=by rw[qay,d1.length_eq]
 obtain⟨cx,L',k1,k2,k3⟩:=compact_c hid2 (by rw[hDl];omega)
 rw[hDl]at k1 k2 k3
 have hS:(D.map clF).Pairwise λx y=>¬ltL y x:=qcl.2 d2
 obtain⟨s1,s2⟩:=cmN_set hS J.length (by rw[hDl];exact qaf _)
 have hcl2:=cmN_len (L:=D.map clF) J.length
 have hfin:∀G,putE (putE (h++[HO.o (.cells [] 3 true),HO.o (.cells ((J.map clF).flatMap aG) 3 true)]) (h.length+1) 3 aG (D.map clF)) (h.length+1) 3 aG L'=h++G↔G=[HO.o (.cells [] 3 true),HO.o (.cells (L'.flatMap aG) 3 true)]:=λG=>by
  unfold putE
  rw[List.set_set,qb4 _ _ (by omega),show h.length+1 - h.length=1 by omega,List.append_right_inj]
  exact eq_comm
 have hfin2:=(hfin _).2 rfl
 generalize hkd:cmN (D.map clF) J.length=C at *
 have hgf:(h++[HO.o (.cells [] 3 true),HO.o (.cells (L'.flatMap aG) 3 true)])[h.length+1]?=some (HO.o (.cells (L'.flatMap aG) 3 true)):=by
  rw[qan (by omega),show h.length+1 - h.length=1 by omega];rfl
 obtain⟨rs,h',hc,rfl,rfl⟩:=x37 (K:=λrs h'=>rs=[.v (sl3 (h.length+1) C.length (C.length+1)),.i 0]/\h'=h++[HO.o (.cells [] 3 true),HO.o (.cells (L'.flatMap aG) 3 true)]) (H:=h) (glsV hl.good gls0) (by
  unfold f37;simp only[qxh]
  repeat (first|simp(disch:=omega)only[↓qXX]|refine ah hw ?_|refine ah hcl ?_|refine ah d3 ?_|refine ah k1 ?_)
  refine af (x:=Int.ofNat C.length) rfl ?_
  rw[p_gtr_f (show Int.ofNat C.length<=1024 by show(C.length:Int)<=1024;omega)]
  repeat (first|simp(disch:=omega)only[↓qXX]|refine ah (clip_c _) ?_)
  exact⟨by trivial,hfin2⟩)
 refine⟨_,_,C,hc,?_,⟨s1,λc=>?_⟩,by rw[qay];exact hcl2⟩
 ·exact⟨h.length+1,L',rfl,by omega,hgf,by omega,k3⟩
 ·rw[s2,qaS (by rw[hDl];exact qaf _)]
  exact(d1.map clF).mem_iff
end St
end Go.Am
namespace Go.Am
open Sx Go.Proofs Tw
namespace St
def im_ok{ws:TB}(hok:∀z∈ws,1<=z/\z<=4)(hn2:nmv ws<=59){c:Cl}(hc:c∈imW ws):okCl c:=by
 have hw:=fW ws 0 0 0 0 hok
 unfold imW at hc
 obtain⟨i,hi,rfl⟩:=qaU.1 hc
 have hi:=qaN.1 hi
 have hr:=(rib_of ws).rng (i / 4) (by omega)
 have hq:∀t q:Nat,qT t q<4:=λt q=>qT_lt
 unfold okCl imC
 have:=hq (if half (dAt (ribL ws 0 0 0 0) (i / 4)).1 (i%4)then ex (dAt (ribL ws 0 0 0 0) (i / 4)).1 (dAt (ribL ws 0 0 0 0) (i / 4)).2.2.1 else(dAt (ribL ws 0 0 0 0) (i / 4)).2.2.1) (i%4)
 refine⟨?_,this⟩
 unfold vCl
 rw[qdA]
 simp only at hr ⊢
 omega
def cover_c{H:HL}{x:Value}{ws:TB}(hl:LsH H x 1 encS ws)(hok:∀z∈ws,1<=z/\z<=4)(h3:Ok3 ws)(hn:ws.length<=250)(hn2:nmv ws<=59) :
  ∃h' v D,aw cc ab 24 [.v x] (absH aa H) [.v v,.i 0] (absH aa h')/\OwnP H.length h' v D/\SetOf (imW ws) D/\Low H.length H h'/\H.length<=h'.length:=by
 obtain⟨h1,v1,hcall,hl1,hlow1,hle1⟩:=imagesW_c hl hok h3 hn hn2
 obtain⟨rs,h',e1,v,D,rfl,e2⟩:=x24 (ls:=[.v x]) (H:=H) (K:=λrs h'=>∃v D,rs=[.v v,.i 0]/\OwnP H.length h' v D/\SetOf (imW ws) D/\Low H.length H h'/\H.length<=h'.length) (glsV hl.good gls0) (by
  unfold f24;simp only[qxh]
  refine p_x ?_
  refine ah hcall ?_
  refine p_x ?_
  refine bI (hl1.pre (h':=h1++[HO.o (.map [] 0)]) ⟨_,rfl⟩) ?_
  refine bG (σ:=Value×HL×List Cl) (imW ws).length (λj s=>[.v s.1,.i (Int.ofNat j)]) (λ_ s=>s.2.1) (λj s=>OwnL (h1.length+1) s.2.1 s.1 3 aG s.2.2/\Set3 s.2.1 h1.length s.2.2/\Low h1.length h1 s.2.1/\h1.length+1<=s.2.1.length/\(∀c,c∈s.2.2↔c∈(imW ws).take j)/\s.2.2.length<=j) (j0:=0) (s0:=(.slice none 0 0,h1++[HO.o (.map [] 0)],[])) rfl rfl (qaO _) ⟨OwnL.nil _ _ _ _,⟨[],0,aH,rfl,λe he=>(by cases he)⟩,(Low.refl _).app _,by simp,by simp,by simp⟩ ?_
  rintro j ⟨y,h,acc⟩ hj ⟨ho,hs,hlow,hle,hm,hlen⟩ self hself
  simp only at ho hs hlow hle hm hlen hself
  have hl2:=hl1.low hlow
  have him:(imW ws).length<=240:=by
   have:=fW ws 0 0 0 0 hok
   unfold imW
   rw[qay,qdj]
   omega
  refine p_x ?_
  by_cases hlt:j<(imW ws).length
  case pos=>
   rw[bf hlt]
   refine p_x ?_
   obtain⟨a,ha⟩:=aP hlt
   refine bQ hl2 rfl ha ?_
   unfold aG
   refine p_x ?_
   refine r_lu3 (kt:=30) eR dQ hs a ?_
   refine p_x ?_
   have htk:(imW ws).take (j+1)=(imW ws).take j++[a]:=by
    rw[qbC,ha];rfl
   by_cases hin:a∈acc
   ·have hd:∀i:Decidable (a∈acc),@decide _ i=true:=λi=>qdC hin
    rw[hd]
    simp(disch:=omega)only[↓qXX,qaI]
    rw[bg (by omega)]
    refine hself (y,h,acc) hlt ⟨ho,hs,hlow,hle,λc=>?_,by show acc.length<=j+1;omega⟩
    rw[hm,htk,qau,qam]
    exact⟨.inl,λh=>h.elim id λe=>by rw[e];exact(hm a).1 hin⟩
   ·have hd:∀i:Decidable (a∈acc),@decide _ i=false:=λi=>qdB hin
    rw[hd]
    simp(disch:=omega)only[↓qXX,qba]
    refine r_mu3 (kt:=30) eR dQ hs a λo' hs'=>?_
    rw[qdE hin]at hs'
    have ho2:OwnL (h1.length+1) (h.set h1.length o') y 3 aG acc:=ho.keep λi o hi hb=>bn hi λe=>by
     have:=(ho.blk hb).1
     omega
    have hlow2:Low h1.length h1 (h.set h1.length o'):=hlow.set (qaf _) o'
    refine p_x ?_
    refine ho2.ap1 (a:=a) bP (by rw[qbl];exact hle) rfl rfl rfl (by unfold bJ;rw[qaZ (by omega),qaZ (by omega)];rfl) λy' h' b1 b2 b3 b4 b5=>?_
    refine p_x ?_
    refine ak b2 ?_
    refine p_x ?_
    rw[bg (by omega)]
    rw[qbl]at b4
    refine hself (y',h',acc++[a]) hlt ⟨b1,?_,λi o hi hoo=>b3 i o (hlow2 i o hi hoo) λe=>?_,by show h1.length+1<=h'.length;omega,λc=>?_,by show(acc++[a]).length<=j+1;simp;omega⟩
    ·obtain⟨es,c,g1,g2⟩:=hs'
     exact⟨es,c,b3 _ _ g1 λe=>by have:=(ho2.blk e).1;omega,g2⟩
    ·have:=(ho2.blk e).1
     omega
    ·rw[htk,qau,qau,hm]
  obtain rfl:j=(imW ws).length:=by omega
  rw[bj (qaf _)]
  refine p_x ?_
  rw[qbJ]at hm
  have hpos:0<acc.length:=by
   have h0:0<(imW ws).length:=by
    have:=fW ws 0 0 0 0 hok
    unfold imW
    rw[qay,qdj]
    omega
   obtain⟨a,ha⟩:=aP h0
   exact List.length_pos_of_mem ((hm a).2 (qab ha))
  obtain⟨dx,G,D,g1,g2,g3,g4⟩:=sof_c (ho.ls bP) (λc hc=>im_ok hok hn2 ((hm c).1 hc)) hpos (by omega)
  refine ah g1 ?_
  refine p_x ?_
  have hlowH:Low H.length H h:=λi o hi hoo=>hlow i o (av (hlow1 i o hi hoo)) (hlow1 i o hi hoo)
  have hHh:H.length<=h.length:=by omega
  refine⟨_,_,rfl,g2.le hHh,⟨g3.1,λc=>(g3.2 c).trans (hm c)⟩,hlowH.app _,?_⟩
  rw[qaB]
  omega)
 exact⟨h',v,D,e1,e2⟩
end St
namespace St
end St
namespace St
def equal_c{h:HL}{x y:Value}{A B:TK}(hx:LsH h x 3 aG A)(hy:LsH h y 3 aG B)(hn:A.length<=100000) :
  aw cc ab 39 [.v x,.v y] (absH aa h) [.b (decide (A=B))] (absH aa h):=by
 refine xK x39 (glsV hx.good (glsV hy.good gls0)) ?_
 unfold f39;simp only[qxh]
 refine p_x ?_
 refine bI hx ?_
 refine bI hy ?_
 by_cases hlen:A.length=B.length
 case neg=>
  rw[p_neq_t (λe=>hlen (qbP e))]
  refine p_x ?_
  exact⟨by rw[qdB (λe=>hlen (by rw[e]))],by trivial⟩
 rw[p_neq_f (by rw[hlen])]
 refine p_x ?_
 refine bI hx ?_
 refine dg A.length (λj=>∀i,i<j->A[i]?=B[i]?) (j0:=0) rfl (qaO _) (λi hi=>by omega) ?_
 intro j hj he self hself
 refine p_x ?_
 by_cases hlt:j<A.length
 ·rw[bf hlt]
  refine p_x ?_
  obtain⟨a,ha⟩:=aP hlt
  obtain⟨b,hb⟩:=aP (l:=B) (i:=j) (by omega)
  refine bQ hx rfl ha ?_
  unfold aG
  refine p_x ?_
  refine bQ hy rfl hb ?_
  unfold aG
  refine p_x ?_
  rw[eqsC]
  by_cases hab:a=b
  ·subst hab
   rw[qdC rfl]
   simp(disch:=omega)only[↓qXX,qaI]
   rw[bg (by omega)]
   refine hself hlt λi hi=>?_
   by_cases hij:i=j
   ·subst hij
    rw[ha,hb]
   ·exact he i (by omega)
  ·rw[qdB hab]
   simp(disch:=omega)only[↓qXX,qba]
   refine⟨?_,by trivial⟩
   rw[qdB]
   intro e
   subst e
   rw[ha]at hb
   exact hab (qae hb)
 ·rw[bj (by omega)]
  refine p_x ?_
  refine⟨?_,by trivial⟩
  rw[qdC]
  apply qa0
  intro i
  by_cases hi:i<A.length
  ·exact he i (by omega)
  ·rw[qaj (by omega),qaj (by omega)]
def same_c{h:HL}{x y:Value}{A B:TK}(hx:LsH h x 3 aG A)(hy:LsH h y 3 aG B)(hn:A.length<=100000) :
  aw cc ab 26 [.v x,.v y] (absH aa h) [.b (decide (A=B))] (absH aa h):=by
 refine xK x26 (glsV hx.good (glsV hy.good gls0)) ?_
 unfold f26;simp only[qxh]
 repeat (first|simp(disch:=omega)only[↓qXX]|refine ah (equal_c hx hy hn) ?_)
 trivial
def OwnP.blk{n0:Nat}{h:HL}{v:Value}{D:TK}(ho:OwnP n0 h v D){j:Nat}(hb:Sx.blk v=some j):n0<=j:=by
 obtain⟨id,L,rfl,h1,_⟩:=ho
 cases hb
 exact h1
def r_setP{n0:Nat}{h:HL}{v:Value}{D:TK}{i o:Nat}{a a':Cl}{n:Int}{new:Tl}{K:Ta}(ho:OwnP n0 h v D)(hn:n=Int.ofNat i)(hi:D[i]?=some a)(hoo:o+new.length<=3)
  (hnew:aG a'=(aG a).take o++new++(aG a).drop (o+new.length)) (hk:∀h',OwnP n0 h' v (D.set i a')->(∀(j:Nat) o,h[j]?=some o->Sx.blk v≠some j->h'[j]?=some o)->h'.length=h.length->K [] h') :
  P1.opt (idS 3 v n) (@hid _ ⟨λx=>P1.opt (fdP o x) (@hid _ ⟨λy=>P1.chk y (@hid _ ⟨P1.heap (.st y new) h (@hid _ ⟨K⟩)⟩)⟩)⟩):=by
 obtain⟨id,L,rfl,h1,h2,h3,h4⟩:=ho
 subst hn
 have hlt:=av hi
 have hLi:L[i]?=some a:=by
  rw[←h4,qaT,qdD hlt]at hi
  exact hi
 have hx:idS 3 (sl3 id D.length (D.length+1)) (Int.ofNat i)=some (.pointer (some ⟨id,0+i*3,none⟩)):=by
  rw[pf]
  have hh:0<=Int.ofNat i/\Int.ofNat i<(D.length:Int):=⟨qat i,by show(i:Int)<D.length;omega⟩
  simp only[sl3,qdD hh]
  have:¬(tag 3=some 1):=by simp[tag]
  simp only[qdE this]
  rfl
 rw[qaL]at hx
 refine af hx ?_
 refine af (x:=.pointer (some ⟨id,i*3+o,none⟩)) rfl ?_
 refine ak (by simp[aS,noLoc,aZ,bz,bp,aR,aI]) ?_
 have hl:=aD (e:=3) (enc:=aG) (l:=L) λa _=>bP a
 have hLlt:=av hLi
 have hle:i*3+3<=L.length*3:=by omega
 have e1:=fM bP (l:=L) (i:=i) a hLlt
 rw[eK hLi]at e1
 have e2:=fM bP (l:=L) (i:=i) a' hLlt
 have hA:((L.flatMap aG).take (i*3)).length=i*3:=by rw[qaG];omega
 have hB:=bP a
 have key:(L.flatMap aG).take (i*3+o)++new++(L.flatMap aG).drop (i*3+o+new.length)=(L.set i a').flatMap aG:=by
  rw[←e2,hnew]
  have t1:(L.flatMap aG).take (i*3+o)=(L.flatMap aG).take (i*3)++(aG a).take o:=by
   conv=>lhs;rw[←e1,qaJ]
   rw[qcX,qaS (by omega),hA,show i*3+o - i*3=o by omega,qcX,show o - (aG a).length=0 by omega,qbb,qa6]
  have t2:(L.flatMap aG).drop (i*3+o+new.length)=(aG a).drop (o+new.length)++(L.flatMap aG).drop (i*3+3):=by
   conv=>lhs;rw[←e1,qaJ]
   rw[qcp,qbL (by omega),qa3,hA,show i*3+o+new.length - i*3=o+new.length by omega,qcp,show o+new.length - (aG a).length=0 by omega,qaV]
  rw[t1,t2]
  simp only[qaJ]
 have hrun:(Hp.st (.pointer (some ⟨id,i*3+o,none⟩)) new).run (getH aa h) h.length=some ([.set id (.cells ((L.set i a').flatMap aG) 3 true)],[]):=by
  show stP (.pointer (some ⟨id,i*3+o,none⟩)) new (getH aa h) h.length=_
  unfold stP
  simp only
  rw[bB h2]
  simp only
  unfold splice
  rw[hl,qdD (by omega),key]
  rfl
 refine bC hrun ?_
 refine hk (h.set id (.o (.cells ((L.set i a').flatMap aG) 3 true))) ⟨id,L.set i a',by rw[qbl],h1,qaH (av h2),by rw[qbl,qbl];exact h3,?_⟩ (λj o hj hb=>?_) (by rw[qbl])
 ·rw[qbl,List.take_set,h4]
 ·rw[qaA (λe=>hb (by subst e;rfl))]
  exact hj
def shC(p:Sq)(a:Cl):Cl:=(a.1+p.1,a.2.1+p.2,a.2.2)
def shN(p:Sq)(D:TK)(i:Nat):TK:=(D.take i).map (shC p)++D.drop i
def shN_len{p:Sq}{D:TK}{i:Nat}:(shN p D i).length=D.length:=by
 unfold shN
 rw[qaB,qay,qaG,qbO];omega
def shN_get{p:Sq}{D:TK}{i:Nat}{a:Cl}(h:D[i]?=some a):(shN p D i)[i]?=some a:=by
 have:=av h
 unfold shN
 rw[qan (by rw[qay,qaG];omega),qay,qaG,qa5 (by omega),qbu,qaX]
 exact h
def shN_set{p:Sq}{D:TK}{i:Nat}{a:Cl}(h:D[i]?=some a):(shN p D i).set i (shC p a)=shN p D (i+1):=by
 have hlt:=av h
 unfold shN
 rw[qb4 _ _ (by rw[qay,qaG];omega),qay,qaG,qa5 (by omega),qbu,qbC,h,qbB]
 have e:D.drop i=a :: D.drop (i+1):=by
  rw[qa9 hlt]
  rw[qai hlt]at h
  rw[qae h]
 rw[e]
 simp
def covers_c{H:HL}{x y:Value}{L:List Sq}{D:List K3}{ws:TB}{p:Sq}(hl:LsH H x 3 cc3 D)(hD:Go.Am.SetOf L D)(h0:0<L.length)(hn:L.length<=200)(hnd:L.Nodup)(hcon:Con L)(hb:∀c∈L,(-4096<=c.1/\c.1<=4096)/\-4096<=c.2/\c.2<=4096)(hp:p∈L)
  (hw:LsH H y 1 encS ws) (hok:∀z∈ws,1<=z/\z<=4) (h3:Ok3 ws) (hwn:ws.length<=250) (hw2:nmv ws<=59) :
  ∃h' b,aw cc ab 8 [.v x,.v y,.i p.1,.i p.2,.i 0] (absH aa H) [.b b,.i 0] (absH aa h')/\Low H.length H h'/\H.length<=h'.length:=by
 obtain⟨h1,hcall1,hlow1,hle1⟩:=Go.Am.check_c hl hD h0 hn hnd hcon hb
 obtain⟨h2,v,E,hcall2,ho2,hE,hlow2,hle2⟩:=cover_c (hw.low hlow1) hok h3 hwn hw2
 have hpb:=hb p hp
 have hlowH2:Low H.length H h2:=λi o hi hoo=>hlow2 i o (av (hlow1 i o hi hoo)) (hlow1 i o hi hoo)
 have hpm:sqC p∈D:=hD.mem.2 ⟨hp,by show 0<4;omega⟩
 have hDl:=hD.len
 have hhas:=vG (hl.low hlowH2) (by omega) (sqC p) (p:=p.1) (q:=p.2) (r:=0) ⟨rfl,rfl,rfl⟩
 rw[qdC hpm]at hhas
 have hrng:∀a∈E,(-4096<=a.1/\a.1<=4096)/\-4096<=a.2.1/\a.2.1<=4096:=λa ha=>by
  have:=(im_ok hok hw2 ((hE.2 a).1 ha)).1
  unfold vCl at this
  rw[qdA]at this
  omega
 have hEl:E.length<=100000:=by
  have hnd:E.Nodup:=hE.1.imp λh e=>by subst e;exact nq h
  have h1:=bu hnd λa ha=>(hE.2 a).1 ha
  have h2:=fW ws 0 0 0 0 hok
  unfold imW at h1
  rw[qay,qdj]at h1
  omega
 obtain⟨rs,h',e1,b,rfl,e2⟩:=x8 (ls:=[.v x,.v y,.i p.1,.i p.2,.i 0]) (H:=H) (K:=λrs h'=>∃b,rs=[.b b,.i 0]/\Low H.length H h'/\H.length<=h'.length) (glsV hl.good (glsV hw.good (glsI (glsI (glsI gls0))))) (by
  unfold f8;simp only[qxh]
  refine p_x ?_
  refine ah hcall1 ?_
  refine p_x ?_
  refine ah hcall2 ?_
  refine p_x ?_
  refine ah hhas ?_
  simp(disch:=omega)only[↓qXX,qaI]
  refine bI ho2.ls ?_
  refine bG (σ:=HL) E.length (λj _=>[.i (Int.ofNat j)]) (λ_ s=>s) (λj s=>OwnP H.length s v (shN p E j)/\Low H.length H s/\H.length<=s.length) (j0:=0) (s0:=h2) rfl rfl (qaO _) ⟨by unfold shN;simpa using ho2.le hle1,hlowH2,qbh hle1 hle2⟩ ?_
  rintro j h hj ⟨ho,hlow,hle⟩ self hself
  refine p_x ?_
  by_cases hlt:j<E.length
  case pos=>
   rw[bf hlt]
   refine p_x ?_
   obtain⟨a,ha⟩:=aP hlt
   have hab:=hrng a (qab ha)
   have hblk:∀ {h':HL},(∀(j:Nat) o,h[j]?=some o->Sx.blk v≠some j->h'[j]?=some o)->Low H.length H h':=λhk i o hi hoo=>hk i o (hlow i o hi hoo) λe=>by
    have:=ho.blk e
    omega
   refine lK (o:=0) (k:=1) (a:=a) (i:=j) ho.ls rfl (shN_get ha) rfl (by omega) ?_
   simp only[aG,qaV,qaW,qbb]
   simp(disch:=omega)only[↓qXX]
   try rw[p_add (by omega) (by omega)]
   refine r_setP (o:=0) (i:=j) (a:=a) (a':=(a.1+p.1,a.2.1,a.2.2)) ho rfl (shN_get ha) (by simp) rfl λh3 ho3 hk3 hl3=>?_
   try simp(disch:=omega)only[↓qXX]
   have ha3:((shN p E j).set j (a.1+p.1,a.2.1,a.2.2))[j]?=some (a.1+p.1,a.2.1,a.2.2):=qaH (by rw[shN_len];exact hlt)
   refine lK (o:=1) (k:=1) (a:=(a.1+p.1,a.2.1,a.2.2)) (i:=j) ho3.ls rfl ha3 rfl (by omega) ?_
   simp only[aG,qbr,qaV,qaW,qbb]
   simp(disch:=omega)only[↓qXX]
   try rw[p_add (by omega) (by omega)]
   refine r_setP (o:=1) (i:=j) (a:=(a.1+p.1,a.2.1,a.2.2)) (a':=shC p a) ho3 rfl ha3 (by simp) rfl λh4 ho4 hk4 hl4=>?_
   try simp(disch:=omega)only[↓qXX]
   rw[bg (by omega)]
   refine hself h4 hlt ⟨?_,λi o hi hoo=>hk4 i o (hblk hk3 i o hi hoo) λe=>?_,by omega⟩
   ·rw[List.set_set,shN_set ha]at ho4
    exact ho4
   ·have:=ho.blk e
    omega
  obtain rfl:j=E.length:=by omega
  rw[bj (qaf _)]
  refine p_x ?_
  have hfin:shN p E E.length=E.map (shC p):=by unfold shN;simp
  rw[hfin]at ho
  refine ah (same_c ho.ls (hl.keep λi o hi hbk=>hlow i o (hl.blkLt hbk) hi) (by rw[qay];exact hEl)) ?_
  refine p_x ?_
  exact⟨_,rfl,hlow,hle⟩)
 exact⟨h',b,e1,e2⟩
end St
namespace St
def okZ(z:Nat):Prop:=1<=z/\z<=4
instance (z : Nat) : Decidable (okZ z) := by unfold okZ; exact inferInstance
open Classical in
def chkR(ws:TB):Int:=if ∀z∈ws,okZ z then(if Ok3 ws then 0 else 6)else 1
def chkR_0{l:TB}:chkR l=0↔(∀a∈l,okZ a)/\Ok3 l:=by
 unfold chkR
 split
 next h=>
  split
  next k=>
   exact⟨λ_=>⟨h,k⟩,λ_=>rfl⟩
  next k=>
   exact⟨λe=>by omega,λe=>absurd e.2 k⟩
 next h=>
  exact⟨λe=>by omega,λe=>absurd e.1 h⟩
def chkR_1{l:TB}(h:¬ ∀a∈l,okZ a):chkR l=1:=by
 unfold chkR
 rw[qdE h]
def chkR_6{l:TB}(h:∀a∈l,okZ a)(k:¬Ok3 l):chkR l=6:=by
 unfold chkR
 rw[qdD h,qdE k]
def check1A_c{a:Nat}(ha:a<=255):Cc 35 [.i (Int.ofNat a)] [.b (!decide (okZ a))]:=by
 refine q35 rfl ?_;unfold f35;simp only[qxh]
 unfold okZ
 by_cases h1:1<=a
 ·have h1':(1:Int)<=Int.ofNat a:=by show(1:Int)<=((a:Nat):Int);omega
  by_cases h2:a<=4
  ·have h2':Int.ofNat a<=4:=by show((a:Nat):Int)<=4;omega
   repeat (first|simp(disch:=omega)only[↓qXX])
   simp[h1,h2]
  ·have h2':4<Int.ofNat a:=by show 4<((a:Nat):Int);omega
   repeat (first|simp(disch:=omega)only[↓qXX])
   simp[h1,h2]
 ·have h1':Int.ofNat a<1:=by show((a:Nat):Int)<1;omega
  repeat (first|simp(disch:=omega)only[↓qXX])
  simp[h1]
def anyPA_c{h:HL}{x:Value}{l:TB}(hl:LsH h x 1 encS l)(hq:∀a∈l,a<=255)(hn:l.length<=100000):∃b:Bool,aw cc ab 34 [.v x,.v cloP] (absH aa h) [.b b] (absH aa h)/\(b=false↔∀a∈l,okZ a):=by
 obtain⟨rs,h',h1,n,rfl,rfl,h2⟩:=x46 (ls:=[.v x,.v cloP]) (H:=h) (K:=λrs h'=>∃n:Int,rs=[.i n]/\h'=h/\((n = -1/\∀a∈l,okZ a)∨∃i:Nat,n=Int.ofNat i/\∃a∈l,¬okZ a)) (glsV hl.good (glsV rfl gls0)) (by
  unfold f46;simp only[qxh]
  refine p_x ?_
  refine bI hl ?_
  refine dg l.length (λj=>∀i a,i<j->l[i]?=some a->okZ a) (j0:=0) rfl (qaO _) (λi a hi=>by omega) ?_
  intro j hj he self hself
  refine p_x ?_
  by_cases hlt:j<l.length
  ·rw[bf hlt]
   refine p_x ?_
   obtain⟨c,hc⟩:=aP hlt
   refine bQ hl rfl hc ?_
   unfold encS
   repeat (first|simp(disch:=omega)only[↓qXX]|refine fl (jg (check1A_c (hq c (qab hc)) _) rfl [.leaf (.i .u8 (Int.ofNat c))] rfl rfl) ?_)
   by_cases hi:okZ c
   ·rw[qdC hi]
    simp(disch:=omega)only[↓qXX,qaI]
    rw[bg (by omega)]
    refine hself hlt λi a hij ha=>?_
    by_cases e:i=j
    ·subst e
     rw[hc]at ha
     cases ha
     exact hi
    ·exact he i a (by omega) ha
   ·rw[qdB hi]
    simp(disch:=omega)only[↓qXX,qba]
    exact⟨_,rfl,by trivial,.inr ⟨j,rfl,c,qab hc,hi⟩⟩
  ·rw[bj (by omega)]
   refine p_x ?_
   refine⟨_,rfl,by trivial,.inl ⟨rfl,λa ha=>?_⟩⟩
   obtain⟨i,hi⟩:=qaM ha
   exact he i a (by have:=av hi;omega) hi)
 rcases h2 with⟨rfl,h2⟩|⟨i,rfl,a,ha,hia⟩
 ·refine⟨false,xK x34 (glsV hl.good (glsV rfl gls0)) ?_,⟨λ_=>h2,λ_=>rfl⟩⟩
  unfold f34;simp only[qxh]
  repeat (first|simp(disch:=omega)only[↓qXX]|refine ah h1 ?_)
  trivial
 ·refine⟨true,xK x34 (glsV hl.good (glsV rfl gls0)) ?_,⟨λe=>(by cases e),λe=>absurd (e a ha) hia⟩⟩
  unfold f34;simp only[qxh]
  refine p_x ?_
  refine ah h1 ?_
  refine p_x ?_
  rw[p_geq_t (by show(0:Int)<=(i:Int);omega)]
  trivial
def tH{h:HL}{x:Value}{l:TB}(hl:LsH h x 1 encS l)(hq:∀a∈l,a<=255)(hn:l.length<=255):aw cc ab 17 [.v x] (absH aa h) [.i (chkR l)] (absH aa h):=by
 obtain⟨b,hb1,hb2⟩:=anyPA_c hl hq (by omega)
 by_cases hok:∀a∈l,okZ a
 case neg=>
  obtain rfl:b=true:=by
   cases b with
   |true=>rfl
   |false=>exact absurd (hb2.1 rfl) hok
  rw[chkR_1 hok]
  refine xK x17 (glsV hl.good gls0) ?_
  unfold f17;simp only[qxh]
  simp(disch:=omega)only[↓qXX]
  try refine ak rfl ?_
  refine ah hb1 ?_
  simp(disch:=omega)only[↓qXX]
  trivial
 obtain rfl:=hb2.2 hok
 by_cases h3:Ok3 l
 ·rw[chkR_0.2 ⟨hok,h3⟩]
  exact rC hl hok h3 hn
 rw[chkR_6 hok h3]
 exact xK x17 (glsV hl.good gls0) (by
  unfold f17;simp only[qxh]
  simp(disch:=omega)only[↓qXX]
  try refine ak rfl ?_
  refine ah hb1 ?_
  refine p_x ?_
  refine bI hl ?_
  refine bG (σ:=Nat) l.length (λj s=>[.i (Int.ofNat s),.i (Int.ofNat j)]) (λ_ _=>h) (λj s=>s<=1+j/\∀i a b,i+1<j->l[i]?=some a->l[i+1]?=some b->¬(3<=a/\3<=b)) (j0:=0) (s0:=1) rfl rfl (qaO _) ⟨qaf _,λi a b hi=>by omega⟩ ?_
  rintro j s hj ⟨hs,hno⟩ self hself
  refine p_x ?_
  by_cases hlt:j<l.length
  ·rw[bf hlt]
   refine p_x ?_
   obtain⟨a,ha⟩:=aP hlt
   have ha4:=hok a (qab ha)
   refine bQ hl rfl ha ?_
   unfold encS
   refine p_x ?_
   refine ac (eM ha4) ?_
   refine p_x ?_
   have hno':(0<j->∀b,l[j - 1]?=some b->¬(3<=b/\3<=a))->∀i a b,i+1<j+1->l[i]?=some a->l[i+1]?=some b->¬(3<=a/\3<=b):=λhk i a' b' hi h1 h2=>by
    by_cases e:i+1<j
    ·exact hno i a' b' e h1 h2
    ·obtain rfl:i=j - 1:=by omega
     rw[show j - 1+1=j by omega,ha]at h2
     cases h2
     exact hk (by omega) a' h1
   by_cases ht:3<=a
   ·rw[qdC ht]
    refine p_x ?_
    by_cases hj0:j=0
    ·have hnext:=hself s hlt ⟨by omega,hno' λh=>by omega⟩
     subst hj0
     rw[p_gtr_f (by show((0:Nat):Int)<=0;omega)]
     refine p_x ?_
     refine ac (eM ha4) ?_
     refine p_x ?_
     rw[qdC ht]
     simp(disch:=omega)only[↓qXX,qaI]
     rw[bg (by omega)]
     exact hnext
    ·rw[p_gtr_t (by show(0:Int)<(j:Int);omega)]
     refine p_x ?_
     rw[oB (by omega) (by omega)]
     obtain⟨b,hb⟩:=aP (l:=l) (i:=j - 1) (by omega)
     refine bQ hl rfl hb ?_
     unfold encS
     refine p_x ?_
     refine ac (eM (hok b (qab hb))) ?_
     refine p_x ?_
     by_cases hb3:3<=b
     ·rw[qdC hb3]
      simp(disch:=omega)only[↓qXX]
      trivial
     ·have hnext:=hself s hlt ⟨by omega,hno' λ_ b' hb'=>by
       rw[hb]at hb'
       cases hb'
       omega⟩
      rw[qdB hb3]
      refine p_x ?_
      refine ac (eM ha4) ?_
      refine p_x ?_
      rw[qdC ht]
      simp(disch:=omega)only[↓qXX,qaI]
      rw[bg (by omega)]
      exact hnext
   ·have hnext:=hself (s+1) hlt ⟨by omega,hno' λ_ b' _=>by omega⟩
    rw[qdB ht]
    refine p_x ?_
    refine ac (eM ha4) ?_
    refine p_x ?_
    rw[qdB ht]
    simp(disch:=omega)only[↓qXX,qba]
    rw[bg (by omega)]
    refine p_x ?_
    rw[bg (by omega)]
    exact hnext
  ·exfalso
   apply h3
   intro i a b h1 h2
   have:=av h2
   exact hno i a b (by omega) h1 h2)
def coverE_c{h:HL}{x:Value}{l:TB}(hl:LsH h x 1 encS l)(hq:∀a∈l,a<=255)(hn:l.length<=255)(he:chkR l≠0):aw cc ab 24 [.v x] (absH aa h) [.v (.slice none 0 0),.i (chkR l)] (absH aa h):=by
 have h0:=tH hl hq hn
 have h1:aw cc ab 9 [.v x] (absH aa h) [.i 0,.i (chkR l)] (absH aa h):=by
  refine xK x9 (glsV hl.good gls0) ?_
  unfold f9;simp only[qxh]
  refine p_x ?_
  refine ah h0 ?_
  simp(disch:=omega)only[↓qXX]
  try rw[p_neq_t he]
  try simp(disch:=omega)only[↓qXX]
  trivial
 have h2:aw cc ab 47 [.v x] (absH aa h) [.i 0,.i 0,.v (.slice none 0 0),.i (chkR l)] (absH aa h):=by
  refine xK x47 (glsV hl.good gls0) ?_
  unfold f47;simp only[qxh]
  refine p_x ?_
  refine ah h1 ?_
  simp(disch:=omega)only[↓qXX]
  try rw[p_neq_t he]
  try simp(disch:=omega)only[↓qXX]
  refine af (x:=()) (by kernel_rfl) ?_
  trivial
 have h3:aw cc ab 36 [.v x] (absH aa h) [.v (.slice none 0 0),.i (chkR l)] (absH aa h):=by
  refine xK x36 (glsV hl.good gls0) ?_
  unfold f36;simp only[qxh]
  refine p_x ?_
  refine ah h2 ?_
  simp(disch:=omega)only[↓qXX]
  try rw[p_neq_t he]
  try simp(disch:=omega)only[↓qXX]
  trivial
 refine xK x24 (glsV hl.good gls0) ?_
 unfold f24;simp only[qxh]
 refine p_x ?_
 refine ah h3 ?_
 simp(disch:=omega)only[↓qXX]
 try rw[p_neq_t he]
 try simp(disch:=omega)only[↓qXX]
 trivial
def coversE_c{H:HL}{x y:Value}{D:List K3}(hl:LsH H x 3 cc3 D)(hn:D.length<=800)(hq:∀a∈D,a.2.2<=255)(he:chkC D≠0)(hy:aS y=true){a b c:Int} :
  ∃h',aw cc ab 8 [.v x,.v y,.i a,.i b,.i c] (absH aa H) [.b false,.i (chkC D)] (absH aa h')/\Low H.length H h'/\H.length<=h'.length:=by
 obtain⟨h1,hcall,hlow,hle⟩:=jh hl hn hq
 refine⟨h1,xK x8 (glsV hl.good (glsV hy (glsI (glsI (glsI gls0))))) ?_,hlow,hle⟩
 unfold f8;simp only[qxh]
 refine p_x ?_
 refine ah hcall ?_
 simp(disch:=omega)only[↓qXX]
 try rw[p_neq_t he]
 try simp(disch:=omega)only[↓qXX]
 trivial
open Classical in
def covE(D:List K3)(ws:TB)(a:K3):Int:=if chkR ws≠0 then chkR ws else if a.2.2≠0∨a∉D then 1 else 0
def sz{H:HL}{x y:Value}{L:List Sq}{D:List K3}{ws:TB}{p:K3}(hl:LsH H x 3 cc3 D)(hD:Go.Am.SetOf L D)(h0:0<L.length)(hn:L.length<=200)(hnd:L.Nodup)(hcon:Con L)(hb:∀c∈L,(-4096<=c.1/\c.1<=4096)/\-4096<=c.2/\c.2<=4096)
  (hw:LsH H y 1 encS ws) (hq:∀z∈ws,z<=255) (hwn:ws.length<=50) :
  ∃h' b,aw cc ab 8 [.v x,.v y,.i p.1,.i p.2.1,.i (Int.ofNat p.2.2)] (absH aa H) [.b b,.i (covE D ws p)] (absH aa h')/\Low H.length H h'/\H.length<=h'.length:=by
 obtain⟨h1,hcall1,hlow1,hle1⟩:=Go.Am.check_c hl hD h0 hn hnd hcon hb
 have hDl:=hD.len
 have hw1:=hw.low hlow1
 by_cases he:chkR ws=0
 case neg=>
  refine⟨h1,false,xK x8 (glsV hl.good (glsV hw.good (glsI (glsI (glsI gls0))))) ?_,hlow1,hle1⟩
  unfold f8;simp only[qxh]
  refine p_x ?_
  refine ah hcall1 ?_
  refine p_x ?_
  refine ah (coverE_c hw1 hq (by omega) he) ?_
  simp(disch:=omega)only[↓qXX]
  try rw[p_neq_t he]
  try simp(disch:=omega)only[↓qXX]
  exact⟨by unfold covE;rw[qdD he],by trivial⟩
 obtain⟨hok,h3⟩:=chkR_0.1 he
 have hnm:nmv ws<=ws.length:=qce _ _
 by_cases hp:p.2.2=0/\p∈D
 ·obtain⟨hp1,hp2⟩:=hp
  have hpL:=(hD.mem.1 hp2).1
  obtain⟨h',b,z1,z3,z4⟩:=covers_c hl hD h0 hn hnd hcon hb hpL hw hok h3 (by omega) (by omega)
  refine⟨h',b,?_,z3,z4⟩
  unfold covE
  rw[qdE (by simp[he]),qdE (by simp[hp1,hp2]),hp1]
  exact z1
 have hcv:covE D ws p=1:=by
  unfold covE
  rw[qdE (by simp[he]),qdD]
  by_cases e:p.2.2=0
  ·exact .inr λh=>hp ⟨e,h⟩
  ·exact .inl e
 rw[hcv]
 obtain⟨h2,v,E,hcall2,ho2,hE,hlow2,hle2⟩:=cover_c hw1 hok h3 (by omega) (by omega)
 have hlowH2:Low H.length H h2:=λi o hi hoo=>hlow2 i o (av (hlow1 i o hi hoo)) (hlow1 i o hi hoo)
 refine⟨h2,false,xK x8 (glsV hl.good (glsV hw.good (glsI (glsI (glsI gls0))))) ?_,hlowH2,qbh hle1 hle2⟩
 unfold f8;simp only[qxh]
 refine p_x ?_
 refine ah hcall1 ?_
 refine p_x ?_
 refine ah hcall2 ?_
 refine p_x ?_
 by_cases e:p.2.2=0
 ·rw[p_neq_f (by rw[e];rfl)]
  refine p_x ?_
  have hhas:=vG (hl.keep λi o hi hbk=>hlowH2 i o (hl.blkLt hbk) hi) (by omega) p (p:=p.1) (q:=p.2.1) (r:=Int.ofNat p.2.2) ⟨rfl,rfl,rfl⟩
  rw[qdB λh=>hp ⟨e,h⟩]at hhas
  refine ah hhas ?_
  simp(disch:=omega)only[↓qXX,qba]
  trivial
 ·rw[p_neq_t (show Int.ofNat p.2.2≠0 from λh=>e (qbP h))]
  simp(disch:=omega)only[↓qXX]
  trivial
end St
def nU{a b:Nat}(h:a≠b):sA [a] [b]=true:=by
 have:Nat.beq a b=false:=by
  cases e:Nat.beq a b with
  |true=>exact absurd (qac e) h
  |false=>rfl
 simp[sA,memN,this]
def lit_at{h:HL}{l:List Int}{j n cx:Nat}{a:Int}(ha:l[j]?=some a)(hn:n=l.length):idS 1 (.slice (some ⟨h.length,0,some 11⟩) n cx) (Int.ofNat j)=some (.pointer (some ⟨h.length,0+j*1,none⟩))/\Ptr (h++[HO.o (.cells (l.map (Value.int .i64)) 1 true)]) (.pointer (some ⟨h.length,0+j*1,none⟩)) [.int .i64 a]:=by
 subst hn
 have hj:=av ha
 refine⟨?_,h.length,0+j*1,_,1,true,rfl,aH,?_⟩
 ·rw[pf]
  have hh:0<=Int.ofNat j/\Int.ofNat j<(l.length:Int):=⟨qat j,by show(j:Int)<l.length;omega⟩
  simp only[qdD hh]
  rfl
 ·rw[Sx.cut_some]
  have hj':j<(l.map (Value.int .i64)).length:=by rw[qay];exact hj
  refine⟨by simp;omega,?_⟩
  rw[show 0+j*1=j by omega,qa9 hj']
  have e:(l.map (Value.int .i64))[j] = .int .i64 a:=by
   rw[List.getElem_map]
   rw[qai hj]at ha
   rw[qae ha]
  rw[e]
  rfl
def bes_lit(c:Sq){j:Nat}(hj:j<4):∃a b:Int,([1,0,-1,0]:List Int)[j]?=some a/\([0,1,0,-1]:List Int)[j]?=some b/\(bes c j).1=c.1+a/\(bes c j).2=c.2+b/\(-1<=a/\a<=1)/\-1<=b/\b<=1:=by
 have:j=0∨j=1∨j=2∨j=3:=by omega
 rcases this with rfl|rfl|rfl|rfl
 ·exact⟨1,0,rfl,rfl,rfl,by simp[bes],by omega,by omega⟩
 ·exact⟨0,1,rfl,rfl,by simp[bes],rfl,by omega,by omega⟩
 ·exact⟨-1,0,rfl,rfl,by simp[bes];omega,by simp[bes],by omega,by omega⟩
 ·exact⟨0,-1,rfl,rfl,by simp[bes],by simp[bes];omega,by omega,by omega⟩
namespace St
def fY{p:Value×Nat×Value}{l:List (Value×Nat×Value)}(h:sA (adr p.1) (adrK p.2.1 p.2.2)=true)(k:Sx.sepL l=some ()):Sx.sepL (p :: l)=some ():=by
 show(match sA (adr p.1) (adrK p.2.1 p.2.2)with|true=>Sx.sepL l|false=>none)=_
 rw[h]
 exact k
def own_fld{h:HL}{id cx i o:Nat}{R:List K3}{a:K3}(h2:h[id]?=some (.o (.cells (R.flatMap cc3) 3 true)))(ha:R[i]?=some a)(ho:o<3) :
  idS 3 (.slice (some ⟨id,0,tag 3⟩) R.length cx) (Int.ofNat i)=some (.pointer (some ⟨id,0+i*3,none⟩))/\fdP o (.pointer (some ⟨id,0+i*3,none⟩))=some (.pointer (some ⟨id,0+i*3+o,none⟩))/\Ptr h (.pointer (some ⟨id,0+i*3+o,none⟩)) (((cc3 a).drop o).take 1):=by
 have hlt:=av ha
 have e1:idS 3 (.slice (some ⟨id,0,tag 3⟩) R.length cx) (Int.ofNat i)=some (.pointer (some ⟨id,0+i*3,none⟩)):=by
  rw[pf]
  have hh:0<=Int.ofNat i/\Int.ofNat i<(R.length:Int):=⟨qat i,by show(i:Int)<R.length;omega⟩
  simp only[qdD hh]
  have:¬(tag 3=some 1):=by simp[tag]
  simp only[qdE this]
  rfl
 have hls:LsH h (.slice (some ⟨id,0,tag 3⟩) R.length cx) 3 cc3 R:=by
  have hl:=aD (e:=3) (enc:=cc3) (l:=R) λa _=>cB a
  exact⟨λa _=>cB a,hl,.inr ⟨id,0,cx,_,true,rfl,h2,Sx.cut_all hl⟩⟩
 obtain⟨p,hp1,hp2⟩:=hls.at ha
 rw[e1]at hp1
 cases hp1
 obtain⟨p',z1,z2⟩:=hp2.fd o 1 (by rw[cB];omega)
 have e2:fdP o (.pointer (some ⟨id,0+i*3,none⟩))=some (.pointer (some ⟨id,0+i*3+o,none⟩)):=rfl
 rw[e2]at z1
 cases z1
 exact⟨e1,e2,z2⟩
structure Rd(D:List K3)(c0:Sq)(R:List Sq):Prop where
 nd:R.Nodup
 h0:R[0]?=some c0
 rc:∀c∈R,SqM D c/\Rch (SqM D) c0 c
 con:Con R
def Rd.push{D:List K3}{c0 d:Sq}{R:List Sq}{k:Nat}(h:Rd D c0 R)(hd:d∈R)(hk:k<4)(hn:bes d k∉R)(hm:SqM D (bes d k)):Rd D c0 (R++[bes d k]):=by
 refine⟨?_,?_,λc hc=>?_,?_⟩
 ·rw[qb2]
  refine⟨h.nd,by simp,λa ha b hb=>?_⟩
  rw[qam]at hb
  subst hb
  exact λe=>hn (e▸ha)
 ·rw[qah (av h.h0)]
  exact h.h0
 ·rcases qau.1 hc with hc|hc
  ·exact h.rc c hc
  ·rw[qam]at hc
   subst hc
   exact⟨hm,.step (h.rc d hd).2 hk hm⟩
 ·intro i c hi h0
  by_cases hlt:i<R.length
  ·rw[qah hlt]at hi
   obtain⟨j,d',k',a1,a2,a3,a4⟩:=h.con i c hi h0
   exact⟨j,d',k',a1,by rw[qah (av a2)];exact a2,a3,a4⟩
  ·have hi':=av hi
   simp only[qaB,qaD,qbA]at hi'
   obtain rfl:i=R.length:=by omega
   rw[qan (qaf _),qbu]at hi
   simp only[qaR,qaq]at hi
   obtain⟨j,hj⟩:=qaM hd
   exact⟨j,d,k,av hj,by rw[qah (av hj)];exact hj,hk,hi⟩
def Rd.len{D:List K3}{c0:Sq}{R:List Sq}(h:Rd D c0 R):R.length<=D.length:=by
 have:∀c∈R,c∈D.map λd=>(d.1,d.2.1):=λc hc=>by
  obtain⟨d,hd,rfl⟩:=(h.rc c hc).1
  exact qaU.2 ⟨d,hd,rfl⟩
 have:=bu h.nd this
 rw[qay]at this
 exact this
def uk{H:HL}{x:Value}{D:List K3}(hl:LsH H x 3 cc3 D)(hn:D.length<=200)(hS:chkS D=0) :
  ∃h',aw cc ab 14 [.v x] (absH aa H) [.i (chkC D)] (absH aa h')/\(chkC D=0->∃R:List Sq,Go.Am.SetOf R D/\R.Nodup/\Con R)/\Low H.length H h'/\H.length<=h'.length:=by
 obtain⟨hin,hasc⟩:=oN.1 hS
 obtain⟨rs,h',e1,rfl,e2⟩:=x14 (ls:=[.v x]) (H:=H) (K:=λrs h'=>rs=[.i (chkC D)]/\(chkC D=0->∃R:List Sq,Go.Am.SetOf R D/\R.Nodup/\Con R)/\Low H.length H h'/\H.length<=h'.length) (glsV hl.good gls0) (by
  unfold f14;simp only[qxh]
  refine p_x ?_
  refine bI hl ?_
  by_cases h0:D=[]
  ·have e7:=chkC_7 hS h0
   rw[p_eql_t (by rw[h0];rfl)]
   refine p_x ?_
   exact⟨by rw[e7],λe=>by omega,Low.refl _,qaf _⟩
  have hpos:0<D.length:=qcE.2 h0
  rw[p_eql_f (by show((D.length:Nat):Int)≠0;omega)]
  refine p_x ?_
  refine dg D.length (λi=>∀i' d,i'<i->D[i']?=some d->∀q,q<4->(d.1,d.2.1,q)∈D) (j0:=0) rfl (qaO _) (λi d hi=>by omega) ?_
  intro i hi hfu self hself
  refine p_x ?_
  refine bI hl ?_
  by_cases hlt:i<D.length
  case pos=>
   rw[bf hlt]
   refine p_x ?_
   obtain⟨d,hd⟩:=aP hlt
   refine dg 4 (λq=>∀q',q'<q->(d.1,d.2.1,q')∈D) (j0:=0) rfl (qaO _) (λi hi=>by omega) ?_
   intro q hq hfq self2 hself2
   refine p_x ?_
   by_cases hq4:q<4
   case neg=>
    obtain rfl:q=4:=by omega
    rw[p_lss_f (by show(4:Int)<=((4:Nat):Int);omega)]
    refine p_x ?_
    rw[bg (by omega)]
    refine hself hlt λi' d' hi' hd'=>?_
    by_cases e:i'=i
    ·subst e
     rw[hd]at hd'
     cases hd'
     exact hfq
    ·exact hfu i' d' (by omega) hd'
   rw[p_lss_t (by show(q:Int)<4;omega)]
   refine p_x ?_
   refine lK (o:=0) (k:=1) (a:=d) (i:=i) hl rfl hd rfl (by omega) ?_
   simp only[cc3,qaV,qaW,qbb]
   refine p_x ?_
   refine lK (o:=1) (k:=1) (a:=d) (i:=i) hl rfl hd rfl (by omega) ?_
   simp only[cc3,qbr,qaV,qaW,qbb]
   refine p_x ?_
   refine ah (Go.Am.has_c hl (by omega) (d.1,d.2.1,q) ⟨rfl,rfl,rfl⟩) ?_
   refine p_x ?_
   by_cases hm:(d.1,d.2.1,q)∈D
   ·rw[qdC hm]
    simp(disch:=omega)only[↓qXX,qaI]
    try rw[p_add8 (by show(0:Int)<=(q:Int)+1;omega) (by show(q:Int)+1<=255;omega)]
    refine hself2 hq4 λq' hq'=>?_
    by_cases e:q'=q
    ·subst e
     exact hm
    ·exact hfq q' (by omega)
   ·rw[qdB hm]
    simp(disch:=omega)only[↓qXX,qba]
    have e1:=chkC_1 hS h0 λhf=>hm (hf d (qab hd) q hq4)
    exact⟨by rw[e1],λe=>by omega,Low.refl _,qaf _⟩
  obtain rfl:i=D.length:=by omega
  rw[bj (qaf _)]
  refine p_x ?_
  have hfull:Full D:=λd hd q hq=>by
   obtain⟨i,hi⟩:=qaM hd
   exact hfu i d (av hi) hi q hq
  clear hfu hself
  obtain⟨a0,ha0⟩:=aP (l:=D) (i:=0) hpos
  have ham:=qab ha0
  refine lK (o:=0) (k:=1) (a:=a0) (i:=0) hl rfl ha0 rfl (by omega) ?_
  simp only[cc3,qaV,qaW,qbb]
  refine p_x ?_
  refine lK (o:=1) (k:=1) (a:=a0) (i:=0) hl rfl ha0 rfl (by omega) ?_
  simp only[cc3,qbr,qaV,qaW,qbb]
  refine p_x ?_
  have hMb:∀c,SqM D c->(-4096<=c.1/\c.1<=4096)/\-4096<=c.2/\c.2<=4096:=λc ⟨d,hd,e⟩=>by
   subst e
   have:=hin d hd
   exact⟨this.1,this.2.1⟩
  have hM:∀c,SqM D c↔sqC c∈D:=λc=>⟨λ⟨d,hd,e⟩=>by
   subst e
   exact hfull d hd 0 (by omega),λh=>⟨_,h,rfl⟩⟩
  refine bG (σ:=Value×HL×List Sq) D.length (λi s=>[.v s.1,.i (Int.ofNat i)]) (λ_ s=>s.2.1) (λi s=>OwnL H.length s.2.1 s.1 3 cc3 (s.2.2.map sqC)/\Rd D (a0.1,a0.2.1) s.2.2/\i<=s.2.2.length/\(∀i' c,i'<i->s.2.2[i']?=some c->∀k,k<4->SqM D (bes c k)->bes c k∈s.2.2)/\Low H.length H s.2.1/\H.length<=s.2.1.length) (j0:=0)
   (s0:=(.slice (some ⟨H.length,0,some 13⟩) 1 2,H++[.o (.cells [.int .i64 a0.1,.int .i64 a0.2.1,.int .u8 0] 3 true)],[(a0.1,a0.2.1)])) rfl rfl (qaO _) ⟨.inr ⟨H.length,2,rfl,qaf _,aH,.inr rfl⟩,⟨by simp,rfl,λc hc=>by
    rw[qam]at hc
    subst hc
    exact⟨⟨a0,ham,rfl⟩,.base⟩,λi c hi h0=>by
    have:=av hi
    simp only[qaD,qbA]at this
    omega⟩,qaO _,λi' c hi=>by omega,(Low.refl H).app _,by simp⟩ ?_
  rintro i ⟨v,h,R⟩ hi ⟨ho,hR,hiR,hdone,hlow,hle⟩ self hself
  simp only at ho hR hiR hdone hlow hle hself
  have hRD:=hR.len
  refine p_x ?_
  refine bI (ho.ls cB) ?_
  rw[qay]
  by_cases hlt:i<R.length
  case neg=>
   obtain rfl:i=R.length:=by omega
   rw[bj (qaf _)]
   refine p_x ?_
   refine bI (ho.ls cB) ?_
   rw[qay,p_mul (by show(-9223372036854775808:Int)<=4*(R.length:Int);omega) (by show 4*(R.length:Int)<=9223372036854775807;omega)]
   refine bI hl ?_
   have hall:∀c,Rch (SqM D) (a0.1,a0.2.1) c->c∈R:=λc hc=>by
    induction hc with
    |base=>exact qab hR.h0
    |step hd hk hM ih=>
     obtain⟨j,hj⟩:=qaM ih
     exact hdone j _ (av hj) hj _ hk hM
   have hone:4*R.length=D.length↔One D:=by
    have hq:∀a∈R.flatMap quad,a∈D:=λa ha=>by
     obtain⟨h1,h2⟩:=cX.1 ha
     obtain⟨d,hd,e⟩:=(hR.rc _ h1).1
     have e1:a.1=d.1:=(qcQ e).1
     have e2:a.2.1=d.2.1:=(qcQ e).2
     have:=hfull d hd a.2.2 h2
     rw[←e1,←e2]at this
     exact this
    constructor
    ·intro he b0 hb0 c hc
     rw[ha0]at hb0
     cases hb0
     refine(hR.rc c ?_).2
     refine Decidable.byContradiction λhn=>?_
     have:=bu (a:=sqC c :: R.flatMap quad) (b:=D) (qbX.2 ⟨λh=>hn (cX.1 h).1,ik hR.nd⟩) λa h=>by
      rcases qal.1 h with rfl|h
      ·exact(hM c).1 hc
      ·exact hq a h
     rw[qaD,eI]at this
     omega
    ·intro ho
     have h1:=bu (ik hR.nd) hq
     have h2:=bu (asc_nd hasc) λa ha=>cX.2 ⟨hall _ (ho a0 ha0 (a.1,a.2.1) ⟨a,ha,rfl⟩),(hin a ha).2.2⟩
     rw[eI]at h1 h2
     omega
   by_cases hO:One D
   ·have e0:=chkC_0 hS h0 hfull hO
    rw[p_neq_f (by
     have:=hone.2 hO
     show 4*(R.length:Int)=(D.length:Int)
     omega)]
    refine p_x ?_
    refine⟨by rw[e0],λ_=>⟨R,⟨(List.perm_ext_iff_of_nodup (asc_nd hasc) (ik hR.nd)).2 λa=>?_,hasc⟩,hR.nd,hR.con⟩,hlow,hle⟩
    rw[cX]
    constructor
    ·intro ha
     exact⟨hall _ (hO a0 ha0 _ ⟨a,ha,rfl⟩),(hin a ha).2.2⟩
    ·rintro⟨h1,h2⟩
     obtain⟨d,hd,e⟩:=(hR.rc _ h1).1
     have e1:a.1=d.1:=(qcQ e).1
     have e2:a.2.1=d.2.1:=(qcQ e).2
     have:=hfull d hd a.2.2 h2
     rw[←e1,←e2]at this
     exact this
   ·have e0:=chkC_14 hS h0 hfull hO
    rw[p_neq_t (λe=>hO (hone.1 (by
     have e':4*(R.length:Int)=(D.length:Int):=e
     omega)))]
    refine p_x ?_
    exact⟨by rw[e0],λe=>by omega,hlow,hle⟩
  rw[bf hlt]
  refine p_x ?_
  obtain⟨c,hc⟩:=aP hlt
  have hcR:=qab hc
  have hcb:=hMb c (hR.rc c hcR).1
  refine bG (σ:=Value×HL×List Sq) 4 (λk s=>[.v s.1,.i (Int.ofNat k)]) (λ_ s=>s.2.1) (λk s=>OwnL H.length s.2.1 s.1 3 cc3 (s.2.2.map sqC)/\Rd D (a0.1,a0.2.1) s.2.2/\(∃G,s.2.2=R++G)/\(∀k',k'<k->SqM D (bes c k')->bes c k'∈s.2.2)/\Low H.length H s.2.1/\H.length<=s.2.1.length) (j0:=0) (s0:=(v,h,R)) rfl rfl (qaO _) ⟨ho,hR,⟨[],by simp⟩,λk hk=>by omega,hlow,hle⟩ ?_
  clear ho hlow hle
  rintro k ⟨v,h,R'⟩ hk ⟨ho,hR',⟨G,hG⟩,hkd,hlow,hle⟩ self2 hself2
  simp only at ho hR' hG hkd hlow hle hself2
  have hRD':=hR'.len
  refine p_x ?_
  by_cases hk4:k<4
  case neg=>
   obtain rfl:k=4:=by omega
   rw[p_lss_f (by show(4:Int)<=((4:Nat):Int);omega)]
   refine p_x ?_
   rw[bg (by omega)]
   refine hself (v,h,R') (by omega) ⟨ho,hR',by show i+1<=R'.length;rw[hG,qaB];omega,λi' c' hi' hc' k hk hb=>?_,hlow,hle⟩
   have hlt':i'<R.length:=by omega
   simp only[hG]at hc'
   rw[qah hlt']at hc'
   by_cases e:i'=i
   ·subst e
    rw[hc]at hc'
    cases hc'
    exact hkd k hk hb
   ·show bes c' k∈R'
    rw[hG]
    exact qaF _ (hdone i' c' (by omega) hc' k hk hb)
  rw[p_lss_t (by show(k:Int)<4;omega)]
  refine p_x ?_
  have hc':R'[i]?=some c:=by
   rw[hG,qah hlt]
   exact hc
  have hcc:(R'.map sqC)[i]?=some (sqC c):=by rw[qaz,hc'];rfl
  have ho':=ho
  rcases ho with⟨_,hnil⟩|⟨id,cx,rfl,hid,hg,hcx⟩
  ·have:=av hcc
   rw[hnil]at this
   simp at this
  have hidl:=av hg
  obtain⟨da,db,d1,d2,d3,d4,d5,d6⟩:=bes_lit c hk4
  obtain⟨f1,f2,f3⟩:=own_fld (cx:=cx) (o:=0) hg hcc (by omega)
  refine af f1 ?_
  refine af f2 ?_
  refine ak f3.good ?_
  refine cL f3 rfl ?_
  simp only[sqC,cc3,qaV,qaW,qbb]
  refine p_x ?_
  obtain⟨i1,i2⟩:=lit_at (h:=h) (cx:=5) (n:=4) d1 rfl
  refine af i1 ?_
  refine cL i2 rfl ?_
  simp(disch:=omega)only[↓qXX]
  try rw[p_add (by omega) (by omega)]
  try simp(disch:=omega)only[↓qXX]
  obtain⟨g1,g2,g3⟩:=own_fld (h:=h++[HO.o (.cells [.int .i64 1,.int .i64 0,.int .i64 (-1),.int .i64 0] 1 true)]) (cx:=cx) (o:=1) (bo hg) hcc (by omega)
  refine af g1 ?_
  refine af g2 ?_
  refine ak g3.good ?_
  refine cL g3 rfl ?_
  simp only[sqC,cc3,qbr,qaV,qaW,qbb]
  refine p_x ?_
  obtain⟨i3,i4⟩:=lit_at (h:=h++[HO.o (.cells [.int .i64 1,.int .i64 0,.int .i64 (-1),.int .i64 0] 1 true)]) (cx:=5) (n:=4) d2 rfl
  refine af i3 ?_
  refine cL i4 rfl ?_
  simp(disch:=omega)only[↓qXX]
  try rw[p_add (by omega) (by omega)]
  try simp(disch:=omega)only[↓qXX]
  rw[←d3,←d4]
  have hlen8:(h++[HO.o (.cells [.int .i64 1,.int .i64 0,.int .i64 (-1),.int .i64 0] 1 true)]).length=h.length+1:=by simp
  have n1:h.length≠id:=by omega
  have n2:h.length+1≠id:=by omega
  have n3:h.length≠h.length+1:=by omega
  have n4:h.length+1≠h.length:=by omega
  rw[hlen8]
  refine af (x:=()) (fY (nU n1) (fY (nU n1) (fY (nU n2) (fY (nU n3) (fY (nU n4) (fY (nU n2) (fY (nU n3) rfl))))))) ?_
  have hls9:OwnL H.length (h++[HO.o (.cells [.int .i64 1,.int .i64 0,.int .i64 (-1),.int .i64 0] 1 true)]++[HO.o (.cells [.int .i64 0,.int .i64 1,.int .i64 0,.int .i64 (-1)] 1 true)]) (.slice (some ⟨id,0,tag 3⟩) (R'.map sqC).length cx) 3 cc3 (R'.map sqC):=(ho'.app _).app _
  have hlow9:Low H.length H (h++[HO.o (.cells [.int .i64 1,.int .i64 0,.int .i64 (-1),.int .i64 0] 1 true)]++[HO.o (.cells [.int .i64 0,.int .i64 1,.int .i64 0,.int .i64 (-1)] 1 true)]):=(hlow.app _).app _
  have hle9:H.length<=(h++[HO.o (.cells [.int .i64 1,.int .i64 0,.int .i64 (-1),.int .i64 0] 1 true)]++[HO.o (.cells [.int .i64 0,.int .i64 1,.int .i64 0,.int .i64 (-1)] 1 true)]).length:=by simp;omega
  clear i1 i2 i3 i4 f1 f2 f3 g1 g2 g3 hlen8 ho'
  try change P1.call _ _ _ _
  generalize h++[HO.o (.cells [.int .i64 1,.int .i64 0,.int .i64 (-1),.int .i64 0] 1 true)]++[HO.o (.cells [.int .i64 0,.int .i64 1,.int .i64 0,.int .i64 (-1)] 1 true)]=h9 at *
  generalize (Value.slice (some ⟨id,0,tag 3⟩) (R'.map sqC).length cx)=v9 at *
  have hl9:LsH h9 x 3 cc3 D:=hl.keep λj o hj hb=>hlow9 j o (hl.blkLt hb) hj
  refine ah (Go.Am.has_c hl9 (by omega) (sqC (bes c k)) ⟨rfl,rfl,rfl⟩) ?_
  refine p_x ?_
  by_cases hm:SqM D (bes c k)
  case neg=>
   rw[qdB (λe=>hm ((hM _).2 e))]
   refine p_x ?_
   rw[bg (by omega)]
   refine hself2 (v9,h9,R') hk4 ⟨hls9,hR',⟨G,hG⟩,λk' hk' hb=>?_,hlow9,hle9⟩
   by_cases e:k'=k
   ·subst e
    exact absurd hb hm
   ·exact hkd k' (by omega) hb
  rw[qdC ((hM _).1 hm)]
  refine p_x ?_
  refine ah (Go.Am.has_c (hls9.ls cB) (by rw[qay];omega) (sqC (bes c k)) ⟨rfl,rfl,rfl⟩) ?_
  refine p_x ?_
  by_cases hr:bes c k∈R'
  ·rw[qdC (iY.2 hr)]
   simp(disch:=omega)only[↓qXX,qaI]
   rw[bg (by omega)]
   refine hself2 (v9,h9,R') hk4 ⟨hls9,hR',⟨G,hG⟩,λk' hk' hb=>?_,hlow9,hle9⟩
   by_cases e:k'=k
   ·subst e
    exact hr
   ·exact hkd k' (by omega) hb
  ·rw[qdB (λe=>hr (iY.1 e))]
   simp(disch:=omega)only[↓qXX,qba]
   refine hls9.ap1 (a:=sqC (bes c k)) cB hle9 rfl rfl rfl (size3 (by rw[qay];omega)) λv' h' b1 b2 b3 b4 b5=>?_
   refine p_x ?_
   refine ak b2 ?_
   refine p_x ?_
   rw[bg (by omega)]
   refine hself2 (v',h',R'++[bes c k]) hk4 ⟨by rw[qbB];exact b1,hR'.push (qab hc') hk4 hr hm,⟨G++[bes c k],by simp only;rw[hG,qaJ]⟩,λk' hk' hb=>?_,λi o hi hoo=>b3 i o (hlow9 i o hi hoo) λe=>?_,by show H.length<=h'.length;omega⟩
   ·by_cases e:k'=k
    ·subst e
     exact qaK _ (by simp)
    ·exact qaF _ (hkd k' (by omega) hb)
   ·have:=(hls9.blk e).1
    omega)
 exact⟨h',e1,e2⟩
end St
end Go.Am
namespace Go.Am
open Sx Tw
structure InL(L:List Sq)(al:List K3):Prop where
 nd:al.Nodup
 sub:∀a∈al,(a.1,a.2.1)∈L/\a.2.2<4
end Go.Am
namespace Go.Am
open Sx Go.Proofs Tw
abbrev PlS:={ p:(Sq×Nat)×List Bool // p.2.length=12 }
def mkP(q:Sq)(hd:Nat)(l:Tz)(hl:l.length=12):PlS:=⟨((q,hd),l),hl⟩
def encP(p:PlS):Tl:=.int .i64 p.1.1.1.1 :: .int .i64 p.1.1.1.2 :: .int .u8 0 :: .int .i64 (Int.ofNat p.1.1.2) :: p.1.2.map .bool
def jl(p:PlS):(encP p).length=16:=by simp[encP,p.2]
abbrev kkP:TG:=.i .i64 :: .i .i64 :: .i .u8 :: .i .i64 :: List.replicate 12 .b
def lW(a b:PlS):difK kkP (encP a) (encP b)=some (decide (a=b)):=by
 have e1:cS .i64 .i64=true:=rfl
 have e2:cS .u8 .u8=true:=rfl
 obtain⟨⟨⟨⟨x,y⟩,hd⟩,l⟩,hl⟩:=a
 obtain⟨⟨⟨⟨x',y'⟩,hd'⟩,l'⟩,hl'⟩:=b
 have hl:l.length=12:=hl
 have hl':l'.length=12:=hl'
 have hb:=difK_b l l' (hl.trans hl'.symm)
 rw[hl]at hb
 have e3:decide (Int.ofNat hd=Int.ofNat hd')=decide (hd=hd'):=decide_eq_decide.2 ⟨λh=>qbP h,λh=>by rw[h]⟩
 unfold kkP encP
 simp only[difK,e1,e2,jW,e3,hb,Subtype.mk.injEq,qbY]
 by_cases h1:x=x'<;>by_cases h2:y=y'<;>by_cases h3:hd=hd'<;>by_cases h4:l=l'<;>simp[h1,h2,h3,h4]
def jk(a:PlS):∃r,fq kkP (encP a) (encP a)=some r:=by
 have e1:cS .i64 .i64=true:=rfl
 have e2:cS .u8 .u8=true:=rfl
 obtain⟨⟨⟨⟨x,y⟩,hd⟩,l⟩,hl⟩:=a
 have hl:l.length=12:=hl
 have hb:=fastK_b l
 rw[hl]at hb
 unfold kkP encP
 simp only[fq,e1,e2,jW,hb]
 simp
def jf:aggT cc.P 73=some true:=by kernel_rfl
def ic:flatK cc.P 10000 73=some kkP:=by kernel_rfl
def list12{l:Tz}(h:l.length=12):∃b0 b1 b2 b3 b4 b5 b6 b7 b8 b9 b10 b11,l=[b0,b1,b2,b3,b4,b5,b6,b7,b8,b9,b10,b11]:=by
 match l,h with
 | [b0,b1,b2,b3,b4,b5,b6,b7,b8,b9,b10,b11],_=>exact⟨b0,b1,b2,b3,b4,b5,b6,b7,b8,b9,b10,b11,rfl⟩
def cvA(D:List K3)(arr:Tz):K3->Prop:=λa=>∃i:Nat,D[i]?=some a/\arr[i]?=some true
def cvA_set{D:List K3}(hD:D.Nodup){arr:Tz}{i:Nat}{a:K3}(hi:D[i]?=some a)(hl:i<arr.length):cvA D (arr.set i true)=λb=>cvA D arr b∨b=a:=by
 funext b
 apply propext
 constructor
 ·rintro⟨j,h1,h2⟩
  by_cases hij:i=j
  ·subst hij
   rw[hi]at h1
   exact .inr (qae h1).symm
  ·rw[qaA hij]at h2
   exact .inl ⟨j,h1,h2⟩
 ·rintro(⟨j,h1,h2⟩|rfl)
  ·by_cases hij:i=j
   ·subst hij
    exact⟨i,h1,qaH hl⟩
   ·exact⟨j,h1,by rw[qaA hij];exact h2⟩
  ·exact⟨i,hi,qaH hl⟩
def vn{D:List K3}{n:Nat}:cvA D (List.replicate n false)=λ_=>False:=by
 funext a
 apply propext
 constructor
 ·rintro⟨i,_,h⟩
  rw[qa1]at h
  split at h<;>cases h
 ·exact λh=>h.elim
def SetOf.nd{L:List Sq}{D:List K3}(h:SetOf L D)(hL:L.Nodup):D.Nodup:=h.perm.nodup_iff.2 (ik hL)
def nd_inj{α:Type}{l:List α}(h:l.Nodup){i j:Nat}(hi:i<l.length)(hj:j<l.length)(e:l[i]=l[j]):i=j:=by
 rcases Nat.lt_trichotomy i j with h1|h1|h1
 ·exact absurd e (qbK.1 h i j hi hj h1)
 ·exact h1
 ·exact absurd e.symm (qbK.1 h j i hj hi h1)
def fin_arr{L:List Sq}{D:List K3}(hD:SetOf L D)(hL:L.Nodup){arr:Tz}(hl:D.length<=arr.length):false∉arr.take D.length↔AllC L (cvA D arr):=by
 constructor
 ·intro h a h1 h2
  obtain⟨i,hi⟩:=qaM (hD.mem.2 ⟨h1,h2⟩)
  have hlt:=av hi
  obtain⟨b,hb⟩:=aP (l:=arr) (i:=i) (by omega)
  refine⟨i,hi,?_⟩
  cases b with
  |true=>exact hb
  |false=>exact absurd (qab (i:=i) (by rw[qaT,qdD hlt];exact hb)) h
 ·intro h hm
  obtain⟨i,hi⟩:=qaM hm
  rw[qaT]at hi
  split at hi
  next hlt=>
   obtain⟨a,ha⟩:=aP hlt
   have hmem:=hD.mem.1 (qab ha)
   obtain⟨j,h1,h2⟩:=h a hmem.1 hmem.2
   have hij:i=j:=by
    have h3:=av h1
    rw[qai hlt]at ha
    rw[qai h3]at h1
    exact nd_inj (hD.nd hL) hlt h3 (by rw[qae ha,qae h1])
   subst hij
   rw[hi]at h2
   cases h2
  ·cases hi
def StL(L:List Sq)(k:Nat):Prop:=∃c,c∈L/\LP L k c 0 λ_=>False
def LPp(L:List Sq)(D:List K3)(k:Nat)(p:PlS):Prop:=LP L k p.1.1.1 p.1.1.2 (cvA D p.1.2)
def Bk(L:List Sq)(D:List K3)(m:Nat)(p:PlS):Prop:=∀k,LPp L D k p->StL L (k+m)
def okP(L:List Sq)(p:PlS):Prop:=p.1.1.1∈L/\p.1.1.2<4
def Nm(L:List Sq)(k0:Nat):Prop:=StL L k0/\∀k,k<k0->¬StL L k
def Gk(L:List Sq)(D:List K3)(k:Nat)(next:List PlS):Prop:=∃q,q∈next/\LPp L D k q
structure NxI(L:List Sq)(D:List K3)(mv:Nat)(next seen:List PlS):Prop where
 nx:∀q∈next,okP L q/\Bk L D (mv+1) q
 sn:∀x∈seen,(∃m',m'<=mv/\Bk L D m' x)∨x∈next
section
variable {L:List Sq} {D:List K3} {mv:Nat} {next seen:List PlS}
def NxI.old(h:NxI L D mv next seen){k0 k:Nat}(hk:Nm L k0)(e:k0=mv+(k+1)){x:PlS}(hx:x∈seen)(hl:LPp L D k x):Gk L D k next:=by
 rcases h.sn x hx with⟨m',h1,h2⟩|h1
 ·exact absurd (h2 k hl) (hk.2 _ (by omega))
 ·exact⟨x,h1,hl⟩
def NxI.push(h:NxI L D mv next seen){q:PlS}(hq:okP L q)(hb:Bk L D (mv+1) q):NxI L D mv (next++[q]) (seen++[q]):=by
 refine⟨λx hx=>?_,λx hx=>?_⟩
 ·rcases qau.1 hx with hx|hx
  ·exact h.nx x hx
  ·simp only[qam]at hx
   subst hx;exact⟨hq,hb⟩
 ·rcases qau.1 hx with hx|hx
  ·exact(h.sn x hx).imp_right λh=>qaF _ h
  ·exact .inr (qaK _ hx)
def Gk.app{k:Nat}(h:Gk L D k next)(l:List PlS):Gk L D k (next++l):=by
 obtain⟨q,h1,h2⟩:=h
 exact⟨q,qaF _ h1,h2⟩
def bk1{p:PlS}(hb:Bk L D mv p){t:Nat}(ht:t<3){q:PlS}(hc:cvA D q.1.2=Cv p.1.1.1 p.1.1.2 t (cvA D p.1.2))(h1:q.1.1.2=(p.1.1.2+hdN t)%4)(h2:q.1.1.1=bes p.1.1.1 ((p.1.1.2+hdN t)%4))(hm:q.1.1.1∈L):Bk L D (mv+1) q:=by
 intro k hk
 unfold LPp at hk
 rw[hc,h1,h2]at hk
 rw[h2]at hm
 have:=hb (k+1) ⟨t,ht,.inr (.inl ⟨hm,hk⟩)⟩
 rw[show k+(mv+1)=k+1+mv by omega]
 exact this
def bk2{p:PlS}(hb:Bk L D mv p){t:Nat}(ht:t<3){q:PlS}(hc:cvA D q.1.2=Cv p.1.1.1 p.1.1.2 t (cvA D p.1.2))(h1:q.1.1.2=((p.1.1.2+hdN t)%4+2)%4)(h2:q.1.1.1=p.1.1.1):Bk L D (mv+1) q:=by
 intro k hk
 unfold LPp at hk
 rw[hc,h1,h2]at hk
 have:=hb (k+1) ⟨t,ht,.inr (.inr hk)⟩
 rw[show k+(mv+1)=k+1+mv by omega]
 exact this
end
structure BS(b:Nat)(D:List K3)(h:HL)(xs x y:Value)(now next seen:List PlS):Prop where
 sl:LsH h xs 3 cc3 D
 sb:∀i,blk xs=some i->i<b
 mp:SetK encP h b seen
 nw:LsH h x 16 encP now
 nwb:∀i,blk x=some i->b<i
 nx:OwnL (b+1) h y 16 encP next
 ne:∀i,blk x=some i->blk y≠some i
 ln:b+1<=h.length
section
variable {b:Nat} {D:List K3} {h:HL} {xs x y:Value} {now next seen:List PlS}
def SetK.keep{h':HL}{id:Nat}{ks:List PlS}(hs:SetK encP h id ks)(hk:∀o,h[id]?=some o->h'[id]?=some o):SetK encP h' id ks:=by
 obtain⟨es,c,h1,h2⟩:=hs
 exact⟨es,c,hk _ h1,h2⟩
def BS.grow(hb:BS b D h xs x y now next seen){h':HL}(hl:Low h.length h h')(hle:h.length<=h'.length):BS b D h' xs x y now next seen:=
 ⟨hb.sl.low hl,hb.sb,SetK.keep hb.mp λo ho=>hl _ _ (av ho) ho,hb.nw.low hl,hb.nwb,hb.nx.keep λj o ho _=>hl _ _ (av ho) ho,hb.ne,qbh hb.ln hle⟩
def BS.mark(hb:BS b D h xs x y now next seen){o:HO}{seen':List PlS}(hs:SetK encP (h.set b o) b seen'):BS b D (h.set b o) xs x y now next seen':=by
 have hln:=hb.ln
 refine⟨hb.sl.keep λj o hj hb'=>?_,hb.sb,hs,hb.nw.keep λj o hj hb'=>?_,hb.nwb,hb.nx.keep λj o hj hb'=>?_,hb.ne,by simp;omega⟩
 ·have:=hb.sb j hb'
  exact bn hj (by omega)
 ·have:=hb.nwb j hb'
  exact bn hj (by omega)
 ·have:=(hb.nx.blk hb').1
  exact bn hj (by omega)
def BS.push(hb:BS b D h xs x y now next seen){h':HL}{y':Value}{next':List PlS}(ho:OwnL (b+1) h' y' 16 encP next')(hk:∀(j:Nat) o,h[j]?=some o->blk y≠some j->h'[j]?=some o)(hl:h.length<=h'.length)(hy:blk y'=blk y∨∃j,blk y'=some j/\h.length<=j):BS b D h' xs x y' now next' seen:=by
 have hln:=hb.ln
 have old:∀(j:Nat) o,j<=b->h[j]?=some o->h'[j]?=some o:=λj o hj ho'=>hk j o ho' λe=>by
  have:=(hb.nx.blk e).1
  omega
 refine⟨hb.sl.keep λj o hj hb'=>?_,hb.sb,SetK.keep hb.mp λo ho=>old _ _ (qaf _) ho,hb.nw.keep λj o hj hb'=>hk j o hj (hb.ne j hb'),hb.nwb,ho,λi hi e=>?_,by omega⟩
 ·have:=hb.sb j hb'
  exact old _ _ (by omega) hj
 ·rcases hy with hy|⟨j,hy,hj⟩
  ·rw[hy]at e
   exact hb.ne i hi e
  ·rw[hy]at e
   cases e
   have:=hb.nw.blkLt hi
   omega
end
def r_arrset{h:HL}{b i:Nat}{l:Tz}{K:Ta}(hb:h[b]?=some (.o (.cells (l.map .bool) 1 true)))(hl:l.length=12)(hi:i<12)(hk:K [] (h.set b (.o (.cells ((l.set i true).map .bool) 1 true)))) :
  P1.opt (idP 12 1 (ptrB b) (Int.ofNat i)) (@hid _ ⟨λx=>P1.chk x (@hid _ ⟨P1.heap (.st x [.bool true]) h (@hid _ ⟨K⟩)⟩)⟩):=by
 refine af (x:=.pointer (some ⟨b,0+i*1,none⟩)) ?_ (ak (by simp[aS,noLoc,aZ,bz,bp,aR,aI]) ?_)
 ·show(if 0<=Int.ofNat i/\Int.ofNat i<((12:Nat):Int)then some (Value.pointer (some ⟨b,0+(Int.ofNat i).toNat*1,none⟩))else none)=_
  rw[qdD ⟨qat i,by show(i:Int)<((12:Nat):Int);omega⟩]
  rfl
 ·have hrun:(Hp.st (.pointer (some ⟨b,0+i*1,none⟩)) [.bool true]).run (getH aa h) h.length=some ([.set b (.cells ((l.set i true).map .bool) 1 true)],[]):=by
   show stP (.pointer (some ⟨b,0+i*1,none⟩)) [.bool true] (getH aa h) h.length=_
   unfold stP
   simp only
   rw[bB hb]
   simp only
   unfold splice
   rw[qdD (by simp[hl];omega)]
   have e:(l.map Value.bool).take (0+i*1)++[.bool true]++(l.map Value.bool).drop (0+i*1+[Value.bool true].length)=(l.set i true).map .bool:=by
    rw[show 0+i*1=i by omega]
    rw[List.set_eq_take_append_cons_drop,qdD (by omega)]
    simp
   rw[e]
   rfl
  exact bC hrun hk
def r_slA{h:HL}{b n:Nat}{l:Tz}{K:Te}(hb:h[b]?=some (.o (.cells (l.map .bool) 1 true)))(hl:l.length=12)(hn:n<=12)(hk:∀v,LsH h v 1 encB (l.take n)->aS v=true->K [v]) :
  P1.peek (.fn (slAG 12 1 (ptrB b) none (some (Int.ofNat n)) none)) h (@hid _ ⟨K⟩):=by
 have hrun:(Pk.fn (slAG 12 1 (ptrB b) none (some (Int.ofNat n)) none)).run (getH aa h)=some [.slice (some ⟨b,0+0*1,tag 1⟩) (n - 0) (12 - 0+1)]:=by
  show slAG 12 1 (ptrB b) none (some (Int.ofNat n)) none (getH aa h)=_
  unfold slAG
  have e1:dv 12 ((none:Tq).map (.int .i64)) ((some (Int.ofNat n)).map (.int .i64)) ((none:Tq).map (.int .i64))=some (0,n,12):=by
   unfold dv
   show(if (0:Int)<=0/\(0:Int)<=Int.ofNat n/\Int.ofNat n<=((12:Nat):Int)/\(((12:Nat):Int))<=((12:Nat):Int)/\_ then some ((0:Int).toNat,(Int.ofNat n).toNat,(((12:Nat):Int)).toNat)else none)=_
   rw[qdD ⟨qdy _,qat n,by show(n:Int)<=((12:Nat):Int);omega,qdy _,.inl rfl⟩]
   rfl
  simp only[e1]
  rw[bB hb]
  simp only
  have e2:(Nat.beq 1 1&&Nat.ble (0+12*1) (l.map Value.bool).length)=true:=by rw[qay,hl];rfl
  rw[e2]
  simp only[df]
 have hcut:cut (l.map Value.bool) 0 (12*1)=some (l.map Value.bool):=Sx.cut_all (by rw[qay,hl])
 have hfm:∀m:List Bool,m.flatMap encB=m.map .bool:=λm=>by
  induction m with
  |nil=>rfl
  |cons a m ih=>rw[qbz,ih];rfl
 have hls:LsH h (.slice (some ⟨b,0+0*1,tag 1⟩) (n - 0) (12 - 0+1)) 1 encB (l.take n):=by
  refine⟨λ_ _=>rfl,aD λ_ _=>rfl,.inr ⟨b,0,13,_,true,?_,hb,?_⟩⟩
  ·rw[qaG,hl,qa5 hn]
   rfl
  ·rw[hfm,qaG,hl,qa5 hn]
   have:=mN hcut (o:=0) (k:=n*1) (by omega)
   rw[qca,qaV]at this
   rw[this,qcg,qcf]
 exact dc hrun (hk _ hls hls.good)
def DnI(L:List Sq)(D:List K3)(k0 mv:Nat)(now:List PlS)(j:Nat)(next:List PlS):Prop:=∀(i:Nat),i<j->∀p:PlS,now[i]?=some p->LPp L D (k0 - mv) p->∃k,k0=mv+(k+1)/\Gk L D k next
def DnI.app{L:List Sq}{D:List K3}{k0 mv j:Nat}{now next:List PlS}(h:DnI L D k0 mv now j next)(l:List PlS):DnI L D k0 mv now j (next++l):=λi hi p hp hl=>by
 obtain⟨k,h1,h2⟩:=h i hi p hp hl
 exact⟨k,h1,h2.app l⟩
def SnI(L:List Sq)(D:List K3)(k0 mv:Nat)(sq:Sq)(hd t:Nat)(cov:K3->Prop)(i:Nat)(next:List PlS):Prop:=∀k,k0=mv+(k+1)->
 (0<i->bes sq ((hd+hdN t)%4)∈L->LP L k (bes sq ((hd+hdN t)%4)) ((hd+hdN t)%4) (Cv sq hd t cov)->Gk L D k next)/\(1<i->LP L k sq (((hd+hdN t)%4+2)%4) (Cv sq hd t cov)->Gk L D k next)
def SnI.app{L:List Sq}{D:List K3}{k0 mv hd t i:Nat}{sq:Sq}{cov:K3->Prop}{next:List PlS}(h:SnI L D k0 mv sq hd t cov i next)(l:List PlS):SnI L D k0 mv sq hd t cov i (next++l):=λk e=>⟨λa b c=>((h k e).1 a b c).app l,λa b=>((h k e).2 a b).app l⟩
def TnI(L:List Sq)(D:List K3)(k0 mv:Nat)(sq:Sq)(hd:Nat)(cov:K3->Prop)(t:Nat)(next:List PlS):Prop:=∀t',t'<t->¬AllC L (Cv sq hd t' cov)/\SnI L D k0 mv sq hd t' cov 2 next
def TnI.app{L:List Sq}{D:List K3}{k0 mv hd t:Nat}{sq:Sq}{cov:K3->Prop}{next:List PlS}(h:TnI L D k0 mv sq hd cov t next)(l:List PlS):TnI L D k0 mv sq hd cov t (next++l):=λt' ht=>⟨(h t' ht).1,(h t' ht).2.app l⟩
def jx{j:Nat}{K:Tu}(h:j<=1000000000000):P1.ari .add .i64 (Int.ofNat j) 1 (@hid _ ⟨K⟩)=K (Int.ofNat j+1):=
 p_add (by show -9223372036854775808<=(j:Int)+1;omega) (by show(j:Int)+1<=9223372036854775807;omega)
def size48{n:Nat}(h:n<=1000000000000):bJ n 48=true:=by
 unfold bJ
 rw[qaZ (by omega),qaZ (by omega)];rfl
def uq(z:Nat):Tl:=[.int .i64 (Int.ofNat z)]
def sG(z:Nat):(uq z).length=1:=rfl
def fP(l:List K3):List PlS:=(l.filter λa=>decide (a.2.2=0)).map λa=>mkP (a.1,a.2.1) 0 (List.replicate 12 false) (by simp)
def quad_lt{t q:Nat}(h:q∈iw t):q<4:=by
 match t,h with
 |0,h=>simp[iw]at h;omega
 |1,h=>simp[iw]at h;omega
 |t+2,h=>simp[iw]at h;omega
def dec_t{p:Prop}{i:Decidable p}(h:p):@decide p i=true:=qdC h
def dec_f{p:Prop}{i:Decidable p}(h:¬p):@decide p i=false:=qdB h
def quad_le(t:Nat):(iw t).length<=4:=by
 match t with
 |0=>simp[iw]
 |1=>simp[iw]
 |t+2=>simp[iw]
def lit_ls{h:HL}{l:TB}{n cx:Nat}(hn:n=l.length):LsH (h++[HO.o (.cells (l.flatMap uq) 1 true)]) (.slice (some ⟨h.length,0,some 11⟩) n cx) 1 uq l:=by
 subst hn
 have hl:=aD (e:=1) (enc:=uq) (l:=l) λa _=>sG a
 exact⟨λa _=>sG a,hl,.inr ⟨h.length,0,cx,_,true,rfl,aH,Sx.cut_all hl⟩⟩
def pow6{m:Nat}(h:m<=12):3*6 ^ m<=6530347008:=by
 have:=Nat.pow_le_pow_right (n:=6) (by omega) h
 omega
def least_c{H:HL}{x:Value}{L:List Sq}{D:List K3}(hl:LsH H x 3 cc3 D)(hD:SetOf L D)(h0:0<L.length)(hn:L.length<=3)(hnd:L.Nodup)(hcon:Con L)(hb:∀c∈L,(-4096<=c.1/\c.1<=4096)/\-4096<=c.2/\c.2<=4096){k0:Nat}(hk0:Nm L k0)(hk1:k0<=12) :
  ∃h',aw cc ab 15 [.v x] (absH aa H) [.i (Int.ofNat (k0+1)),.i 0] (absH aa h')/\Low H.length H h'/\H.length<=h'.length:=by
 have hDl:=hD.len
 have hDn:=hD.nd hnd
 obtain⟨rs,h',e1,rfl,e2⟩:=x15 (ls:=[.v x]) (H:=H) (K:=λrs h'=>rs=[.i (Int.ofNat (k0+1)),.i 0]/\Low H.length H h'/\H.length<=h'.length) (glsV hl.good gls0) (by
  unfold f15;simp only[qxh]
  refine p_x ?_
  obtain⟨h1,hcall,hlow1,hle1⟩:=kV hl hD h0 (by omega) hnd hcon hb
  refine ah hcall ?_
  clear hcall
  refine p_x ?_
  rw[p_gtr_f (by show(L.length:Int)<=3;omega)]
  refine p_x ?_
  have hl1:=hl.low hlow1
  have hl2:LsH (h1++[HO.o (.map [] 0)]) x 3 cc3 D:=hl1.pre ⟨_,rfl⟩
  have hm2:SetK encP (h1++[HO.o (.map [] 0)]) h1.length []:=⟨[],0,aH,rfl,λe he=>by cases he⟩
  have hlow2:Low H.length H (h1++[HO.o (.map [] 0)]):=hlow1.app _
  have hln2:(h1++[HO.o (.map [] 0)]).length=h1.length+1:=by simp
  have hsb:∀i,blk x=some i->i<h1.length:=λi hi=>hl1.blkLt hi
  generalize hbd:h1.length=b at *
  generalize h1++[HO.o (.map [] 0)]=h2 at *
  clear hl1 hlow1 hbd
  refine bI hl2 ?_
  refine bG (σ:=Value×HL) D.length (λj s=>[.v s.1,.i (Int.ofNat j)]) (λ_ s=>s.2) (λj s=>OwnL (b+1) s.2 s.1 16 encP (fP (D.take j))/\Low h2.length h2 s.2/\h2.length<=s.2.length) (j0:=0) (s0:=(.slice none 0 0,h2)) rfl rfl (qaO _) ⟨OwnL.nil _ _ _ _,Low.refl _,qaf _⟩ ?_
  rintro j ⟨y,h⟩ hj ⟨ho,hlow,hle⟩ self hself
  simp only at ho hlow hle hself
  refine p_x ?_
  have hinl:(fP (D.take j)).length<=j:=by
   unfold fP
   rw[qay]
   exact qbh (qce _ _) (by rw[qaG];omega)
  by_cases hlt:j<D.length
  ·rw[bf hlt]
   refine p_x ?_
   obtain⟨a,ha⟩:=aP hlt
   refine bQ (hl2.low hlow) rfl ha ?_
   unfold cc3
   refine p_x ?_
   have htk:D.take (j+1)=D.take j++[a]:=by
    rw[qbC,ha];rfl
   refine vX λt ht=>?_
   refine ij (λl' h'=>∃v',l'=[.v v']/\OwnL (b+1) h' v' 16 encP (fP (D.take (j+1)))/\Low h2.length h2 h'/\h2.length<=h'.length) ?_ ?_
   ·rintro _ h' ⟨v',rfl,b1,b2,b3⟩
    refine p_x ?_
    rw[bg (by omega)]
    exact hself (v',h') hlt ⟨b1,b2,b3⟩
   ·intro jn hjn
    by_cases hz:a.2.2=0
    ·have e1:fP (D.take (j+1))=fP (D.take j)++[mkP (a.1,a.2.1) 0 (List.replicate 12 false) (by simp)]:=by
      rw[htk]
      unfold fP
      rw[qcH,qbB]
      simp[hz]
     rw[e1]at hjn
     obtain rfl:t=true:=by rw[ht,hz];rfl
     rw[hz]
     refine p_x ?_
     refine ho.ap1 (a:=mkP (a.1,a.2.1) 0 (List.replicate 12 false) (by simp)) jl (by omega) rfl rfl rfl (size48 (by omega)) λv' h' b1 b2 b3 b4 b5=>?_
     refine p_x ?_
     refine ak b2 ?_
     refine p_x ?_
     refine hjn _ _ ⟨v',rfl,b1,λi o hi hoo=>b3 i o (hlow i o hi hoo) λe=>?_,by omega⟩
     have:=ho.blk e
     omega
    ·have e1:fP (D.take (j+1))=fP (D.take j):=by
      rw[htk]
      unfold fP
      rw[qcH,qbB]
      simp[hz]
     rw[e1]at hjn
     obtain rfl:t=false:=by
      rw[ht,qdB]
      intro e
      exact hz (qbP e)
     refine p_x ?_
     exact hjn _ _ ⟨y,rfl,ho,hlow,hle⟩
  ·obtain rfl:j=D.length:=by omega
   rw[bj (qaf _)]
   refine p_x ?_
   rw[qbJ]at ho
   clear hself self
   have hB0:BS b D h x y (.slice none 0 0) (fP D) [] []:=⟨hl2.low hlow,hsb,SetK.keep hm2 λo hoo=>hlow _ _ (av hoo) hoo,ho.ls jl,λi hi=>(ho.blk hi).1,OwnL.nil _ _ _ _,λi _ e=>(by cases e),by omega⟩
   have hmemI:∀p∈fP D,p.1.1.1∈L/\p.1.1.2=0/\cvA D p.1.2=λ_=>False:=by
    intro p hp
    unfold fP at hp
    obtain⟨a,ha,rfl⟩:=qaU.1 hp
    exact⟨(hD.mem.1 (qa4.1 ha).1).1,rfl,vn⟩
   have hok0:∀p∈fP D,okP L p/\Bk L D 0 p:=λp hp=>by
    obtain⟨q1,q2,q3⟩:=hmemI p hp
    refine⟨⟨q1,by rw[q2];omega⟩,λk hk=>⟨_,q1,?_⟩⟩
    unfold LPp at hk
    rw[q2,q3]at hk
    exact hk
   have hex0:∃p,p∈fP D/\LPp L D (k0 - 0) p:=by
    obtain⟨c,hc,hLP⟩:=hk0.1
    refine⟨mkP c 0 (List.replicate 12 false) (by simp),?_,?_⟩
    ·unfold fP
     refine qaU.2 ⟨sqC c,qa4.2 ⟨hD.mem.2 ⟨hc,by show 0<4;omega⟩,by simp[sqC]⟩,rfl⟩
    ·show LP L (k0 - 0) c 0 (cvA D (List.replicate 12 false))
     rw[vn]
     exact hLP
   have hlen0:(fP D).length<=3*6 ^ 0:=by
    have h1:((D.filter λa=>decide (a.2.2=0)).map λa=>((a.1,a.2.1):Sq)).length<=L.length:=by
     refine bu ?_ λc hc=>?_
     ·refine qcl.2 (qdh ?_ (qcA _ hDn))
      intro u v hu hv hne e
      have hu0:=(qa4.1 hu).2
      have hv0:=(qa4.1 hv).2
      rw[qdA]at hu0 hv0
      simp only[qbY]at e
      exact hne (qcC e.1 (qcC e.2 (by rw[hu0,hv0])))
     ·obtain⟨a,ha,rfl⟩:=qaU.1 hc
      exact(hD.mem.1 (qa4.1 ha).1).1
    unfold fP
    rw[qay]at h1 ⊢
    omega
   have hlowH:Low H.length H h:=λi o hi hoo=>hlow i o (av (hlow2 i o hi hoo)) (hlow2 i o hi hoo)
   have hleH:H.length<=h.length:=by omega
   refine fw (m:=k0+1) (λm ls h=>∃(mv:Nat) (y:Value) (now seen:List PlS),ls=[.v y,.i (Int.ofNat (mv+1))]/\m=k0+1 - mv/\mv<=k0/\BS b D h x y (.slice none 0 0) now [] seen/\Low H.length H h/\H.length<=h.length/\(∀p∈now,okP L p/\Bk L D mv p)/\(∃p,p∈now/\LPp L D (k0 - mv) p)/\(∀q∈seen,∃m',m'<=mv/\Bk L D m' q)/\now.length<=3*6 ^ mv) ⟨0,y,fP D,[],rfl,rfl,qaO _,hB0,hlowH,hleH,hok0,hex0,λq hq=>(by cases hq),hlen0⟩ ?_
   clear hB0 hok0 hex0 hlen0 hlowH hleH ho hlow hle hinl hmemI hl2 hm2 hlow2 hln2 hj
   rintro m ls h ⟨mv,y,now,seen,rfl,rfl,hmv,hB,hlow,hle,hok,hex,hsn,hnl⟩ self hself
   have hp6:=pow6 (show mv<=12 by omega)
   refine hidL ?_
   refine p_x ?_
   refine bI hB.nw ?_
   refine bG (σ:=HL×Value×List PlS×List PlS) now.length (λj s=>[.v s.2.1,.i (Int.ofNat j)]) (λ_ s=>s.1) (λj s=>BS b D s.1 x y s.2.1 now s.2.2.1 s.2.2.2/\Low H.length H s.1/\H.length<=s.1.length/\NxI L D mv s.2.2.1 s.2.2.2/\s.2.2.1.length<=6*j/\DnI L D k0 mv now j s.2.2.1) (j0:=0) (s0:=(h,.slice none 0 0,[],seen)) rfl rfl (qaO _) ⟨hB,hlow,hle,⟨λq hq=>(by cases hq),λq hq=>.inl (hsn q hq)⟩,qaO _,λi hi=>by omega⟩ ?_
   clear hB hlow hle hsn
   rintro j ⟨h,z,next,seen⟩ hj ⟨hB,hlow,hle,hNx,hlen,hDn'⟩ selfj hselfj
   simp only at hB hlow hle hNx hlen hDn' hselfj
   refine p_x ?_
   by_cases hlt:j<now.length
   case neg=>
    obtain rfl:j=now.length:=by omega
    rw[bj (qaf _)]
    refine p_x ?_
    rw[jx (by omega)]
    obtain⟨p,hp,hpl⟩:=hex
    obtain⟨i,hi⟩:=qaM hp
    obtain⟨k,hk,q,hq,hql⟩:=hDn' i (av hi) p hi hpl
    refine hself (k0+1 - (mv+1)) _ _ (by omega) ⟨mv+1,z,next,seen,rfl,rfl,by omega,⟨hB.sl,hB.sb,hB.mp,hB.nx.ls jl,λi hi=>(hB.nx.blk hi).1,OwnL.nil _ _ _ _,λi _ e=>(by cases e),hB.ln⟩,hlow,hle,hNx.nx,⟨q,hq,?_⟩,λu hu=>?_,?_⟩
    ·rw[show k0 - (mv+1)=k by omega]
     exact hql
    ·rcases hNx.sn u hu with⟨m',a1,a2⟩|a1
     ·exact⟨m',by omega,a2⟩
     ·exact⟨mv+1,qaf _,(hNx.nx u a1).2⟩
    ·rw[Nat.pow_succ]
     omega
   rw[bf hlt]
   refine p_x ?_
   obtain⟨p,hp⟩:=aP hlt
   obtain⟨hpok,hpbk⟩:=hok p (qab hp)
   refine bQ hB.nw rfl hp ?_
   obtain⟨⟨⟨sq,hd⟩,arr⟩,harr⟩:=p
   have harr:arr.length=12:=harr
   have hsq:sq∈L:=hpok.1
   have hhd:hd<4:=hpok.2
   have hsqb:=hb sq hsq
   obtain⟨a0,a1,a2,a3,a4,a5,a6,a7,a8,a9,a10,a11,harrE⟩:=list12 harr
   have encE:encP ⟨((sq,hd),arr),harr⟩=[.int .i64 sq.1,.int .i64 sq.2,.int .u8 0,.int .i64 (Int.ofNat hd),.bool a0,.bool a1,.bool a2,.bool a3,.bool a4,.bool a5,.bool a6,.bool a7,.bool a8,.bool a9,.bool a10,.bool a11]:=by
    unfold encP
    simp only[harrE,qas,qbk]
   rw[encE]
   refine p_x ?_
   have cellsE:([.bool a0,.bool a1,.bool a2,.bool a3,.bool a4,.bool a5,.bool a6,.bool a7,.bool a8,.bool a9,.bool a10,.bool a11]:Tl)=arr.map .bool:=by
    simp only[harrE,qas,qbk]
   refine bG (σ:=HL×Value×List PlS×List PlS) 3 (λt s=>[.v s.2.1,.i (Int.ofNat t)]) (λ_ s=>s.1) (λt s=>BS b D s.1 x y s.2.1 now s.2.2.1 s.2.2.2/\Low H.length H s.1/\H.length<=s.1.length/\NxI L D mv s.2.2.1 s.2.2.2/\s.2.2.1.length<=6*j+2*t/\DnI L D k0 mv now j s.2.2.1/\TnI L D k0 mv sq hd (cvA D arr) t s.2.2.1) (j0:=0) (s0:=(h,z,next,seen)) rfl rfl (qaO _) ⟨hB,hlow,hle,hNx,hlen,hDn',λt' ht=>by omega⟩ ?_
   clear hB hlow hle hNx hlen hDn'
   rintro t ⟨h,z,next,seen⟩ ht ⟨hB,hlow,hle,hNx,hlen,hDn',hTn⟩ selft hselft
   simp only at hB hlow hle hNx hlen hDn' hTn hselft
   refine p_x ?_
   by_cases ht3:t<3
   case neg=>
    obtain rfl:t=3:=by omega
    rw[p_lss_f (by show(3:Int)<=((3:Nat):Int);omega)]
    refine p_x ?_
    rw[jx (by omega)]
    refine hselfj (h,z,next,seen) hlt ⟨hB,hlow,hle,hNx,by show next.length<=6*(j+1);omega,λi hi p' hp' hl'=>?_⟩
    by_cases hij:i=j
    ·subst hij
     rw[hp]at hp'
     obtain rfl:=qae hp'
     have hl':LP L (k0 - mv) sq hd (cvA D arr):=hl'
     cases hkk:k0 - mv with
     |zero=>
      rw[hkk]at hl'
      obtain⟨t',t1,t2⟩:=hl'
      exact absurd t2 (hTn t' t1).1
     |succ k=>
      rw[hkk]at hl'
      refine⟨k,by omega,?_⟩
      obtain⟨t',t1,t2⟩:=hl'
      have hS:=(hTn t' t1).2 k (by omega)
      rcases t2 with t2|⟨t2,t3⟩|t2
      ·exact absurd t2 (hTn t' t1).1
      ·exact hS.1 (by omega) t2 t3
      ·exact hS.2 (by omega) t2
    ·exact hDn' i (by omega) p' hp' hl'
   rw[p_lss_t (by show(t:Int)<3;omega)]
   refine p_x ?_
   refine gi aH rfl ?_
   rw[dD,cellsE]
   try simp(disch:=omega)only[↓qXX]
   have base0:∀(G:HL),Low h.length h (h++[HO.o (.cells (arr.map .bool) 1 true)]++G):=λG i o hi hoo=>by
    rw[qaJ]
    exact Pre.get ⟨_,rfl⟩ hoo
   have base1:∀(G:HL),(h++[HO.o (.cells (arr.map .bool) 1 true)]++G)[h.length]?=some (.o (.cells (arr.map .bool) 1 true)):=λG=>Pre.get ⟨G,rfl⟩ aH
   refine vX λtb htb=>?_
   refine ij (λl' h'=>∃qv:Value,l'=[.v qv,.i (Int.ofNat ((hd+hdN t)%4))]/\Low h.length h h'/\h.length<h'.length/\h'[h.length]?=some (.o (.cells (arr.map .bool) 1 true))/\LsH h' qv 1 uq (iw t)/\∀i,blk qv=some i->i≠h.length) ?_ ?_
   case refine_2=>
    intro jn hjn
    have hlenA:(h++[HO.o (.cells (arr.map .bool) 1 true)]).length=h.length+1:=by simp
    have t3:t=0∨t=1∨t=2:=by omega
    rcases t3 with rfl|rfl|rfl
    ·obtain rfl:tb=false:=htb
     refine p_x ?_
     rw[p_eql_f (by show(0:Int)≠2;omega)]
     refine p_x ?_
     have e1:Int.ofNat hd=Int.ofNat ((hd+hdN 0)%4):=by
      rw[show(hd+hdN 0)%4=hd by simp only[hdN];omega]
     rw[e1]
     exact hjn _ _ ⟨_,rfl,base0 _,by simp,base1 _,lit_ls (l:=[0,1,2,3]) rfl,λi hi=>by
      rw[hlenA]at hi
      cases hi
      show h.length+1≠h.length
      omega⟩
    ·obtain rfl:tb=true:=htb
     refine p_x ?_
     rw[bg (by omega),show Int.ofNat hd+1=Int.ofNat (hd+1)from rfl,rem4]
     have hlenB:(h++[HO.o (.cells (arr.map .bool) 1 true)]++[HO.o (.cells [.int .i64 0,.int .i64 1,.int .i64 2,.int .i64 3] 1 true)]).length=h.length+2:=by simp
     refine hjn _ _ ⟨_,rfl,?_,?_,?_,lit_ls (l:=[1,2]) rfl,λi hi=>by
      rw[hlenB]at hi
      cases hi
      show h.length+2≠h.length
      omega⟩
     ·rw[qaJ];exact base0 _
     ·simp
     ·rw[qaJ];exact base1 _
    ·obtain rfl:tb=false:=htb
     refine p_x ?_
     rw[p_eql_t (by rfl)]
     refine p_x ?_
     rw[p_add (by show(-9223372036854775808:Int)<=(hd:Int)+3;omega) (by show(hd:Int)+3<=9223372036854775807;omega),show Int.ofNat hd+3=Int.ofNat (hd+3)from rfl,rem4]
     refine p_x ?_
     have hlenB:(h++[HO.o (.cells (arr.map .bool) 1 true)]++[HO.o (.cells [.int .i64 0,.int .i64 1,.int .i64 2,.int .i64 3] 1 true)]).length=h.length+2:=by simp
     refine hjn _ _ ⟨_,rfl,?_,?_,?_,lit_ls (l:=[2,3]) rfl,λi hi=>by
      rw[hlenB]at hi
      cases hi
      show h.length+2≠h.length
      omega⟩
     ·rw[qaJ];exact base0 _
     ·simp
     ·rw[qaJ];exact base1 _
   rintro _ h5 ⟨qv,rfl,hlow5,hlt5,harr5,hq5,hqb5⟩
   have hh4:(hd+hdN t)%4<4:=qbD _ (by omega)
   refine p_x ?_
   refine bI hq5 ?_
   refine bG (σ:=HL×List Bool) (iw t).length (λi _=>[.i (Int.ofNat i)]) (λ_ s=>s.1) (λi s=>Low h.length h s.1/\h.length<s.1.length/\s.1[h.length]?=some (.o (.cells (s.2.map .bool) 1 true))/\s.2.length=12/\LsH s.1 qv 1 uq (iw t)/\cvA D s.2=λa=>cvA D arr a∨∃q,q∈(iw t).take i/\a=qc sq hd q) (j0:=0) (s0:=(h5,arr)) rfl rfl (qaO _) ⟨hlow5,hlt5,harr5,harr,hq5,by simp⟩ ?_
   rintro i ⟨h6,arr6⟩ hi ⟨l1,l2,l3,l4,l5,l6⟩ self6 hself6
   simp only at l1 l2 l3 l4 l5 l6 hself6
   have hB6:=hB.grow l1 (by omega)
   refine p_x ?_
   by_cases hlt6:i<(iw t).length
   case pos=>
    have hq44:=quad_le t
    rw[bf hlt6]
    refine p_x ?_
    obtain⟨q,hq6⟩:=aP hlt6
    have hq4:=quad_lt (qab hq6)
    refine bQ l5 rfl hq6 ?_
    unfold uq
    refine p_x ?_
    rw[p_add (by show(-9223372036854775808:Int)<=(hd:Int)+(q:Int);omega) (by show(hd:Int)+(q:Int)<=9223372036854775807;omega),show Int.ofNat hd+Int.ofNat q=Int.ofNat (hd+q)from rfl,bg (by omega),show Int.ofNat (hd+q)+1=Int.ofNat (hd+q+1)from rfl,rem4,p_conv8 (by show(0:Int)<=(((hd+q+1)%4:Nat):Int);omega) (by show(((hd+q+1)%4:Nat):Int)<=255;omega)]
    obtain⟨nn,hcall,hnn⟩:=qU hB6.sl (by omega) (qc sq hd q) (p:=sq.1) (q:=sq.2) (r:=Int.ofNat ((hd+q+1)%4)) ⟨rfl,rfl,rfl⟩
    refine ah hcall ?_
    clear hcall
    refine p_x ?_
    have hmq:qc sq hd q∈D:=hD.mem.2 ⟨hsq,qbD _ (by omega)⟩
    rcases hnn with⟨_,hnn⟩|⟨i',rfl,hi'⟩
    ·exact absurd hmq hnn
    ·have hi12:i'<12:=by have:=av hi';omega
     refine r_arrset l3 l4 hi12 ?_
     try simp(disch:=omega)only[↓qXX]
     rw[bg (by omega)]
     refine hself6 (h6.set h.length (.o (.cells ((arr6.set i' true).map .bool) 1 true)),arr6.set i' true) hlt6 ⟨l1.set (qaf _) _,by show h.length<(h6.set _ _).length;rw[qbl];exact l2,nc l3,by simp[l4],l5.keep λu o hu hub=>?_,?_⟩
     ·exact bn hu λe=>hqb5 u hub e.symm
     ·show cvA D (arr6.set i' true)=_
      rw[cvA_set hDn hi' (by omega),l6]
      funext a
      apply propext
      rw[qbC,hq6]
      simp only[qdc,qau,qam]
      constructor
      ·rintro((h|⟨q',h1,h2⟩)|h)
       ·exact .inl h
       ·exact .inr ⟨q',.inl h1,h2⟩
       ·exact .inr ⟨q,.inr rfl,h⟩
      ·rintro(h|⟨q',h1|h1,h2⟩)
       ·exact .inl (.inl h)
       ·exact .inl (.inr ⟨q',h1,h2⟩)
       ·subst h1
        exact .inr h2
   obtain rfl:i=(iw t).length:=by omega
   rw[bj (qaf _)]
   refine p_x ?_
   rw[qbJ]at l6
   have hcv:cvA D arr6=Cv sq hd t (cvA D arr):=l6
   clear hself6 l6
   refine bI hB6.sl ?_
   refine r_slA l3 l4 (by omega) λv hv hgv=>?_
   refine p_x ?_
   refine ak hgv ?_
   refine p_x ?_
   refine ah (anyF_c hv (by rw[qaG];omega)) ?_
   refine p_x ?_
   have hfin:=fin_arr hD hnd (arr:=arr6) (by omega)
   by_cases hf:false∈arr6.take D.length
   case neg=>
    rw[qdB hf]
    simp(disch:=omega)only[↓qXX,qba]
    have hall:=hfin.1 hf
    rw[hcv]at hall
    have hst:StL L (0+mv):=hpbk 0 ⟨t,ht3,hall⟩
    have hmk:mv=k0:=by
     refine Decidable.byContradiction λhne=>hk0.2 mv (by omega) ?_
     rw[qaL]at hst
     exact hst
    subst hmk
    refine⟨rfl,λi o hi hoo=>l1 i o (av (hlow i o hi hoo)) (hlow i o hi hoo),by omega⟩
   rw[qdC hf]
   simp(disch:=omega)only[↓qXX,qaI]
   have hnall:¬AllC L (Cv sq hd t (cvA D arr)):=by
    rw[←hcv]
    exact λh=>hfin.2 h hf
   refine ac (qw (c:=sq) hh4 ⟨by omega,by omega⟩) ?_
   refine p_x ?_
   obtain⟨c0,c1,c2,c3,c4,c5,c6,c7,c8,c9,c10,c11,harrE6⟩:=list12 l4
   have cells6:arr6.map Value.bool=[.bool c0,.bool c1,.bool c2,.bool c3,.bool c4,.bool c5,.bool c6,.bool c7,.bool c8,.bool c9,.bool c10,.bool c11]:=by
    simp only[harrE6,qas,qbk]
   refine cL (bv l3) (by simp[l4]) ?_
   rw[cells6]
   refine p_x ?_
   rw[p_add (by show(-9223372036854775808:Int)<=(((hd+hdN t)%4:Nat):Int)+2;omega) (by show(((hd+hdN t)%4:Nat):Int)+2<=9223372036854775807;omega),show Int.ofNat ((hd+hdN t)%4)+2=Int.ofNat ((hd+hdN t)%4+2)from rfl,rem4]
   refine p_x ?_
   refine cL (bv l3) (by simp[l4]) ?_
   rw[cells6]
   refine p_x ?_
   have hN6:NxI L D mv next seen:=hNx
   refine bG (σ:=HL×Value×List PlS×List PlS) 2 (λi s=>[.v s.2.1,.i (Int.ofNat i)]) (λ_ s=>s.1) (λi s=>BS b D s.1 x y s.2.1 now s.2.2.1 s.2.2.2/\Low H.length H s.1/\H.length<=s.1.length/\NxI L D mv s.2.2.1 s.2.2.2/\s.2.2.1.length<=6*j+2*t+i/\DnI L D k0 mv now j s.2.2.1/\TnI L D k0 mv sq hd (cvA D arr) t s.2.2.1/\SnI L D k0 mv sq hd t (cvA D arr) i s.2.2.1) (j0:=0) (s0:=(h6,z,next,seen)) rfl rfl (qaO _) ⟨hB6,λi o hi hoo=>l1 i o (av (hlow i o hi hoo)) (hlow i o hi hoo),by show H.length<=h6.length;omega,hNx,by show next.length<=_;omega,hDn',hTn,λk hk=>⟨λh=>by omega,λh=>by omega⟩⟩ ?_
   clear hB hlow hle hNx hlen hDn' hTn hB6 hN6
   rintro i ⟨h,z,next,seen⟩ hi ⟨hB,hlow,hle,hNx,hlen,hDn',hTn,hSn⟩ self7 hself7
   simp only at hB hlow hle hNx hlen hDn' hTn hSn hself7
   refine p_x ?_
   by_cases hi2:i<2
   case neg=>
    obtain rfl:i=2:=by omega
    rw[p_lss_f (by show(2:Int)<=((2:Nat):Int);omega)]
    refine p_x ?_
    rw[jx (by omega)]
    refine hselft (h,z,next,seen) ht3 ⟨hB,hlow,hle,hNx,by show next.length<=6*j+2*(t+1);omega,hDn',λt' ht'=>?_⟩
    by_cases htt:t'=t
    ·subst htt
     exact⟨hnall,hSn⟩
    ·exact hTn t' (by omega)
   rw[p_lss_t (by show(i:Int)<2;omega)]
   have hi01:i=0∨i=1:=by omega
   rcases hi01 with rfl|rfl
   ·simp(disch:=omega)only[↓qXX]
    refine af (x:=()) (by kernel_rfl) ?_
    refine af (by exact rfl) ?_
    refine p_x ?_
    refine ah (vG hB.sl (by omega) (sqC (bes sq ((hd+hdN t)%4))) ⟨rfl,rfl,rfl⟩) ?_
    refine p_x ?_
    have hencq:encP (mkP (bes sq ((hd+hdN t)%4)) ((hd+hdN t)%4) arr6 l4)=[.int .i64 (bes sq ((hd+hdN t)%4)).1,.int .i64 (bes sq ((hd+hdN t)%4)).2,.int .u8 0,.int .i64 (Int.ofNat ((hd+hdN t)%4)),.bool c0,.bool c1,.bool c2,.bool c3,.bool c4,.bool c5,.bool c6,.bool c7,.bool c8,.bool c9,.bool c10,.bool c11]:=by
     unfold encP mkP
     simp only[cells6]
    by_cases hin:(bes sq ((hd+hdN t)%4))∈L
    case neg=>
     rw[qdB λh=>hin (hD.mem.1 h).1]
     refine p_x ?_
     rw[jx (by omega)]
     refine hself7 (h,z,next,seen) (by omega) ⟨hB,hlow,hle,hNx,by show next.length<=_;omega,hDn',hTn,λk hk=>⟨λ_ h _=>absurd h hin,λh=>by omega⟩⟩
    have hmq:sqC (bes sq ((hd+hdN t)%4))∈D:=hD.mem.2 ⟨hin,by show 0<4;omega⟩
    rw[qdC hmq]
    refine p_x ?_
    refine r_luK (kt:=73) encP lW jf ic jk hB.mp (mkP (bes sq ((hd+hdN t)%4)) ((hd+hdN t)%4) arr6 l4) (by rw[hencq]) ?_
    refine p_x ?_
    by_cases hse:mkP (bes sq ((hd+hdN t)%4)) ((hd+hdN t)%4) arr6 l4∈seen
    ·rw[dec_t hse]
     simp(disch:=omega)only[↓qXX,qaI]
     rw[jx (by omega)]
     refine hself7 (h,z,next,seen) (by omega) ⟨hB,hlow,hle,hNx,by show next.length<=_;omega,hDn',hTn,λk hk=>⟨λ_ _ hlp=>hNx.old hk0 hk hse (by show LP L k _ _ (cvA D arr6);rw[hcv];exact hlp),λh=>by omega⟩⟩
    ·rw[dec_f hse]
     simp(disch:=omega)only[↓qXX,qba]
     refine r_muK (kt:=73) encP lW jf ic jk hB.mp (mkP (bes sq ((hd+hdN t)%4)) ((hd+hdN t)%4) arr6 l4) hse (by rw[hencq]) λo hset=>?_
     have hBm:=hB.mark hset
     refine p_x ?_
     refine hBm.nx.ap1 (a:=mkP (bes sq ((hd+hdN t)%4)) ((hd+hdN t)%4) arr6 l4) jl hBm.ln rfl hencq.symm rfl (size48 (by omega)) λy' h' b1 b2 b3 b4 b5=>?_
     refine p_x ?_
     refine ak b2 ?_
     refine p_x ?_
     rw[jx (by omega)]
     have hlow':Low H.length H h':=λi o hi hoo=>b3 i o (bn (hlow i o hi hoo) (by omega)) λe=>by
      have:=(hBm.nx.blk e).1
      omega
     have hln':H.length<=h'.length:=by
      rw[qbl]at b4
      omega
     refine hself7 (h',y',next++[mkP (bes sq ((hd+hdN t)%4)) ((hd+hdN t)%4) arr6 l4],seen++[mkP (bes sq ((hd+hdN t)%4)) ((hd+hdN t)%4) arr6 l4]) (by omega) ⟨hBm.push b1 b3 b4 b5,hlow',hln',hNx.push ⟨hin,hh4⟩ (bk1 hpbk ht3 hcv rfl rfl hin),by show(next++[_]).length<=_;rw[qaB];show next.length+1<=_;omega,hDn'.app _,hTn.app _,λk hk=>⟨λ_ _ hlp=>⟨_,qaK _ (qam.2 rfl),by show LP L k _ _ (cvA D arr6);rw[hcv];exact hlp⟩,λh=>by omega⟩⟩
   ·simp(disch:=omega)only[↓qXX]
    refine af (x:=()) (by kernel_rfl) ?_
    refine af (by exact rfl) ?_
    refine p_x ?_
    refine ah (vG hB.sl (by omega) (sqC sq) ⟨rfl,rfl,rfl⟩) ?_
    refine p_x ?_
    have hencq:encP (mkP sq (((hd+hdN t)%4+2)%4) arr6 l4)=[.int .i64 sq.1,.int .i64 sq.2,.int .u8 0,.int .i64 (Int.ofNat (((hd+hdN t)%4+2)%4)),.bool c0,.bool c1,.bool c2,.bool c3,.bool c4,.bool c5,.bool c6,.bool c7,.bool c8,.bool c9,.bool c10,.bool c11]:=by
     unfold encP mkP
     simp only[cells6]
    by_cases hin:sq∈L
    case neg=>
     rw[qdB λh=>hin (hD.mem.1 h).1]
     refine p_x ?_
     rw[jx (by omega)]
     refine hself7 (h,z,next,seen) (by omega) ⟨hB,hlow,hle,hNx,by show next.length<=_;omega,hDn',hTn,λk hk=>absurd hsq hin⟩
    have hmq:sqC sq∈D:=hD.mem.2 ⟨hin,by show 0<4;omega⟩
    rw[qdC hmq]
    refine p_x ?_
    refine r_luK (kt:=73) encP lW jf ic jk hB.mp (mkP sq (((hd+hdN t)%4+2)%4) arr6 l4) (by rw[hencq]) ?_
    refine p_x ?_
    by_cases hse:mkP sq (((hd+hdN t)%4+2)%4) arr6 l4∈seen
    ·rw[dec_t hse]
     simp(disch:=omega)only[↓qXX,qaI]
     rw[jx (by omega)]
     refine hself7 (h,z,next,seen) (by omega) ⟨hB,hlow,hle,hNx,by show next.length<=_;omega,hDn',hTn,λk hk=>⟨λ_=>(hSn k hk).1 (by omega),λ_ hlp=>hNx.old hk0 hk hse (by show LP L k _ _ (cvA D arr6);rw[hcv];exact hlp)⟩⟩
    ·rw[dec_f hse]
     simp(disch:=omega)only[↓qXX,qba]
     refine r_muK (kt:=73) encP lW jf ic jk hB.mp (mkP sq (((hd+hdN t)%4+2)%4) arr6 l4) hse (by rw[hencq]) λo hset=>?_
     have hBm:=hB.mark hset
     refine p_x ?_
     refine hBm.nx.ap1 (a:=mkP sq (((hd+hdN t)%4+2)%4) arr6 l4) jl hBm.ln rfl hencq.symm rfl (size48 (by omega)) λy' h' b1 b2 b3 b4 b5=>?_
     refine p_x ?_
     refine ak b2 ?_
     refine p_x ?_
     rw[jx (by omega)]
     have hlow':Low H.length H h':=λi o hi hoo=>b3 i o (bn (hlow i o hi hoo) (by omega)) λe=>by
      have:=(hBm.nx.blk e).1
      omega
     have hln':H.length<=h'.length:=by
      rw[qbl]at b4
      omega
     refine hself7 (h',y',next++[mkP sq (((hd+hdN t)%4+2)%4) arr6 l4],seen++[mkP sq (((hd+hdN t)%4+2)%4) arr6 l4]) (by omega) ⟨hBm.push b1 b3 b4 b5,hlow',hln',hNx.push ⟨hin,qbD _ (by omega)⟩ (bk2 hpbk ht3 hcv rfl rfl),by show(next++[_]).length<=_;rw[qaB];show next.length+1<=_;omega,hDn'.app _,hTn.app _,λk hk=>⟨λ_ a b=>((hSn k hk).1 (by omega) a b).app _,λ_ hlp=>⟨_,qaK _ (qam.2 rfl),by show LP L k _ _ (cvA D arr6);rw[hcv];exact hlp⟩⟩⟩)
 exact⟨h',e1,e2⟩
namespace St
section
variable {H:HL} {x:Value} {D:List K3}
def pZ(hl:LsH H x 3 cc3 D)(hn:D.length<=800)(hq:∀a∈D,a.2.2<=255)(he:chkC D≠0) :
  ∃h',aw cc ab 10 [.v x] (absH aa H) [.i 0,.i (chkC D)] (absH aa h')/\Low H.length H h'/\H.length<=h'.length:=by
 obtain⟨h1,hcall,hlow,hle⟩:=jh hl hn hq
 refine⟨h1,xK x10 (glsV hl.good gls0) ?_,hlow,hle⟩
 unfold f10;simp only[qxh]
 refine p_x ?_
 refine ah hcall ?_
 simp(disch:=omega)only[↓qXX]
 trivial
def leastE_c(hl:LsH H x 3 cc3 D)(hn:D.length<=800)(hq:∀a∈D,a.2.2<=255)(he:chkC D≠0) :
  ∃h',aw cc ab 15 [.v x] (absH aa H) [.i 0,.i (chkC D)] (absH aa h')/\Low H.length H h'/\H.length<=h'.length:=by
 obtain⟨h1,hcall,hlow,hle⟩:=pZ hl hn hq he
 refine⟨h1,xK x15 (glsV hl.good gls0) ?_,hlow,hle⟩
 unfold f15;simp only[qxh]
 refine p_x ?_
 refine ah hcall ?_
 simp(disch:=omega)only[↓qXX]
 trivial
def leastL_c{L:List Sq}(hl:LsH H x 3 cc3 D)(hD:Go.Am.SetOf L D)(hn3:3<L.length)(hn:L.length<=200)(hnd:L.Nodup)(hcon:Con L)(hb:∀c∈L,(-4096<=c.1/\c.1<=4096)/\-4096<=c.2/\c.2<=4096) :
  ∃h',aw cc ab 15 [.v x] (absH aa H) [.i 0,.i 3] (absH aa h')/\Low H.length H h'/\H.length<=h'.length:=by
 obtain⟨h1,hcall,hlow,hle⟩:=kV hl hD (by omega) hn hnd hcon hb
 refine⟨h1,xK x15 (glsV hl.good gls0) ?_,hlow,hle⟩
 unfold f15;simp only[qxh]
 refine p_x ?_
 refine ah hcall ?_
 refine p_x ?_
 rw[p_gtr_t (by show(3:Int)<(L.length:Int);omega)]
 simp(disch:=omega)only[↓qXX]
 trivial
def walkE_c(hl:LsH H x 3 cc3 D)(hn:D.length<=800)(hq:∀a∈D,a.2.2<=255)(he:chkC D≠0) :
  ∃h',aw cc ab 7 [.v x] (absH aa H) [.v (.slice none 0 0),.i 0,.i 0,.i 0,.i (chkC D)] (absH aa h')/\Low H.length H h'/\H.length<=h'.length:=by
 have hl1:LsH (H++[HO.o (.cells [.slice none 0 0] 1 true)]) x 3 cc3 D:=hl.pre ⟨_,rfl⟩
 have hlen1:(H++[HO.o (.cells [.slice none 0 0] 1 true)]).length=H.length+1:=by simp
 obtain⟨h2,hcall,hlow2,hle2⟩:=jh hl1 hn hq
 have hw2:h2[H.length]?=some (.o (.cells [.slice none 0 0] 1 true)):=hlow2 _ _ (by rw[hlen1];omega) aH
 have hH2:Low H.length H h2:=((Low.refl H).app _).trans (hlow2.le (by rw[hlen1];omega))
 rw[hlen1]at hle2
 refine⟨h2,xK x7 (glsV hl.good gls0) ?_,hH2,by omega⟩
 unfold f7;simp only[qxh]
 refine p_x ?_
 refine ah hcall ?_
 refine p_x ?_
 refine gi hw2 rfl ?_
 try simp(disch:=omega)only[↓qXX]
 have e12:h2.set H.length (.o (.cells [.slice none 0 0] 1 true))=h2:=eK hw2
 rw[e12]
 refine dc ((bv hw2).ld rfl) ?_
 simp(disch:=omega)only[↓qXX]
 trivial
end
def nm_ex{L:List Sq}:∀ {K:Nat},StL L K->∃k0,k0<=K/\Nm L k0:=by
 intro K
 induction K using Nat.strongRecOn with
 |ind K ih=>
  intro h
  by_cases he:∃k,k<K/\StL L k
  ·obtain⟨k,h1,h2⟩:=he
   obtain⟨k0,h3,h4⟩:=ih k h1 h2
   exact⟨k0,by omega,h4⟩
  ·exact⟨K,qaf _,h,λk hk hs=>he ⟨k,hk,hs⟩⟩
def least3_c{H:HL}{x:Value}{L:List Sq}{D:List K3}(hl:LsH H x 3 cc3 D)(hD:Go.Am.SetOf L D)(h0:0<L.length)(hn:L.length<=3)(hnd:L.Nodup)(hcon:Con L)(hb:∀c∈L,(-4096<=c.1/\c.1<=4096)/\-4096<=c.2/\c.2<=4096) :
  ∃h' n,aw cc ab 15 [.v x] (absH aa H) [.i n,.i 0] (absH aa h')/\Low H.length H h'/\H.length<=h'.length:=by
 obtain⟨c,hc⟩:=aP (l:=L) (i:=0) h0
 have hm:=qab hc
 have hall:=(top_all hm hcon).2
 obtain⟨k0,hk0,hNm⟩:=nm_ex (L:=L) ⟨_,hm,hall⟩
 have hlen:nmv ((topT L c).steps.take (topT L c).last)<=12:=by
  have h:=(iI L (free L []) c ⟨[],[],0,0⟩ ev0 hm (by simp) (qaf _)).2
  have hev:=(iI L (free L []) c ⟨[],[],0,0⟩ ev0 hm (by simp) (qaf _)).1
  have hl:=bu hev.nd hev.sub
  change (topT L c).steps.length+6*0+6<=0+6*(topT L c).been.length at h
  change (topT L c).been.length<=_ at hl
  refine qbh (qce _ _) ?_
  rw[qaG]
  omega
 obtain⟨h',z1,z2,z3⟩:=Go.Am.least_c hl hD h0 hn hnd hcon hb hNm (by omega)
 exact⟨h',_,z1,z2,z3⟩
end St
end Go.Am
namespace Go.Am
open Sx Go.Proofs
def eqOn(a b:Tp):Bool:=match a,b with
 |none,none=>true
 |some a,some b=>Nat.beq a b
 |_,_=>false
def eqOn_ok{a b:Tp}(h:eqOn a b=true):a=b:=by
 cases a<;>cases b<;>first|rfl|(cases h;done)|exact congrArg some (qac h)
def eqVs(x y:Value):Bool:=match x,y with
 | .slice (some a) n c,.slice (some b) m d=>Nat.beq a.block b.block&&(Nat.beq a.off b.off&&(eqOn a.spot b.spot&&(Nat.beq n m&&Nat.beq c d)))
 | .slice none 0 0,.slice none 0 0=>true
 |_,_=>false
def eqVs_ok{x y:Value}(h:eqVs x y=true):x=y:=by
 unfold eqVs at h
 split at h
 next a n c b m d=>
  simp only[qaa]at h
  obtain⟨h1,h2,h3,h4,h5⟩:=h
  have h1:=qac h1
  have h2:=qac h2
  have h3:=eqOn_ok h3
  have h4:=qac h4
  have h5:=qac h5
  have e:a=b:=by
   cases a;cases b
   simp only at *
   simp_all
  rw[e,h4,h5]
 ·rfl
 ·cases h
def eqLg(x y:Lf):Bool:=match x,y with
 | .v x,.v y=>eqVs x y
 |x,y=>eqLf x y
def eqLg_ok{x y:Lf}(h:eqLg x y=true):x=y:=by
 unfold eqLg at h
 split at h
 ·rw[eqVs_ok h]
 ·exact oV h
def eqLgs:TE->TE->Bool
 | [],[]=>true
 |x :: l,y :: m=>eqLg x y&&eqLgs l m
 |_,_=>false
def vz:∀ {l m:TE},eqLgs l m=true->l=m
 | [],[],_=>rfl
 |x :: l,y :: m,h=>by
  simp only[eqLgs,qaa]at h
  rw[eqLg_ok h.1,vz h.2]
 | [],_ :: _,h=>by cases h
 |_ :: _,[],h=>by cases h
abbrev Bls:=List (Nat×List Value)
def blH(bl:Bls):Ts:=bl.map λb=>.cells b.2 b.1 false
def isBl:Bls->HTr->Nat->Bool
 | [],h,i=>Nat.beq h.n i
 |b :: bl,h,i=>(match h.at i with
  |some (.t n e false c)=>Nat.beq n b.2.length&&(Nat.beq e b.1&&qF c b.2 0)
  |_=>false)&&isBl bl h (i+1)
def isBl_ok:∀ {bl:Bls} {h:HTr} {i:Nat},isBl bl h i=true->h.n=i+bl.length/\∀j (hj:j<bl.length),(toL h)[i+j]?=some (.o (.cells bl[j].2 bl[j].1 false))/\bl[j].2.all flat=true
 | [],h,i,hb=>⟨(qac hb),λj hj=>by simp at hj⟩
 |b :: bl,h,i,hb=>by
  simp only[isBl,qaa]at hb
  obtain⟨h1,h2⟩:=hb
  obtain⟨h3,h4⟩:=isBl_ok h2
  refine⟨by rw[h3];simp;omega,λj hj=>?_⟩
  cases j with
  |succ j=>
   have:=h4 j (by simpa using hj)
   rw[show i+(j+1)=i+1+j by omega]
   simpa using this
  |zero=>
   split at h1
   next n e c hat=>
    simp only[qaa]at h1
    obtain⟨q1,q2,q3⟩:=h1
    have q1:=qac q1
    have q2:=qac q2
    obtain⟨q4,q5⟩:=oU q3
    refine⟨?_,q5⟩
    rw[qca,ja,hat]
    show some (HO.o (.cells (bS c n) e false))=some (HO.o (.cells b.2 b.1 false))
    subst q1 q2
    have hc:bS c b.2.length=b.2:=by
     apply List.ext_getElem
     ·rw[ba]
     ·intro k hk hk'
      have:=dG c (i:=k) (n:=b.2.length) hk'
      rw[qai hk]at this
      rw[qae this,←q4 k hk',qaL]
    rw[hc]
   ·cases h1
def isBl_abs{T:Tt}{bl:Bls}{h:HTr}(hb:isBl bl h 0=true):absH T (toL h)=blH bl/\h.n=bl.length:=by
 obtain⟨h1,h2⟩:=isBl_ok hb
 refine⟨?_,by rw[h1];omega⟩
 apply qa0
 intro j
 unfold absH blH
 rw[qaz,qaz]
 by_cases hj:j<bl.length
 ·have:=(h2 j hj).1
  rw[qaL]at this
  rw[this,qai hj];rfl
 ·rw[qaj (by rw[cU];omega),qaj (by omega)];rfl
structure KR1 where
 f:Nat
 ls:List Lf
 bl:Bls
 rs:List Lf
def re(l:List KR1)(f:Nat)(ls:TE)(h:HTr):Option (TE):=match l with
 | []=>none
 |p :: l=>match Nat.beq p.f f with
  |false=>re l f ls h
  |true=>match eqLgs p.ls ls with
   |false=>re l f ls h
   |true=>match isBl p.bl h 0 with
    |false=>re l f ls h
    |true=>some p.rs
def tj{f:Nat}{ls rs:TE}{h:HTr}:∀ {l:List KR1},re l f ls h=some rs->∃p∈l,p.f=f/\p.ls=ls/\isBl p.bl h 0=true/\p.rs=rs
 | [],hh=>by cases hh
 |p :: l,hh=>by
  have rec_:re l f ls h=some rs->∃p'∈p :: l,p'.f=f/\p'.ls=ls/\isBl p'.bl h 0=true/\p'.rs=rs:=λh1=>by
   obtain⟨q,q1,q2⟩:=tj h1
   exact⟨q,qap _ q1,q2⟩
  unfold re at hh
  split at hh
  ·exact rec_ hh
  next e1=>
   split at hh
   ·exact rec_ hh
   next e2=>
    split at hh
    ·exact rec_ hh
    next e3=>
     cases hh
     exact⟨p,qaE,qac e1,vz e2,e3,rfl⟩
def hasR(l:List KR1)(f:Nat):Bool:=match l with
 | []=>false
 |p :: l=>match Nat.beq p.f f with
  |true=>true
  |false=>hasR l f
def runKR(l:List KR1)(c:ae):ae:=λck=>match ck with
 | .f f=>match hasR l f with
  |false=>c (.f f)
  |true=>λls h K=>ext h (c (.f f) ls h K) ls .empty λls0 h0=>@Option.rec _ (λ_=>RT) (c (.f f) ls h K) (λrs=>K rs h) (re l f ls0 h0)
 | .y κ vs i=>c (.y κ vs i)
def KROk(p:KR1):Prop:=∃sg H',ab p.f=some sg/\sg.rs.all SK.plain=true/\neuN p.f=none/\aw cc ab p.f p.ls (blH p.bl) p.rs H'
def AllR(l:List KR1):Prop:=∀p∈l,KROk p
def AllR.nil:AllR []:=λ_ h=>by cases h
def AllR.cons{p:KR1}{l:List KR1}(h:KROk p)(hl:AllR l):AllR (p :: l):=λq hq=>by
 rcases qal.1 hq with rfl|hq
 ·exact h
 ·exact hl q hq
def AllR.app{l m:List KR1}(h:AllR l)(hm:AllR m):AllR (l++m):=λp hp=>by
 rcases qau.1 hp with hp|hp
 ·exact h p hp
 ·exact hm p hp
def runKR_ok{l:List KR1}{c:ae}(hc:Cok c)(hl:AllR l):Cok (runKR l c):=by
 refine⟨λf ls h K w hls hk=>?_,λκ vs i ls h K w st pd xs e hy hk=>hc.y κ vs i ls h K w st pd xs e hy hk⟩
 have hk:(match hasR l f with
  |false=>c (.f f)
  |true=>λls h K=>ext h (c (.f f) ls h K) ls .empty λls0 h0=>@Option.rec _ (λ_=>RT) (c (.f f) ls h K) (λrs=>K rs h) (re l f ls0 h0)) ls h K=some w:=hk
 cases ef:hasR l f with
 |false=>rw[ef]at hk;exact hc.f f ls h K w hls hk
 |true=>
  rw[ef]at hk
  rcases mV (T:=aa) ls .empty _ id (λj o hj=>by cases hj) hk with h1|⟨ls0,h1,σ,a1,_,_,a4,a5,a6⟩
  ·exact hc.f f ls h K w hls h1
  ·cases e:re l f ls0 h1 with
   |none=>rw[e]at a1;exact hc.f f ls h K w hls a1
   |some rs=>
    rw[e]at a1
    obtain⟨p,hp,rfl,rfl,q3,rfl⟩:=tj e
    obtain⟨sg,H',s1,s2,s3,s4⟩:=hl p hp
    obtain⟨q4,q5⟩:=isBl_abs (T:=aa) q3
    rw[←q4]at s4
    have key:=ug (N:=neuN) mixed gM s1 s2 s3 (H:=absH aa (toL h)) σ s4 a4 (λx hx=>by
     have:=a6 x hx
     rw[du,cU]
     exact this)
    rw[a5]at key
    exact⟨_,h,key,a1⟩
def mkBl(bl:Bls):HTr->(HTr->RT)->RT:=@List.rec _ (λ_=>HTr->(HTr->RT)->RT) (λh k=>k h) (λb _ ih h k=>oA (.cells b.2 b.1 false) λx=>gR h x λh=>ih h k) bl
def mkBl_ok:∀(bl:Bls) (h:HTr) (k:HTr->RT),∃h',mkBl bl h k=k h'/\absH aa (toL h')=absH aa (toL h)++blH bl
 | [],h,k=>⟨h,rfl,by simp[blH]⟩
 |b :: bl,h,k=>by
  have e:mkBl (b :: bl) h k=oA (.cells b.2 b.1 false) λx=>gR h x λh=>mkBl bl h k:=rfl
  obtain⟨x,x1,x2⟩:=ig (o:=.cells b.2 b.1 false) (k:=λx=>gR h x λh=>mkBl bl h k)
  obtain⟨h',a1,a2⟩:=mkBl_ok bl (h.push x) k
  refine⟨h',by rw[e,x2,eZ,a1],?_⟩
  rw[a2,fe,x1]
  simp[absH,absO,blH]
def nl{p:KR1}{g:FB}(hc:Ent p.f g){sg:Sig}(h1:ab p.f=some sg)(h2:sg.rs.all SK.plain=true)(h3:neuN p.f=none)(h4:cR p.ls)(h:(mkBl p.bl .empty λh=>@Option.rec _ (λ_=>RT) none (λrs=>ans (eqLs rs p.rs)) (g p.ls h tell))=yes):KROk p:=by
 obtain⟨h',a1,a2⟩:=mkBl_ok p.bl .empty λh=>@Option.rec _ (λ_=>RT) none (λrs=>ans (eqLs rs p.rs)) (g p.ls h tell)
 rw[a1]at h
 cases e:g p.ls h' tell with
 |none=>rw[e]at h;cases h
 |some rs=>
  rw[e]at h
  have h:ans (eqLs rs p.rs)=yes:=h
  have h:=gZ (ans_yes h)
  subst h
  obtain⟨rs',h'',b1,b2⟩:=hc p.ls h' tell _ h4 e
  rw[kW]at b2
  cases b2
  have e0:absH aa (toL HTr.empty)=[]:=rfl
  rw[e0,qa3]at a2
  rw[a2]at b1
  exact⟨sg,_,h1,h2,h3,b1⟩
def known_c{g:Nat}{w:FB}(hc:Ent g w){ls rs:TE}{sg:Sig}(hs:ab g=some sg)(hp:sg.plain=true)(hg:gN ls=true)(h:isAns rs (w ls .empty tell)=true):∀H,aw cc ab g ls H rs H:=by
 cases e:w ls .empty tell with
 |none=>rw[e]at h;cases h
 |some rs'=>
  rw[e]at h
  have h:eqLs rs' rs=true:=h
  rw[gZ h]at e
  obtain⟨rs'',h',a1,a2⟩:=hc ls .empty tell _ (cG hg) e
  rw[kW]at a2
  cases a2
  exact ru g sg ls _ _ hs hp a1
end Go.Am
end

/-
  PART 8 OF THE PROOF (no conditions).
-/
import Derived.Test.YtiimabnndpeioaaGreatDoorSK7
import Derived.SevenTiedAt
import Derived.Test.YtiimabnndpeioaaGreatDoorCards
import Derived.Test.YtiimabnndpeioaaGreatDoorTie
set_option linter.unusedSectionVars false
set_option linter.unusedSimpArgs false
set_option linter.unusedVariables false
set_option linter.constructorNameAsVariable false
set_option linter.defProp false
noncomputable section
set_option maxRecDepth 100000
set_option maxHeartbeats 16000000
namespace Go.Am
open Sx Go.Proofs Go.Shelf Go.Lib Go.Sort
def xe:Cc 70 [.i 0] [.i 0]:=io (n:=20) rfl (by kernel_rfl) rfl (by kernel_rfl)
structure RdH(c:BC)(h:HL)(kv:Value)(m:Nat)(hg:TA):Prop where
 mp:h[m]?=some (.o (.cells [ptrB c.bm] 1 true))
 bl:h[c.bm]?=some (.o (.cells (bG c kv) 8 true))
 hl:LsH h c.hg 1 encN ((List.range (4*c.w*c.v)).map hg)
def rdS(c:BC)(m:Nat)(i:Nat):Bool:=Nat.beq i m||Nat.beq i c.bm||(match blk c.hg with
 |some j=>Nat.beq i j
 |none=>false)
def rdS_f{c:BC}{m i:Nat}(h1:i≠m)(f:i≠c.bm)(g:blk c.hg≠some i):rdS c m i=false:=by
 unfold rdS;have e:∀a b:Nat,a≠b->Nat.beq a b=false:=λa b h=>by
  cases k:Nat.beq a b with
  |true=>exact absurd (qad k) h
  |false=>rfl
 rw[e _ _ h1,e _ _ f];cases l:blk c.hg with
 |none=>rfl
 |some j=>exact e _ _ λd=>g (by rw[l,d])
def RdH.ro{c:BC}{h:HL}{j:Value}{m:Nat}{hg:TA}(b:RdH c h j m hg):(roL (rdS c m) h)[m]?=some (.o (.cells [ptrB c.bm] 1 false))/\(roL (rdS c m) h)[c.bm]?=some (.o (.cells (bG c j) 8 false))/\LsH (roL (rdS c m) h) c.hg 1 encN ((List.range (4*c.w*c.v)).map hg):=by
 have e:∀a:Nat,Nat.beq a a=true:=λa=>qbK a;refine⟨wg b.mp (by unfold rdS;rw[e];rfl),wg b.bl (by unfold rdS;rw[e,Bool.or_true];rfl),?_⟩;obtain⟨f,g,l|⟨id,d,k,r,q,i,n,p⟩⟩:=b.hl
 ·exact⟨f,g,.inl l⟩
 ·refine⟨f,g,.inr ⟨id,d,k,r,false,i,wg n ?_,p⟩⟩;unfold rdS;rw[i];show(_||Nat.beq id id)=true;rw[e,Bool.or_true]
def iD{h:HL}{b e:Nat}{cs:Tk}{a:Bool}(c:h[b]?=some (.o (.cells cs e a))):Ptr h (ptrB b) cs:=⟨b,0,cs,e,a,rfl,c,Sx.cut_all rfl⟩
def s73_c{c:BC}{H:HL}{p:Value}{m:Nat}{hg:TA}(h:H[m]?=some (.o (.cells [ptrB c.bm] 1 false)))(g:H[c.bm]?=some (.o (.cells (bG c p) 8 false)))(e:LsH H c.hg 1 encN ((List.range (4*c.w*c.v)).map hg)){a a':Nat}(b k:Int)(l:a<4*c.w*c.v)(f:a'<4*c.w*c.v) :
  aB cc ab 73 [.i (Int.ofNat a),.i b,.i (Int.ofNat a'),.i k,.v (ptrB m)] (absH aa H) [.i (cmpI (Int.ofNat (hg a)) (Int.ofNat (hg a')))] (absH aa H):=by
 have d:∀j,j<4*c.w*c.v->((List.range (4*c.w*c.v)).map hg)[j]?=some (hg j):=λj n=>by rw[qan,qbc n];rfl
 exact xK x73 (glsI (glsI (glsI (glsI (glsV (aX _) gls0))))) (by
  unfold f73;simp only[qxh];refine p_x ?_;refine cN (iD h) rfl ?_;refine p_x ?_;refine ac (aX _) ?_;refine p_y ?_;refine ae (x:=ptrB c.bm) rfl (ac (aX _) ?_);refine iB (ds:=[c.hg]) (iD g) (by simp[bG]) rfl ?_;refine p_x ?_;refine ac e.good ?_;refine p_y ?_;refine aQ e rfl (d a l) ?_;rw[show encN (hg a)=[.int .i64 (Int.ofNat (hg a))]from rfl];refine p_x ?_;refine cN (iD h) rfl ?_;refine p_x ?_;refine ac (aX _) ?_;refine p_y ?_;refine ae (x:=ptrB c.bm) rfl (ac (aX _) ?_);refine iB (ds:=[c.hg]) (iD g) (by simp[bG]) rfl ?_;refine p_x ?_;refine ac e.good ?_;refine p_y ?_;refine aQ e rfl (d a' f) ?_;rw[show encN (hg a')=[.int .i64 (Int.ofNat (hg a'))]from rfl];refine p_x ?_;refine ah (cmp_c _ _) ?_;simp(disch:=omega)only[↓qXX];trivial)
def nan8_c(a:Int):Cc 119 [.i a] [.b false]:=by
 refine q119 rfl ?_;unfold f119;simp only[qxh];simp(disch:=omega)only[↓qXX]
def cmp8_c(a b:Int):Cc 76 [.i a,.i b] [.i (cmpI a b)]:=by
 refine q76 rfl ?_;unfold f76;simp only[qxh]
 repeat (first|simp(disch:=omega)only[↓qXX]|refine ah (nan8_c a) ?_|refine ah (nan8_c b) ?_)
 unfold cmpI;by_cases c:a<b
 ·simp(disch:=omega)only[↓qXX];simp[c]
 ·by_cases d:b<a
  ·simp(disch:=omega)only[↓qXX];simp[c,d]
  ·simp(disch:=omega)only[↓qXX];simp[c,d]
def s75_c{c:BC}{H:HL}{z:Value}{m:Nat}{hg:TA}(q:H[m]?=some (.o (.cells [ptrB c.bm] 1 false)))(p:H[c.bm]?=some (.o (.cells (bG c z) 8 false)))(g:LsH H c.hg 1 encN ((List.range (4*c.w*c.v)).map hg)){a a':Nat}(s f b n:Int)(u:a<4*c.w*c.v)(h:a'<4*c.w*c.v) :
  ∃H',aB cc ab 75 [.i s,.i (Int.ofNat a),.i b,.i f,.i (Int.ofNat a'),.i n,.v (ptrB m)] (absH aa H) [.i (orI [cmpI s f,cmpI (Int.ofNat (hg a)) (Int.ofNat (hg a'))])] (absH aa H'):=by
 have d:∀j,j<4*c.w*c.v->((List.range (4*c.w*c.v)).map hg)[j]?=some (hg j):=λj y=>by rw[qan,qbc y];rfl
 have k:=x75 (ls:=[.i s,.i (Int.ofNat a),.i b,.i f,.i (Int.ofNat a'),.i n,.v (ptrB m)]) (K:=λr _=>r=[.i (orI [cmpI s f,cmpI (Int.ofNat (hg a)) (Int.ofNat (hg a'))])]) (H:=H) (glsI (glsI (glsI (glsI (glsI (glsI (glsV (aX _) gls0))))))) (by
  unfold f75;simp only[qxh];refine p_x ?_;refine ah (cmp8_c _ _) ?_;refine p_x ?_;refine cN (iD q) rfl ?_;refine p_x ?_;refine ac (aX _) ?_;refine p_y ?_;refine ae (x:=ptrB c.bm) rfl (ac (aX _) ?_);refine iB (ds:=[c.hg]) (iD p) (by simp[bG]) rfl ?_;refine p_x ?_;refine ac g.good ?_;refine p_y ?_;refine aQ g rfl (d a u) ?_;rw[show encN (hg a)=[.int .i64 (Int.ofNat (hg a))]from rfl];refine p_x ?_;refine cN (iD q) rfl ?_;refine p_x ?_;refine ac (aX _) ?_;refine p_y ?_;refine ae (x:=ptrB c.bm) rfl (ac (aX _) ?_);refine iB (ds:=[c.hg]) (iD p) (by simp[bG]) rfl ?_;refine p_x ?_;refine ac g.good ?_;refine p_y ?_;refine aQ g rfl (d a' h) ?_;rw[show encN (hg a')=[.int .i64 (Int.ofNat (hg a'))]from rfl];refine p_x ?_;refine ah (cmp_c _ _) ?_;refine p_x ?_;refine ai (or_c (l:=[cmpI s f,cmpI (Int.ofNat (hg a)) (Int.ofNat (hg a'))]) (vP (e:=1) (enc:=encI1) (λ_=>rfl) rfl) (by simp)) ?_;simp(disch:=omega)only[↓qXX])
 obtain⟨r,H',t,rfl⟩:=k;exact⟨H',t⟩
def nilP_c{H:HL}{f:Value}(a:az f=true):aB cc ab 72 [.v (.slice none 0 0),.v f] (absH aa H) [] (absH aa H):=by
 have b:aB cc ab 144 [.v (.slice none 0 0),.i 0,.i 0,.v f] (absH aa H) [] (absH aa H):=by
  exact xK x144 (glsV rfl (glsI (glsI (glsV a gls0)))) (by
   unfold f144;simp only[qxh]
   repeat (first|simp(disch:=omega)only[↓qXX]|refine gz 2 ?_)
   trivial)
 have c:aB cc ab 117 [.v (.slice none 0 0),.i 0,.i 0,.i 0,.v f] (absH aa H) [] (absH aa H):=by
  exact xK x117 (glsV rfl (glsI (glsI (glsI (glsV a gls0))))) (by
   unfold f117;simp only[qxh]
   repeat (first|simp(disch:=omega)only[↓qXX]|refine gz 2 ?_)
   refine ai b ?_
   repeat (first|simp(disch:=omega)only[↓qXX])
   trivial)
 exact xK x72 (glsV rfl (glsV a gls0)) (by
  unfold f72;simp only[qxh];refine p_x ?_;refine ae (x:=(0:Int)) rfl ?_;refine p_y ?_;refine oL (by omega) (by omega) ?_;refine p_y ?_;refine ah xe ?_;refine p_x ?_;refine ai c ?_;simp(disch:=omega)only[↓qXX];trivial)
def nilO_c{H:HL}{f:Value}(a:az f=true):aB cc ab 74 [.v (.slice none 0 0),.v f] (absH aa H) [] (absH aa H):=by
 have b:aB cc ab 152 [.v (.slice none 0 0),.i 0,.i 0,.v f] (absH aa H) [] (absH aa H):=by
  exact xK x152 (glsV rfl (glsI (glsI (glsV a gls0)))) (by
   unfold f152;simp only[qxh]
   repeat (first|simp(disch:=omega)only[↓qXX]|refine gz 2 ?_)
   trivial)
 have c:aB cc ab 118 [.v (.slice none 0 0),.i 0,.i 0,.i 0,.v f] (absH aa H) [] (absH aa H):=by
  exact xK x118 (glsV rfl (glsI (glsI (glsI (glsV a gls0))))) (by
   unfold f118;simp only[qxh]
   repeat (first|simp(disch:=omega)only[↓qXX]|refine gz 2 ?_)
   refine ai b ?_
   repeat (first|simp(disch:=omega)only[↓qXX])
   trivial)
 exact xK x74 (glsV rfl (glsV a gls0)) (by
  unfold f74;simp only[qxh];refine p_x ?_;refine ae (x:=(0:Int)) rfl ?_;refine p_y ?_;refine oL (by omega) (by omega) ?_;refine p_y ?_;refine ah xe ?_;refine p_x ?_;refine ai c ?_;simp(disch:=omega)only[↓qXX];trivial)
def nilK_c{H:HL}{f:Value}(a:az f=true):aB cc ab 27 [.v (.slice none 0 0),.v f] (absH aa H) [] (absH aa H):=by
 have b:aB cc ab 107 [.v (.slice none 0 0),.i 0,.i 0,.v f] (absH aa H) [] (absH aa H):=by
  exact xK x107 (glsV rfl (glsI (glsI (glsV a gls0)))) (by
   unfold f107;simp only[qxh]
   repeat (first|simp(disch:=omega)only[↓qXX]|refine gz 2 ?_)
   trivial)
 have c:aB cc ab 69 [.v (.slice none 0 0),.i 0,.i 0,.i 0,.v f] (absH aa H) [] (absH aa H):=by
  exact xK x69 (glsV rfl (glsI (glsI (glsI (glsV a gls0))))) (by
   unfold f69;simp only[qxh]
   repeat (first|simp(disch:=omega)only[↓qXX]|refine gz 2 ?_)
   refine ai b ?_
   repeat (first|simp(disch:=omega)only[↓qXX])
   trivial)
 exact xK x27 (glsV rfl (glsV a gls0)) (by
  unfold f27;simp only[qxh];refine p_x ?_;refine ae (x:=(0:Int)) rfl ?_;refine p_y ?_;refine oL (by omega) (by omega) ?_;refine p_y ?_;refine ah xe ?_;refine p_x ?_;refine ai c ?_;simp(disch:=omega)only[↓qXX];trivial)
def nilI_c{H:HL}:aB cc ab 77 [.v (.slice none 0 0)] (absH aa H) [] (absH aa H):=by
 have a:aB cc ab 160 [.v (.slice none 0 0),.i 0,.i 0] (absH aa H) [] (absH aa H):=by
  exact xK x160 (glsV rfl (glsI (glsI gls0))) (by
   unfold f160;simp only[qxh]
   repeat (first|simp(disch:=omega)only[↓qXX]|refine gz 2 ?_)
   trivial)
 have b:aB cc ab 120 [.v (.slice none 0 0),.i 0,.i 0,.i 0] (absH aa H) [] (absH aa H):=by
  exact xK x120 (glsV rfl (glsI (glsI (glsI gls0)))) (by
   unfold f120;simp only[qxh]
   repeat (first|simp(disch:=omega)only[↓qXX]|refine gz 2 ?_)
   refine ai a ?_
   repeat (first|simp(disch:=omega)only[↓qXX])
   trivial)
 exact xK x77 (glsV rfl gls0) (by
  unfold f77;simp only[qxh];refine p_x ?_;refine ae (x:=(0:Int)) rfl ?_;refine p_y ?_;refine oL (by omega) (by omega) ?_;refine p_y ?_;refine ah xe ?_;refine p_x ?_;refine ai b ?_;simp(disch:=omega)only[↓qXX];trivial)
def mF{c e:Nat}{α:Type}{enc:α->Tk}{h:HL}{id cx:Nat}{l l':List α}(hid:h[id]?=some (.o (.cells (l.flatMap enc) e true)))(h1:c<=id)(a:cx=0∨cx=l.length+1)(b:l'.length=l.length):OwnL c (h.set id (.o (.cells (l'.flatMap enc) e true))) (.slice (some ⟨id,0,tag e⟩) l.length cx) e enc l':=
 .inr ⟨id,cx,by rw[b],h1,fc hid,by rw[b];exact a⟩
def sortP_c{c:BC}{h:HL}{V:Value}{m:Nat}{hg:TA}(r:RdH c h V m hg){O:Nat}{v:Value}{l:List Pq}(U:OwnL O h v 2 jt l)(k:l=[]->v = .slice none 0 0)(G:0<4*c.w*c.v)(I:∀p∈l,p.1<4*c.w*c.v/\p.2<4*c.w*c.v)(T:l.length<=1000) :
  ∃(l':List Pq) (h':HL),aB cc ab 72 [.v v,.v (.func (.func 73) ⟨[]⟩ ⟨[ptrB m]⟩)] (absH aa h) [] (absH aa h')/\l'.Perm l/\l'.Pairwise (λa b=>¬hg b.1<hg a.1)/\OwnL O h' v 2 jt l'/\(∀(j:Nat) o,h[j]?=some o->blk v≠some j->h'[j]?=some o)/\h'.length=h.length:=by
 rcases U with⟨rfl,rfl⟩|⟨id,cx,rfl,W,n,X⟩
 ·exact⟨[],h,nilP_c (show az (.func (.func 73) ⟨[]⟩ ⟨[ptrB m]⟩)=true from rfl),qca _,.nil,.inl ⟨rfl,rfl⟩,λj o t _=>t,rfl⟩
 have D:0<l.length:=qbd.2 λe=>by have:=k e;cases this
 obtain⟨J,P⟩ : ∃J:List (Fin (4*c.w*c.v)×Fin (4*c.w*c.v)),J.map (λx=>((x.1.val,x.2.val):Pq))=l:=jV λp K=>by
  exact⟨(⟨p.1,(I p K).1⟩,⟨p.2,(I p K).2⟩),rfl⟩
 subst P;obtain⟨Y,Z,r3⟩:=r.ro;have C:∀L:List (Fin (4*c.w*c.v)×Fin (4*c.w*c.v)),(L.map (λx=>((x.1.val,x.2.val):Pq))).flatMap jt=L.flatMap λx=>jt ((λx=>((x.1.val,x.2.val):Pq)) x):=λL=>by rw[qcj]
 let _:Inhabited (Fin (4*c.w*c.v)×Fin (4*c.w*c.v)):=⟨(⟨0,G⟩,⟨0,G⟩)⟩
 have q:SWO (ltOf λx y:(Fin (4*c.w*c.v)×Fin (4*c.w*c.v))=>cmpI (Int.ofNat (hg x.1.val)) (Int.ofNat (hg y.1.val))):=wx (R:=λx y=>hg x.1.val<hg y.1.val) (λx y=>cmpI_l.trans qcl) (λx h=>Nat.lt_irrefl _ h) (λx y z E F=>Nat.lt_trans E F) (λx y z E F=>by omega);rw[qaB]at D T;have d:=sortG layP (λw=>by kernel_rfl) (λw=>by kernel_rfl) (enc:=λx:(Fin (4*c.w*c.v)×Fin (4*c.w*c.v))=>jt ((λx=>((x.1.val,x.2.val):Pq)) x)) (e:=2) (λ_=>rfl) (λx u M=>by
  simp only[jt,qax,qb5,or_false]at M;rcases M with rfl|rfl<;>rfl) q (g:=73) (λB w=>by kernel_rfl) (S:=rdS c m) (H:=h) (caps:=[ptrB m]) rfl (λx y=>by
  have Q:=s73_c Y Z r3 (Int.ofNat x.2.val) (Int.ofNat y.2.val) x.1.isLt y.1.isLt;refine⟨absH aa (roL (rdS c m) h),?_⟩;rw[←qW];exact ft (N:=neuN) mixed (Sg:=ab) (sg:=⟨[.agg [.i .i64,.i .i64],.agg [.i .i64,.i .i64],lv],[li]⟩) rfl Q (xs:=[.agg [.i .i64 (Int.ofNat x.1.val),.i .i64 (Int.ofNat x.2.val)],.agg [.i .i64 (Int.ofNat y.1.val),.i .i64 (Int.ofNat y.2.val)],.leaf (.v (ptrB m))]) rfl rfl (ys:=[.leaf (.i .i64 (cmpI (Int.ofNat (hg x.1.val)) (Int.ofNat (hg y.1.val))))]) rfl rfl) (id:=id) (cx:=cx) (J:=J) (by rw[←C];exact n) (rdS_f (λe=>by
   subst e;have:=eR n;rw[eR r.mp]at this;cases this) (λe=>by
   subst e;have:=eR n;rw[eR r.bl]at this;cases this) (λe=>by
   have:=vG r.hl e;rw[eR n]at this;cases this)) D (by omega) rfl (by kernel_rfl)
 refine⟨(srt (λx y:(Fin (4*c.w*c.v)×Fin (4*c.w*c.v))=>cmpI (Int.ofNat (hg x.1.val)) (Int.ofNat (hg y.1.val))) J).map (λx=>((x.1.val,x.2.val):Pq)),_,(by rw[qaB];exact d),(iS q J).map _,?_,?_,λj o t s=>aV t λe=>s (by rw[e];rfl),by rw[qay]⟩
 ·rw[qbp];refine(sP q J).imp λ{x y} f=>?_;unfold ltOf at f;rw[decide_eq_false_iff_not]at f;intro A;exact f (by exact(cmpI_l.trans qcl).2 A)
 ·have:=mF (l':=(srt (λx y:(Fin (4*c.w*c.v)×Fin (4*c.w*c.v))=>cmpI (Int.ofNat (hg x.1.val)) (Int.ofNat (hg y.1.val))) J).map (λx=>((x.1.val,x.2.val):Pq))) n W X (by rw[qaB,qaB,(iS q J).length_eq]);rw[C]at this;exact this
def or2_l{a b a' c:Nat}:orI [cmpI (Int.ofNat a) (Int.ofNat a'),cmpI (Int.ofNat b) (Int.ofNat c)]<0↔a<a'∨(a=a'/\b<c):=by
 simp only[orI,cmpN];split<;>(try split)<;>(try split)<;>(try split)<;>(try split)<;>omega
def sortO_c{c:BC}{h:HL}{W:Value}{m:Nat}{hg:TA}(r:RdH c h W m hg){K:Nat}{v:Value}{l:List Lq}(V:OwnL K h v 3 jr l)(k:l=[]->v = .slice none 0 0)(G:0<4*c.w*c.v)(s:∀p∈l,p.1<2/\p.2.1<4*c.w*c.v/\p.2.2<4*c.w*c.v)(U:l.length<=1000) :
  ∃(l':List Lq) (h':HL),aB cc ab 74 [.v v,.v (.func (.func 75) ⟨[]⟩ ⟨[ptrB m]⟩)] (absH aa h) [] (absH aa h')/\l'.Perm l/\l'.Pairwise (λa b=>¬(b.1<a.1∨(b.1=a.1/\hg b.2.1<hg a.2.1)))/\OwnL K h' v 3 jr l'/\(∀(j:Nat) o,h[j]?=some o->blk v≠some j->h'[j]?=some o)/\h'.length=h.length:=by
 rcases V with⟨rfl,rfl⟩|⟨id,cx,rfl,X,n,Y⟩
 ·exact⟨[],h,nilO_c (show az (.func (.func 75) ⟨[]⟩ ⟨[ptrB m]⟩)=true from rfl),qca _,.nil,.inl ⟨rfl,rfl⟩,λj o A _=>A,rfl⟩
 have F:0<l.length:=qbd.2 λe=>by have:=k e;cases this
 obtain⟨J,Q⟩ : ∃J:List (Fin 2×Fin (4*c.w*c.v)×Fin (4*c.w*c.v)),J.map (λx=>((x.1.val,x.2.1.val,x.2.2.val):Lq))=l:=jV λp C=>by
  exact⟨(⟨p.1,(s p C).1⟩,⟨p.2.1,(s p C).2.1⟩,⟨p.2.2,(s p C).2.2⟩),rfl⟩
 subst Q;obtain⟨Z,r2,r3⟩:=r.ro;have E:∀L:List (Fin 2×Fin (4*c.w*c.v)×Fin (4*c.w*c.v)),(L.map (λx=>((x.1.val,x.2.1.val,x.2.2.val):Lq))).flatMap jr=L.flatMap λx=>jr ((λx=>((x.1.val,x.2.1.val,x.2.2.val):Lq)) x):=λL=>by rw[qcj]
 let _:Inhabited (Fin 2×Fin (4*c.w*c.v)×Fin (4*c.w*c.v)):=⟨(⟨0,by omega⟩,⟨0,G⟩,⟨0,G⟩)⟩
 have q:SWO (ltOf λx y:(Fin 2×Fin (4*c.w*c.v)×Fin (4*c.w*c.v))=>orI [cmpI (Int.ofNat x.1.val) (Int.ofNat y.1.val),cmpI (Int.ofNat (hg x.2.1.val)) (Int.ofNat (hg y.2.1.val))]):=wx (R:=λx y=>x.1.val<y.1.val∨(x.1.val=y.1.val/\hg x.2.1.val<hg y.2.1.val)) (λx y=>or2_l) (λx h=>by omega) (λx y z O P=>by omega) (λx y z O P=>by omega);rw[qaB]at F U;have d:=sortG layO (λw=>by kernel_rfl) (λw=>by kernel_rfl) (enc:=λx:(Fin 2×Fin (4*c.w*c.v)×Fin (4*c.w*c.v))=>jr ((λx=>((x.1.val,x.2.1.val,x.2.2.val):Lq)) x)) (e:=3) (λ_=>rfl) (λx u I=>by
  simp only[jr,qax,qb5,or_false]at I;rcases I with rfl|rfl|rfl<;>rfl) q (g:=75) (λD w=>by kernel_rfl) (S:=rdS c m) (H:=h) (caps:=[ptrB m]) rfl (λx y=>by
  obtain⟨M,T⟩:=s75_c Z r2 r3 (Int.ofNat x.1.val) (Int.ofNat y.1.val) (Int.ofNat x.2.2.val) (Int.ofNat y.2.2.val) x.2.1.isLt y.2.1.isLt;refine⟨absH aa M,?_⟩;rw[←qW];exact ft (N:=neuN) mixed (Sg:=ab) (sg:=⟨[.agg [.i .u8,.i .i64,.i .i64],.agg [.i .u8,.i .i64,.i .i64],lv],[li]⟩) rfl T (xs:=[.agg [.i .u8 (Int.ofNat x.1.val),.i .i64 (Int.ofNat x.2.1.val),.i .i64 (Int.ofNat x.2.2.val)],.agg [.i .u8 (Int.ofNat y.1.val),.i .i64 (Int.ofNat y.2.1.val),.i .i64 (Int.ofNat y.2.2.val)],.leaf (.v (ptrB m))]) rfl rfl (ys:=[.leaf (.i .i64 (orI [cmpI (Int.ofNat x.1.val) (Int.ofNat y.1.val),cmpI (Int.ofNat (hg x.2.1.val)) (Int.ofNat (hg y.2.1.val))]))]) rfl rfl) (id:=id) (cx:=cx) (J:=J) (by rw[←E];exact n) (rdS_f (λe=>by
   subst e;have:=eR n;rw[eR r.mp]at this;cases this) (λe=>by
   subst e;have:=eR n;rw[eR r.bl]at this;cases this) (λe=>by
   have:=vG r.hl e;rw[eR n]at this;cases this)) F (by omega) rfl (by kernel_rfl)
 refine⟨(srt (λx y:(Fin 2×Fin (4*c.w*c.v)×Fin (4*c.w*c.v))=>orI [cmpI (Int.ofNat x.1.val) (Int.ofNat y.1.val),cmpI (Int.ofNat (hg x.2.1.val)) (Int.ofNat (hg y.2.1.val))]) J).map (λx=>((x.1.val,x.2.1.val,x.2.2.val):Lq)),_,(by rw[qaB];exact d),(iS q J).map _,?_,?_,λj o A t=>aV A λe=>t (by rw[e];rfl),by rw[qay]⟩
 ·rw[qbp];refine(sP q J).imp λ{x y} f=>?_;unfold ltOf at f;rw[decide_eq_false_iff_not]at f;intro B;exact f (by exact or2_l.2 B)
 ·have:=mF (l':=(srt (λx y:(Fin 2×Fin (4*c.w*c.v)×Fin (4*c.w*c.v))=>orI [cmpI (Int.ofNat x.1.val) (Int.ofNat y.1.val),cmpI (Int.ofNat (hg x.2.1.val)) (Int.ofNat (hg y.2.1.val))]) J).map (λx=>((x.1.val,x.2.1.val,x.2.2.val):Lq))) n X Y (by rw[qaB,qaB,(iS q J).length_eq]);rw[E]at this;exact this
def flat1N{l:Tx}:l.flatMap encN=(l.map Int.ofNat).flatMap gV:=by
 rw[qcj];rfl
def sortI_c{h:HL}{t:Nat}{v:Value}{l:Tx}(z:OwnL t h v 1 encN l)(d:l=[]->v = .slice none 0 0)(D:l.length<=1000) :
  ∃(l':Tx) (h':HL),aB cc ab 77 [.v v] (absH aa h) [] (absH aa h')/\l'.Perm l/\l'.Pairwise (λa b=>a<=b)/\OwnL t h' v 1 encN l'/\(∀(j:Nat) o,h[j]?=some o->blk v≠some j->h'[j]?=some o)/\h'.length=h.length:=by
 rcases z with⟨rfl,rfl⟩|⟨id,cx,rfl,A,u,B⟩
 ·exact⟨[],h,nilI_c,qca _,.nil,.inl ⟨rfl,rfl⟩,λj o m _=>m,rfl⟩
 have x:0<l.length:=qbd.2 λe=>by have:=d e;cases this
 have c:(absH aa h)[id]?=some (.cells ((l.map Int.ofNat).flatMap gV) 1 true):=by
  rw[←flat1N];unfold absH;rw[qan,u];rfl
 have f:=uR (C:=cc) layI (λp w=>by kernel_rfl) (n:=l.length) (cx:=cx) c (by rw[qaB]) x (by omega);obtain⟨l',r,q⟩:=jC (uS (l.map Int.ofNat));have g:(absH aa h).set id (.cells ((srtI (l.map Int.ofNat)).flatMap gV) 1 true)=absH aa (h.set id (.o (.cells (l'.flatMap encN) 1 true))):=by
  rw[ti,flat1N,q];rfl
 rw[g]at f;refine⟨l',_,⟨⟨[lv],[]⟩,[.leaf (.v (.slice (some ⟨id,0,tag 1⟩) l.length cx))],[],rfl,⟨rfl,rfl,λy i=>by
  simp only[qax,qb5,or_false]at i;subst i;exact aA (show az (.slice (some ⟨id,0,tag 1⟩) l.length cx)=true by simp[az,noLoc,aR,aZ,aT,aI,av,tag])⟩,⟨rfl,rfl,λy i=>by cases i⟩,⟨0,.inr ⟨.inl (by kernel_rfl),f⟩⟩⟩,r,?_,mF (l':=l') u A B r.length_eq,λj o m k=>aV m λe=>k (by rw[e];rfl),by rw[qay]⟩
 have s:=srtI_pair (l.map Int.ofNat);rw[←q,qbp]at s;exact s.imp λh=>qdp.1 h
end Go.Am
namespace Go.Am
open Sx Go.Proofs
def eqAd_refl(a:Option Addr):eqAd a a=true:=by
 rcases a with _|⟨b,o,s⟩
 ·rfl
 ·unfold eqAd;simp only[qbK];rcases s with _|s
  ·rfl
  ·exact qbK s
def nQ{v:Value}(h:∃a n c,v = .slice a n c):Sx.eqVl v v=some ():=by
 obtain⟨a,n,c,rfl⟩:=h;show(match eqAd a a,Nat.beq n n,Nat.beq c c with
  |true,true,true=>some ()
  |_,_,_=>none)=_
 rw[eqAd_refl,qbK,qbK]
def eqNt_refl(n:Int):Sx.eqNt n n=true:=by
 cases n with
 |ofNat n=>exact qbK n
 |negSucc n=>exact qbK n
def bB(n:Int):Sx.eqIn n n=some ():=by
 unfold Sx.eqIn;rw[eqNt_refl]
def slS_cl{e id n o cx:Nat}:slS e (.slice (some ⟨id,o,tag e⟩) n cx) none (some (Int.ofNat n)) (some (Int.ofNat n))=some (.slice (some ⟨id,o,tag e⟩) n (n+1)):=by
 unfold slS;simp only;rw[qd1 (by simp),qd0 (by simp[cZ])];simp[fH,bY]
def clclP{h:HL}{x:Value}{l:List Pq}(i:LsH h x 2 jt l)(d:l=[]->x = .slice none 0 0)(w:l.length<=1000) :
  ∃k p h',aB cc ab 79 [.v x] (absH aa h) [.v k] (absH aa h')/\(∀g:HL,aB cc ab 78 [.v k] (absH aa g) [.v p] (absH aa g))/\Pre h h'/\LsH h' p 2 jt l/\az k=true/\∀b,blk p=some b->h.length<=b:=by
 by_cases q:l=[]
 ·subst q;obtain rfl:=d rfl;refine⟨.slice none 0 0,.slice none 0 0,h,?_,λg=>?_,.refl _,.nil _ _ _,rfl,λb f=>(by cases f)⟩
  ·exact xK x79 (glsV rfl gls0) (by
    unfold f79;simp only[qxh]
    repeat (first|simp(disch:=omega)only[↓qXX]|refine ae (x:=true) rfl ?_)
    trivial)
  ·exact xK x78 (glsV rfl gls0) (by
    unfold f78;simp only[qxh]
    repeat (first|simp(disch:=omega)only[↓qXX]|refine ae (x:=(0:Int)) rfl ?_|refine ae (x:=Value.slice none 0 0) rfl ?_|refine ac rfl ?_)
    trivial)
 ·have j:=qbd.2 q;have r:∃a n c,x = .slice (some a) n c:=by
   rcases i.2.2 with⟨_,y⟩|⟨id,s,u,z,t,rfl,_,_⟩
   ·omega
   ·exact⟨_,_,_,rfl⟩
  refine⟨.slice (some ⟨h.length+1,0,tag 2⟩) l.length 0,.slice (some ⟨h.length+1,0,tag 2⟩) l.length (l.length+1),h++[.o (.cells [] 2 true)]++[.o (.cells (l.flatMap jt) 2 true)],?_,λg=>?_,by rw[qai];exact⟨_,rfl⟩,?_,by simp[az,noLoc,aR,aZ,aT,aI,av,tag],λb f=>by
   have:h.length+1=b:=by simpa[blk]using f
   omega⟩
  ·exact xK x79 (glsV i.good gls0) (by
    unfold f79;simp only[qxh];refine p_x ?_;obtain⟨a,n,c,rfl⟩:=r
    repeat (first|simp(disch:=omega)only[↓qXX]|refine ae (x:=false) rfl ?_|refine r_apE (kb:=16) (h:=h++[.o (.cells [] 2 true)]) (m:=h.length) ao (i.pre ⟨_,rfl⟩) j (by omega) (by omega) ?_)
    refine ac (by simp[az,noLoc,aR,aZ,aT,aI,av,tag]) ?_;refine⟨by simp,by simp⟩)
  ·exact xK x78 (glsV (by simp[az,noLoc,aR,aZ,aT,aI,av,tag]) gls0) (by
    unfold f78;simp only[qxh];refine p_x ?_;refine ae (x:=Int.ofNat l.length) rfl ?_;refine ae (x:=Int.ofNat l.length) rfl ?_;refine ae slS_cl ?_;refine ac (by simp[az,noLoc,aR,aZ,aT,aI,av,tag]) ?_;trivial)
  ·refine bT (enc:=jt) (e:=2) (λ_=>rfl) ?_ rfl;rw[show h.length+1=(h++[HO.o (.cells [] 2 true)]).length by simp];exact ao
def clclO{h:HL}{x:Value}{l:List Lq}(i:LsH h x 3 jr l)(d:l=[]->x = .slice none 0 0)(w:l.length<=1000) :
  ∃k p h',aB cc ab 81 [.v x] (absH aa h) [.v k] (absH aa h')/\(∀g:HL,aB cc ab 80 [.v k] (absH aa g) [.v p] (absH aa g))/\Pre h h'/\LsH h' p 3 jr l/\az k=true/\∀b,blk p=some b->h.length<=b:=by
 by_cases q:l=[]
 ·subst q;obtain rfl:=d rfl;refine⟨.slice none 0 0,.slice none 0 0,h,?_,λg=>?_,.refl _,.nil _ _ _,rfl,λb f=>(by cases f)⟩
  ·exact xK x81 (glsV rfl gls0) (by
    unfold f81;simp only[qxh]
    repeat (first|simp(disch:=omega)only[↓qXX]|refine ae (x:=true) rfl ?_)
    trivial)
  ·exact xK x80 (glsV rfl gls0) (by
    unfold f80;simp only[qxh]
    repeat (first|simp(disch:=omega)only[↓qXX]|refine ae (x:=(0:Int)) rfl ?_|refine ae (x:=Value.slice none 0 0) rfl ?_|refine ac rfl ?_)
    trivial)
 ·have j:=qbd.2 q;have r:∃a n c,x = .slice (some a) n c:=by
   rcases i.2.2 with⟨_,y⟩|⟨id,s,u,z,t,rfl,_,_⟩
   ·omega
   ·exact⟨_,_,_,rfl⟩
  refine⟨.slice (some ⟨h.length+1,0,tag 3⟩) l.length 0,.slice (some ⟨h.length+1,0,tag 3⟩) l.length (l.length+1),h++[.o (.cells [] 3 true)]++[.o (.cells (l.flatMap jr) 3 true)],?_,λg=>?_,by rw[qai];exact⟨_,rfl⟩,?_,by simp[az,noLoc,aR,aZ,aT,aI,av,tag],λb f=>by
   have:h.length+1=b:=by simpa[blk]using f
   omega⟩
  ·exact xK x81 (glsV i.good gls0) (by
    unfold f81;simp only[qxh];refine p_x ?_;obtain⟨a,n,c,rfl⟩:=r
    repeat (first|simp(disch:=omega)only[↓qXX]|refine ae (x:=false) rfl ?_|refine r_apE (kb:=24) (h:=h++[.o (.cells [] 3 true)]) (m:=h.length) ao (i.pre ⟨_,rfl⟩) j (by omega) (by omega) ?_)
    refine ac (by simp[az,noLoc,aR,aZ,aT,aI,av,tag]) ?_;refine⟨by simp,by simp⟩)
  ·exact xK x80 (glsV (by simp[az,noLoc,aR,aZ,aT,aI,av,tag]) gls0) (by
    unfold f80;simp only[qxh];refine p_x ?_;refine ae (x:=Int.ofNat l.length) rfl ?_;refine ae (x:=Int.ofNat l.length) rfl ?_;refine ae slS_cl ?_;refine ac (by simp[az,noLoc,aR,aZ,aT,aI,av,tag]) ?_;trivial)
  ·refine bT (enc:=jr) (e:=3) (λ_=>rfl) ?_ rfl;rw[show h.length+1=(h++[HO.o (.cells [] 3 true)]).length by simp];exact ao
def clclN{h:HL}{x:Value}{l:Tx}(i:LsH h x 1 encN l)(d:l=[]->x = .slice none 0 0)(w:l.length<=1000) :
  ∃k p h',aB cc ab 83 [.v x] (absH aa h) [.v k] (absH aa h')/\(∀g:HL,aB cc ab 82 [.v k] (absH aa g) [.v p] (absH aa g))/\Pre h h'/\LsH h' p 1 encN l/\az k=true/\∀b,blk p=some b->h.length<=b:=by
 by_cases q:l=[]
 ·subst q;obtain rfl:=d rfl;refine⟨.slice none 0 0,.slice none 0 0,h,?_,λg=>?_,.refl _,.nil _ _ _,rfl,λb f=>(by cases f)⟩
  ·exact xK x83 (glsV rfl gls0) (by
    unfold f83;simp only[qxh]
    repeat (first|simp(disch:=omega)only[↓qXX]|refine ae (x:=true) rfl ?_)
    trivial)
  ·exact xK x82 (glsV rfl gls0) (by
    unfold f82;simp only[qxh]
    repeat (first|simp(disch:=omega)only[↓qXX]|refine ae (x:=(0:Int)) rfl ?_|refine ae (x:=Value.slice none 0 0) rfl ?_|refine ac rfl ?_)
    trivial)
 ·have j:=qbd.2 q;have r:∃a n c,x = .slice (some a) n c:=by
   rcases i.2.2 with⟨_,y⟩|⟨id,s,u,z,t,rfl,_,_⟩
   ·omega
   ·exact⟨_,_,_,rfl⟩
  refine⟨.slice (some ⟨h.length+1,0,tag 1⟩) l.length 0,.slice (some ⟨h.length+1,0,tag 1⟩) l.length (l.length+1),h++[.o (.cells [] 1 true)]++[.o (.cells (l.flatMap encN) 1 true)],?_,λg=>?_,by rw[qai];exact⟨_,rfl⟩,?_,by simp[az,noLoc,aR,aZ,aT,aI,av,tag],λb f=>by
   have:h.length+1=b:=by simpa[blk]using f
   omega⟩
  ·exact xK x83 (glsV i.good gls0) (by
    unfold f83;simp only[qxh];refine p_x ?_;obtain⟨a,n,c,rfl⟩:=r
    repeat (first|simp(disch:=omega)only[↓qXX]|refine ae (x:=false) rfl ?_|refine r_apE (kb:=8) (h:=h++[.o (.cells [] 1 true)]) (m:=h.length) ao (i.pre ⟨_,rfl⟩) j (by omega) (by omega) ?_)
    refine ac (by simp[az,noLoc,aR,aZ,aT,aI,av,tag]) ?_;refine⟨by simp,by simp⟩)
  ·exact xK x82 (glsV (by simp[az,noLoc,aR,aZ,aT,aI,av,tag]) gls0) (by
    unfold f82;simp only[qxh];refine p_x ?_;refine ae (x:=Int.ofNat l.length) rfl ?_;refine ae (x:=Int.ofNat l.length) rfl ?_;refine ae slS_cl ?_;refine ac (by simp[az,noLoc,aR,aZ,aT,aI,av,tag]) ?_;trivial)
  ·refine bT (enc:=encN) (e:=1) (λ_=>rfl) ?_ rfl;rw[show h.length+1=(h++[HO.o (.cells [] 1 true)]).length by simp];exact ao
structure okE(N:Nat)(q:En):Prop where
 bd:bndE 1000 q
 np:q.ps=[]->q.vp = .slice none 0 0
 nl:q.ls=[]->q.vl = .slice none 0 0
 ne:q.es=[]->q.ve = .slice none 0 0
 ip:∀p∈q.ps,p.1<N/\p.2<N
 il:∀p∈q.ls,p.1<2/\p.2.1<N/\p.2.2<N
def zy{c:BC}{V h:HL}{U:Value}{Q:List En}{l:Ty}{G:TC}{r:Mv}{hg:TA}(W:CtxB c V l G r hg)(f:Bld c V h U Q){i:Nat}{q:En}(hq:Q[i]?=some q)(a3:okE (4*c.w*c.v) q) :
  ∃(h':HL) (I J L:Value) (q':En),aB cc ab 31 [.v (ptrB c.bm),.v (ptrB q.id)] (absH aa h) (cll q.a++cll q.b++[.v I,.v J,.v L]) (absH aa h')/\Bld c V h' U (Q.set i q')/\
   q'.a=q.a/\q'.b=q.b/\q'.id=q.id/\q'.ps.Perm q.ps/\q'.ls.Perm q.ls/\q'.es.Perm q.es/\q'.ps.Pairwise (λa b=>¬hg b.1<hg a.1)/\q'.ls.Pairwise (λa b=>¬(b.1<a.1∨(b.1=a.1/\hg b.2.1<hg a.2.1)))/\q'.es.Pairwise (λa b=>a<=b)/\
   LsH h' I 2 jt q'.ps/\LsH h' J 3 jr q'.ls/\LsH h' L 1 encN q'.es/\(∀b,blk I=some b∨blk J=some b∨blk L=some b->h.length<=b)/\(∀(j:Nat) o,h[j]?=some o->¬blkE q j->h'[j]?=some o)/\h.length<=h'.length:=by
 have h3:=W.h3;have hs:=h3.sh;obtain⟨b1,b2,b3,b4⟩:=h3.n;have hN:=sh_N hs;have an:=qab hq;have M:=f.en q an;obtain⟨aE,np,nl,ne,ip,il⟩:=a3;unfold bndE at aE;have a6:=x31 (ls:=[.v (ptrB c.bm),.v (ptrB q.id)]) (K:=λrs h'=>∃(I J L:Value) (q':En),rs=cll q.a++cll q.b++[.v I,.v J,.v L]/\Bld c V h' U (Q.set i q')/\
   q'.a=q.a/\q'.b=q.b/\q'.id=q.id/\q'.ps.Perm q.ps/\q'.ls.Perm q.ls/\q'.es.Perm q.es/\q'.ps.Pairwise (λa b=>¬hg b.1<hg a.1)/\q'.ls.Pairwise (λa b=>¬(b.1<a.1∨(b.1=a.1/\hg b.2.1<hg a.2.1)))/\q'.es.Pairwise (λa b=>a<=b)/\
   LsH h' I 2 jt q'.ps/\LsH h' J 3 jr q'.ls/\LsH h' L 1 encN q'.es/\(∀b,blk I=some b∨blk J=some b∨blk L=some b->h.length<=b)/\(∀(j:Nat) o,h[j]?=some o->¬blkE q j->h'[j]?=some o)/\h.length<=h'.length) (H:=h) (glsV (aX _) (glsV (aX _) gls0)) (by
  unfold f31;simp only[qxh];refine p_x ?_;have Z:Pre h (h++[HO.o (.cells [ptrB c.bm] 1 true)]):=⟨_,rfl⟩;have N:=f.grow Z;have X:(h++[HO.o (.cells [ptrB c.bm] 1 true)])[h.length]?=some (HO.o (.cells [ptrB c.bm] 1 true)):=ao;have a8:(h++[HO.o (.cells [ptrB c.bm] 1 true)]).length=h.length+1:=by simp
  generalize h++[HO.o (.cells [ptrB c.bm] 1 true)]=hA at *;have d:=N.en q an;have ax:RdH c hA U h.length hg:=⟨X,N.bl,N.ls W W.hg (by decide)⟩;have a1:∀j,blkE q j->c.n1<=j/\j<h.length:=λj p=>M.lt p;have a7:=f.bn;refine dW (ds:=[q.vp]) d.bl (by simp[aJ,bw]) rfl ?_;refine p_x ?_;refine ac (d.op.good eY) ?_;refine p_y ?_;refine ac rfl ?_;refine p_y ?_;obtain⟨k,hB,cB,pB,sB,oB,F,lB⟩:=sortP_c ax d.op np hN.1 ip (by omega);refine ai cB ?_;refine p_x ?_;have A:∀ {e:Nat} {α:Type} {ar:α->Tk} {l:List α} {v:Value} {g:HL} {b:Nat},OwnL c.n1 g v e ar l->(e≠9)->g[q.id]?=some (.o (.cells (aJ q) 9 true))->blk v=some b->b≠q.id:=λho he hg f e=>by
   subst e;have:=cV ho f;rw[eR hg]at this;exact he (qat this).symm
  have C:hB[q.id]?=some (.o (.cells (aJ q) 9 true)):=F _ _ d.bl λe=>A d.op (by decide) d.bl e rfl;have O:Bld c V hB U (Q.set i ⟨q.a,q.b,q.id,q.vp,q.vl,q.ve,k,q.ls,q.es⟩):=N.upd hq rfl rfl ⟨M.idn,C,oB,d.ol.keep λj o p f=>F j o p λe=>aM d.op d.ol (by decide) e f,d.oe.keep λj o p f=>F j o p λe=>aM d.op d.oe (by decide) e f⟩ (λb=>⟨.inl,.inl,.inl⟩) (λj o p s=>F j o p λe=>s (.inr (.inl e))) (by omega);have a2:hB[h.length]?=some (HO.o (.cells [ptrB c.bm] 1 true)):=F _ _ X λe=>by have:=(a1 _ (.inr (.inl e))).2;omega
  have ad:(Q.set i ⟨q.a,q.b,q.id,q.vp,q.vl,q.ve,k,q.ls,q.es⟩)[i]?=some ⟨q.a,q.b,q.id,q.vp,q.vl,q.ve,k,q.ls,q.es⟩:=qaK (aw hq);have u:=O.en _ (qab ad);have ay:RdH c hB U h.length hg:=⟨a2,O.bl,O.ls W W.hg (by decide)⟩;refine dW (ds:=[q.vl]) C (by simp[aJ,bw]) rfl ?_;refine p_x ?_;refine ac (d.ol.good cH) ?_;refine p_y ?_;refine ac rfl ?_;refine p_y ?_;obtain⟨t,hC,cC,pC,sC,oC,kC,lC⟩:=sortO_c ay u.ol nl hN.1 il (by show q.ls.length<=1000;omega);refine ai cC ?_;refine p_x ?_;have D:hC[q.id]?=some (.o (.cells (aJ q) 9 true)):=kC _ _ C λe=>A u.ol (by decide) C e rfl;have S:=O.upd ad (q':=⟨q.a,q.b,q.id,q.vp,q.vl,q.ve,k,t,q.es⟩) rfl rfl ⟨M.idn,D,u.op.keep λj o p f=>kC j o p λe=>aM u.ol u.op (by decide) e f,oC,u.oe.keep λj o p f=>kC j o p λe=>aM u.ol u.oe (by decide) e f⟩ (λb=>⟨.inl,.inl,.inl⟩) (λj o p s=>kC j o p λe=>s (.inr (.inr (.inl e)))) (by omega);rw[qdQ]at S;have ag:(Q.set i ⟨q.a,q.b,q.id,q.vp,q.vl,q.ve,k,t,q.es⟩)[i]?=some ⟨q.a,q.b,q.id,q.vp,q.vl,q.ve,k,t,q.es⟩:=qaK (aw hq);have y:=S.en _ (qab ag);refine dW (ds:=[q.ve]) D (by simp[aJ,bw]) rfl ?_;refine p_x ?_
  refine ac (d.oe.good aG) ?_;refine p_y ?_;obtain⟨E,hD,cD,pD,sD,oD,kD,lD⟩:=sortI_c y.oe ne (by show q.es.length<=1000;omega);refine ai cD ?_;refine p_x ?_;have m:hD[q.id]?=some (.o (.cells (aJ q) 9 true)):=kD _ _ D λe=>A y.oe (by decide) D e rfl;have T:=S.upd ag (q':=⟨q.a,q.b,q.id,q.vp,q.vl,q.ve,k,t,E⟩) rfl rfl ⟨M.idn,m,y.op.keep λj o p f=>kD j o p λe=>aM y.oe y.op (by decide) e f,y.ol.keep λj o p f=>kD j o p λe=>aM y.oe y.ol (by decide) e f,oD⟩ (λb=>⟨.inl,.inl,.inl⟩) (λj o p s=>kD j o p λe=>s (.inr (.inr (.inr e)))) (by omega);rw[qdQ]at T;have a4:(Q.set i ⟨q.a,q.b,q.id,q.vp,q.vl,q.ve,k,t,E⟩)[i]?=some ⟨q.a,q.b,q.id,q.vp,q.vl,q.ve,k,t,E⟩:=qaK (aw hq);have R:=T.en _ (qab a4);have a0:∀(j:Nat) o,h[j]?=some o->¬blkE q j->hD[j]?=some o:=λj o p s=>kD j o (kC j o (F j o (Z.get p) λe=>s (.inr (.inl e))) λe=>s (.inr (.inr (.inl e)))) λe=>s (.inr (.inr (.inr e)));have a9:hD.length=h.length+1:=by omega
  refine ae (x:=ptrB q.id) rfl (ac (aX _) (ae (x:=.pointer (some ⟨q.id,0+0,none⟩)) rfl (ac (bC _ _) ?_)));refine cN (ee (o:=0) (n:=3) m (by simp[aJ,bw])) rfl ?_;rw[show((aJ q).drop 0).take 3=[.int .i64 q.a.1,.int .i64 q.a.2.1,.int .u8 (Int.ofNat q.a.2.2)]from rfl];refine p_x ?_;refine ae (x:=ptrB q.id) rfl (ac (aX _) (ae (x:=.pointer (some ⟨q.id,0+3,none⟩)) rfl (ac (bC _ _) ?_)));refine cN (ee (o:=3) (n:=3) m (by simp[aJ,bw])) rfl ?_;rw[show((aJ q).drop 3).take 3=[.int .i64 q.b.1,.int .i64 q.b.2.1,.int .u8 (Int.ofNat q.b.2.2)]from rfl];refine p_x ?_;refine ae (x:=ptrB q.id) rfl (ac (aX _) (ae (x:=.pointer (some ⟨q.id,0+6,none⟩)) rfl (ac (bC _ _) ?_)));refine cN (ee (o:=6) (n:=1) m (by simp[aJ,bw])) rfl ?_;rw[show((aJ q).drop 6).take 1=[q.vp]from rfl];refine p_x ?_;refine ac (d.op.good eY) ?_;refine p_y ?_;obtain⟨u1,I,h1,c1,d1,p1,l1,g1,n1⟩:=clclP (R.op.ls eY) (λe=>np (by have:k=[]:=e;rw[this]at pB;exact pB.symm.eq_nil)) (by show k.length<=1000;rw[pB.length_eq];omega);refine ai c1 ?_;refine p_x ?_;refine ai (d1 h1) ?_;refine p_x ?_;have z:=p1.get m;refine ae (x:=ptrB q.id) rfl (ac (aX _) (ae (x:=.pointer (some ⟨q.id,0+7,none⟩)) rfl (ac (bC _ _) ?_)))
  refine cN (ee (o:=7) (n:=1) z (by simp[aJ,bw])) rfl ?_;rw[show((aJ q).drop 7).take 1=[q.vl]from rfl];refine p_x ?_;refine ac (d.ol.good cH) ?_;refine p_y ?_;obtain⟨u2,J,h2,c2,d2,p2,l2,g2,n2⟩:=clclO ((R.ol.ls cH).pre p1) (λe=>nl (by have:t=[]:=e;rw[this]at pC;exact pC.symm.eq_nil)) (by show t.length<=1000;rw[pC.length_eq];show q.ls.length<=1000;omega);refine ai c2 ?_;refine p_x ?_;refine ai (d2 h2) ?_;refine p_x ?_;have B:=p2.get z;refine ae (x:=ptrB q.id) rfl (ac (aX _) (ae (x:=.pointer (some ⟨q.id,0+8,none⟩)) rfl (ac (bC _ _) ?_)));refine cN (ee (o:=8) (n:=1) B (by simp[aJ,bw])) rfl ?_;rw[show((aJ q).drop 8).take 1=[q.ve]from rfl];refine p_x ?_;refine ac (d.oe.good aG) ?_;refine p_y ?_;obtain⟨u3,L,h4,c3,d3,p3,l3,g3,n3⟩:=clclN ((R.oe.ls aG).pre (p1.trans p2)) (λe=>ne (by have:E=[]:=e;rw[this]at pD;exact pD.symm.eq_nil)) (by show E.length<=1000;rw[pD.length_eq];show q.es.length<=1000;omega);refine ai c3 ?_;refine p_x ?_;refine ai (d3 h4) ?_;refine p_x ?_;have P:=p3.get B;have a5:=ir (d.ol.ls cH);have ap:=ir (d.oe.ls aG);refine cN (ee (o:=0) (n:=3) z (by simp[aJ,bw])) rfl ?_
  rw[show((aJ q).drop 0).take 3=[.int .i64 q.a.1,.int .i64 q.a.2.1,.int .u8 (Int.ofNat q.a.2.2)]from rfl];refine p_x ?_;refine ae (bB _) ?_;refine ae (bB _) ?_;refine ae (bB _) ?_;refine p_y ?_;refine cN (ee (o:=3) (n:=3) z (by simp[aJ,bw])) rfl ?_;rw[show((aJ q).drop 3).take 3=[.int .i64 q.b.1,.int .i64 q.b.2.1,.int .u8 (Int.ofNat q.b.2.2)]from rfl];refine p_x ?_;refine ae (bB _) ?_;refine ae (bB _) ?_;refine ae (bB _) ?_;refine p_y ?_;refine cN (ee (o:=7) (n:=1) m (by simp[aJ,bw])) rfl ?_;rw[show((aJ q).drop 7).take 1=[q.vl]from rfl];refine p_x ?_;refine ac (d.ol.good cH) ?_;refine p_y ?_;refine ae (nQ a5) ?_;refine p_y ?_;refine cN (ee (o:=0) (n:=3) B (by simp[aJ,bw])) rfl ?_;rw[show((aJ q).drop 0).take 3=[.int .i64 q.a.1,.int .i64 q.a.2.1,.int .u8 (Int.ofNat q.a.2.2)]from rfl];refine p_x ?_;refine ae (bB _) ?_;refine ae (bB _) ?_;refine ae (bB _) ?_;refine p_y ?_;refine cN (ee (o:=3) (n:=3) B (by simp[aJ,bw])) rfl ?_;rw[show((aJ q).drop 3).take 3=[.int .i64 q.b.1,.int .i64 q.b.2.1,.int .u8 (Int.ofNat q.b.2.2)]from rfl];refine p_x ?_;refine ae (bB _) ?_;refine ae (bB _) ?_;refine ae (bB _) ?_;refine p_y ?_;refine cN (ee (o:=8) (n:=1) m (by simp[aJ,bw])) rfl ?_
  rw[show((aJ q).drop 8).take 1=[q.ve]from rfl];refine p_x ?_;refine ac (d.oe.good aG) ?_;refine p_y ?_;refine ae (nQ ap) ?_;refine p_y ?_;refine cN (ee (o:=8) (n:=1) z (by simp[aJ,bw])) rfl ?_;rw[show((aJ q).drop 8).take 1=[q.ve]from rfl];refine p_x ?_;refine ac (d.oe.good aG) ?_;refine p_y ?_;refine ae (nQ ap) ?_;refine p_y ?_;refine cN (ee (o:=0) (n:=3) P (by simp[aJ,bw])) rfl ?_;rw[show((aJ q).drop 0).take 3=[.int .i64 q.a.1,.int .i64 q.a.2.1,.int .u8 (Int.ofNat q.a.2.2)]from rfl];refine p_x ?_;refine ae (bB _) ?_;refine ae (bB _) ?_;refine ae (bB _) ?_;refine p_y ?_;refine cN (ee (o:=3) (n:=3) P (by simp[aJ,bw])) rfl ?_;rw[show((aJ q).drop 3).take 3=[.int .i64 q.b.1,.int .i64 q.b.2.1,.int .u8 (Int.ofNat q.b.2.2)]from rfl];refine p_x ?_;refine ae (bB _) ?_;refine ae (bB _) ?_;refine ae (bB _) ?_;refine p_y ?_;have Y:=(p1.trans p2).trans p3;have:=p1.len;have:=p2.len;have:=p3.len;exact⟨I,J,L,⟨q.a,q.b,q.id,q.vp,q.vl,q.ve,k,t,E⟩,by first|rfl|trivial,T.grow Y,rfl,rfl,rfl,pB,pC,pD,sB,sC,sD,l1.pre (p2.trans p3),l2.pre p3,l3,λb f=>by
   rcases f with f|f|f
   ·have:=n1 b f;omega
   ·have:=n2 b f;omega
   ·have:=n3 b f;omega,λj o p s=>Y.get (a0 j o p s),by omega⟩)
 obtain⟨rs,h',h2,I,J,L,q',rfl,h4⟩:=a6;exact⟨h',I,J,L,q',h2,h4⟩
def nz{h:HL}{y f:Value}{l:Tx}{p:Tt}(q:LsH h y 1 encN l)(E:l.length<=1000)(hg:az f=true)(B:∀i∈l,ta cc f [.int .i64 (Int.ofNat i)] [.leaf .b] (absH aa h) [.b (p i)] (absH aa h)):aB cc ab 49 [.v y,.v f] (absH aa h) [.b (l.any p)] (absH aa h):=by
 have C:∃n:Int,aB cc ab 95 [.v y,.v f] (absH aa h) [.i n] (absH aa h)/\(l.any p=true/\0<=n∨l.any p=false/\n<0):=by
  have u:=x95 (ls:=[.v y,.v f]) (K:=λz w=>w=h/\∃n:Int,z=[.i n]/\(l.any p=true/\0<=n∨l.any p=false/\n<0)) (H:=h) (glsV q.good (glsV hg gls0)) (by
   unfold f95;simp only[qxh];refine p_x ?_;refine br q ?_;refine ce l.length (λj=>∀i,i<j->∀a,l[i]?=some a->p a=false) (j0:=0) rfl (qaC _) (λi h=>by omega) ?_;intro j D x A g;refine p_x ?_;by_cases d:j<l.length
   ·rw[aD d];refine p_x ?_;obtain⟨a,k⟩:=aH d;have m:=qab k;refine aQ q rfl k ?_;rw[show encN a=[.int .i64 (Int.ofNat a)]from rfl];refine p_x ?_;refine oJ (B a m) ?_;refine p_x ?_;cases o:p a with
    |true=>
     refine p_x ?_;exact⟨by trivial,_,by first|rfl|trivial,.inl ⟨qci.2 ⟨a,m,o⟩,qaG _⟩⟩
    |false=>
     refine p_x ?_;rw[aL (by omega)];exact g d λi c b s=>by
      by_cases e:i=j
      ·subst e;rw[k]at s;cases s;exact o
      ·exact x i (by omega) b s
   ·obtain rfl:j=l.length:=by omega
    rw[aC (qaj _)];refine p_x ?_;refine⟨by trivial,-1,by first|rfl|trivial,.inr ⟨?_,by omega⟩⟩;rw[qdy];intro a k;obtain⟨i,c⟩:=qaT k;rw[x i (aw c) a c];simp)
  obtain⟨z,w,r,rfl,n,rfl,c2⟩:=u;exact⟨n,r,c2⟩
 obtain⟨n,r,c2⟩:=C;exact xK x49 (glsV q.good (glsV hg gls0)) (by
  unfold f49;simp only[qxh];refine p_x ?_;refine ai r ?_;refine p_x ?_;rcases c2 with⟨e,t⟩|⟨e,t⟩
  ·rw[p_geq_t t,e];simp(disch:=omega)only[↓qXX];trivial
  ·rw[p_geq_f t,e];simp(disch:=omega)only[↓qXX];trivial)
def okL(N:Nat)(L:List Stc):Prop:=∀s∈L,s.1.2.2<4/\(-4096<=s.1.1/\s.1.1<=4096/\-4096<=s.1.2.1/\s.1.2.1<=4096)/\s.2≠[]/\(∀c∈s.2,c<N)/\s.2.length<=200
def ascA(L:List Stc):Prop:=∀(i:Nat) a b,L[i]?=some a->L[i+1]?=some b->gtS b.1 a.1=true
abbrev bo(L:List Stc):Tx:=L.flatMap Prod.snd
def ChkR(N:Nat)(L:List Stc)(e:Int):Prop:=(e=1/\¬ascA L)∨(ascA L/\((e=8/\¬(bo L).Nodup)∨((bo L).Nodup/\((e=6/\(bo L).length<N)∨(e=0/\N<=(bo L).length)))))
def ChkR.eq{N:Nat}{L:List Stc}{e e':Int}(h:ChkR N L e)(h':ChkR N L e'):e=e':=by
 unfold ChkR at h h';rcases h with⟨rfl,a⟩|⟨a,⟨rfl,b⟩|⟨b,⟨rfl,c⟩|⟨rfl,c⟩⟩⟩<;>rcases h' with⟨rfl,d⟩|⟨d,⟨rfl,f⟩|⟨f,⟨rfl,g⟩|⟨rfl,g⟩⟩⟩
 all_goals first
  |rfl
  |exact absurd ‹ascA L› ‹¬ascA L›
  |exact absurd ‹(bo L).Nodup› ‹¬(bo L).Nodup›
  |omega
def lM(N:Nat)(S:Tx):Tv:=(List.range N).map λc=>decide (c∈S)
def pg{N c:Nat}{S:Tx}(h:c<N):(lM N S)[c]?=some (decide (c∈S)):=by
 unfold lM;rw[qan,qbc h];rfl
def fl{N:Nat}{S:Tx}:(lM N S).length=N:=by simp[lM]
def seenL_set{N c:Nat}{S:Tx}(h:c<N):(lM N S).set c true=lM N (S++[c]):=by
 refine qbi λi=>?_;by_cases a:i<N
 ·rw[qa2,fl,pg a,pg a];by_cases e:c=i
  ·subst e;rw[qd0 rfl,qd0 h];simp
  ·rw[qd1 e];have:i∈S++[c]↔i∈S:=by
    rw[qaz,qaq];exact⟨λh=>h.elim id λh=>absurd h.symm e,.inl⟩
   rw[decide_eq_decide.2 this]
 ·rw[qak (by rw[qay,fl];omega),qak (by rw[fl];omega)]
def uy{S T:Tx}(h:¬S.Nodup):¬(S++T).Nodup:=λe=>h (qbV.1 e).1
def ii{L:List Stc}{i:Nat}{a:Stc}(h:L[i]?=some a):bo (L.take (i+1))=bo (L.take i)++a.2:=by
 unfold bo;rw[qbj,h,qbB];simp
def yL{L:List Stc}{i:Nat}:bo L=bo (L.take i)++bo (L.drop i):=by
 unfold bo;rw[←qbB,qbv]
def fZ{L:List Stc}{i k:Nat}{a:Stc}(h:L[i]?=some a):bo L=(bo (L.take i)++a.2.take k)++(a.2.drop k++bo (L.drop (i+1))):=by
 rw[yL (i:=i+1),ii h,qai,qai]
 congr 1
 rw[←qai,qbv]
def zB{w v:Nat}(h3:S3 w v){H:HL}{x:Value}{L:List Stc}(hx:StL H x L)(hL:L.length<=200)(Q:okL (4*w*v) L)(a4:(bo L).length<=1000) :
  ∃e h',aB cc ab 48 [.v x,.i (.ofNat w),.i (.ofNat v)] (absH aa H) [.i e] (absH aa h')/\Pre H h'/\ChkR (4*w*v) L e:=by
 have hs:=h3.sh;obtain⟨b1,b2,b3,b4⟩:=h3.n;have hN:=sh_N hs;obtain⟨M,hM,an,hm⟩:=hx;have a0:valS (Int.ofNat w) (Int.ofNat v):=wp (smS_val3 h3);have a1:=x48 (ls:=[.v x,.i (.ofNat w),.i (.ofNat v)]) (K:=λrs h'=>∃e,rs=[.i e]/\Pre H h'/\ChkR (4*w*v) L e) (H:=H) (glsV hM.good (glsI (glsI gls0))) (by
  unfold f48;simp only[qxh];refine p_x ?_;refine ah (lP a0) ?_;refine p_x ?_;refine ah (cnt_c hs) ?_;refine p_x ?_;refine wc (b:=H.length) ao rfl ?_;rw[dp];refine p_y ?_;have N:(H++[HO.o (.cells [.int .i64 (Int.ofNat (4*w*v))] 1 true)])[H.length]?=some (HO.o (.cells [.int .i64 (Int.ofNat (4*w*v))] 1 true)):=ao;have s:Pre H (H++[HO.o (.cells [.int .i64 (Int.ofNat (4*w*v))] 1 true)]):=⟨_,rfl⟩;generalize a5:H++[HO.o (.cells [.int .i64 (Int.ofNat (4*w*v))] 1 true)]=h1 at *;have C:=hM.pre s;refine br C ?_;rw[an];refine p_y ?_;refine ce L.length (λi=>∀(j:Nat) a b,j+1<i->L[j]?=some a->L[j+1]?=some b->gtS b.1 a.1=true) (j0:=0) rfl (qaC _) (λj a b h=>by omega) ?_;intro i hi I ax g;refine p_x ?_;by_cases A:i<L.length
  case pos=>
   rw[aD A];refine p_x ?_;obtain⟨⟨c,y⟩,hy⟩:=aH (l:=M) (i:=i) (by omega);obtain⟨m,d,t⟩:=hm i _ hy;simp only at d t;obtain⟨o1,U,o3,o4,o5⟩:=Q _ (qab d);simp only at o1 U o3 o4 o5;have T:=t.good;have R:=t.pre s;refine aQ C rfl hy ?_;rw[show enc4 (c,y)=[.int .i64 c.1,.int .i64 c.2.1,.int .u8 (Int.ofNat c.2.2),y]from rfl];refine p_x ?_;refine ac T ?_;refine p_y ?_;refine ac (show az (.func (.func 93) ⟨[]⟩ ⟨[ptrB H.length]⟩)=true from rfl) ?_;refine p_y ?_;have k1:=nz (f:=.func (.func 93) ⟨[]⟩ ⟨[ptrB H.length]⟩) (p:=λ_=>false) R (by omega) rfl λn hn=>nr (ck1_c N (o4 n hn)) rfl [.leaf (.i .i64 (Int.ofNat n)),.leaf (.v (ptrB H.length))] rfl rfl rfl;rw[show m.any (λ_=>false)=false by rw[qdy];simp]at k1;refine ai k1 ?_;refine p_x ?_;have W:=wI (c:=c) ⟨U.1,U.2.1,U.2.2.1,U.2.2.2,o1⟩;simp only[cll]at W;refine ah W ?_;refine p_x ?_;have Z:m.length≠0:=λe=>o3 (qaY.1 e);by_cases h0:0<i
   ·rw[p_gtr_t (show(0:Int)<Int.ofNat i by show(0:Int)<(i:Int);omega)];refine p_x ?_;rw[ja (by omega) (by omega)];refine p_y ?_;obtain⟨⟨V,y'⟩,ap⟩:=aH (l:=M) (i:=i - 1) (by omega);obtain⟨a7,u,_⟩:=hm (i - 1) _ ap;simp only at u;obtain⟨a2,a8,_⟩:=Q _ (qab u);refine bp (cs:=[.int .i64 V.1,.int .i64 V.2.1,.int .u8 (Int.ofNat V.2.2)]) C rfl ap rfl (by omega) ?_;refine p_x ?_;have c1:=gR (a:=V) (b:=c) a2 o1;simp only[cll,qag,qaf]at c1;refine ah c1 ?_;refine p_x ?_;by_cases hg:cmpC V c<0
    ·rw[p_geq_f hg];refine p_x ?_;refine br R ?_;rw[p_eql_f (show ¬Int.ofNat m.length=0 from λe=>Z (qbw e))];refine p_x ?_;rw[aL (by omega)];refine g A λj a b hj J D=>?_;by_cases e:j+1<i
     ·exact I j a b e J D
     ·obtain rfl:j=i - 1:=by omega
      rw[u]at J;rw[show i - 1+1=i by omega,d]at D;cases J;cases D;exact(tF _ _).1 hg
    ·rw[p_geq_t (by omega)];refine p_x ?_;refine⟨1,rfl,s,.inl ⟨rfl,λhA=>hg ((tF _ _).2 (hA (i - 1) _ _ u (by rw[show i - 1+1=i by omega];exact d)))⟩⟩
   ·obtain rfl:i=0:=by omega
    rw[p_gtr_f (show Int.ofNat 0<=0 from qbZ _)];refine p_x ?_;refine br R ?_;rw[p_eql_f (show ¬Int.ofNat m.length=0 from λe=>Z (qbw e))];refine p_x ?_;rw[aL (by omega)];exact g A λj a b hj=>by omega
  obtain rfl:i=L.length:=by omega
  rw[aC (qaj _)];refine p_x ?_;clear g;have r:ascA L:=λj a b J D=>I j a b (by have:=aw D;omega) J D;refine cN (dK N) rfl ?_;refine p_x ?_;refine ae (dZ (by omega)) ?_;refine p_x ?_;rw[show(Int.ofNat (4*w*v)).toNat=4*w*v from rfl];have z1:HO.o (.cells (bc [.bool false] (4*w*v)) 1 true)=HO.o (.cells ((lM (4*w*v) []).flatMap encT) 1 true):=by
   have:lM (4*w*v) []=List.replicate (4*w*v) false:=by
    rw[qc3];refine⟨fl,λx hx=>?_⟩;obtain⟨i,_,rfl⟩:=qaA.1 hx;exact qdY (by simp)
   rw[this,←cU (enc:=encT) (z:=false) (n:=4*w*v)];rfl
  rw[z1];have X:∀S:List Bool,LsH (h1++[HO.o (.cells (S.flatMap encT) 1 true)]) x 4 enc4 M:=λS=>C.pre ⟨_,rfl⟩;have ag:∀S:List Bool,S.length=4*w*v->LsH (h1++[HO.o (.cells (S.flatMap encT) 1 true)]) (.slice (some ⟨h1.length,0,tag 1⟩) (4*w*v) (4*w*v+1)) 1 encT S:=λS h=>bT ey ao h.symm;have ay:∀S:List Bool,(h1++[HO.o (.cells (S.flatMap encT) 1 true)])[H.length]?=some (HO.o (.cells [.int .i64 (Int.ofNat (4*w*v))] 1 true)):=λS=>Pre.get ⟨_,rfl⟩ N;refine br (X (lM (4*w*v) [])) ?_;rw[an];refine p_y ?_;refine aS (σ:=Unit) L.length (λj _=>[.i (Int.ofNat (bo (L.take j)).length),.i (Int.ofNat j)]) (λj _=>h1++[HO.o (.cells ((lM (4*w*v) (bo (L.take j))).flatMap encT) 1 true)]) (λj _=>(bo (L.take j)).Nodup) (j0:=0) (s0:=()) rfl rfl (qaC _) (by simp) ?_;intro i _ hi F ax g;refine p_x ?_;by_cases A:i<L.length
  case neg=>
   obtain rfl:i=L.length:=by omega
   rw[aC (qaj _)];refine p_x ?_;refine cN (dK (ay _)) rfl ?_;refine p_x ?_;rw[qbD]at F ⊢;by_cases Y:(bo L).length<4*w*v
   ·rw[aD Y];refine p_x ?_;exact⟨6,rfl,s.app _,.inr ⟨r,.inr ⟨F,.inl ⟨rfl,Y⟩⟩⟩⟩
   ·rw[aC (by omega)];refine p_x ?_;exact⟨0,rfl,s.app _,.inr ⟨r,.inr ⟨F,.inr ⟨rfl,by omega⟩⟩⟩⟩
  rw[aD A];refine p_x ?_;obtain⟨⟨c,y⟩,hy⟩:=aH (l:=M) (i:=i) (by omega);obtain⟨m,d,t⟩:=hm i _ hy;simp only at d t;obtain⟨o1,U,o3,o4,o5⟩:=Q _ (qab d);simp only at o1 U o3 o4 o5;have T:=t.good;have ar:∀S:List Bool,LsH (h1++[HO.o (.cells (S.flatMap encT) 1 true)]) y 1 encN m:=λS=>(t.pre s).pre ⟨_,rfl⟩;have aE:∀k,(bo (L.take i)++m.take k).length<=1000:=λk=>by
   have:=congrArg List.length (fZ (k:=k) d);simp only[qau]at this ⊢;omega
  refine aQ (X _) rfl hy ?_;rw[show enc4 (c,y)=[.int .i64 c.1,.int .i64 c.2.1,.int .u8 (Int.ofNat c.2.2),y]from rfl];refine p_x ?_;refine ac T ?_;refine p_y ?_;refine br (ar (lM (4*w*v) (bo (L.take i)))) ?_;refine p_y ?_;refine aS (σ:=Unit) m.length (λk _=>[.i (Int.ofNat (bo (L.take i)++m.take k).length),.i (Int.ofNat k)]) (λk _=>h1++[HO.o (.cells ((lM (4*w*v) (bo (L.take i)++m.take k)).flatMap encT) 1 true)]) (λk _=>(bo (L.take i)++m.take k).Nodup) (j0:=0) (s0:=()) (by simp) (by simp) (qaC _) (by simpa using F) ?_;intro k _ hk B a3 G;have a6:=aE k;refine p_x ?_;by_cases O:k<m.length
  case neg=>
   obtain rfl:k=m.length:=by omega
   rw[aC (qaj _)];refine p_x ?_;rw[aL (by omega)];rw[qbD]at B ⊢;have:=g () A (by rw[ii d];exact B);rw[ii d]at this;exact this
  rw[aD O];refine p_x ?_;obtain⟨n,hn⟩:=aH O;have P:=o4 n (qab hn);have q:m.take (k+1)=m.take k++[n]:=by rw[qbj,hn];rfl
  refine aQ (ar _) rfl hn ?_;rw[show encN n=[.int .i64 (Int.ofNat n)]from rfl];refine p_x ?_;refine aQ (ag _ fl) rfl (pg P) ?_;rw[show ∀b:Bool,encT b=[.bool b]from λ_=>rfl];refine p_x ?_;by_cases E:n∈bo (L.take i)++m.take k
  ·rw[qdZ E];refine p_x ?_;refine⟨8,rfl,s.app _,.inr ⟨r,.inl ⟨rfl,?_⟩⟩⟩;rw[fZ (k:=k+1) d];refine uy ?_;rw[show((c,m):Stc).2=m from rfl,q,←qai];intro hd;exact(qbV.1 hd).2.2 n E n (by simp) rfl
  ·rw[qdY E];refine p_x ?_;refine cW (enc:=encT) (l:=lM (4*w*v) (bo (L.take i)++m.take k)) (i:=n) (a:=true) ey ao rfl (by rw[fl];exact P) fl rfl ?_;rw[seenL_set P];unfold putE;rw[dp];refine p_y ?_;rw[aL (by omega)];refine p_y ?_;rw[aL (by omega)];have ad:(Int.ofNat (bo (L.take i)++m.take k).length)+1=Int.ofNat (bo (L.take i)++m.take (k+1)).length:=by
    rw[q,←qai,qau (bs:=[n])];rfl
   rw[ad];have:=G () O (by
    rw[q,←qai,qbV];refine⟨B,by simp,λa J b D e=>?_⟩;rw[qaq]at D;subst D e;exact E J)
   rw[q,←qai]at this;rw[q,←qai];exact this)
 obtain⟨rs,h',h2,e,rfl,h4,h5⟩:=a1;exact⟨e,h',h2,h4,h5⟩
def uC(a:Nat->Cl)(L:List Stc):Prop:=∀s∈L,∀c∈s.2,a c=s.1
def vb{w v:Nat}(f:S3 w v){l:Ty}{G:TC}(a:ConsO w v l G){r:Mv}{k:Int}(d:okM k r)(n:k<=4000):allV w G r (4*w*v):=λc b=>by
 have m:=rS f a d b;have e:=dJ (a.ok c b) d;obtain⟨_,g,h,i,j,_⟩:=e;constructor
 ·unfold vMv;exact qdZ (by omega)
 ·unfold vCl;exact qdZ (by omega)
def StkR(w v:Nat)(l:Ty)(r:Mv)(L:List Stc)(e:Int):Prop:=
 (e=11/\¬ ∃G,mo w v l G/\G 0=idM)∨∃G,ConsO w v l G/\((e≠0/\ChkR (4*w*v) L e)∨(ChkR (4*w*v) L 0/\((e=6/\¬uC (λc=>al (af (G c) r) (clN w c)) L)∨(e=0/\uC (λc=>al (af (G c) r) (clN w c)) L))))
def ji{w v:Nat}(h3:S3 w v){l:Ty}{H:HL}{V x:Value}(a4:(l.map bR).Nodup)(hl:LsH H V 3 encC l)(a0:aB cc ab 99 [.i (.ofNat w),.i (.ofNat v),.v V] (absH aa H) [.i 0] (absH aa H))(I:l.length<=1000){r:Mv}{k:Int}(hr:okM k r)(hk:k<=4000){L:List Stc}(hx:StL H x L)(hL:L.length<=200)(R:okL (4*w*v) L)(a1:∀s∈L,-4000<=s.1.1/\s.1.1<=4000/\-4000<=s.1.2.1/\s.1.2.1<=4000)(ag:(bo L).length<=1000) :
  ∃e h',aB cc ab 16 ([.i (.ofNat w),.i (.ofNat v),.v V]++mvl r++[.v x]) (absH aa H) [.i e] (absH aa h')/\Pre H h'/\StkR w v l r L e:=by
 have hs:=h3.sh;obtain⟨b1,b2,b3,b4⟩:=h3.n;have hN:=sh_N hs;obtain⟨M,hM,P,hm⟩:=hx;obtain⟨bd,q,c1,t,hB⟩:=both_c hs a4 I hl a0 (r:=r) (aO hr (by omega));have a6:=x16 (ls:=[.i (.ofNat w),.i (.ofNat v),.v V,.i (Int.ofNat r.1),.i r.2.1,.i r.2.2,.v x]) (K:=λrs h'=>∃e:Int,rs=[.i e]/\Pre H h'/\StkR w v l r L e) (H:=H) (glsI (glsI (glsV hl.good (glsI (glsI (glsI (glsV hM.good gls0))))))) (by
  unfold f16;simp only[qxh];refine p_x ?_;simp only[mvl,qag,qaf]at c1;rcases hB with⟨rfl,Q⟩|⟨G,hG,⟨rfl,Q⟩|⟨lx,ix,rfl,a8,a3,a2⟩⟩
  ·have hb:BothC [.i (.ofNat w),.i (.ofNat v),.v V,.i (Int.ofNat r.1),.i r.2.1,.i r.2.2] H dN dN 11 q:=⟨c1,t,rfl,rfl⟩;refine ai (mW hl.good hb) ?_;refine p_x ?_;refine wc (b:=q.length) ao rfl ?_;rw[dp];refine p_y ?_;exact⟨11,rfl,t.app _,.inl ⟨rfl,Q⟩⟩
  ·exact absurd (vb h3 hG hr hk) Q
  have ap:=a2.ls eW;have hb:BothC [.i (.ofNat w),.i (.ofNat v),.v V,.i (Int.ofNat r.1),.i r.2.1,.i r.2.2] H lx ix 0 q:=⟨c1,t,(a3.ls bW).good,ap.good⟩;refine ai (mW hl.good hb) ?_;refine p_x ?_;refine wc (b:=q.length) ao rfl ?_;rw[dp];refine p_y ?_;have ay:(q++[HO.o (.cells [ix] 1 true)])[q.length]?=some (HO.o (.cells [ix] 1 true)):=ao;have T:Pre q (q++[HO.o (.cells [ix] 1 true)]):=⟨_,rfl⟩;generalize q++[HO.o (.cells [ix] 1 true)]=h2 at *;obtain⟨e,h4,c4,U,z⟩:=zB h3 (StL.pre ⟨M,hM,P,hm⟩ (t.trans T)) hL R ag;refine ai c4 ?_;refine p_x ?_;have B:=(t.trans T).trans U;by_cases N:e=0
  case neg=>
   rw[p_neq_t N];refine p_x ?_;exact⟨e,rfl,B,.inr ⟨G,hG,.inl ⟨N,z⟩⟩⟩
  subst N;rw[p_neq_f rfl];refine p_x ?_;have J:=hM.pre B;have X:=U.get ay;have ar:=(ap.pre T).pre U;refine br J ?_;rw[P];refine p_y ?_;have a9:H.length<=q.length:=t.len;refine aS (σ:=HL) L.length (λj _=>[.i (Int.ofNat j)]) (λ_ s=>s) (λj s=>Pre h4 s/\∀(i:Nat) a,i<j->L[i]?=some a->∀c∈a.2,al (af (G c) r) (clN w c)=a.1) (j0:=0) (s0:=h4) rfl rfl (qaC _) ⟨.refl _,λc a h=>by omega⟩ ?_;rintro i h hi ⟨D,C⟩ ax d;refine p_x ?_;by_cases A:i<L.length
  case pos=>
   rw[aD A];refine p_x ?_;obtain⟨⟨c,y⟩,hy⟩:=aH (l:=M) (i:=i) (by omega);obtain⟨ly,m,u⟩:=hm i _ hy;simp only at m u;obtain⟨o1,o2,o3,o4,o5⟩:=R _ (qab m);simp only at o1 o2 o3 o4 o5;have an:=u.good;refine aQ (J.pre D) rfl hy ?_;rw[show enc4 (c,y)=[.int .i64 c.1,.int .i64 c.2.1,.int .u8 (Int.ofNat c.2.2),y]from rfl];refine p_x ?_;refine ac an ?_;refine p_y ?_;refine wc (b:=h.length) ao rfl ?_;rw[dp];refine p_y ?_;have Y:(h++[HO.o (.cells [.int .i64 c.1,.int .i64 c.2.1,.int .u8 (Int.ofNat c.2.2),y] 4 true)])[h.length]?=some (HO.o (.cells [.int .i64 c.1,.int .i64 c.2.1,.int .u8 (Int.ofNat c.2.2),y] 4 true)):=ao;have a5:Pre h (h++[HO.o (.cells [.int .i64 c.1,.int .i64 c.2.1,.int .u8 (Int.ofNat c.2.2),y] 4 true)]):=⟨_,rfl⟩;generalize h++[HO.o (.cells [.int .i64 c.1,.int .i64 c.2.1,.int .u8 (Int.ofNat c.2.2),y] 4 true)]=h5 at *;have g:=D.trans a5;refine iB (ds:=[y]) (dK Y) (by simp) rfl ?_;refine p_x ?_;refine ac an ?_;refine p_y ?_;refine ac (show az (.func (.func 50) ⟨[]⟩ ⟨[ptrB q.length,ptrB h.length]⟩)=true from rfl) ?_;refine p_y ?_
   have k1:=nz (f:=.func (.func 50) ⟨[]⟩ ⟨[ptrB q.length,ptrB h.length]⟩) (p:=λn=>!decide (al (af (G n) r) (clN w n)=c)) (u.pre (B.trans g)) (by omega) rfl λn I=>nr (st1_c (g.get X) Y (ar.pre g) (rR (o4 n I))) rfl [.leaf (.i .i64 (Int.ofNat n)),.leaf (.v (ptrB q.length)),.leaf (.v (ptrB h.length))] rfl rfl rfl;refine ai k1 ?_;refine p_x ?_;cases F:ly.any (λn=>!decide (al (af (G n) r) (clN w n)=c))with
   |true=>
    refine p_x ?_;refine⟨6,rfl,B.trans g,.inr ⟨G,hG,.inr ⟨z,.inl ⟨rfl,λC=>?_⟩⟩⟩⟩;obtain⟨n,I,ad⟩:=qci.1 F;have:=C _ (qab m) n I;simp only at this;rw[qdZ this]at ad;cases ad
   |false=>
    refine p_x ?_;rw[aL (by omega)];exact d h5 A ⟨g,λj a hj ha n I=>by
     by_cases e:j=i
     ·subst e;rw[m]at ha;cases ha;have:=qdy.1 F n I;simpa using this
     ·exact C j a (by omega) ha n I⟩
  obtain rfl:i=L.length:=by omega
  rw[aC (qaj _)];refine p_x ?_;clear d;have S:uC (λc=>al (af (G c) r) (clN w c)) L:=λs hs c hc=>by
   obtain⟨i,hi⟩:=qaT hs;exact C i s (aw hi) hi c hc
  have W:=J.pre D;refine br W ?_;rw[P];refine p_y ?_;refine ce L.length (λ_=>True) (j0:=0) rfl (qaC _) trivial ?_;intro i hi _ ax d;refine p_x ?_;by_cases A:i<L.length
  case neg=>
   obtain rfl:i=L.length:=by omega
   rw[aC (qaj _)];refine p_x ?_;exact⟨0,rfl,B.trans D,.inr ⟨G,hG,.inr ⟨z,.inr ⟨rfl,S⟩⟩⟩⟩
  rw[aD A];refine p_x ?_;obtain⟨⟨c,y⟩,hy⟩:=aH (l:=M) (i:=i) (by omega);obtain⟨ly,m,u⟩:=hm i _ hy;simp only at m u;have Z:=qab m;obtain⟨o1,o2,o3,o4,o5⟩:=R _ Z;have aE:=a1 _ Z;simp only at o1 o2 o3 o4 o5 aE;refine aQ W rfl hy ?_;rw[show enc4 (c,y)=[.int .i64 c.1,.int .i64 c.2.1,.int .u8 (Int.ofNat c.2.2),y]from rfl];refine p_x ?_;refine ac u.good ?_;refine p_y ?_;refine ce 3 (λ_=>True) (j0:=0) rfl (qaC _) trivial ?_;intro k hk _ a7 E;refine p_x ?_;by_cases O:k<3
  case neg=>
   obtain rfl:k=3:=by omega
   rw[p_lss_f (show(3:Int)<=Int.ofNat 3 from qbZ _)];refine p_x ?_;rw[aL (by omega)];exact d A trivial
  rw[p_lss_t (show Int.ofNat k<3 by show(k:Int)<3;omega)];refine p_x ?_;have c5:=ngA_c (c:=c) (e:=k) o1 O o2;have hq:=zd (c:=c) (e:=k) o1 O;rw[qd0 (show vCl (nbC c k)=true by unfold vCl;exact qdZ (by omega))]at c5;simp only[cll,qag,qaf]at c5;refine ah c5 ?_;refine p_x ?_;rw[p_add8 (by show(0:Int)<=(k:Int)+1;omega) (by show(k:Int)+1<=255;omega)];exact E O trivial)
 obtain⟨rs,h',h2,e,rfl,h4,h5⟩:=a6;exact⟨e,h',h2,h4,h5⟩
def layL(L:List (Cl×List Nat))(c:Cl):Tx:=match L.find? λs=>decide (s.1=c)with
 |some s=>s.2
 |none=>[]
def yK{L:List (Cl×List Nat)}{c:Cl}:∀ {i:Nat} {s:Cl×List Nat},L[i]?=some s->s.1=c->(∀j,j<i->∀t,L[j]?=some t->t.1≠c)->L.find? (λs=>decide (s.1=c))=some s:=by
 induction L with
 |nil=>intro i s h;simp at h
 |cons a L f=>
  intro i s h d b;rw[List.find?_cons];cases i with
  |zero=>
   simp at h;subst h;rw[qdZ d]
  |succ i=>
   rw[qdY (b 0 (by omega) a rfl)];exact f (by simpa using h) d λj g t e=>b (j+1) (by omega) t (by simpa using e)
def find_none{L:List (Cl×List Nat)}{c:Cl}(a:∀(j:Nat) t,L[j]?=some t->t.1≠c):L.find? (λs=>decide (s.1=c))=none:=by
 rw[List.find?_eq_none];intro s d;obtain⟨j,b⟩:=qaT d;simpa using a j s b
def layersG_c{H:HL}{x:Value}{L:List (Cl×List Nat)}(F:StL H x L)(I:L.length<=1000)(c:Cl) :
  ∃y,aB cc ab 37 ([.v x]++cll c) (absH aa H) [.v y] (absH aa H)/\az y=true/\LsH H y 1 encN (layL L c):=by
 obtain⟨M,o,q,D⟩:=F;have s:=x37 (ls:=[.v x,.i c.1,.i c.2.1,.i (Int.ofNat c.2.2)]) (K:=λw u=>∃y,w=[.v y]/\u=H/\az y=true/\LsH H y 1 encN (layL L c)) (H:=H) (glsV o.good (glsI (glsI (glsI gls0)))) (by
  unfold f37;simp only[qxh];refine p_x ?_;refine ce L.length (λj=>∀n,n<j->∀t,L[n]?=some t->t.1≠c) (j0:=0) rfl (qaC _) (λn h=>by omega) ?_;intro i G f z g;refine p_x ?_;refine br o ?_;rw[q];by_cases m:i<L.length
  case neg=>
   obtain rfl:i=L.length:=by omega
   rw[aC (qaj _)];refine p_x ?_;refine⟨_,by first|rfl|trivial,by first|rfl|trivial,rfl,?_⟩;unfold layL;rw[find_none λj t k=>f j (aw k) t k];exact .nil _ _ _
  rw[aD m];refine p_x ?_;obtain⟨⟨a,y⟩,r⟩:=aH (l:=M) (i:=i) (by omega);obtain⟨J,d,b⟩:=D i _ r;simp only at d b;refine bp (cs:=[.int .i64 a.1,.int .i64 a.2.1,.int .u8 (Int.ofNat a.2.2)]) o rfl r rfl (by omega) ?_;refine p_x ?_;rw[eqsC];by_cases p:a=c
  ·rw[qdZ p];refine p_x ?_;refine bp (cs:=[y]) o rfl r rfl (by omega) ?_;refine p_x ?_;refine ac b.good ?_;refine p_y ?_;refine⟨y,by first|rfl|trivial,by first|rfl|trivial,b.good,?_⟩;unfold layL;rw[yK d p f];exact b
  ·rw[qdY p];refine p_x ?_;rw[aL (by omega)];exact g m λn E t k=>by
    by_cases e:n=i
    ·subst e;rw[d]at k;cases k;exact p
    ·exact f n (by omega) t k)
 obtain⟨w,u,A,y,rfl,rfl,B,C⟩:=s;exact⟨y,A,B,C⟩
abbrev Wg:=Nat×Int×Int
def encG(x:Wg):Tk:=[.int .i64 (Int.ofNat x.1),.int .i64 x.2.1,.int .u8 x.2.2]
def metK(w v:Nat)(l:Ty)(P:TC)(d:Cl)(n k:Nat):Option Wg:=
 if al (P n) (nbC (clN w n) (eK (n%4) k))=d then some (n,nbI w v n k,kAt w v l n k)else none
def metA(w v:Nat)(l:Ty)(P:TC)(d:Cl)(n:Nat):List Wg:=(List.range 3).filterMap (metK w v l P d n)
def metL(w v:Nat)(l:Ty)(P:TC)(L:List (Cl×List Nat))(c d:Cl):List Wg:=(layL L c).flatMap (metA w v l P d)
def xq{w v:Nat}{l:Ty}{P:TC}{d:Cl}{n k:Nat}:((List.range k).filterMap (metK w v l P d n)).length<=k:=qbN (qdB _ _) (by simp)
def vI{w v:Nat}{l:Ty}{P:TC}{d:Cl}:∀ {Y:Tx},(Y.flatMap (metA w v l P d)).length<=3*Y.length
 | []=>by simp
 |n :: Y=>by
  rw[qaV,qau,qa0];have a:=vI (w:=w) (v:=v) (l:=l) (P:=P) (d:=d) (Y:=Y);have b:(metA w v l P d n).length<=3:=xq;omega
def meets_c{w v:Nat}(u:S3 w v){l:Ty}{H:HL}{x U T V:Value}{L:List (Cl×List Nat)}(hx:StL H x L)(D:L.length<=1000)(G:az U=true)(hk:LsH H T 1 enc8 (tabL w v l)){Pl:TI}(hp:LsH H V 3 encM Pl){P:TC}(hP:∀n,n<4*w*v->Pl[n]?=some (P n))(F:∀n,n<4*w*v->okM 30000 (P n))
  (c d:Cl) (hid:∀n∈layL L c,n<4*w*v) (ap:(layL L c).length<=1000) :
  ∃z h',aB cc ab 10 ([.i (.ofNat w),.i (.ofNat v),.v U,.v T,.v V,.v x]++cll c++cll d) (absH aa H) [.v z] (absH aa h')/\Pre H h'/\az z=true/\LsH h' z 3 encG (metL w v l P L c d):=by
 have hs:=u.sh;obtain⟨b1,b2,b3,b4⟩:=u.n;have hN:=sh_N hs;obtain⟨y,hy,ax,X⟩:=layersG_c hx D c;obtain⟨M,hM,_,_⟩:=hx;have Q:metL w v l P L c d=(layL L c).flatMap (metA w v l P d):=rfl;rw[Q];generalize layL L c=Y at *;have R:=x10 (ls:=[.i (.ofNat w),.i (.ofNat v),.v U,.v T,.v V,.v x,.i c.1,.i c.2.1,.i (Int.ofNat c.2.2),.i d.1,.i d.2.1,.i (Int.ofNat d.2.2)]) (K:=λrs h'=>∃z,rs=[.v z]/\Pre H h'/\az z=true/\LsH h' z 3 encG (Y.flatMap (metA w v l P d))) (H:=H) (glsI (glsI (glsV G (glsV hk.good (glsV hp.good (glsV hM.good (glsI (glsI (glsI (glsI (glsI (glsI gls0)))))))))))) (by
  unfold f10;simp only[qxh];refine p_x ?_;simp only[cll,qag,qaf]at hy;refine ai hy ?_;refine p_x ?_;refine aS (σ:=HL×Value) Y.length (λj s=>[.v s.2,.i (Int.ofNat j)]) (λ_ s=>s.1) (λj s=>Pre H s.1/\az s.2=true/\MkL H.length s.1 s.2 3 encG ((Y.take j).flatMap (metA w v l P d))) (j0:=0) (s0:=(H,.slice none 0 0)) rfl rfl (qaC _) ⟨.refl _,rfl,.nil _ _ _ _⟩ ?_;rintro j ⟨h,z⟩ hj ⟨b,e,o⟩ ad t;simp only at b o e ⊢;refine p_x ?_;refine br (X.pre b) ?_;by_cases p:j<Y.length
  case neg=>
   rw[aC (by omega)];refine p_x ?_;rw[qaH (by omega)]at o;exact⟨z,rfl,b,e,o.ls⟩
  rw[aD p];refine p_x ?_;obtain⟨n,r⟩:=aH p;have q:=hid n (qab r);have O:(Y.take (j+1)).flatMap (metA w v l P d)=(Y.take j).flatMap (metA w v l P d)++metA w v l P d n:=by
   rw[qbj,r,qbB];simp
  have J:=vI (w:=w) (v:=v) (l:=l) (P:=P) (d:=d) (Y:=Y.take j);rw[qaL]at J;refine aQ (X.pre b) rfl r ?_;rw[show encN n=[.int .i64 (Int.ofNat n)]from rfl];refine p_x ?_;have hr:=dc hs q;have B:=F n q;refine aS (σ:=HL×Value) 3 (λk s=>[.v s.2,.i (Int.ofNat k)]) (λ_ s=>s.1) (λk s=>Pre H s.1/\az s.2=true/\MkL H.length s.1 s.2 3 encG ((Y.take j).flatMap (metA w v l P d)++(List.range k).filterMap (metK w v l P d n))) (j0:=0) (s0:=(h,z)) rfl rfl (qaC _) ⟨b,e,by simpa using o⟩ ?_;clear b o e;rintro k ⟨h,z⟩ ag ⟨b,e,o⟩ S f;simp only at b o e ⊢;refine p_x ?_;by_cases g:k<3
  case neg=>
   obtain rfl:k=3:=by omega
   rw[p_lss_f (show(3:Int)<=Int.ofNat 3 from qbZ _)];refine p_x ?_;rw[aL (by omega)];exact t (h,z) p ⟨b,e,by rw[O];exact o⟩
  rw[p_lss_t (show Int.ofNat k<3 by show(k:Int)<3;omega)];refine p_x ?_;have I:=fW (n%4) k;have hq:=zd (c:=clN w n) hr.2.2.2.2 I;have W:=fU u q;have c2:=yy u q g;have c3:=ik (m:=P n) (c:=nbC (clN w n) (eK (n%4) k)) B.1 (by obtain⟨_,g1,g2,g3,g4,_⟩:=B;omega) hq.1 (by omega);have c4:=ur u q g;have A:metK w v l P d n k=if al (P n) (nbC (clN w n) (eK (n%4) k))=d then some (n,nbI w v n k,kAt w v l n k)else none:=rfl
  generalize nbC (clN w n) (eK (n%4) k)=be at *;generalize ar:al (P n) be=mb at *;simp only[cll,mvl,qag,qaf]at W c2 c3;refine aQ (hp.pre b) rfl (hP n q) ?_;rw[show encM (P n)=[.int .u8 (Int.ofNat (P n).1),.int .i64 (P n).2.1,.int .i64 (P n).2.2]from rfl];refine p_x ?_;refine ah W ?_;refine p_x ?_;refine ah c2 ?_;refine p_x ?_;refine ah c3 ?_;refine p_x ?_;rw[eqsC];by_cases C:mb=d
  case neg=>
   rw[qdY C];simp(disch:=omega)only[↓qXX,qaX];rw[aL (by omega)];exact f (h,z) g ⟨b,e,by rw[jN,A,qd1 C];simpa using o⟩
  rw[qdZ C];simp(disch:=omega)only[↓qXX,qaQ];refine ah c4 ?_;refine p_x ?_;rw[mul_3 (by omega)];refine p_y ?_;rw[tk (by omega)];refine p_y ?_;refine aQ (hk.pre b) rfl (kM q g) ?_;rw[show enc8 (kAt w v l n k)=[.int .u8 (kAt w v l n k)]from rfl];refine p_x ?_;have an:=xq (w:=w) (v:=v) (l:=l) (P:=P) (d:=d) (n:=n) (k:=k);refine p_app1 (h0:=H) (a:=((n,nbI w v n k,kAt w v l n k):Wg)) b o rfl rfl rfl rfl (by
   unfold bh;rw[qau,qal (by omega),qal (by omega)];rfl) ?_
  intro z' h' N E Z _ _;refine p_x ?_;refine ac Z ?_;refine p_y ?_;rw[aL (by omega)];exact f (h',z') g ⟨N,Z,by rw[jN,A,qd0 C,←qai];exact E⟩)
 obtain⟨rs,h',h2,z,rfl,h4,h5,h6⟩:=R;exact⟨z,h',h2,h4,h5,h6⟩
def wheN(l:List Wg)(id:Int):Int:=match l.findIdx? λa=>decide (Int.ofNat a.1=id)with
 |some i=>Int.ofNat i
 |none=>-1
def wA{H:HL}{x:Value}{l:List Wg}(p:LsH H x 3 encG l)(o:l.length<=1000000)(id:Int):aB cc ab 42 [.v x,.i id] (absH aa H) [.i (wheN l id)] (absH aa H):=by
 exact xK x42 (glsV p.good (glsI gls0)) (by
  unfold f42;simp only[qxh];refine p_x ?_;refine ce l.length (λj=>∀n,n<j->∀a,l[n]?=some a->Int.ofNat a.1≠id) (j0:=0) rfl (qaC _) (λn h=>by omega) ?_;intro i t d q f;refine p_x ?_;refine br p ?_;by_cases c:i<l.length
  case neg=>
   rw[aC (by omega)];refine p_x ?_;have:l.findIdx? (λa=>decide (Int.ofNat a.1=id))=none:=by
    rw[List.findIdx?_eq_none_iff];intro a g;obtain⟨n,o⟩:=qaT g;have:=d n (by have:=aw o;omega) a o;exact qdY this
   unfold wheN;rw[this];trivial
  rw[aD c];refine p_x ?_;obtain⟨a,g⟩:=aH c;refine bp (cs:=[.int .i64 (Int.ofNat a.1)]) p rfl g rfl (by omega) ?_;refine p_x ?_;by_cases k:Int.ofNat a.1=id
  ·rw[p_eql_t k];refine p_x ?_;have:l.findIdx? (λa=>decide (Int.ofNat a.1=id))=some i:=by
    rw[qcQ];refine⟨c,?_,λj r=>?_⟩
    ·rw[qap c]at g;cases g;exact qdZ k
    ·have:=d j r _ (qap (by omega));simpa using this
   unfold wheN;rw[this];trivial
  ·rw[p_eql_f k];refine p_x ?_;rw[aL (by omega)];exact f c λn s b m=>by
    by_cases e:n=i
    ·subst e;rw[g]at m;cases m;exact k
    ·exact d n (by omega) b m)
def kj{H:HL}{x:Value}{l:List Wg}(b:LsH H x 3 encG l)(d:l.length<=1000000){i:Nat}{a:Wg}(c:l[i]?=some a):aB cc ab 41 [.v x,.i (Int.ofNat i)] (absH aa H) [.i (wheN l a.2.1)] (absH aa H):=by
 exact xK x41 (glsV b.good (glsI gls0)) (by
  unfold f41;simp only[qxh];refine p_x ?_;refine bp (cs:=[.int .i64 a.2.1]) b rfl c rfl (by omega) ?_;refine p_x ?_;refine ai (wA b d a.2.1) ?_;simp(disch:=omega)only[↓qXX];trivial)
theorem wheN_lt{l:List Wg}{id:Int}:wheN l id<Int.ofNat l.length/\-1<=wheN l id:=by
 unfold wheN;split
 next i h=>
  obtain⟨a,_⟩:=qcQ.1 h;exact⟨qcl.2 a,by have:=qaG i;show -1<=(i:Int);omega⟩
 ·exact⟨by have:=qaG l.length;show -1<(l.length:Int);omega,qbZ _⟩
def oh(l:List Wg)(i:Nat)(x y:Wg):Prop:=(0<=y.2.1/\y.2.2=0)∨(y.2.2≠0/\(wheN l y.2.1<Int.ofNat i∨wheN l x.2.1<wheN l y.2.1))
def ldX(l:List Wg):Prop:=∃(i k:Nat) (x y:Wg),l[i]?=some x/\l[k]?=some y/\x.2.2≠0/\i<k/\Int.ofNat k<wheN l x.2.1/\oh l i x y
def psP(b:List Wg)(x y:Wg):Prop:=x.2.2=0/\y.2.2=0/\0<=x.2.1/\0<=y.2.1/\wheN b y.2.1<wheN b x.2.1
def psX(a b:List Wg):Prop:=∃(i k:Nat) (x y:Wg),a[i]?=some x/\a[k]?=some y/\i<k/\psP b x y
def CrX(a b:List Wg):Prop:=ldX a∨ldX b∨psX a b
def crossed_c{H:HL}{x y:Value}{A B:List Wg}(O:LsH H x 3 encG A)(hy:LsH H y 3 encG B)(hA:A.length<=100000)(hB:B.length<=100000) :
  ∃e,aB cc ab 14 [.v x,.v y] (absH aa H) [.i e] (absH aa H)/\((e=1/\CrX A B)∨(e=0/\¬CrX A B)):=by
 have a4:=x14 (ls:=[.v x,.v y]) (K:=λrs h'=>∃e:Int,rs=[.i e]/\h'=H/\((e=1/\CrX A B)∨(e=0/\¬CrX A B))) (H:=H) (glsV O.good (glsV hy.good gls0)) (by
  unfold f14;simp only[qxh];refine p_x ?_;refine ce 2 (λj=>(0<j->¬ldX A)/\(1<j->¬ldX B)) (j0:=0) rfl (qaC _) ⟨λh=>by omega,λh=>by omega⟩ ?_;rintro s hs ⟨X,an⟩ ad C;refine p_x ?_;by_cases a7:s<2
  case neg=>
   obtain rfl:s=2:=by omega
   rw[p_lss_f (show(2:Int)<=Int.ofNat 2 from qbZ _)];refine p_x ?_;have ax:=X (by omega);have ay:=an (by omega);refine ce A.length (λi=>∀(g k:Nat) u w,g<i->A[g]?=some u->A[k]?=some w->g<k->¬psP B u w) (j0:=0) rfl (qaC _) (λg k u w h=>by omega) ?_;intro i hi M ad C;refine p_x ?_;refine br O ?_;by_cases q:i<A.length
   case neg=>
    rw[aC (by omega)];refine p_x ?_;refine⟨0,rfl,by trivial,.inr ⟨rfl,?_⟩⟩;rintro(h|h|⟨g,k,u,w,F,c,f,p⟩)
    ·exact ax h
    ·exact ay h
    ·exact M g k u w (by have:=aw F;omega) F c f p
   rw[aD q];refine p_x ?_;rw[aL (by omega)];refine ce A.length (λk=>i<k/\∀(d:Nat) u w,d<k->A[i]?=some u->A[d]?=some w->i<d->¬psP B u w) (j0:=i+1) rfl (by omega) ⟨by omega,λd u w F c f p=>by omega⟩ ?_;rintro k hk ⟨T,n⟩ D m;refine p_x ?_;refine br O ?_;by_cases L:k<A.length
   case neg=>
    rw[aC (by omega)];refine p_x ?_;rw[aL (by omega)];exact C q λg d u w F c f p=>by
     by_cases e:g=i
     ·subst e;exact n d u w (by have:=aw f;omega) c f p
     ·exact M g d u w (by omega) c f p
   rw[aD L];refine p_x ?_;obtain⟨u,N⟩:=aH q;obtain⟨t,G⟩:=aH L;have a:¬psP B u t->D [.i (Int.ofNat k+1)] H:=λY=>m L ⟨by omega,λd u' W F c f p=>by
    by_cases e:d=k
    ·subst e;rw[N]at c;rw[G]at f;cases c;cases f;exact Y
    ·exact n d u' W (by omega) c f p⟩
   refine bp (cs:=[.int .u8 u.2.2]) O rfl N rfl (by omega) ?_;refine p_x ?_;by_cases k1:u.2.2=0
   case neg=>
    rw[p_neq_t k1];refine p_x ?_;rw[aL (by omega)];exact a λh=>k1 h.1
   rw[p_neq_f k1];refine p_x ?_;refine bp (cs:=[.int .u8 t.2.2]) O rfl G rfl (by omega) ?_;refine p_x ?_;by_cases o:t.2.2=0
   case neg=>
    rw[p_neq_t o];refine p_x ?_;rw[aL (by omega)];exact a λh=>o h.2.1
   rw[p_neq_f o];refine p_x ?_;refine bp (cs:=[.int .i64 u.2.1]) O rfl N rfl (by omega) ?_;refine p_x ?_;by_cases k3:u.2.1<0
   case pos=>
    rw[p_lss_t k3];refine p_x ?_;rw[aL (by omega)];exact a λh=>by have:=h.2.2.1;omega
   rw[p_lss_f (by omega)];refine p_x ?_;refine bp (cs:=[.int .i64 t.2.1]) O rfl G rfl (by omega) ?_;refine p_x ?_;by_cases k4:t.2.1<0
   case pos=>
    rw[p_lss_t k4];refine p_x ?_;rw[aL (by omega)];exact a λh=>by have:=h.2.2.2.1;omega
   rw[p_lss_f (by omega)];refine p_x ?_;refine bp (cs:=[.int .i64 u.2.1]) O rfl N rfl (by omega) ?_;refine p_x ?_;refine ai (wA hy (by omega) u.2.1) ?_;refine p_x ?_;refine bp (cs:=[.int .i64 t.2.1]) O rfl G rfl (by omega) ?_;refine p_x ?_;refine ai (wA hy (by omega) t.2.1) ?_;refine p_x ?_;by_cases k5:wheN B t.2.1<wheN B u.2.1
   case pos=>
    rw[p_gtr_t k5];refine p_x ?_;exact⟨1,rfl,by trivial,.inl ⟨rfl,.inr (.inr ⟨i,k,u,t,N,G,T,k1,o,by omega,by omega,k5⟩)⟩⟩
   rw[p_gtr_f (by omega)];refine p_x ?_;rw[aL (by omega)];exact a λh=>k5 h.2.2.2.2
  obtain⟨z,Z,ap,a0,Q,hZ,ag,a3⟩ : ∃z Z,inB 2 (Int.ofNat s)=some ()/\oN [.v x,.v y] 0 [(Int.ofNat s,1)] 1=some [.v z]/\LsH H z 3 encG Z/\Z.length<=100000/\(ldX Z->CrX A B)/\(¬ldX Z->(0<s+1->¬ldX A)/\(1<s+1->¬ldX B)):=by
   obtain rfl|rfl:s=0∨s=1:=by omega
   ·exact⟨x,A,rfl,rfl,O,hA,.inl,λh=>⟨λ_=>h,λh=>by omega⟩⟩
   ·exact⟨y,B,rfl,rfl,hy,hB,λh=>.inr (.inl h),λh=>⟨λ_=>X (by omega),λ_=>h⟩⟩
  rw[p_lss_t (show Int.ofNat s<2 by show(s:Int)<2;omega)];refine p_x ?_;refine ae ap ?_;refine ae a0 ?_;refine p_x ?_;refine ce Z.length (λi=>∀(g k:Nat) u w,g<i->Z[g]?=some u->Z[k]?=some w->u.2.2≠0->g<k->Int.ofNat k<wheN Z u.2.1->¬oh Z g u w) (j0:=0) rfl (qaC _) (λg k u w h=>by omega) ?_;intro i hi M U P;refine p_x ?_;refine br Q ?_;by_cases q:i<Z.length
  case neg=>
   rw[aC (by omega)];refine p_x ?_;rw[aL (by omega)];have aE:¬ldX Z:=λ⟨g,k,u,w,F,c,f,p,V,h6⟩=>M g k u w (by have:=aw F;omega) F c f p V h6;exact C (by omega) (a3 aE)
  rw[aD q];refine p_x ?_;obtain⟨u,N⟩:=aH q;have r:(∀(k:Nat) w,Z[k]?=some w->u.2.2≠0->i<k->Int.ofNat k<wheN Z u.2.1->¬oh Z i u w)->U [.i (Int.ofNat i+1)] H:=λY=>P q λg d u' W F c f p V h6=>by
   by_cases e:g=i
   ·subst e;rw[N]at c;cases c;exact Y d W f p V h6
   ·exact M g d u' W (by omega) c f p V h6
  refine bp (cs:=[.int .u8 u.2.2]) Q rfl N rfl (by omega) ?_;refine p_x ?_;by_cases k0:u.2.2=0
  case pos=>
   rw[p_eql_t k0];refine p_x ?_;rw[aL (by omega)];exact r λk w F c=>absurd k0 c
  rw[p_eql_f k0];refine p_x ?_;refine ai (kj Q (by omega) N) ?_;refine p_x ?_;rw[aL (by omega)];have hE:=@wheN_lt Z u.2.1;obtain⟨E,I⟩ : ∃E,wheN Z u.2.1=E:=⟨_,rfl⟩;rw[I]at hE r ⊢;refine ce (max (i+1) E.toNat) (λk=>i<k/\∀(d:Nat) w,d<k->Z[d]?=some w->i<d->¬oh Z i u w) (j0:=i+1) rfl (qcD _ _) ⟨by omega,λd w F c f=>by omega⟩ ?_;rintro k hk ⟨T,n⟩ D m;refine p_x ?_;by_cases J:Int.ofNat k<E
  case neg=>
   rw[p_lss_f (by omega)];refine p_x ?_;rw[aL (by omega)];refine r λd w F c f p=>n d w ?_ F f;have p:(d:Int)<E:=p;have J:¬(k:Int)<E:=J;omega
  rw[p_lss_t J];refine p_x ?_;have a5:(k:Int)<E:=J;have a6:E<(Z.length:Int):=hE.1;have ar:k<max (i+1) E.toNat:=by omega
  obtain⟨t,G⟩:=aH (l:=Z) (i:=k) (by omega);have a:¬oh Z i u t->D [.i (Int.ofNat k+1)] H:=λY=>m ar ⟨by omega,λd W F c f=>by
   by_cases e:d=k
   ·subst e;rw[G]at c;cases c;exact Y
   ·exact n d W (by omega) c f⟩
  have b:oh Z i u t->CrX A B:=λh=>ag ⟨i,k,u,t,N,G,k0,T,by rw[I];exact J,h⟩;refine bp (cs:=[.int .i64 t.2.1]) Q rfl G rfl (by omega) ?_;refine p_x ?_;by_cases kT:0<=t.2.1
  case pos=>
   rw[p_geq_t kT];refine p_x ?_;refine bp (cs:=[.int .u8 t.2.2]) Q rfl G rfl (by omega) ?_;refine p_x ?_;by_cases o:t.2.2=0
   case pos=>
    rw[p_eql_t o];refine p_x ?_;exact⟨1,rfl,by trivial,.inl ⟨rfl,b (.inl ⟨kT,o⟩)⟩⟩
   rw[p_eql_f o];refine p_x ?_;refine bp (cs:=[.int .u8 t.2.2]) Q rfl G rfl (by omega) ?_;refine p_x ?_;refine ai (kj Q (by omega) G) ?_;refine p_x ?_;by_cases R:wheN Z t.2.1<Int.ofNat i
   case pos=>
    rw[p_lss_t R];refine p_x ?_;exact⟨1,rfl,by trivial,.inl ⟨rfl,b (.inr ⟨o,.inl R⟩)⟩⟩
   rw[p_lss_f (by omega)];refine p_x ?_;by_cases S:E<wheN Z t.2.1
   case pos=>
    rw[p_gtr_t S];refine p_x ?_;exact⟨1,rfl,by trivial,.inl ⟨rfl,b (.inr ⟨o,.inr (by rw[I];exact S)⟩)⟩⟩
   rw[p_gtr_f (by omega)];refine p_x ?_;rw[aL (by omega)];exact a λh=>h.elim (λh=>o h.2) λh=>h.2.elim R λh=>S (by rw[I]at h;exact h)
  rw[p_geq_f (by omega)];refine p_x ?_;refine bp (cs:=[.int .u8 t.2.2]) Q rfl G rfl (by omega) ?_;refine p_x ?_;by_cases o:t.2.2=0
  case pos=>
   rw[p_neq_f o];refine p_x ?_;rw[aL (by omega)];exact a λh=>h.elim (λh=>kT h.1) λh=>h.1 o
  rw[p_neq_t o];refine p_x ?_;refine ai (kj Q (by omega) G) ?_;refine p_x ?_;by_cases R:wheN Z t.2.1<Int.ofNat i
  case pos=>
   rw[p_lss_t R];refine p_x ?_;exact⟨1,rfl,by trivial,.inl ⟨rfl,b (.inr ⟨o,.inl R⟩)⟩⟩
  rw[p_lss_f (by omega)];refine p_x ?_;by_cases S:E<wheN Z t.2.1
  case pos=>
   rw[p_gtr_t S];refine p_x ?_;exact⟨1,rfl,by trivial,.inl ⟨rfl,b (.inr ⟨o,.inr (by rw[I];exact S)⟩)⟩⟩
  rw[p_gtr_f (by omega)];refine p_x ?_;rw[aL (by omega)];exact a λh=>h.elim (λh=>kT h.1) λh=>h.2.elim R λh=>S (by rw[I]at h;exact h))
 obtain⟨rs,h',c,e,rfl,rfl,V⟩:=a4;exact⟨e,c,V⟩
def beforeG_c{a b:Cl}:Cc 96 (cll a++cll b) [.i (if gtS b a then 1 else 0)]:=by
 obtain⟨x,y,q⟩:=a;obtain⟨d,e,c⟩:=b;refine q96 rfl ?_;unfold f96;simp only[qxh];simp only[cll,qag,qaf];refine p_x ?_;have l:(Int.ofNat q<Int.ofNat c)↔q<c:=qcl;by_cases j:y<e
 ·rw[p_lss_t j];refine p_x ?_;rw[show gtS (d,e,c) (x,y,q)=true from qdZ (.inl j)];rfl
 rw[p_lss_f (by omega)];refine p_x ?_;by_cases f:y=e
 case neg=>
  rw[p_eql_f f];refine p_x ?_;rw[show gtS (d,e,c) (x,y,q)=false from qdY (by simp only;omega)];rfl
 rw[p_eql_t f];refine p_x ?_;by_cases k:x<d
 ·rw[p_lss_t k];refine p_x ?_;rw[show gtS (d,e,c) (x,y,q)=true from qdZ (.inr ⟨f.symm,.inl k⟩)];rfl
 rw[p_lss_f (by omega)];refine p_x ?_;by_cases g:x=d
 case neg=>
  rw[p_eql_f g];refine p_x ?_;rw[show gtS (d,e,c) (x,y,q)=false from qdY (by simp only;omega)];rfl
 rw[p_eql_t g];refine p_x ?_;by_cases h:q<c
 ·rw[p_lss_t (l.2 h)];refine p_x ?_;rw[show gtS (d,e,c) (x,y,q)=true from qdZ (.inr ⟨f.symm,.inr ⟨g.symm,h⟩⟩)];rfl
 ·rw[p_lss_f (by rw[Int.not_lt.symm,l];exact h)];refine p_x ?_;rw[show gtS (d,e,c) (x,y,q)=false from qdY (by simp only;omega)];rfl
def oneS(N:Nat)(S:Tx):Tx:=(List.range N).map λc=>if c∈S then 1 else 0
def mY{N c:Nat}{S:Tx}(h:c<N):(oneS N S)[c]?=some (if c∈S then 1 else 0):=by
 unfold oneS;rw[qan,qbc h];rfl
def dm{N:Nat}{S:Tx}:(oneS N S).length=N:=by simp[oneS]
def oneS_set{N c:Nat}{S:Tx}(h:c<N):(oneS N S).set c 1=oneS N (S++[c]):=by
 refine qbi λi=>?_;by_cases a:i<N
 ·rw[qa2,dm,mY a,mY a];by_cases e:c=i
  ·subst e;rw[qd0 rfl,qd0 h];simp
  ·rw[qd1 e];have:i∈S++[c]↔i∈S:=by
    rw[qaz,qaq];exact⟨λh=>h.elim id λh=>absurd h.symm e,.inl⟩
   simp only[this]
 ·rw[qak (by rw[qay,dm];omega),qak (by rw[dm];omega)]
def listedG_c{w v:Nat}(h3:S3 w v){H:HL}{x:Value}{L:List Stc}(hx:StL H x L)(hL:L.length<=200)(an:okL (4*w*v) L)(a1:(bo L).length<=1000) :
  ∃e h',aB cc ab 54 [.v x,.i (.ofNat (4*w*v))] (absH aa H) [.i e] (absH aa h')/\Pre H h'/\ChkR (4*w*v) L e:=by
 have hs:=h3.sh;obtain⟨b1,b2,b3,b4⟩:=h3.n;have hN:=sh_N hs;obtain⟨M,hM,ag,hm⟩:=hx;have a0:=x54 (ls:=[.v x,.i (.ofNat (4*w*v))]) (K:=λrs h'=>∃e,rs=[.i e]/\Pre H h'/\ChkR (4*w*v) L e) (H:=H) (glsV hM.good (glsI gls0)) (by
  unfold f54;simp only[qxh];refine p_x ?_;refine ae (dZ (by omega)) ?_;refine p_x ?_;rw[show(Int.ofNat (4*w*v)).toNat=4*w*v from rfl];have z0:HO.o (.cells (bc [.int .i64 0] (4*w*v)) 1 true)=HO.o (.cells ((oneS (4*w*v) []).flatMap encN) 1 true):=by
   have:oneS (4*w*v) []=List.replicate (4*w*v) 0:=by
    rw[qc3];refine⟨dm,λx hx=>?_⟩;obtain⟨i,_,rfl⟩:=qaA.1 hx;rw[qd1 (by simp)]
   rw[this,←cU (enc:=encN) (z:=0) (n:=4*w*v)];rfl
  rw[z0];have B:∀S:List Nat,LsH (H++[HO.o (.cells (S.flatMap encN) 1 true)]) x 4 enc4 M:=λS=>hM.pre ⟨_,rfl⟩;have O:∀(S:Tx) (y:Value) (d:Tx),LsH H y 1 encN d->LsH (H++[HO.o (.cells (S.flatMap encN) 1 true)]) y 1 encN d:=λS y i h=>h.pre ⟨_,rfl⟩;refine ce L.length (λi=>∀(j:Nat) a b,j+1<i->L[j]?=some a->L[j+1]?=some b->gtS b.1 a.1=true) (j0:=0) rfl (qaC _) (λj a b h=>by omega) ?_;intro i hi T V p;refine p_x ?_;have A:=B (oneS (4*w*v) []);have X:=O (oneS (4*w*v) []);refine br A ?_;rw[ag];by_cases D:i<L.length
  case neg=>
   obtain rfl:i=L.length:=by omega
   rw[aC (qaj _)];refine p_x ?_;clear p D;have t:ascA L:=λj a b W P=>T j a b (by have:=aw P;omega) W P;refine aS (σ:=Unit) L.length (λj _=>[.i (Int.ofNat (bo (L.take j)).length),.i (Int.ofNat j)]) (λj _=>H++[HO.o (.cells ((oneS (4*w*v) (bo (L.take j))).flatMap encN) 1 true)]) (λj _=>(bo (L.take j)).Nodup) (j0:=0) (s0:=()) rfl rfl (qaC _) (by simp[bo]) ?_;intro i _ hi R V p;refine p_x ?_;refine br (B (oneS (4*w*v) (bo (L.take i)))) ?_;rw[ag];by_cases D:i<L.length
   case neg=>
    obtain rfl:i=L.length:=by omega
    rw[aC (qaj _)];refine p_x ?_;rw[qbD]at R ⊢;by_cases ad:(bo L).length<4*w*v
    ·rw[aD ad];refine p_x ?_;exact⟨6,rfl,⟨_,rfl⟩,.inr ⟨t,.inr ⟨R,.inl ⟨rfl,ad⟩⟩⟩⟩
    ·rw[aC (by omega)];refine p_x ?_;exact⟨0,rfl,⟨_,rfl⟩,.inr ⟨t,.inr ⟨R,.inr ⟨rfl,by omega⟩⟩⟩⟩
   rw[aD D];refine p_x ?_;obtain⟨⟨c,y⟩,J⟩:=aH (l:=M) (i:=i) (by omega);obtain⟨d,g,f⟩:=hm i _ J;simp only at g f;obtain⟨o1,o2,o3,o4,o5⟩:=an _ (qab g);simp only at o1 o2 o3 o4 o5;have s:=f.good;have aE:∀k,(bo (L.take i)++d.take k).length<=1000:=λk=>by
    have:=congrArg List.length (fZ (k:=k) g);simp only[qau]at this ⊢;omega
   refine aS (σ:=Unit) d.length (λk _=>[.i (Int.ofNat (bo (L.take i)++d.take k).length),.i (Int.ofNat k)]) (λk _=>H++[HO.o (.cells ((oneS (4*w*v) (bo (L.take i)++d.take k)).flatMap encN) 1 true)]) (λk _=>(bo (L.take i)++d.take k).Nodup) (j0:=0) (s0:=()) (by simp) (by simp) (qaC _) (by simpa using R) ?_;intro k _ hk G Y q;have a2:=aE k;refine p_x ?_;refine bp (cs:=[y]) (B _) rfl J rfl (by omega) ?_;refine p_x ?_;refine ac s ?_;refine p_x ?_;refine br (O (oneS (4*w*v) (bo (L.take i)++d.take k)) _ _ f) ?_;by_cases C:k<d.length
   case neg=>
    obtain rfl:k=d.length:=by omega
    rw[aC (qaj _)];refine p_x ?_;rw[aL (by omega)];rw[qbD]at G ⊢;have:=p () D (by rw[ii g];exact G);rw[ii g]at this;exact this
   rw[aD C];refine p_x ?_;obtain⟨n,U⟩:=aH C;have r:=o4 n (qab U);have u:d.take (k+1)=d.take k++[n]:=by rw[qbj,U];rfl
   refine bp (cs:=[y]) (B _) rfl J rfl (by omega) ?_;refine p_x ?_;refine ac s ?_;refine p_x ?_;refine aQ (O _ _ _ f) rfl U ?_;rw[show encN n=[.int .i64 (Int.ofNat n)]from rfl];refine p_x ?_;have E:∀S:List Nat,S.length=4*w*v->LsH (H++[HO.o (.cells (S.flatMap encN) 1 true)]) (.slice (some ⟨H.length,0,tag 1⟩) (4*w*v) (4*w*v+1)) 1 encN S:=λS h=>bT aG ao h.symm;have g0:=mY (N:=4*w*v) (c:=n) (S:=bo (L.take i)++d.take k) r;refine aQ (E _ dm) rfl g0 ?_;rw[show ∀m:Nat,encN m=[.int .i64 (Int.ofNat m)]from λ_=>rfl];refine p_x ?_;by_cases Q:n∈bo (L.take i)++d.take k
   ·rw[qd0 Q,aL (by omega)];refine p_y ?_;refine cW (enc:=encN) (l:=oneS (4*w*v) (bo (L.take i)++d.take k)) (i:=n) (a:=2) aG ao rfl (by rw[dm];exact r) dm rfl ?_;unfold putE;rw[dp];refine p_y ?_;refine bp (cs:=[y]) (B _) rfl J rfl (by omega) ?_;refine p_x ?_;refine ac s ?_;refine p_x ?_;refine aQ (O _ _ _ f) rfl U ?_;rw[show encN n=[.int .i64 (Int.ofNat n)]from rfl];refine p_x ?_;refine aQ (E _ (by rw[qay];exact dm)) rfl (qaK (by rw[dm];exact r)) ?_;rw[show encN 2=[.int .i64 2]from rfl];refine p_x ?_;refine⟨8,by trivial,⟨_,rfl⟩,.inr ⟨t,.inl ⟨rfl,?_⟩⟩⟩;rw[fZ (k:=k+1) g];refine uy ?_;rw[u,←qai,qbV];exact λh=>h.2.2 n Q n (qaq.2 rfl) rfl
   rw[qd1 Q,aL (by omega)];refine p_y ?_;refine cW (enc:=encN) (l:=oneS (4*w*v) (bo (L.take i)++d.take k)) (i:=n) (a:=1) aG ao rfl (by rw[dm];exact r) dm rfl ?_;rw[oneS_set r];unfold putE;rw[dp];refine p_y ?_;refine bp (cs:=[y]) (B _) rfl J rfl (by omega) ?_;refine p_x ?_;refine ac s ?_;refine p_x ?_;refine aQ (O _ _ _ f) rfl U ?_;rw[show encN n=[.int .i64 (Int.ofNat n)]from rfl];refine p_x ?_;have g1:=mY (N:=4*w*v) (c:=n) (S:=bo (L.take i)++d.take k++[n]) r;rw[qd0 (by simp)]at g1;refine aQ (E _ dm) rfl g1 ?_;rw[show encN 1=[.int .i64 1]from rfl];refine p_x ?_;have ax:Int.ofNat (bo (L.take i)++d.take k).length+1=Int.ofNat (bo (L.take i)++d.take (k+1)).length:=by
    rw[u,←qai,qau (bs:=[n])];rfl
   rw[aL (by omega)];refine p_y ?_;rw[aL (by omega),ax];have:=q () C (by
    rw[u,←qai,qbV];exact⟨G,by simp,λa W b P e=>Q (by rw[qaq]at P;subst P;subst e;exact W)⟩)
   rw[show bo (L.take i)++d.take k++[n]=bo (L.take i)++d.take (k+1)by rw[u,qai]];exact this
  rw[aD D];refine p_x ?_;obtain⟨⟨c,y⟩,J⟩:=aH (l:=M) (i:=i) (by omega);obtain⟨d,g,f⟩:=hm i _ J;simp only at g f;obtain⟨o1,o2,o3,o4,o5⟩:=an _ (qab g);simp only at o1 o2 o3 o4 o5;have hq:(0:Int)<=Int.ofNat c.2.2/\Int.ofNat c.2.2<=3:=⟨qaG _,by show(c.2.2:Int)<=3;omega⟩;refine bp (cs:=[.int .i64 c.1,.int .i64 c.2.1,.int .u8 (Int.ofNat c.2.2)]) A rfl J rfl (by omega) ?_;refine p_x ?_;have s:=f.good;have ar:d.length≠0:=λe=>o3 (qaY.1 e);have ay:(∀(j:Nat) a b,j+1<i+1->L[j]?=some a->L[j+1]?=some b->gtS b.1 a.1=true)->V [.i (Int.ofNat i+1)] (H++[HO.o (.cells ((oneS (4*w*v) []).flatMap encN) 1 true)]):=λh=>p D h;by_cases h0:0<i
  case' pos=>
   rw[p_gtr_t (show(0:Int)<Int.ofNat i by show(0:Int)<(i:Int);omega)];refine p_x ?_;rw[ja (by omega) (by omega)];refine p_y ?_;obtain⟨⟨Z,y'⟩,ap⟩:=aH (l:=M) (i:=i - 1) (by omega);obtain⟨a3,F,_⟩:=hm (i - 1) _ ap;simp only at F;refine bp (cs:=[.int .i64 Z.1,.int .i64 Z.2.1,.int .u8 (Int.ofNat Z.2.2)]) A rfl ap rfl (by omega) ?_;refine p_x ?_;have c1:=beforeG_c (a:=Z) (b:=c);simp only[cll,qag,qaf]at c1;refine ah c1 ?_;refine p_x ?_;by_cases hg:gtS c Z=true
   case neg=>
    rw[qd1 hg];refine p_x ?_;exact⟨1,by trivial,⟨_,rfl⟩,.inl ⟨rfl,λhA=>hg (hA (i - 1) _ _ F (by rw[show i - 1+1=i by omega];exact g))⟩⟩
   rw[qd0 hg];refine p_x ?_;have I:∀(j:Nat) a b,j+1<i+1->L[j]?=some a->L[j+1]?=some b->gtS b.1 a.1=true:=λj a b hj W P=>by
    by_cases e:j+1<i
    ·exact T j a b e W P
    ·obtain rfl:j=i - 1:=by omega
     rw[F]at W;rw[show i - 1+1=i by omega,g]at P;cases W;cases P;exact hg
  case' neg=>
   obtain rfl:i=0:=by omega
   rw[p_gtr_f (show Int.ofNat 0<=0 from qbZ _)];refine p_x ?_;have I:∀(j:Nat) a b,j+1<0+1->L[j]?=some a->L[j+1]?=some b->gtS b.1 a.1=true:=λj a b hj=>by omega
  all_goals
   refine bp (cs:=[y]) A rfl J rfl (by omega) ?_;refine p_x ?_;refine ac s ?_;refine p_x ?_;refine br (X _ _ f) ?_;rw[p_eql_f (show ¬Int.ofNat d.length=0 from λe=>ar (qbw e))];refine p_x ?_;refine ce d.length (λ_=>True) (j0:=0) rfl (qaC _) trivial ?_;intro k hk _ Y q;refine p_x ?_;refine bp (cs:=[y]) A rfl J rfl (by omega) ?_;refine p_x ?_;refine ac s ?_;refine p_x ?_;refine br (X _ _ f) ?_;by_cases C:k<d.length
   ·rw[aD C];refine p_x ?_;obtain⟨n,U⟩:=aH C;have r:=o4 n (qab U);refine bp (cs:=[y]) A rfl J rfl (by omega) ?_;refine p_x ?_;refine ac s ?_;refine p_x ?_;refine aQ (X _ _ f) rfl U ?_;rw[show encN n=[.int .i64 (Int.ofNat n)]from rfl];refine p_x ?_;rw[p_lss_f (ofnn _)];refine p_x ?_;rw[p_geq_f (ofn_lt r)];refine p_x ?_;rw[aL (by omega)];exact q (by omega) trivial
   ·obtain rfl:k=d.length:=by omega
    rw[aC (qaj _)];refine p_x ?_;rw[aL (by omega)];exact ay I)
 obtain⟨rs,h',h2,e,rfl,h4,h5⟩:=a0;exact⟨e,h',h2,h4,h5⟩
def eqs1b{a b:Bool}{K:Tm}:P1.eqs [(.b a,.b b)] (@hid _ ⟨K⟩)=K (decide (a=b)):=by
 cases a<;>cases b<;>rfl
def beyondG_c{c:Cl}{k:Nat}(a:c.2.2<4)(e:k<3)(d:-100000<=c.1/\c.1<=100000/\-100000<=c.2.1/\c.2.1<=100000):Cc 39 (cll c++[.i (Int.ofNat k)]) (cll (nbC c (eK c.2.2 k))):=by
 obtain⟨x,y,q⟩:=c;simp only at a d;have b:k=0∨k=1∨k=2:=by omega
 rcases quad a with rfl|rfl|rfl|rfl<;>rcases b with rfl|rfl|rfl
 all_goals
  refine q39 rfl ?_;unfold f39;simp only[qxh];simp only[cll,qag,qaf,show Int.ofNat 0=(0:Int)from rfl,show Int.ofNat 1=(1:Int)from rfl,show Int.ofNat 2=(2:Int)from rfl,show Int.ofNat 3=(3:Int)from rfl];simp(disch:=omega)only[↓qXX]
  first
   |rfl
   |(simp[nbC,eK];done)
   |(simp[nbC,eK];omega)
def bentW_c(k:Int)(t:Bool):∃e,Cc 55 [.i k,.b t] [.i e]:=by
 by_cases c:k=3
 ·subst c;refine⟨1,?_⟩;refine q55 rfl ?_;unfold f55;simp only[qxh];simp(disch:=omega)only[↓qXX]
 refine⟨if decide (decide (k=2) = !t)=true then 1 else 0,?_⟩;refine q55 rfl ?_;unfold f55;simp only[qxh];simp(disch:=omega)only[↓qXX]
 try rw[p_eql_f c]
 refine p_y ?_;by_cases a:k=2
 ·subst a
  try rw[p_eql_t rfl]
  rw[eqs1b];cases t
  ·rw[show decide (true = !false)=true from rfl];refine p_x ?_;rfl
  ·rw[show decide (true = !true)=false from rfl];refine p_x ?_;rfl
 ·try rw[p_eql_f a]
  rw[eqs1b,qdY a];cases t
  ·rw[show decide (false = !false)=false from rfl];refine p_x ?_;rfl
  ·rw[show decide (false = !true)=true from rfl];refine p_x ?_;rfl
def lj{N:Nat}{L:List Stc}(a:okL N L){c:Cl}:(∀n∈layL L c,n<N)/\(layL L c).length<=200:=by
 unfold layL;split
 next s d=>
  have b:=qdw d;exact⟨(a s b).2.2.2.1,(a s b).2.2.2.2⟩
 ·exact⟨λn h=>(by cases h),qaC _⟩
def metL_in{w v:Nat}{l:Ty}{P:TC}{L:List Stc}{c d:Cl}{a:Wg}(h:a∈metL w v l P L c d):a.1∈layL L c:=by
 obtain⟨n,b,h⟩:=qa8.1 h;obtain⟨k,_,h⟩:=qba.1 h;unfold metK at h;split at h
 ·cases h;exact b
 ·cases h
def ErrR(w v:Nat)(l:Ty)(r:Mv)(L:List Stc)(e:Int):Prop:=
 (e=11/\¬ ∃G,mo w v l G/\G 0=idM)∨∃G,ConsO w v l G/\((e≠0/\ChkR (4*w*v) L e)∨(ChkR (4*w*v) L 0/\((e=6/\¬uC (λc=>al (af (G c) r) (clN w c)) L)∨((e=0∨e=12∨e=13)/\uC (λc=>al (af (G c) r) (clN w c)) L))))
def errorG_c{w v:Nat}(Z:S3 w v){l:Ty}{H:HL}{xl x:Value}(hl:LsH H xl 3 encC l)(hv:∀c∈l,VC w v c)(bn:∀c∈l,c.2.2≠0)(C:l.length<=1000){r:Mv}{k:Int}(hr:okM k r)(hk:k<=4000){L:List Stc}(hx:StL H x L)(hL:L.length<=200)(o:okL (4*w*v) L)(a5:(bo L).length<=1000) :
  ∃e h',aB cc ab 19 ([.i (.ofNat w),.i (.ofNat v),.v xl]++mvl r++[.v x]) (absH aa H) [.i e] (absH aa h')/\Pre H h'/\ErrR w v l r L e:=by
 have hs:=Z.sh;obtain⟨b1,b2,b3,b4⟩:=Z.n;have hN:=sh_N hs;obtain⟨M,hM,a2,hm⟩:=id hx;obtain⟨b5,h1,c1,bP,ar⟩:=lF Z hl hv bn C (r:=r) (aO hr (by omega));have bX:=x19 (ls:=[.i (.ofNat w),.i (.ofNat v),.v xl,.i (Int.ofNat r.1),.i r.2.1,.i r.2.2,.v x]) (K:=λrs h'=>∃e:Int,rs=[.i e]/\Pre H h'/\ErrR w v l r L e) (H:=H) (glsI (glsI (glsV hl.good (glsI (glsI (glsI (glsV hM.good gls0))))))) (by
  unfold f19;simp only[qxh];refine p_x ?_;simp only[mvl,qag,qaf]at c1;refine ai c1 ?_;rcases bP with⟨rfl,bt⟩|⟨G,T,hG,rfl,B,rfl⟩
  ·simp(disch:=omega)only[↓qXX];exact⟨11,rfl,ar,.inl ⟨rfl,bt⟩⟩
  refine p_x ?_;have a1:LsH (o3 H (plL w v G r) B T) (.slice (some ⟨H.length,0,tag 3⟩) (4*w*v) (4*w*v+1)) 3 encM (plL w v G r):=bT bW o3_0 (by simp[plL]);refine br a1 ?_;rw[show(plL w v G r).length=4*w*v by simp[plL]];obtain⟨e2,X,c2,a3,J⟩:=listedG_c Z (hx.pre ar) hL o a5;refine ai c2 ?_;refine p_x ?_;have g:=ar.trans a3;have D:=hM.pre g;have bs:=hl.pre g;have A:=a1.pre a3;by_cases an:e2=0
  case neg=>
   rw[p_neq_t an];refine p_x ?_;exact⟨e2,rfl,g,.inr ⟨G,hG,.inl ⟨an,J⟩⟩⟩
  subst an;rw[p_neq_f rfl];refine p_x ?_;have ay:∀n,n<4*w*v->okM 30000 (af (G n) r):=λn C=>aO (dJ (hG.ok n C) hr) (by omega);refine ce L.length (λj=>∀(i:Nat) s,i<j->L[i]?=some s->∀c∈s.2,al (af (G c) r) (clN w c)=s.1) (j0:=0) rfl (qaC _) (λi s h=>by omega) ?_;intro i hi U bd p;refine p_x ?_;refine br D ?_;rw[a2];by_cases O:i<L.length
  case pos=>
   rw[aD O];refine p_x ?_;obtain⟨⟨c,y⟩,hy⟩:=aH (l:=M) (i:=i) (by omega);obtain⟨ly,u,Q⟩:=hm i _ hy;simp only at u Q;obtain⟨o1,o2,o3,o4,o5⟩:=o _ (qab u);simp only at o1 o2 o3 o4 o5;have a7:=Q.good;have a6:=Q.pre g;refine ce ly.length (λk=>∀(j:Nat) n,j<k->ly[j]?=some n->al (af (G n) r) (clN w n)=c) (j0:=0) rfl (qaC _) (λj n h=>by omega) ?_;intro k hk ag aE q;refine p_x ?_;refine bp (cs:=[y]) D rfl hy rfl (by omega) ?_;refine p_x ?_;refine ac a7 ?_;refine p_x ?_;refine br a6 ?_;by_cases N:k<ly.length
   case neg=>
    obtain rfl:k=ly.length:=by omega
    rw[aC (qaj _)];refine p_x ?_;rw[aL (by omega)];exact p O λj s hj hs n C=>by
     by_cases e:j=i
     ·subst e;rw[u]at hs;cases hs;obtain⟨t,ht⟩:=qaT C;exact ag t n (aw ht) ht
     ·exact U j s (by omega) hs n C
   rw[aD N];refine p_x ?_;obtain⟨n,C⟩:=aH N;have S:=o4 n (qab C);have bU:=dc hs S;have bI:=iC (G:=G) (r:=r) S;have a9:=ay n S;refine bp (cs:=[y]) D rfl hy rfl (by omega) ?_;refine p_x ?_;refine ac a7 ?_;refine p_x ?_;refine aQ a6 rfl C ?_;rw[show encN n=[.int .i64 (Int.ofNat n)]from rfl];refine p_x ?_;have k1:=fU Z S;have k2:=ik (m:=af (G n) r) (c:=clN w n) a9.1 (by obtain⟨_,g1,g2,g3,g4,_⟩:=a9;omega) bU.2.2.2.2 (by omega);simp only[cll,mvl,qag,qaf]at k1 k2;refine aQ A rfl bI ?_;rw[show encM (af (G n) r)=[.int .u8 (Int.ofNat (af (G n) r).1),.int .i64 (af (G n) r).2.1,.int .i64 (af (G n) r).2.2]from rfl];refine p_x ?_;refine ah k1 ?_;refine p_x ?_;refine ah k2 ?_;refine p_x ?_;refine bp (cs:=[.int .i64 c.1,.int .i64 c.2.1,.int .u8 (Int.ofNat c.2.2)]) D rfl hy rfl (by omega) ?_;refine p_x ?_;rw[eqsC];by_cases z:al (af (G n) r) (clN w n)=c
   ·rw[qdZ z];simp(disch:=omega)only[↓qXX,qaQ];rw[aL (by omega)];exact q (by omega) λj m hj hm=>by
     by_cases e:j=k
     ·subst e;rw[C]at hm;cases hm;exact z
     ·exact ag j m (by omega) hm
   ·rw[qdY z];simp(disch:=omega)only[↓qXX,qaX];exact⟨6,rfl,g,.inr ⟨G,hG,.inr ⟨J,.inl ⟨rfl,λU=>z (U _ (qab u) n (qab C))⟩⟩⟩⟩
  obtain rfl:i=L.length:=by omega
  rw[aC (qaj _)];refine p_x ?_;clear p;have ap:uC (λc=>al (af (G c) r) (clN w c)) L:=λs hs c hc=>by
   obtain⟨i,hi⟩:=qaT hs;exact U i s (aw hi) hi c hc
  have ad:∀(e:Int) h',Pre H h'->(e=0∨e=12∨e=13)->∃e':Int,[Lf.i e]=[Lf.i e']/\Pre H h'/\ErrR w v l r L e':=λe h' hp z=>⟨e,rfl,hp,.inr ⟨G,hG,.inr ⟨J,.inr ⟨z,ap⟩⟩⟩⟩;have c3:=pw Z bs hv C;refine ai c3 ?_;refine p_x ?_;have a0:LsH (X++[tblk (tabL w v l)]) (.slice (some ⟨X.length,0,tag 1⟩) (12*w*v) (12*w*v+1)) 1 enc8 (tabL w v l):=bT jL ao (by simp[tabL]);have F:Pre X (X++[tblk (tabL w v l)]):=⟨_,rfl⟩;generalize X++[tblk (tabL w v l)]=h4 at *;have hP:∀n,n<4*w*v->(plL w v G r)[n]?=some (af (G n) r):=λn C=>iC C;have V:=g.trans F;refine aS (σ:=HL×Int) L.length (λj t=>[.i t.2,.i (Int.ofNat j)]) (λ_ t=>t.1) (λ_ t=>Pre h4 t.1/\(t.2=0∨t.2=13)) (j0:=0) (s0:=(h4,0)) rfl rfl (qaC _) ⟨.refl _,.inl rfl⟩ ?_;rintro i ⟨h,e⟩ hi ⟨b,z⟩ bd p;simp only at b z ⊢;refine p_x ?_;refine br (D.pre (F.trans b)) ?_;rw[a2];by_cases O:i<L.length
  case neg=>
   obtain rfl:i=L.length:=by omega
   rw[aC (qaj _)];refine p_x ?_;exact ad e h (V.trans b) (by omega)
  rw[aD O];refine p_x ?_;obtain⟨⟨c,y⟩,hy⟩:=aH (l:=M) (i:=i) (by omega);obtain⟨ly,u,Q⟩:=hm i _ hy;simp only at u Q;obtain⟨o1,o2,o3,o4,o5⟩:=o _ (qab u);simp only at o1 o2 o3 o4 o5;refine bp (cs:=[.int .i64 c.1,.int .i64 c.2.1,.int .u8 (Int.ofNat c.2.2)]) (D.pre (F.trans b)) rfl hy rfl (by omega) ?_;refine p_x ?_;refine aS (σ:=HL×Int) 3 (λk t=>[.i t.2,.i (Int.ofNat k)]) (λ_ t=>t.1) (λ_ t=>Pre h4 t.1/\(t.2=0∨t.2=13)) (j0:=0) (s0:=(h,e)) rfl rfl (qaC _) ⟨b,z⟩ ?_;clear b z;rintro k ⟨h,e⟩ hk ⟨b,z⟩ aE q;simp only at b z ⊢;refine p_x ?_;by_cases N:k<3
  case neg=>
   obtain rfl:k=3:=by omega
   rw[p_lss_f (show(3:Int)<=Int.ofNat 3 from qbZ _)];refine p_x ?_;rw[aL (by omega)];exact p (h,e) O ⟨b,z⟩
  rw[p_lss_t (show Int.ofNat k<3 by show(k:Int)<3;omega)];refine p_x ?_;have c4:=beyondG_c o1 N (by omega);generalize nbC c (eK c.2.2 k)=d at *;simp only[cll,qag,qaf]at c4;refine ah c4 ?_;refine p_x ?_;have bx:=V.trans b;obtain⟨z1,h5,m1,bS,g1,w1⟩:=meets_c Z (hx.pre bx) (by omega) hl.good (a0.pre b) (A.pre (F.trans b)) hP ay c d (lj o).1 (by have:=(lj o (c:=c)).2;omega);have W:=b.trans bS;obtain⟨z2,h6,m2,a4,g2,w2⟩:=meets_c Z (hx.pre (V.trans W)) (by omega) hl.good (a0.pre W) (A.pre (F.trans W)) hP ay d c (lj o).1 (by have:=(lj o (c:=d)).2;omega);have I:=w1.pre a4;have a8:∀c d,(metL w v l (λn=>af (G n) r) L c d).length<=600:=λc d=>by
   have h1:=vI (w:=w) (v:=v) (l:=l) (P:=λn=>af (G n) r) (d:=d) (Y:=layL L c);have X:=(lj o (c:=c)).2;unfold metL;omega
  have l1:=a8 c d;have l2:=a8 d c;obtain⟨eX,c5,bm⟩:=crossed_c I w2 (by omega) (by omega);simp only[cll,qag,qaf]at m1 m2;refine ai m1 ?_;refine p_x ?_;refine ai m2 ?_;refine p_x ?_;refine ai c5 ?_;refine p_x ?_;have ax:=W.trans a4;rcases bm with⟨rfl,_⟩|⟨rfl,_⟩
  ·rw[p_eql_t rfl];refine p_x ?_;exact ad 12 h6 (V.trans ax) (by omega)
  rw[p_eql_f (by decide)];refine p_x ?_;have be:∀a∈metL w v l (λn=>af (G n) r) L c d,a.1<4*w*v:=λa ha=>(lj o).1 _ (metL_in ha);generalize metL w v l (λn=>af (G n) r) L c d=W1 at *;refine aS (σ:=Int) W1.length (λj t=>[.i t,.i (Int.ofNat j)]) (λ_ _=>h6) (λ_ t=>t=0∨t=13) (j0:=0) (s0:=e) rfl rfl (qaC _) z ?_;intro j e' hj R b0 f;refine p_x ?_;refine br I ?_;by_cases E:j<W1.length
  case neg=>
   rw[aC (by omega)];refine p_x ?_;rw[aL (by omega)];exact q (h6,e') N ⟨ax,R⟩
  rw[aD E];refine p_x ?_;obtain⟨a,ha⟩:=aH E;have bl:=be a (qab ha);refine bp (cs:=[.int .u8 a.2.2]) I rfl ha rfl (by omega) ?_;refine p_x ?_;by_cases k0:a.2.2=0
  ·rw[p_neq_f k0];refine p_x ?_;rw[aL (by omega)];exact f e' E R
  rw[p_neq_t k0];refine p_x ?_;refine ai (kj I (by omega) ha) ?_;refine p_x ?_;by_cases kl:wheN W1 a.2.1<Int.ofNat j
  case neg=>
   rw[p_lss_f (by omega)];refine p_x ?_;rw[aL (by omega)];exact f e' E R
  rw[p_lss_t kl];refine p_x ?_;refine bp (cs:=[.int .u8 a.2.2]) I rfl ha rfl (by omega) ?_;refine p_x ?_;refine bp (cs:=[.int .i64 (Int.ofNat a.1)]) I rfl ha rfl (by omega) ?_;refine p_x ?_;refine bp (cs:=[.int .u8 (Int.ofNat (af (G a.1) r).1)]) (A.pre (F.trans ax)) rfl (hP a.1 bl) rfl (by omega) ?_;refine p_x ?_;by_cases ht:Int.ofNat (af (G a.1) r).1<4
  case' pos=>
   rw[p_lss_t ht];obtain⟨eB,cB⟩:=bentW_c a.2.2 true
  case' neg=>
   rw[p_lss_f (by omega)];obtain⟨eB,cB⟩:=bentW_c a.2.2 false
  all_goals
   refine ah cB ?_;refine p_x ?_;by_cases hB:eB=0
   ·rw[p_eql_t hB];refine p_x ?_;rw[aL (by omega)];exact f 13 E (.inr rfl)
   ·rw[p_eql_f hB];refine p_x ?_;rw[aL (by omega)];exact f e' E R)
 obtain⟨rs,h',X,e,rfl,h4,h5⟩:=bX;exact⟨e,h',X,h4,h5⟩
end Go.Am
namespace Go.Am
open Sx Go.Proofs Go.Shelf Go.Lib Go.Sort
def gtY(a b:K6):Prop:=gtS a.1 b.1=true∨(a.1=b.1/\gtS a.2 b.2=true)
def cmpY(a b:K6):Int:=orI [cmpC a.1 b.1,cmpC a.2 b.2]
def nY{a:Cl}:gtS a a=false:=by
 rw[yO];omega
def gtS_tr{a b c:Cl}(h:gtS a b=true)(h':gtS b c=true):gtS a c=true:=by
 rw[yP]at *;omega
def cmpC_0{a b:Cl}:cmpC a b=0↔a=b:=by
 have d:=cmpC_g a b;have f:=tF a b;constructor
 ·intro h;by_cases e:a=b
  ·exact e
  ·cases c:gtS a b with
   |true=>have:=d.2 c;omega
   |false=>have:=f.2 (rP c e);omega
 ·rintro rfl;have c:¬0<cmpC a a:=λe=>by
   have:=d.1 e;rw[nY]at this;cases this
  have g:¬cmpC a a<0:=λe=>by
   have:=f.1 e;rw[nY]at this;cases this
  omega
def cmpY_l(a b:K6):cmpY a b<0↔gtY b a:=by
 unfold cmpY gtY;have d:∀n:Int,orI [n]=n:=λn=>by
  show(if n=0 then 0 else n)=n;split
  ·omega
  ·rfl
 show(if cmpC a.1 b.1=0 then orI [cmpC a.2 b.2]else cmpC a.1 b.1)<0↔_;rw[d];by_cases h:cmpC a.1 b.1=0
 ·rw[qd0 h,tF];have c:=cmpC_0.1 h;rw[c,nY];simp
 ·rw[qd1 h,tF];have c:¬b.1=a.1:=λe=>h (cmpC_0.2 e.symm);simp[c]
def gtY_irr{a:K6}:¬gtY a a:=by
 unfold gtY;rw[nY,nY];simp
def gtY_tr{a b c:K6}(h:gtY a b)(h':gtY b c):gtY a c:=by
 unfold gtY at *;rcases h with h|⟨h,k⟩<;>rcases h' with h'|⟨h',d⟩
 ·exact .inl (gtS_tr h h')
 ·exact .inl (h'▸h)
 ·exact .inl (h▸h')
 ·exact .inr ⟨h.trans h',gtS_tr k d⟩
def gtY_tot{a b:K6}(h:¬gtY a b)(d:a≠b):gtY b a:=by
 unfold gtY at *;by_cases e:a.1=b.1
 ·refine .inr ⟨e.symm,rP ?_ λf=>d (qcY e f)⟩;cases c:gtS a.2 b.2 with
  |false=>rfl
  |true=>exact absurd (.inr ⟨e,c⟩) h
 ·refine .inl (rP ?_ e);cases c:gtS a.1 b.1 with
  |false=>rfl
  |true=>exact absurd (.inl c) h
def okK6(k:K6):Prop:=k.1.2.2<4/\k.2.2.2<4
def keyCmp_c{a b:K6}(d:okK6 a)(f:okK6 b):Cc 28 (cll a.1++cll a.2++cll b.1++cll b.2) [.i (cmpY a b)]:=by
 refine q28 rfl ?_;unfold f28;simp only[qxh];have c:=gR d.1 f.1;have c2:=gR d.2 f.2;simp only[cll,qag,qaf]at c c2 ⊢;refine p_x ?_;refine ah c ?_;refine p_x ?_;refine ah c2 ?_;refine p_x ?_;refine ai (h':=[]++[HO.o (.cells [.int .i64 (cmpC a.1 b.1),.int .i64 (cmpC a.2 b.2)] 1 true)]) (or_c (l:=[cmpC a.1 b.1,cmpC a.2 b.2]) ?_ (by simp)) ?_
 ·exact vP (h:=[]) (e:=1) (enc:=encI1) (l:=[cmpC a.1 b.1,cmpC a.2 b.2]) (λ_=>rfl) (by rfl)
 ·simp(disch:=omega)only[↓qXX];rfl
abbrev X6:={k:K6 // okK6 k}
def sortK_c{h:HL}{F:Nat}{v:Value}{l:List K6}(Z:OwnL F h v 6 nM l)(f:l=[]->v = .slice none 0 0)(V:∀k∈l,okK6 k)(X:l.length<=1000) :
  ∃(l':List K6) (h':HL),aB cc ab 27 [.v v,.v (.func (.func 28) ⟨[]⟩ ⟨[]⟩)] (absH aa h) [] (absH aa h')/\l'.Perm l/\l'.Pairwise (λa b=>¬gtY a b)/\OwnL F h' v 6 nM l'/\(∀(j:Nat) o,h[j]?=some o->blk v≠some j->h'[j]?=some o)/\h'.length=h.length:=by
 rcases Z with⟨rfl,rfl⟩|⟨id,cx,rfl,q1,G,q3⟩
 ·exact⟨[],h,nilK_c (show az (.func (.func 28) ⟨[]⟩ ⟨[]⟩)=true from rfl),qca _,.nil,.inl ⟨rfl,rfl⟩,λj o A _=>A,rfl⟩
 have E:0<l.length:=qbd.2 λe=>by have:=f e;cases this
 obtain⟨J,U⟩ : ∃J:List X6,J.map Subtype.val=l:=jV λp Y=>⟨⟨p,V p Y⟩,rfl⟩;subst U;have D:∀L:List X6,(L.map Subtype.val).flatMap nM=L.flatMap λx=>nM x.val:=λL=>by rw[qcj]
 let _:Inhabited X6:=⟨⟨((0,0,0),(0,0,0)),by unfold okK6;decide⟩⟩
 have n:SWO (ltOf λx y:X6=>cmpY x.val y.val):=wx (R:=λx y=>gtY y.val x.val) (λx y=>cmpY_l _ _) (λx h=>gtY_irr h) (λx y z r m=>gtY_tr m r) (λx y z r m s=>by
  by_cases e:x.val=y.val
  ·rw[e]at s;exact m s
  ·exact m (gtY_tr s (gtY_tot r λT=>e T.symm)))
 rw[qaB]at E X;have c:=sortG layK (λw=>by kernel_rfl) (λw=>by kernel_rfl) (enc:=λx:X6=>nM x.val) (e:=6) (λ_=>rfl) (λx u q=>by
  obtain⟨⟨⟨I,K,M⟩,⟨O,P,Q⟩⟩,_⟩:=x;have q:u∈[Value.int .i64 I,.int .i64 K,.int .u8 (Int.ofNat M),.int .i64 O,.int .i64 P,.int .u8 (Int.ofNat Q)]:=q;simp only[qax,qb5,or_false]at q;rcases q with rfl|rfl|rfl|rfl|rfl|rfl<;>rfl) n (g:=28) (λC w=>by kernel_rfl) (S:=λ_=>false) (H:=h) (caps:=[]) rfl (λx y=>by
  have W:=keyCmp_c x.2 y.2;refine⟨absH aa (roL (λ_=>false) h),?_⟩;rw[←qW];exact ft (N:=neuN) mixed (Sg:=ab) (sg:=⟨[.agg [.i .i64,.i .i64,.i .u8,.i .i64,.i .i64,.i .u8],.agg [.i .i64,.i .i64,.i .u8,.i .i64,.i .i64,.i .u8]],[li]⟩) rfl (W (absH aa (roL (λ_=>false) h)))
   (xs:=[.agg [.i .i64 x.val.1.1,.i .i64 x.val.1.2.1,.i .u8 (Int.ofNat x.val.1.2.2),.i .i64 x.val.2.1,.i .i64 x.val.2.2.1,.i .u8 (Int.ofNat x.val.2.2.2)],.agg [.i .i64 y.val.1.1,.i .i64 y.val.1.2.1,.i .u8 (Int.ofNat y.val.1.2.2),.i .i64 y.val.2.1,.i .i64 y.val.2.2.1,.i .u8 (Int.ofNat y.val.2.2.2)]]) rfl rfl
   (ys:=[.leaf (.i .i64 (cmpY x.val y.val))]) rfl rfl) (id:=id) (cx:=cx) (J:=J) (by rw[←D];exact G) rfl E (by omega) rfl (by kernel_rfl)
 refine⟨(srt (λx y:X6=>cmpY x.val y.val) J).map Subtype.val,_,(by rw[qaB];exact c),(iS n J).map _,?_,?_,λj o A t=>aV A λe=>t (by rw[e];rfl),by rw[qay]⟩
 ·rw[qbp];refine(sP n J).imp λ{x y} d=>?_;unfold ltOf at d;rw[decide_eq_false_iff_not]at d;intro B;exact d ((cmpY_l _ _).2 B)
 ·have:=mF (l':=(srt (λx y:X6=>cmpY x.val y.val) J).map Subtype.val) G q1 q3 (by rw[qaB,qaB,(iS n J).length_eq]);rw[D]at this;exact this
end Go.Am
namespace Go.Am
open Sx Go.Proofs
def prE(id e:Nat):List (Nat×Nat):=(List.range id).flatMap (λi=>(List.range 3).map λk=>(i,k))++(List.range e).map λk=>(id,k)
def prE_e{id e:Nat}:prE id (e+1)=prE id e++[(id,e)]:=by
 unfold prE;rw[show List.range (e+1)=List.range e++[e]from qcs,qa3,qai];rfl
def prE_id{id:Nat}:prE (id+1) 0=prE id 3:=by
 unfold prE;rw[show List.range (id+1)=List.range id++[id]from qcs,qbB];simp
def prE_mem{id e:Nat}{p:Nat×Nat}(c:e<=3):p∈prE id e->p.1<=id/\p.2<3/\(e=0->p.1<id):=by
 unfold prE;rw[qaz];rintro(h|h)
 ·obtain⟨i,b,h⟩:=qa8.1 h;obtain⟨k,a,rfl⟩:=qaA.1 h;have:=qae.1 b;have:=qae.1 a;exact⟨by show i<=id;omega,by assumption,λ_=>by show i<id;omega⟩
 ·obtain⟨k,a,rfl⟩:=qaA.1 h;have:=qae.1 a;exact⟨qaj _,by show k<3;omega,λh=>by omega⟩
def smsL(w v:Nat)(l:Ty)(P:TC)(hg:TA)(E:List (Nat×Nat)):List Sm:=E.foldl (λQ p=>jY w v l P hg Q p.1 p.2) []
def smsL_e{w v:Nat}{l:Ty}{P:TC}{hg:TA}{id e:Nat}:smsL w v l P hg (prE id (e+1))=jY w v l P hg (smsL w v l P hg (prE id e)) id e:=by
 unfold smsL;rw[prE_e,qcF];rfl
def okS(N:Nat)(s:Sm):Prop:=(∀p∈s.ps,p.1<N/\p.2<N)/\(∀p∈s.ls,p.1<2/\p.2.1<N/\p.2.2<N)/\okK6 s.k
theorem sidS_lt{w:Nat}{P:TC}{k:K6}{id:Nat}:sidS w P k id<2:=by
 unfold sidS;split<;>omega
def keyS_ok{x y:Cl}(a:x.2.2<4)(b:y.2.2<4):okK6 (keyS x y):=by
 unfold keyS;split
 ·exact⟨b,a⟩
 ·exact⟨a,b⟩
def meetS_ok{w v:Nat}(y:Sh w v){l:Ty}{P:TC}{hg:TA}{Q:List Sm}{id e:Nat}(hid:id<4*w*v)(u:e<3)(r:∀s∈Q,okS (4*w*v) s):∀s∈jY w v l P hg Q id e,okS (4*w*v) s:=by
 intro s m;obtain⟨t,c,rfl⟩:=qaA.1 m;have h:okS (4*w*v) t:=by
  unfold py at c;split at c
  ·exact r t c
  ·rcases qaz.1 c with c|c
   ·exact r t c
   ·rw[qaq]at c;subst c;exact⟨λp hp=>(by cases hp),λp hp=>(by cases hp),keyS_ok jb jb⟩
 split
 case isFalse=>exact h
 have g:=@sidS_lt w P t.k id;have o:∀(L:List Pq) (a:Pq),(∀p∈L,p.1<4*w*v/\p.2<4*w*v)->a.1<4*w*v/\a.2<4*w*v->∀p∈L++[a],p.1<4*w*v/\p.2<4*w*v:=λL a i j p hp=>by
  rcases qaz.1 hp with hp|hp
  ·exact i p hp
  ·rw[qaq]at hp;subst hp;exact j
 have q:∀(L:List Lq) (a:Lq),(∀p∈L,p.1<2/\p.2.1<4*w*v/\p.2.2<4*w*v)->a.1<2/\a.2.1<4*w*v/\a.2.2<4*w*v->∀p∈L++[a],p.1<2/\p.2.1<4*w*v/\p.2.2<4*w*v:=λL a i j p hp=>by
  rcases qaz.1 hp with hp|hp
  ·exact i p hp
  ·rw[qaq]at hp;subst hp;exact j
 obtain⟨d,f,o3⟩:=h;unfold updS;cases x:nbr w v id e with
 |none=>exact⟨d,f,o3⟩
 |some n=>
  have b:=(eC y hid u x).1;simp only
  repeat' split
  ·exact⟨d,f,o3⟩
  ·exact⟨o _ _ d ⟨hid,b⟩,f,o3⟩
  ·exact⟨o _ _ d ⟨b,hid⟩,f,o3⟩
  ·exact⟨d,q _ _ f ⟨g,hid,b⟩,o3⟩
  ·exact⟨d,q _ _ f ⟨g,b,hid⟩,o3⟩
def smsL_ok{w v:Nat}(f:Sh w v){l:Ty}{P:TC}{hg:TA}{E:List (Nat×Nat)}(b:∀p∈E,p.1<4*w*v/\p.2<3):∀s∈smsL w v l P hg E,okS (4*w*v) s:=by
 unfold smsL;have c:∀(E:List (Nat×Nat)) (Q:List Sm),(∀p∈E,p.1<4*w*v/\p.2<3)->(∀s∈Q,okS (4*w*v) s)->∀s∈E.foldl (λQ p=>jY w v l P hg Q p.1 p.2) Q,okS (4*w*v) s:=by
  intro E
  induction E with
  |nil=>intro Q _ d;exact d
  |cons a E g=>
   intro Q b d;exact g _ (λp e=>b p (qav _ e)) (meetS_ok f (b a qaN).1 (b a qaN).2 d)
 exact c E [] b λs h=>by cases h
def pos1(s:Stc):List (Nat×Nat):=s.2.zipIdx
def jk(A:Tx)(P:List (Nat×Nat)):Tx:=P.foldl (λA p=>A.set p.1 p.2) A
def qK{A:Tx}{P:List (Nat×Nat)}:(jk A P).length=A.length:=by
 unfold jk
 induction P generalizing A with
 |nil=>rfl
 |cons a P b=>rw[qb0,b,qay]
def lN{A:Tx}{P a:List (Nat×Nat)}:jk A (P++a)=jk (jk A P) a:=qcF
def hgS(N:Nat)(L:List Stc):Tx:=jk (List.replicate N 0) (L.flatMap pos1)
def hgF(N:Nat)(L:List Stc)(n:Nat):Nat:=(hgS N L).getD n 0
def hgS_map{N:Nat}{L:List Stc}:hgS N L=(List.range N).map (hgF N L):=by
 have c:(hgS N L).length=N:=by unfold hgS;rw[qK,qc4]
 refine qbi λi=>?_;rw[qan];by_cases h:i<N
 ·rw[qbc h];obtain⟨a,b⟩:=aH (l:=hgS N L) (i:=i) (by omega);rw[b];simp[hgF,List.getD_eq_getElem?_getD,b]
 ·rw[qak (by omega),qak (by rw[List.length_range];omega)];rfl
abbrev S9:=K6×Value×Value×Value
def enc9(s:S9):Tk:=bw s.1.1++bw s.1.2++[s.2.1,s.2.2.1,s.2.2.2]
def wQ(s:S9):(enc9 s).length=9:=rfl
def SmH(h:HL)(m:S9)(s:Sm):Prop:=m.1=s.k/\LsH h m.2.1 2 jt s.ps/\LsH h m.2.2.1 3 jr s.ls/\LsH h m.2.2.2 1 encN s.es
def SmH.keep{h h':HL}{m:S9}{s:Sm}(c:SmH h m s)(d:∀(j:Nat) o,h[j]?=some o->(blk m.2.1=some j∨blk m.2.2.1=some j∨blk m.2.2.2=some j)->h'[j]?=some o):SmH h' m s:=
 ⟨c.1,c.2.1.keep λj o b a=>d j o b (.inl a),c.2.2.1.keep λj o b a=>d j o b (.inr (.inl a)),c.2.2.2.keep λj o b a=>d j o b (.inr (.inr a))⟩
def SmL(h:HL)(x:Value)(S:List Sm):Prop:=∃M:List S9,Ful h x 9 enc9 M/\M.length=S.length/\∀(i:Nat) m,M[i]?=some m->∃s,S[i]?=some s/\SmH h m s
structure OfR(hg:TA)(Q S:List Sm):Prop where
 ks:(S.map (·.k)).Perm (Q.map (·.k))
 asc:(S.map (·.k)).Pairwise λa b=>gtY b a
 el:∀s∈S,∃q∈Q,q.k=s.k/\s.ps.Perm q.ps/\s.ls.Perm q.ls/\s.es.Perm q.es
 op:∀s∈S,s.ps.Pairwise λa b=>¬hg b.1<hg a.1
 ol:∀s∈S,s.ls.Pairwise λa b=>¬(b.1<a.1∨(b.1=a.1/\hg b.2.1<hg a.2.1))
 oe:∀s∈S,s.es.Pairwise λa b=>a<=b
def Bld.store{c:BC}{n h:HL}{p:Value}{Q:List En}(a:Bld c n h p Q){m:Nat}{o:HO}(z:c.n1<=m)(b:szB h m=some 9)(hid:∀q∈Q,q.id≠m):Bld c n (h.set m o) p Q:=by
 have x:=a.bn;have y:=a.mn;refine⟨λj g r s t u=>aV (a.low j g r s t u) (by omega),aV a.bl (by omega),a.mp.elim λw f=>⟨w,f.1,f.2.keep _ λg v=>aV v (by omega)⟩,a.ky.keep λj g k d=>aV k λe=>?_,λq l=>(a.en q l).keep λj g k d=>aV k λe=>?_,a.ap,a.nd,a.bn,a.mn,a.ne,by rw[qay];exact a.sz⟩
 ·have:=cV a.ky d;rw[←e,b]at this;cases this
 ·have i:=a.en q l;subst e;rcases d with e|e|e|e
  ·exact hid q l e.symm
  ·have:=cV i.op e;rw[b]at this;cases this
  ·have:=cV i.ol e;rw[b]at this;cases this
  ·have:=cV i.oe e;rw[b]at this;cases this
def Bld.srt{c:BC}{t h h':HL}{l:Value}{Q:List En}(b:Bld c t h l Q){l':List K6}(v:l'.Perm (Q.map keyE))(p:OwnL c.n1 h' l 6 nM l')(a:∀(j:Nat) o,h[j]?=some o->blk l≠some j->h'[j]?=some o)(A:h'.length=h.length):∃g,g.Perm Q/\g.map keyE=l'/\Bld c t h' l g:=by
 obtain⟨g,m,r⟩:=jC v;have d:∀j,j<c.n1->blk l≠some j:=λj u e=>by
  have:=(b.ky.blk e).1;omega
 refine⟨g,m,r,λj o s w x y=>a j o (b.low j o s w x y) (d j s),a _ _ b.bl (d _ b.bn),b.mp.elim λB k=>⟨B,k.1.trans (m.symm.map _),k.2.keep _ λo p=>a _ _ p (d _ b.mn)⟩,by rw[r];exact p,λq z=>?_,(m.pairwise_iff λh=>h.symm).2 b.ap,by rw[r];exact v.nodup_iff.2 b.nd,b.bn,b.mn,b.ne,by have:=b.sz;omega⟩;have i:=b.en q (m.mem_iff.1 z);refine i.keep λj o u n=>a j o u λe=>?_;have f:=cV b.ky e;rcases n with rfl|e|e|e
 ·rw[eR i.bl]at f;cases f
 ·rw[cV i.op e]at f;cases f
 ·rw[cV i.ol e]at f;cases f
 ·rw[cV i.oe e]at f;cases f
def meetS_ne{w v:Nat}{l:Ty}{P:TC}{hg:TA}{Q:List Sm}{id e:Nat}:jY w v l P hg Q id e≠[]:=by
 unfold jY;intro h;have h:=qcL.1 h;unfold py at h;split at h
 next a=>
  rw[h]at a;cases a
 ·simp at h
theorem smsL_ne{w v:Nat}{l:Ty}{P:TC}{hg:TA}{N:Nat}(h:0<N):smsL w v l P hg (prE N 0)≠[]:=by
 obtain⟨n,rfl⟩ : ∃n,N=n+1:=⟨N - 1,by omega⟩;rw[prE_id,smsL_e];exact meetS_ne
def disj_sm{a j o n c:Nat}{b:To}(h:a≠j):Sx.disjN (Sx.adr (.slice (some ⟨a,o,b⟩) n c)) (Sx.adrK 0 (.map (some j)))=true:=by
 have d:Sx.adr (.slice (some ⟨a,o,b⟩) n c)=[]∨Sx.adr (.slice (some ⟨a,o,b⟩) n c)=[a]:=by
  unfold Sx.adr;simp only;split
  ·exact .inl rfl
  ·exact .inr rfl
 rcases d with e|e<;>rw[e]
 ·rfl
 ·exact nI h
def zu{w v:Nat}(h3:S3 w v){l:Ty}{H:HL}{R x:Value}(N:Pat w v l)(dA:(l.map bR).Nodup)(hl:LsH H R 3 encC l){r:Mv}{k:Int}(hr:okM k r)(hk:k<=4000){L:List Stc}(hx:StL H x L)(hL:L.length<=200)(eB:okL (4*w*v) L)(gb:∀s∈L,-4000<=s.1.1/\s.1.1<=4000/\-4000<=s.1.2.1/\s.1.2.1<=4000)(eX:(bo L).length<=1000) :
  ∃y e h',aB cc ab 7 ([.i (.ofNat w),.i (.ofNat v),.v R]++mvl r++[.v x]) (absH aa H) [.v y,.i e] (absH aa h')/\Pre H h'/\StkR w v l r L e/\(e≠0->y=dN)/\
   (e=0->∃G S,ConsO w v l G/\SmL h' y S/\OfR (hgF (4*w*v) L) (smsL w v l (λn=>af (G n) r) (hgF (4*w*v) L) (prE (4*w*v) 0)) S):=by
 have C:=h3.sh;obtain⟨b1,b2,b3,b4⟩:=h3.n;have hN:=sh_N C;obtain⟨e,d,c1,bs,hR⟩:=ji h3 dA hl (N.check hl) N.len hr hk hx hL eB gb eX;have ge:az x=true:=by
  obtain⟨M,hM,_⟩:=hx;exact hM.good
 have g0:=x7 (ls:=[.i (.ofNat w),.i (.ofNat v),.v R,.i (Int.ofNat r.1),.i r.2.1,.i r.2.2,.v x]) (K:=λrs h'=>∃y,rs=[.v y,.i e]/\Pre H h'/\(e≠0->y=dN)/\
   (e=0->∃G S,ConsO w v l G/\SmL h' y S/\OfR (hgF (4*w*v) L) (smsL w v l (λn=>af (G n) r) (hgF (4*w*v) L) (prE (4*w*v) 0)) S)) (H:=H) (glsI (glsI (glsV hl.good (glsI (glsI (glsI (glsV ge gls0))))))) (by
  unfold f7;simp only[qxh];refine p_x ?_;simp only[mvl,qag,qaf]at c1;refine ai c1 ?_;refine p_x ?_;by_cases dk:e=0
  case neg=>
   rw[p_neq_t dk];refine p_x ?_;exact⟨dN,rfl,bs,λ_=>rfl,λh=>absurd h dk⟩
  subst dk;rw[p_neq_f rfl];refine p_x ?_;rcases hR with⟨hh,_⟩|⟨G,hG,⟨h0,_⟩|⟨ef,⟨h6,_⟩|⟨_,hu⟩⟩⟩
  ·omega
  ·exact absurd rfl h0
  ·omega
  have fd:(bo L).Nodup:=by
   rcases ef with⟨h,_⟩|⟨_,⟨h,_⟩|⟨h,_⟩⟩
   ·omega
   ·omega
   ·exact h
  refine ah (cnt_c C) ?_;refine p_x ?_;refine ae (dZ (by omega)) ?_;refine p_x ?_;rw[show(Int.ofNat (4*w*v)).toNat=4*w*v from rfl];refine ae (x:=()) (fq (disj_sm (by simp)) jE) ?_;have z0:HO.o (.cells (bc [.int .i64 0] (4*w*v)) 1 true)=HO.o (.cells ((List.replicate (4*w*v) 0).flatMap encN) 1 true):=by
   rw[←cU (enc:=encN) (z:=0) (n:=4*w*v)];rfl
  rw[z0];obtain⟨Z,hZ⟩ : ∃Z,List.replicate (4*w*v) 0=Z:=⟨_,rfl⟩;have f3:Z.length=4*w*v:=by rw[←hZ,qc4]
  rw[hZ];have an:∀B:HO,(d++[HO.o (.cells (Z.flatMap encN) 1 true)]++[HO.o (.map [] 0)]++[B])[(d++[HO.o (.cells (Z.flatMap encN) 1 true)]++[HO.o (.map [] 0)]).length]?=some B:=λB=>ao;have bP:∀B:HO,(d++[HO.o (.cells (Z.flatMap encN) 1 true)]++[HO.o (.map [] 0)]++[B])[(d++[HO.o (.cells (Z.flatMap encN) 1 true)]).length]?=some (HO.o (.map [] 0)):=λB=>jv ao;have bI:∀B:HO,(d++[HO.o (.cells (Z.flatMap encN) 1 true)]++[HO.o (.map [] 0)]++[B])[d.length]?=some (HO.o (.cells (Z.flatMap encN) 1 true)):=λB=>jv (jv ao);have dC:∀B:HO,Pre d (d++[HO.o (.cells (Z.flatMap encN) 1 true)]++[HO.o (.map [] 0)]++[B]):=λB=>(((Pre.refl d).app _).app _).app _;have hC:(d++[HO.o (.cells (Z.flatMap encN) 1 true)]).length=d.length+1:=by simp
  have hD:(d++[HO.o (.cells (Z.flatMap encN) 1 true)]++[HO.o (.map [] 0)]).length=d.length+2:=by simp
  have g6:H.length<=d.length:=bs.len;have an:=an (HO.o (.cells [.int .i64 (Int.ofNat w),.int .i64 (Int.ofNat v),R,.slice none 0 0,.slice none 0 0,.slice (some ⟨d.length,0,some 11⟩) (4*w*v) (4*w*v+1),.map (some (d++[HO.o (.cells (Z.flatMap encN) 1 true)]).length),.slice none 0 0] 8 true));have bP:=bP (HO.o (.cells [.int .i64 (Int.ofNat w),.int .i64 (Int.ofNat v),R,.slice none 0 0,.slice none 0 0,.slice (some ⟨d.length,0,some 11⟩) (4*w*v) (4*w*v+1),.map (some (d++[HO.o (.cells (Z.flatMap encN) 1 true)]).length),.slice none 0 0] 8 true));have bI:=bI (HO.o (.cells [.int .i64 (Int.ofNat w),.int .i64 (Int.ofNat v),R,.slice none 0 0,.slice none 0 0,.slice (some ⟨d.length,0,some 11⟩) (4*w*v) (4*w*v+1),.map (some (d++[HO.o (.cells (Z.flatMap encN) 1 true)]).length),.slice none 0 0] 8 true));have dC:=dC (HO.o (.cells [.int .i64 (Int.ofNat w),.int .i64 (Int.ofNat v),R,.slice none 0 0,.slice none 0 0,.slice (some ⟨d.length,0,some 11⟩) (4*w*v) (4*w*v+1),.map (some (d++[HO.o (.cells (Z.flatMap encN) 1 true)]).length),.slice none 0 0] 8 true))
  generalize d++[HO.o (.cells (Z.flatMap encN) 1 true)]++[HO.o (.map [] 0)]++[HO.o (.cells [.int .i64 (Int.ofNat w),.int .i64 (Int.ofNat v),R,.slice none 0 0,.slice none 0 0,.slice (some ⟨d.length,0,some 11⟩) (4*w*v) (4*w*v+1),.map (some (d++[HO.o (.cells (Z.flatMap encN) 1 true)]).length),.slice none 0 0] 8 true)]=g2 at *;generalize (d++[HO.o (.cells (Z.flatMap encN) 1 true)]++[HO.o (.map [] 0)]).length=m34 at *;generalize (d++[HO.o (.cells (Z.flatMap encN) 1 true)]).length=m32 at *;have bt:=bs.trans dC;obtain⟨hE,g3,cA,D,hA⟩:=both_c C dA N.len (hl.pre bt) (N.check (hl.pre bt)) (r:=r) (aO hr (by omega));have e0:=vb h3 hG hr hk;have a2:∀ {rs:TB} {g:HL},BothR w v l r rs g->∃W ix,rs=[.v W,.v ix,.i 0]/\Ful g W 3 encM (plL w v G r)/\Ful g ix 3 bw (imL w v G r):=by
   rintro rs g (⟨rfl,dB⟩|⟨G',cy,⟨rfl,dB⟩|⟨W,ix,rfl,g9,ax,ar⟩⟩)
   ·exact absurd ⟨G,hG.g,hG.z⟩ dB
   ·exact absurd (vb h3 cy hr hk) dB
   ·have e1:plL w v G' r=plL w v G r:=qbl λc hc=>by rw[uM C cy hG (qae.1 hc)]
    have e2:imL w v G' r=imL w v G r:=qbl λc hc=>by rw[uM C cy hG (qae.1 hc)]
    rw[e1]at ax;rw[e2]at ar;exact⟨W,ix,rfl,ax,ar⟩
  obtain⟨W,hw,rfl,ax,cd⟩:=a2 hA;simp only[mvl,qag,qaf]at cA;have fs:=(ax.ls bW).good;refine ai (places_b hl.good ⟨cA,D,fs,(cd.ls eW).good⟩) ?_;refine p_x ?_;refine ki (b:=m34) (D.get an) (by simp) ?_;refine p_y ?_;have ay:=fc (b:=HO.o (.cells [.int .i64 (Int.ofNat w),.int .i64 (Int.ofNat v),R,W,.slice none 0 0,.slice (some ⟨d.length,0,some 11⟩) (4*w*v) (4*w*v+1),.map (some m32),.slice none 0 0] 8 true)) (D.get an);have bX:∀(j:Nat) o,g3[j]?=some o->j≠m34->(g3.set m34 (HO.o (.cells [.int .i64 (Int.ofNat w),.int .i64 (Int.ofNat v),R,W,.slice none 0 0,.slice (some ⟨d.length,0,some 11⟩) (4*w*v) (4*w*v+1),.map (some m32),.slice none 0 0] 8 true)))[j]?=some o:=λj o J ag=>aV J (qbR ag);have bx:Pre H (g3.set m34 (HO.o (.cells [.int .i64 (Int.ofNat w),.int .i64 (Int.ofNat v),R,W,.slice none 0 0,.slice (some ⟨d.length,0,some 11⟩) (4*w*v) (4*w*v+1),.map (some m32),.slice none 0 0] 8 true))):=(bt.trans D).set (by omega) _;have hd:m34<g3.length:=aw (D.get an)
  have gs:(g3.set m34 (HO.o (.cells [.int .i64 (Int.ofNat w),.int .i64 (Int.ofNat v),R,W,.slice none 0 0,.slice (some ⟨d.length,0,some 11⟩) (4*w*v) (4*w*v+1),.map (some m32),.slice none 0 0] 8 true))).length=g3.length:=qay ..;show P1.call _ _ (g3.set m34 (HO.o (.cells [.int .i64 (Int.ofNat w),.int .i64 (Int.ofNat v),R,W,.slice none 0 0,.slice (some ⟨d.length,0,some 11⟩) (4*w*v) (4*w*v+1),.map (some m32),.slice none 0 0] 8 true))) _;generalize g3.set m34 (HO.o (.cells [.int .i64 (Int.ofNat w),.int .i64 (Int.ofNat v),R,W,.slice none 0 0,.slice (some ⟨d.length,0,some 11⟩) (4*w*v) (4*w*v+1),.map (some m32),.slice none 0 0] 8 true))=g3' at *;have ca:=bX _ _ (D.get bP) (by omega);have b8:=bX _ _ (D.get bI) (by omega);have cr:∀j,blk W=some j->j≠m34:=λj J e=>by
   have d:=vG (ax.ls bW) J;subst e;rw[eR (D.get an)]at d;cases d
  have co:=(ax.ls bW).keep λj o J X=>bX j o J (cr j X);obtain⟨hF,g4,cB,F,hB⟩:=both_c C dA N.len (hl.pre bx) (N.check (hl.pre bx)) (r:=r) (aO hr (by omega));obtain⟨hz,ix,rfl,cn,ar⟩:=a2 hB;simp only[mvl,qag,qaf]at cB;have fr:=(ar.ls eW).good;refine ai (mW hl.good ⟨cB,F,(cn.ls bW).good,fr⟩) ?_;refine p_x ?_;refine ki (b:=m34) (F.get ay) (by simp) ?_;have d0:=fc (b:=HO.o (.cells [.int .i64 (Int.ofNat w),.int .i64 (Int.ofNat v),R,W,ix,.slice (some ⟨d.length,0,some 11⟩) (4*w*v) (4*w*v+1),.map (some m32),.slice none 0 0] 8 true)) (F.get ay);have a8:∀(j:Nat) o,g4[j]?=some o->j≠m34->(g4.set m34 (HO.o (.cells [.int .i64 (Int.ofNat w),.int .i64 (Int.ofNat v),R,W,ix,.slice (some ⟨d.length,0,some 11⟩) (4*w*v) (4*w*v+1),.map (some m32),.slice none 0 0] 8 true)))[j]?=some o:=λj o J ag=>aV J (qbR ag);have cs:Pre H (g4.set m34 (HO.o (.cells [.int .i64 (Int.ofNat w),.int .i64 (Int.ofNat v),R,W,ix,.slice (some ⟨d.length,0,some 11⟩) (4*w*v) (4*w*v+1),.map (some m32),.slice none 0 0] 8 true))):=(bx.trans F).set (by omega) _
  rw[show(g4.set m34 (HO.o (.cells (List.take 4 [.int .i64 (Int.ofNat w),.int .i64 (Int.ofNat v),R,W,.slice none 0 0,.slice (some ⟨d.length,0,some 11⟩) (4*w*v) (4*w*v+1),.map (some m32),.slice none 0 0]++[ix]++List.drop (4+[ix].length) [.int .i64 (Int.ofNat w),.int .i64 (Int.ofNat v),R,W,.slice none 0 0,.slice (some ⟨d.length,0,some 11⟩) (4*w*v) (4*w*v+1),.map (some m32),.slice none 0 0]) 8 true)))=g4.set m34 (HO.o (.cells [.int .i64 (Int.ofNat w),.int .i64 (Int.ofNat v),R,W,ix,.slice (some ⟨d.length,0,some 11⟩) (4*w*v) (4*w*v+1),.map (some m32),.slice none 0 0] 8 true))from rfl];generalize g4.set m34 (HO.o (.cells [.int .i64 (Int.ofNat w),.int .i64 (Int.ofNat v),R,W,ix,.slice (some ⟨d.length,0,some 11⟩) (4*w*v) (4*w*v+1),.map (some m32),.slice none 0 0] 8 true))=g4' at *;have d1:=a8 _ _ (F.get ca) (by omega);have a3:=a8 _ _ (F.get b8) (by omega);have el:∀j,blk ix=some j->j≠m34:=λj J e=>by
   have d:=vG (ar.ls eW) J;subst e;rw[eR (F.get ay)]at d;cases d
  have cq:=(co.pre F).keep λj o J X=>a8 j o J (cr j X);have cf:=(ar.ls eW).keep λj o J X=>a8 j o J (el j X);clear a8 bX ax cn ar cd co ca bP bI b8 an ay cA cB c1 hA hB;obtain⟨M,hM,gv,hm⟩:=hx;refine p_y ?_;refine br (hM.pre cs) ?_;rw[gv];refine p_y ?_;generalize d.length=m30 at *;have ck:m30<g4'.length:=aw a3;have f2:∀P,(jk Z P).length=4*w*v:=λP=>by rw[qK,f3]
  have b7:∀A:List Nat,(putE g4' m30 1 encN A)[m34]?=some (HO.o (.cells [.int .i64 (Int.ofNat w),.int .i64 (Int.ofNat v),R,W,ix,.slice (some ⟨m30,0,some 11⟩) (4*w*v) (4*w*v+1),.map (some m32),.slice none 0 0] 8 true)):=λA=>by
   rw[cP (by omega)];exact d0
  have D:∀A:List Nat,Pre H (putE g4' m30 1 encN A):=λA=>gm cs g6;refine aS (σ:=List Nat) L.length (λj _=>[.i (Int.ofNat j)]) (λ_ A=>putE g4' m30 1 encN A) (λj A=>A=jk Z ((L.take j).flatMap pos1)) (j0:=0) (s0:=Z) rfl (bD a3).symm (qaC _) rfl ?_;rintro i A hi hA ct u;refine p_x ?_;by_cases U:i<L.length
  case pos=>
   rw[aD U];refine p_x ?_;obtain⟨⟨c,y⟩,hy⟩:=aH (l:=M) (i:=i) (by omega);obtain⟨ly,dr,b6⟩:=hm i _ hy;simp only at dr b6;obtain⟨o1,o2,o3,o4,o5⟩:=eB _ (qab dr);simp only at o1 o2 o3 o4 o5;refine aQ (hM.pre (D A)) rfl hy ?_;rw[show enc4 (c,y)=[.int .i64 c.1,.int .i64 c.2.1,.int .u8 (Int.ofNat c.2.2),y]from rfl];refine p_x ?_;refine ac b6.good ?_;refine p_y ?_;refine br (b6.pre (D A)) ?_;refine p_y ?_;refine aS (σ:=List Nat) ly.length (λj _=>[.i (Int.ofNat j)]) (λ_ B=>putE g4' m30 1 encN B) (λj B=>B=jk A (ly.zipIdx.take j)) (j0:=0) (s0:=A) rfl rfl (qaC _) rfl ?_;rintro j B J hB dT Y;have cx:B.length=4*w*v:=by rw[hB,hA,←lN,f2]
   refine p_x ?_;by_cases bd:j<ly.length
   case pos=>
    rw[aD bd];refine p_x ?_;obtain⟨n,hn⟩:=aH (l:=ly) (i:=j) bd;have ht:=o4 n (qab hn);refine aQ (b6.pre (D B)) rfl hn ?_;rw[show encN n=[.int .i64 (Int.ofNat n)]from rfl];refine p_x ?_;refine dW (ds:=[.slice (some ⟨m30,0,some 11⟩) (4*w*v) (4*w*v+1)]) (b7 B) (by simp) rfl ?_;refine p_x ?_;refine ac (by simp[az,noLoc,aR,aZ,aT,aI,av]) ?_;refine p_y ?_;refine cW (enc:=encN) (l:=B) (i:=n) (a:=j) aG (bF ck) rfl (by omega) cx rfl ?_;refine p_y ?_;rw[aL (by omega),ej];refine Y (B.set n j) bd ?_;rw[qbj,lN,←hB,List.getElem?_zipIdx,hn];simp[jk]
   obtain rfl:j=ly.length:=by omega
   rw[aC (qaj _)];refine p_x ?_;rw[aL (by omega)];refine u B U ?_;rw[qbj,dr];simp only[qco,qbB,qaV,List.flatMap_nil,qaZ];rw[lN,←hA,hB,qaH (by rw[List.length_zipIdx];exact qaj _)];rfl
  obtain rfl:i=L.length:=by omega
  rw[aC (qaj _)];refine p_x ?_;clear u;rw[qbD]at hA;have fu:A=hgS (4*w*v) L:=by rw[hA,←hZ];rfl
  subst fu;clear hA;obtain⟨hS,fn⟩ : ∃g,putE g4' m30 1 encN (hgS (4*w*v) L)=g:=⟨_,rfl⟩;have ad:=b7 (hgS (4*w*v) L);have b5:=D (hgS (4*w*v) L);have b9:(putE g4' m30 1 encN (hgS (4*w*v) L))[m30]?=some (.o (.cells ((hgS (4*w*v) L).flatMap encN) 1 true)):=bF ck;have b0:∀(j:Nat) o,g4'[j]?=some o->j≠m30->(putE g4' m30 1 encN (hgS (4*w*v) L))[j]?=some o:=λj o J ag=>by
   rw[cP ag];exact J
  rw[fn]at ad b5 b9 b0 ⊢;have a4:=b0 _ _ d1 (by omega);have gd:(hgS (4*w*v) L).length=4*w*v:=by rw[hgS_map];simp
  refine dW (ds:=[.slice (some ⟨m30,0,some 11⟩) (4*w*v) (4*w*v+1)]) ad (by simp) rfl ?_;refine p_x ?_;refine ac (by simp[az,noLoc,aR,aZ,aT,aI,av]) ?_;refine p_y ?_;have dD:szB g4' m30=some 1:=eR a3;have bm:∀ {α:Type} {e:Nat} {enc:α->Tk} {l:List α} {v:Value},LsH g4' v e enc l->e≠1->∀j,blk v=some j->j≠m30:=λhv he j J e=>by
   subst e;have:=vG hv J;rw[dD]at this;cases this;exact he rfl
  have ev:=cq.keep λj o J X=>b0 j o J (bm cq (by decide) j X);have eg:=cf.keep λj o J X=>b0 j o J (bm cf (by decide) j X);have ex:m34<hS.length:=aw ad
  let c:BC:=⟨w,v,R,W,ix,.slice (some ⟨m30,0,some 11⟩) (4*w*v) (4*w*v+1),m34,m32,hS.length⟩
  have hc:CtxB c hS l G r (hgF (4*w*v) L):=by
   refine⟨h3,rfl,eR ad,?_,ev,eg,?_,hl.pre b5,N,hG,aO hr hk,e0,λid e hid he=>?_⟩
   ·unfold szB;rw[a4]
   ·show LsH hS (.slice (some ⟨m30,0,some 11⟩) (4*w*v) (4*w*v+1)) 1 encN ((List.range (4*w*v)).map (hgF (4*w*v) L));rw[←hgS_map];exact bT aG b9 gd.symm
   ·have V:=(dc C hid).2.2.2.2;have d:=rS h3 hG hr hid;show vCl (al (af (G id) r) (nbC (clN w id) e))=true;rw[iw fE V he];have h2:=zd (c:=al (af (G id) r) (clN w id)) (e:=eT (af (G id) r).1 e) jb (pJ he);unfold vCl;exact qdZ (by omega)
  have d8:Bld c hS hS (.slice none 0 0) []:=⟨λj o _ _ _ J=>J,ad,⟨[],qca _,_,_,a4,rfl⟩,.nil _ _ _ _,λq V=>(by cases V),.nil,.nil,ex,aw a4,by show m34≠m32;omega,qaj _⟩;refine ae (x:=Int.ofNat (4*w*v)) rfl ?_;refine p_y ?_;refine aS (σ:=HL×Value×List En) (4*w*v) (λj _=>[.i (Int.ofNat j)]) (λ_ t=>t.1) (λj t=>Bld c hS t.1 t.2.1 t.2.2/\t.2.2.map absE=smsL w v l (λn=>af (G n) r) (hgF (4*w*v) L) (prE j 0)/\t.2.2.length<=3*j/\(∀q∈t.2.2,bndE (3*j) q)/\hS.length<=t.1.length) (j0:=0) (s0:=(hS,.slice none 0 0,[])) rfl rfl (qaC _) ⟨d8,rfl,qaC _,λq V=>(by cases V),qaj _⟩ ?_;rintro id ⟨h,kv,Q⟩ hid ⟨I,hQ,d5,cD,dn⟩ ct u;simp only at I hQ d5 cD dn ⊢;refine p_x ?_;by_cases U:id<4*w*v
  case pos=>
   rw[aD U];refine p_x ?_;refine aS (σ:=HL×Value×List En) 3 (λj _=>[.i (Int.ofNat j)]) (λ_ t=>t.1) (λj t=>Bld c hS t.1 t.2.1 t.2.2/\t.2.2.map absE=smsL w v l (λn=>af (G n) r) (hgF (4*w*v) L) (prE id j)/\t.2.2.length<=3*id+j/\(∀q∈t.2.2,bndE (3*id+j) q)/\hS.length<=t.1.length) (j0:=0) (s0:=(h,kv,Q)) rfl rfl (qaC _) ⟨I,hQ,d5,cD,dn⟩ ?_;rintro e ⟨h',g1,Q'⟩ he ⟨cT,cC,d6,a6,cl⟩ dT Y;simp only at cT cC d6 a6 cl ⊢;refine p_x ?_;by_cases cm:e<3
   case pos=>
    rw[p_lss_t (show Int.ofNat e<3 by show(e:Int)<3;omega)];refine p_x ?_;obtain⟨h2,g5,Q2,c2,f4,f1,g8,d4,hf⟩:=meet_c hc cT (by omega) (B:=3*id+e) (by omega) a6 U cm;refine ai c2 ?_;refine p_x ?_;rw[p_add8 (by show(0:Int)<=(e:Int)+1;omega) (by show(e:Int)+1<=255;omega)];refine Y (h2,g5,Q2) cm ⟨f4,?_,by show Q2.length<=3*id+(e+1);omega,d4,by show hS.length<=h2.length;omega⟩;rw[smsL_e,←cC];exact f1
   obtain rfl:e=3:=by omega
   rw[p_lss_f (show(3:Int)<=Int.ofNat 3 from qbZ _)];refine p_x ?_;rw[aL (by omega)];refine u (h',g1,Q') U ⟨cT,?_,by show Q'.length<=3*(id+1);omega,λq V=>(a6 q V).mono (by omega),cl⟩;rw[prE_id];exact cC
  obtain rfl:id=4*w*v:=by omega
  rw[aC (qaj _)];refine p_x ?_;clear u d8;have ec:=I.ky;have a9:=ec.good fG;refine dW (ds:=[kv]) I.bl (by simp[bG]) rfl ?_;refine p_x ?_;refine ac a9 ?_;refine p_y ?_;have ag:=@smsL_ne w v l (λn=>af (G n) r) (hgF (4*w*v) L) (4*w*v) hN.1;have bn:=smsL_ok C (l:=l) (P:=λn=>af (G n) r) (hg:=hgF (4*w*v) L) (E:=prE (4*w*v) 0) λp hp=>by
   have:=prE_mem (by omega) hp;exact⟨this.2.2 rfl,this.2.1⟩
  rw[←hQ]at ag bn;have gl:(Q.map absE).map (·.k)=Q.map keyE:=by rw[qbU];rfl
  have eE:∀q∈Q,okE (4*w*v) q:=λq V=>by
   obtain⟨o1,o2,o3⟩:=bn (absE q) (qaA.2 ⟨q,V,rfl⟩);have a0:=cD q V;exact⟨a0.mono (by omega),a0.2.1,a0.2.2.1,a0.2.2.2,o1,o2⟩
  obtain⟨T,hK,cK,pK,sK,oK,kK,eK⟩:=sortK_c ec (λe=>absurd (by rw[qcL.1 e];rfl) ag) (λk hk=>by
   obtain⟨q,V,rfl⟩:=qaA.1 hk;exact(bn (absE q) (qaA.2 ⟨q,V,rfl⟩)).2.2) (by rw[qaB];omega)
  obtain⟨Q1,fb,fa,bU⟩:=I.srt pK oK kK eK;refine ai cK ?_;refine p_x ?_;refine dW (ds:=[kv]) bU.bl (by simp[bG]) rfl ?_;refine p_x ?_;refine ac a9 ?_;refine p_y ?_;have ha:T.length=Q.length:=by rw[pK.length_eq,qaB]
  refine br (oK.ls fG) ?_;refine p_y ?_;refine ae (dZ (by omega)) ?_;refine p_x ?_;rw[show(Int.ofNat T.length).toNat=T.length from rfl];have z9:HO.o (.cells (bc [.int .i64 0,.int .i64 0,.int .u8 0,.int .i64 0,.int .i64 0,.int .u8 0,.slice none 0 0,.slice none 0 0,.slice none 0 0] T.length) 9 true)=HO.o (.cells ((List.replicate T.length ((((0,0,0),(0,0,0)),.slice none 0 0,.slice none 0 0,.slice none 0 0):S9)).flatMap enc9) 9 true):=by
   rw[←cU (enc:=enc9) (z:=((((0,0,0),(0,0,0)),.slice none 0 0,.slice none 0 0,.slice none 0 0):S9)) (n:=T.length)];rfl
  rw[z9];obtain⟨O0,d2⟩ : ∃O,List.replicate T.length ((((0,0,0),(0,0,0)),.slice none 0 0,.slice none 0 0,.slice none 0 0):S9)=O:=⟨_,rfl⟩;have d3:O0.length=T.length:=by rw[←d2,qc4]
  rw[d2];have eL:Pre hK (hK++[HO.o (.cells (O0.flatMap enc9) 9 true)]):=(Pre.refl hK).app _;have gx:(hK++[HO.o (.cells (O0.flatMap enc9) 9 true)])[hK.length]?=some (HO.o (.cells (O0.flatMap enc9) 9 true)):=ao;have ho:(hK++[HO.o (.cells (O0.flatMap enc9) 9 true)]).length=hK.length+1:=by simp
  have d9:=bU.grow eL;have oO:=(oK.ls fG).pre eL;generalize hK++[HO.o (.cells (O0.flatMap enc9) 9 true)]=hO at *;refine dW (ds:=[kv]) d9.bl (by simp[bG]) rfl ?_;refine p_x ?_;refine ac a9 ?_;refine p_y ?_;refine br oO ?_;refine p_y ?_;have a5:∀q∈Q1,∀b,blkE q b->b<hK.length:=λq V b I=>((bU.en q V).lt I).2;have f0:hS.length<=hK.length:=bU.sz;have g7:Q1.length=T.length:=by rw[←fa,qaB]
  have eu:T.Nodup:=pK.nodup_iff.2 I.nd;refine aS (σ:=HL×List En×List S9×List Sm) T.length (λj _=>[.i (Int.ofNat j)]) (λ_ t=>t.1)
   (λj t=>Bld c hS t.1 kv t.2.1/\t.2.1.map keyE=T/\t.2.1.map En.id=Q1.map En.id/\(∀(i:Nat) q,j<=i->t.2.1[i]?=some q->Q1[i]?=some q)/\t.1[hK.length]?=some (.o (.cells (t.2.2.1.flatMap enc9) 9 true))/\t.2.2.1.length=T.length/\
    t.2.2.2.map (·.k)=T.take j/\(∀(i:Nat) m,i<j->t.2.2.1[i]?=some m->(∃s,t.2.2.2[i]?=some s/\SmH t.1 m s)/\∀b,(blk m.2.1=some b∨blk m.2.2.1=some b∨blk m.2.2.2=some b)->hO.length<=b)/\
    (∀s∈t.2.2.2,∃q∈Q1,keyE q=s.k/\s.ps.Perm q.ps/\s.ls.Perm q.ls/\s.es.Perm q.es)/\(∀s∈t.2.2.2,s.ps.Pairwise (λa b=>¬hgF (4*w*v) L b.1<hgF (4*w*v) L a.1)/\s.ls.Pairwise (λa b=>¬(b.1<a.1∨(b.1=a.1/\hgF (4*w*v) L b.2.1<hgF (4*w*v) L a.2.1)))/\s.es.Pairwise (λa b=>a<=b))/\hO.length<=t.1.length)
   (j0:=0) (s0:=(hO,Q1,O0,[])) rfl rfl (qaC _) ⟨d9,fa,rfl,λi q _ h=>h,gx,d3,rfl,λi m h=>(by omega),λs h=>(by cases h),λs h=>(by cases h),qaj _⟩ ?_
  rintro j ⟨g,Qj,O,Sd⟩ J ⟨i1,i2,i3,i4,i5,i6,i7,i8,i9,i10,gX⟩ ct u;simp only at i1 i2 i3 i4 i5 i6 i7 i8 i9 i10 gX ⊢;refine p_x ?_;by_cases U:j<T.length
  case pos=>
   rw[aD U];refine p_x ?_;obtain⟨q,V⟩:=aH (l:=Qj) (i:=j) (by rw[←qaB (f:=keyE),i2];exact U);have gC:=i4 j q (qaj _) V;have a1:=qab gC;have et:T[j]?=some (keyE q):=by rw[←i2,qan,V];rfl
   have ci:=i1.ky.ls fG;rw[i2]at ci;refine aQ ci rfl et ?_;rw[show nM (keyE q)=[.int .i64 q.a.1,.int .i64 q.a.2.1,.int .u8 (Int.ofNat q.a.2.2),.int .i64 q.b.1,.int .i64 q.b.2.1,.int .u8 (Int.ofNat q.b.2.2)]from rfl];refine p_x ?_;refine dW (ds:=[.map (some m32)]) i1.bl (by simp[bG]) rfl ?_;refine p_x ?_;refine ac rfl ?_;refine p_y ?_;refine r_luB i1 V (k:=keyE q) rfl rfl ?_;refine p_x ?_;refine ac (aX _) ?_;refine p_y ?_;obtain⟨g',v1,v2,v3,q',cS,bS,ea,eb,ei,pp,pl,pe,sp,sl,se,l1,l2,l3,nb,kp,le⟩:=zy hc i1 V (eE q (fb.mem_iff.1 a1));simp only[cll,qag,qaf]at cS;refine ai cS ?_;refine p_x ?_;have gy:¬blkE q hK.length:=λI=>by have:=a5 q a1 _ I;omega
   have be:=kp _ _ i5 gy;refine cW (enc:=enc9) (l:=O) (i:=j) (a:=((keyE q,v1,v2,v3):S9)) wQ be rfl (by omega) i6 rfl ?_;refine p_y ?_;rw[aL (by omega)];have go:keyE q'=keyE q:=qcY ea eb;have cb:(Qj.set j q').map En.id=Q1.map En.id:=by
    rw[qb4,ei,←i3];exact bD (by rw[qan,V];rfl)
   have a7:Sd.length=j:=by
    have:=congrArg List.length i7;rw[qaB,qaL]at this;omega
   have aE:∀(b:Nat) o,g'[b]?=some o->hO.length<=b->(putE g' hK.length 9 enc9 (O.set j (keyE q,v1,v2,v3)))[b]?=some o:=λb o I dn=>by
    rw[cP (by omega)];exact I
   refine u (putE g' hK.length 9 enc9 (O.set j (keyE q,v1,v2,v3)),Qj.set j q',O.set j (keyE q,v1,v2,v3),Sd++[⟨keyE q,q'.ps,q'.ls,q'.es⟩]) U ⟨?_,?_,cb,λi p hi hp=>?_,bF (aw be),by show(O.set j _).length=_;rw[qay];exact i6,?_,λi m hi hm=>?_,λs C=>?_,λs C=>?_,?_⟩
   ·refine bS.store f0 (eR be) λp hp e=>?_;have gA:p.id∈Q1.map En.id:=cb▸qaA.2 ⟨p,hp,rfl⟩;obtain⟨p1,bs,e1⟩:=qaA.1 gA;have:=a5 p1 bs _ (.inl rfl);omega
   ·show(Qj.set j q').map keyE=T;rw[qb4,go,bD (by rw[qan,V];rfl)];exact i2
   ·have hp:(Qj.set j q')[i]?=some p:=hp;rw[qaD (by omega)]at hp;exact i4 i p (by omega) hp
   ·show(Sd++[(⟨keyE q,q'.ps,q'.ls,q'.es⟩ : Sm)]).map (·.k)=T.take (j+1);rw[qbj,et,qa3,i7];rfl
   ·have hm:(O.set j (keyE q,v1,v2,v3))[i]?=some m:=hm;by_cases e:i=j
    ·subst e;rw[qaK (by omega)]at hm;cases hm;refine⟨⟨⟨keyE q,q'.ps,q'.ls,q'.es⟩,by show(Sd++_)[i]?=_;rw[qaw (by omega),a7,qb6];rfl,rfl,l1.keep λb o I ap=>aE b o I (by have:=nb b (.inl ap);omega),l2.keep λb o I ap=>aE b o I (by have:=nb b (.inr (.inl ap));omega),l3.keep λb o I ap=>aE b o I (by have:=nb b (.inr (.inr ap));omega)⟩,λb I=>?_⟩;have:=nb b I;omega
    ·rw[qaD (λe'=>e e'.symm)]at hm;obtain⟨⟨s,gD,gU⟩,I⟩:=i8 i m (by omega) hm;refine⟨⟨s,by show(Sd++_)[i]?=_;rw[qam (by omega)];exact gD,gU.keep λb o c0 ap=>?_⟩,I⟩;have ga:=I b ap;exact aE b o (kp b o c0 λa0=>by have:=a5 q a1 _ a0;omega) ga
   ·rcases qaz.1 C with C|C
    ·exact i9 s C
    ·rw[qaq]at C;subst C;exact⟨q,a1,rfl,pp,pl,pe⟩
   ·rcases qaz.1 C with C|C
    ·exact i10 s C
    ·rw[qaq]at C;subst C;exact⟨sp,sl,se⟩
   ·show hO.length<=(putE g' _ _ _ _).length;rw[sx];omega
  obtain rfl:j=T.length:=by omega
  rw[aC (qaj _)];refine p_x ?_;have a7:Sd.length=T.length:=by
   have:=congrArg List.length i7;rw[qaB,qaL,Nat.min_self]at this;exact this
  rw[qbD]at i7;refine⟨.slice (some ⟨hK.length,0,some 19⟩) T.length (T.length+1),rfl,bH b5 λb o I c0=>i1.low b o (by show b<hS.length;exact qcU I b5.len) (by show b≠m34;omega) (by show b≠m32;omega) c0,λh=>absurd rfl h,λ_=>⟨G,Sd,hG,⟨O,⟨hK.length,by rw[i6];rfl,i5⟩,by rw[i6,a7],λi m hm=>(i8 i m (by have:=aw hm;omega) hm).1⟩,?_,?_,λs C=>?_,λs C=>(i10 s C).1,λs C=>(i10 s C).2.1,λs C=>(i10 s C).2.2⟩⟩
  ·rw[i7,←hQ,gl];exact pK
  ·rw[i7];refine(sK.and eu).imp λ{a b} d7=>gtY_tot d7.1 d7.2
  ·obtain⟨q,a1,e1,e2,e3,e4⟩:=i9 s C;refine⟨absE q,?_,e1,e2,e3,e4⟩;rw[←hQ];exact qaA.2 ⟨q,fb.mem_iff.1 a1,rfl⟩)
 obtain⟨rs,h',h2,y,rfl,h4,h5,h6⟩:=g0;exact⟨y,e,h',h2,h4,hR,h5,h6⟩
def tabTo(e:Int):Bool:=jc 52 [.i 0,.i 0,.i 0,.i 0,.i 0,.i 1] [.i e,.i 0]
def touch01:∃e,Cc 52 [.i 0,.i 0,.i 0,.i 0,.i 0,.i 1] [.i e,.i 0]:=by
 first
  |exact⟨1,dw (show tabTo 1=true by kernel_rfl) rfl (by kernel_rfl) rfl⟩
  |exact⟨2,dw (show tabTo 2=true by kernel_rfl) rfl (by kernel_rfl) rfl⟩
  |exact⟨0,dw (show tabTo 0=true by kernel_rfl) rfl (by kernel_rfl) rfl⟩
def chk2_s{α:Type}{h:HL}{v:Value}{e:Nat}{enc:α->Tk}{l:List α}(c:LsH h v e enc l):chk2 v=some ():=by
 obtain⟨_,_,⟨rfl,_⟩|⟨id,a,b,f,d,rfl,_⟩⟩:=c
 ·rfl
 ·unfold chk2;have:aZ (.slice (some ⟨id,a,tag e⟩) l.length b)=true:=by simp[aZ,aT,noLoc,aI,av,tag]
  rw[this];rfl
def at01_c{H:HL}{w v:Nat}{B x y:Value}{r:Mv}{e:Int}{h':HL}{S:List Sm}(C:az B=true)(D:az x=true)(N:aB cc ab 7 ([.i (.ofNat w),.i (.ofNat v),.v B]++mvl r++[.v x]) (absH aa H) [.v y,.i e] (absH aa h'))(W:e=0->SmL h' y S)(hS:S.length<=1000) :
  ∃l n o p q t u z A g,aB cc ab 17 ([.i (.ofNat w),.i (.ofNat v),.v B]++mvl r++[.v x,.i 0,.i 0,.i 0,.i 0,.i 0,.i 1]) (absH aa H) [.i l,.i n,.i o,.i p,.i q,.i t,.v u,.v z,.v A,.i g] (absH aa h')/\(e≠0->g=e):=by
 have E:=x17 (ls:=[.i (.ofNat w),.i (.ofNat v),.v B,.i (Int.ofNat r.1),.i r.2.1,.i r.2.2,.v x,.i 0,.i 0,.i 0,.i 0,.i 0,.i 1]) (K:=λO L=>∃l n o p q t u z A g,O=[.i l,.i n,.i o,.i p,.i q,.i t,.v u,.v z,.v A,.i g]/\L=h'/\(e≠0->g=e)) (H:=H) (glsI (glsI (glsV C (glsI (glsI (glsI (glsV D (glsI (glsI (glsI (glsI (glsI (glsI gls0))))))))))))) (by
  unfold f17;simp only[qxh];refine p_x ?_;simp only[mvl,qag,qaf]at N;refine ai N ?_;refine p_x ?_;by_cases j:e=0
  case neg=>
   rw[p_neq_t j];refine p_x ?_;refine ae (x:=()) rfl ?_;refine ae (x:=()) rfl ?_;refine ae (x:=()) rfl ?_;refine p_y ?_;exact⟨0,0,0,0,0,0,dN,dN,dN,e,by first|rfl|trivial,by first|rfl|trivial,λ_=>rfl⟩
  rw[p_neq_f j];refine p_x ?_;obtain⟨M,R,V,U⟩:=W j;have f:=R.ls wQ;obtain⟨eT,Q⟩:=touch01;refine ah Q ?_;refine p_x ?_;have F:=gR (a:=(0,0,0)) (b:=(0,0,1)) (by decide) (by decide);simp only[cll,qag,qaf]at F;refine ah F ?_;refine p_x ?_;rw[p_geq_f (show cmpC (0,0,0) (0,0,1)<0 by decide)];refine p_x ?_;refine br f ?_;refine p_y ?_;refine ce M.length (λ_=>True) (j0:=0) rfl (qaC _) trivial ?_;intro i hi _ P c;refine p_x ?_;by_cases d:i<M.length
  case neg=>
   rw[aC (by omega)];refine p_x ?_;refine ae (x:=()) rfl ?_;refine ae (x:=()) rfl ?_;refine ae (x:=()) rfl ?_;refine p_y ?_;exact⟨0,0,0,0,0,0,dN,dN,dN,7,by first|rfl|trivial,by first|rfl|trivial,λh=>absurd j h⟩
  rw[aD d];refine p_x ?_;obtain⟨m,k⟩:=aH d;obtain⟨s,hs,Z,G,I,J⟩:=U i m k;refine aQ f rfl k ?_;rw[show enc9 m=[.int .i64 m.1.1.1,.int .i64 m.1.1.2.1,.int .u8 (Int.ofNat m.1.1.2.2),.int .i64 m.1.2.1,.int .i64 m.1.2.2.1,.int .u8 (Int.ofNat m.1.2.2.2),m.2.1,m.2.2.1,m.2.2.2]from rfl];refine p_x ?_;refine ac G.good ?_;refine p_y ?_;refine ac I.good ?_;refine p_y ?_;refine ac J.good ?_;refine p_y ?_;have X:∀ {K:Tm},P1.eqs [(.i m.1.1.1,.i 0),(.i m.1.1.2.1,.i 0),(.i (Int.ofNat m.1.1.2.2),.i 0)] (@hid _ ⟨K⟩)=K (decide (m.1.1=(0,0,0))):=eqsC (a:=m.1.1) (b:=(0,0,0));have Y:∀ {K:Tm},P1.eqs [(.i m.1.2.1,.i 0),(.i m.1.2.2.1,.i 0),(.i (Int.ofNat m.1.2.2.2),.i 1)] (@hid _ ⟨K⟩)=K (decide (m.1.2=(0,0,1))):=eqsC (a:=m.1.2) (b:=(0,0,1));rw[X];cases decide (m.1.1=(0,0,0))with
  |false=>
   refine p_x ?_;rw[aL (by omega)];exact c d trivial
  |true=>
  refine p_x ?_;rw[Y];cases decide (m.1.2=(0,0,1))with
  |false=>
   refine p_x ?_;rw[aL (by omega)];exact c d trivial
  |true=>
  refine p_x ?_;refine ae (x:=()) (chk2_s G) ?_;refine ae (x:=()) (chk2_s I) ?_;refine ae (x:=()) (chk2_s J) ?_;refine p_y ?_;exact⟨_,_,_,_,_,_,_,_,_,_,rfl,by first|rfl|trivial,λh=>absurd j h⟩)
 obtain⟨O,L,c2,l,n,o,p,q,t,u,z,A,g,rfl,rfl,T⟩:=E;exact⟨l,n,o,p,q,t,u,z,A,g,c2,T⟩
def ChkR.val{N:Nat}{L:List Stc}{e:Int}(h:ChkR N L e):e=0∨e=1∨e=8∨e=6:=by
 rcases h with⟨rfl,_⟩|⟨_,⟨rfl,_⟩|⟨_,⟨rfl,_⟩|⟨rfl,_⟩⟩⟩<;>simp
def nc{w v:Nat}(i:Sh w v){l:Ty}{G e:TC}(g:ConsO w v l G)(b:ConsO w v l e){r:Mv}{L:List Stc}(d:okL (4*w*v) L)(h:uC (λc=>al (af (G c) r) (clN w c)) L):uC (λc=>al (af (e c) r) (clN w c)) L:=λs a c f=>by
 have:=h s a c f;simp only at this ⊢;rw[←uM i g b ((d s a).2.2.2.1 c f)];exact this
def stk_err{w v:Nat}(m:Sh w v){l:Ty}{r:Mv}{L:List Stc}(i:okL (4*w*v) L){e e':Int}(h:StkR w v l r L e)(h':ErrR w v l r L e'):e=if e'=12∨e'=13 then 0 else e':=by
 rcases h with⟨rfl,d⟩|⟨G,j,h⟩
 ·rcases h' with⟨rfl,_⟩|⟨k,a,_⟩
  ·simp
  ·exact absurd ⟨k,a.g,a.z⟩ d
 rcases h' with⟨rfl,d⟩|⟨k,a,h'⟩
 ·exact absurd ⟨G,j.g,j.z⟩ d
 rcases h with⟨n,f⟩|⟨f,h⟩<;>rcases h' with⟨c,b⟩|⟨b,h'⟩
 ·have:=f.eq b;subst this;have:=f.val;rw[qd1 (by omega)]
 ·have:=f.eq b;omega
 ·have:=f.eq b;omega
 ·rcases h with⟨rfl,h⟩|⟨rfl,h⟩<;>rcases h' with⟨c,h'⟩|⟨c,h'⟩
  ·subst c;simp
  ·exact absurd (nc m a j i h') h
  ·exact absurd (nc m j a i h) h'
  ·rcases c with rfl|rfl|rfl<;>simp
def stk_eq{w v:Nat}(m:Sh w v){l:Ty}{r:Mv}{L:List Stc}(f:okL (4*w*v) L){e e':Int}(h:StkR w v l r L e)(h':StkR w v l r L e'):e=e':=by
 rcases h with⟨rfl,d⟩|⟨G,i,h⟩
 ·rcases h' with⟨rfl,_⟩|⟨k,a,_⟩
  ·rfl
  ·exact absurd ⟨k,a.g,a.z⟩ d
 rcases h' with⟨rfl,d⟩|⟨k,a,h'⟩
 ·exact absurd ⟨G,i.g,i.z⟩ d
 rcases h with⟨n,j⟩|⟨j,h⟩<;>rcases h' with⟨c,b⟩|⟨b,h'⟩
 ·exact j.eq b
 ·have:=j.eq b;omega
 ·have:=j.eq b;omega
 ·rcases h with⟨rfl,h⟩|⟨rfl,h⟩<;>rcases h' with⟨c,h'⟩|⟨c,h'⟩
  ·exact c.symm
  ·exact absurd (nc m a i f h') h
  ·exact absurd (nc m i a f h) h'
  ·exact c.symm
section
variable {w v:Nat} {H:HL} {xl:Value} {r:Mv}
def bothB_c(b:az xl=true)(a:aB cc ab 99 [.i (.ofNat w),.i (.ofNat v),.v xl] (absH aa H) [.i 0] (absH aa H))(e:r.1<=255)(d:vMI (Int.ofNat r.1) r.2.1 r.2.2=false) :
  aB cc ab 63 ([.i (.ofNat w),.i (.ofNat v),.v xl]++mvl r) (absH aa H) [.v dN,.v dN,.i 1] (absH aa H):=by
 show aB cc ab _ [.i (.ofNat w),.i (.ofNat v),.v xl,.i (Int.ofNat r.1),.i r.2.1,.i r.2.2] _ _ _;exact xK x63 (glsI (glsI (glsV b (glsI (glsI (glsI gls0)))))) (by
  unfold f63;simp only[qxh];refine p_x ?_;refine ai a ?_;refine p_x ?_;have c:=sc (t:=Int.ofNat r.1) (x:=r.2.1) (y:=r.2.2) ⟨qaG _,by show(r.1:Int)<=255;omega⟩;rw[d,qd1 (by simp)]at c;refine ah c ?_
  try simp(disch:=omega)only[↓qXX]
  first
   |trivial
   |exact⟨rfl,rfl⟩)
def uU(a:az xl=true)(c:aB cc ab 99 [.i (.ofNat w),.i (.ofNat v),.v xl] (absH aa H) [.i 0] (absH aa H))(l:r.1<=255)(k:vMI (Int.ofNat r.1) r.2.1 r.2.2=false){x:Value}(d:az x=true) :
  ∃h',aB cc ab 16 ([.i (.ofNat w),.i (.ofNat v),.v xl]++mvl r++[.v x]) (absH aa H) [.i 1] (absH aa h')/\Pre H h':=by
 have j:BothC [.i (.ofNat w),.i (.ofNat v),.v xl,.i (Int.ofNat r.1),.i r.2.1,.i r.2.2] H dN dN 1 H:=⟨bothB_c a c l k,.refl _,rfl,rfl⟩;have e:=x16 (ls:=[.i (.ofNat w),.i (.ofNat v),.v xl,.i (Int.ofNat r.1),.i r.2.1,.i r.2.2,.v x]) (K:=λf h'=>f=[.i 1]/\Pre H h') (H:=H) (glsI (glsI (glsV a (glsI (glsI (glsI (glsV d gls0))))))) (by
  unfold f16;simp only[qxh];refine p_x ?_;refine ai (mW a j) ?_;refine p_x ?_;refine wc (b:=H.length) ao rfl ?_;rw[dp];refine p_y ?_;exact⟨by first|rfl|trivial,(Pre.refl H).app _⟩)
 obtain⟨f,h',g,rfl,h⟩:=e;exact⟨h',g,h⟩
def ofB_c(a:az xl=true)(c:aB cc ab 99 [.i (.ofNat w),.i (.ofNat v),.v xl] (absH aa H) [.i 0] (absH aa H))(l:r.1<=255)(k:vMI (Int.ofNat r.1) r.2.1 r.2.2=false){x:Value}(b:az x=true) :
  ∃h',aB cc ab 7 ([.i (.ofNat w),.i (.ofNat v),.v xl]++mvl r++[.v x]) (absH aa H) [.v dN,.i 1] (absH aa h')/\Pre H h':=by
 obtain⟨h,f,d⟩:=uU a c l k b;have e:=x7 (ls:=[.i (.ofNat w),.i (.ofNat v),.v xl,.i (Int.ofNat r.1),.i r.2.1,.i r.2.2,.v x]) (K:=λg h'=>g=[.v dN,.i 1]/\h'=h) (H:=H) (glsI (glsI (glsV a (glsI (glsI (glsI (glsV b gls0))))))) (by
  unfold f7;simp only[qxh];refine p_x ?_;simp only[mvl,qag,qaf]at f;refine ai f ?_;simp(disch:=omega)only[↓qXX]
  try rw[p_neq_t (by decide)]
  refine p_y ?_;exact⟨by first|rfl|trivial,by first|rfl|trivial⟩)
 obtain⟨g,h',j,rfl,rfl⟩:=e;exact⟨_,j,d⟩
end
def iq:∀H,aB cc ab 13 [] H [.b true] H:=io (n:=60) rfl (by kernel_rfl) rfl (by kernel_rfl)
theorem smsL_len{w v:Nat}{l:Ty}{P:TC}{hg:TA}{E:List (Nat×Nat)}:(smsL w v l P hg E).length<=E.length:=by
 unfold smsL;have b:∀(E:List (Nat×Nat)) (Q:List Sm),(E.foldl (λQ p=>jY w v l P hg Q p.1 p.2) Q).length<=Q.length+E.length:=by
  intro E
  induction E with
  |nil=>intro Q;exact qaj _
  |cons a E c=>
   intro Q;rw[qb0];refine qbN (c _) ?_;have:(jY w v l P hg Q a.1 a.2).length<=Q.length+1:=by
    unfold jY py;rw[qaB];split
    ·omega
    ·simp
   rw[qa0];omega
 have:=b E [];simpa using this
def prE_len{n:Nat}:(prE n 0).length=3*n:=by
 induction n with
 |zero=>rfl
 |succ n b=>
  rw[prE_id];have a:prE n 3=prE n 0++[(n,0),(n,1),(n,2)]:=by
   rw[prE_e,prE_e,prE_e];simp
  rw[a,qau,b];simp;omega
structure SpR(w v:Nat)(l:Ty)(h:HL)(xl x:Value)(L:List Stc):Prop where
 cr:LsH h xl 3 encC l
 st:StL h x L
 len:L.length<=200
 ok:okL (4*w*v) L
 cl:∀s∈L,-4000<=s.1.1/\s.1.1<=4000/\-4000<=s.1.2.1/\s.1.2.1<=4000
 tot:(bo L).length<=1000
def SpR.pre{w v:Nat}{l:Ty}{h h':HL}{c x:Value}{L:List Stc}(a:SpR w v l h c x L)(b:Pre h h'):SpR w v l h' c x L:=⟨a.cr.pre b,a.st.pre b,a.len,a.ok,a.cl,a.tot⟩
def RootR(r:Mv):Prop:=okM 1280 r∨(r.1<=255/\vMI (Int.ofNat r.1) r.2.1 r.2.2=false)
def EvR(w v:Nat)(l:Ty)(r:Mv)(L:List Stc)(e:Int):Prop:=(okM 1280 r/\StkR w v l r L e)∨(vMI (Int.ofNat r.1) r.2.1 r.2.2=false/\e=1)
def vT{k:Int}{r:Mv}(h:okM k r)(g:k<=16384):vMI (Int.ofNat r.1) r.2.1 r.2.2=true:=by
 obtain⟨b,c,d,e,f,a⟩:=h;unfold vMI;refine qdZ ⟨?_,by omega,by omega,a⟩;show(r.1:Int)<8;omega
def EvR.eq{w v:Nat}(g:Sh w v){l:Ty}{r:Mv}{L:List Stc}(d:okL (4*w*v) L){e e':Int}(h:EvR w v l r L e)(h':EvR w v l r L e'):e=e':=by
 rcases h with⟨b,f⟩|⟨b,rfl⟩<;>rcases h' with⟨a,c⟩|⟨a,rfl⟩
 ·exact stk_eq g d f c
 ·rw[vT b (by omega)]at a;cases a
 ·rw[vT a (by omega)]at b;cases b
 ·rfl
section
variable {w v:Nat} (h3:S3 w v) {l:Ty} (hv:∀c∈l,VK w v c) (hlt:l.Pairwise λa b=>ltC a b=true) (hn:l.length<=1000)
include h3 hv hlt hn
theorem pat_of:Pat w v l:=by
 obtain⟨a,b,c,d⟩:=h3;have k:=sh_N (S3.sh ⟨a,b,c,d⟩);exact⟨by omega,λc f=>by
  obtain⟨⟨u,e,n,g,h,o,m,_,_,i,j⟩,_⟩:=hv c f;unfold rngC;rw[g,h];refine⟨?_,?_,?_,?_,i,j⟩
  ·show(0:Int)<=(u:Int);omega
  ·show(u:Int)<=1000;omega
  ·show(0:Int)<=(e:Int);omega
  ·show(e:Int)<=255;omega,hn,chkC_ok hv hlt⟩
theorem stacksA_c{h:HL}{k x:Value}{L:List Stc}(a:SpR w v l h k x L){r:Mv}(d:RootR r) :
  ∃e h',aB cc ab 16 ([.i (.ofNat w),.i (.ofNat v),.v k]++mvl r++[.v x]) (absH aa h) [.i e] (absH aa h')/\Pre h h'/\EvR w v l r L e:=by
 have b:=pat_of h3 hv hlt hn;have f:az x=true:=by
  obtain⟨M,m,_⟩:=a.st;exact m.good
 rcases d with d|⟨d,j⟩
 ·obtain⟨e,h',c,g,n⟩:=ji h3 (lh hlt) a.cr (b.check a.cr) hn d (by omega) a.st a.len a.ok a.cl a.tot;exact⟨e,h',c,g,.inl ⟨d,n⟩⟩
 ·obtain⟨h',c,g⟩:=uU a.cr.good (b.check a.cr) d j f;exact⟨1,h',c,g,.inr ⟨j,rfl⟩⟩
theorem ofA_c{h:HL}{m x:Value}{L:List Stc}(a:SpR w v l h m x L){r:Mv}(d:RootR r) :
  ∃y e h',aB cc ab 7 ([.i (.ofNat w),.i (.ofNat v),.v m]++mvl r++[.v x]) (absH aa h) [.v y,.i e] (absH aa h')/\Pre h h'/\EvR w v l r L e/\(∃S:List Sm,S.length<=1000/\(e=0->SmL h' y S)):=by
 have b:=pat_of h3 hv hlt hn;have f:az x=true:=by
  obtain⟨M,s,_⟩:=a.st;exact s.good
 rcases d with d|⟨d,j⟩
 ·obtain⟨y,e,h',c,g,u,_,o⟩:=zu h3 b (lh hlt) a.cr d (by omega) a.st a.len a.ok a.cl a.tot;refine⟨y,e,h',c,g,.inl ⟨d,u⟩,?_⟩;by_cases k:e=0
  ·obtain⟨G,S,_,z,t⟩:=o k;refine⟨S,?_,λ_=>z⟩;have p:=t.ks.length_eq;rw[qaB,qaB]at p;have q:=@smsL_len w v l (λn=>af (G n) r) (hgF (4*w*v) L) (prE (4*w*v) 0);rw[prE_len]at q;have A:=sh_N h3.sh;omega
  ·exact⟨[],qaC _,λh=>absurd h k⟩
 ·obtain⟨h',c,g⟩:=ofB_c a.cr.good (b.check a.cr) d j f;exact⟨dN,1,h',c,g,.inr ⟨j,rfl⟩,[],qaC _,λh=>by omega⟩
end
def FSt.spr{w v n0:Nat}(e:S3 w v){h:HL}{z k:Value}{r:Mv}{l:Ty}{G:TC}{d:List Sk}(f:StH w v n0 h 1280 z r k l G d){x:Value}(j:LsH h x 4 enc5 d):SpR w v l h z x (d.map stS):=by
 obtain⟨m,o,p,q⟩:=e.n;have b:=f.st;refine⟨f.cr,stl_of j f.pc,?_,λs a=>?_,λs a=>?_,?_⟩
 ·have:=b.lenL;omega
 ·have g:=b.cell e a;have t:=b.lenP a;exact⟨g.1,by omega,b.st.ne s a,λc i=>b.idlt a i,by omega⟩
 ·have g:=b.cell e a;omega
 ·have:=b.tot;unfold bo;omega
def p_setptr{α:Type}{e len:Nat}{enc:α->Tk}(b:∀a,(enc a).length=e){h:HL}{id:Nat}{l:List α}{i o:Nat}{a a':α}{new:Tk}{K:Ta}(hg:h[id]?=some (.o (.cells (l.flatMap enc) e true)))(f:l[i]?=some a)(c:l.length=len)(q:o+new.length<=e)
  (d:enc a'=(enc a).take o++new++(enc a).drop (o+new.length)) (p:K [] (putE h id e enc (l.set i a'))):P1.heap (.st (.pointer (some ⟨id,0+i*e+o,none⟩)) new) h (@hid _ ⟨K⟩):=by
 obtain⟨x,g,y,r,_,m⟩:=sH (cx:=0) b hg (n:=Int.ofNat i) rfl f c q d (K:=K) p;have j:=(oI (cx:=0) b hg f c.symm (o:=o) (k:=0) (by omega)).1;rw[j]at g;cases g;cases r;exact m
def flat_set{L:List Stc}{k:Nat}{a a':Stc}(b:L[k]?=some a):(bo (L.set k a')).length+a.2.length=(bo L).length+a'.2.length:=by
 have f:=dM (a:=a') b;have c:=dM (a:=a) b;rw[bD b]at c;have d:=(f.flatMap_right Prod.snd).length_eq;have e:=(c.flatMap_right Prod.snd).length_eq;rw[qaV,qau]at d e;unfold bo;omega
def SpR.set{w v:Nat}{l:Ty}{h h':HL}{e x:Value}{L:List Stc}(d:SpR w v l h e x L)(n:LsH h' e 3 encC l){k:Nat}{a a':Stc}(g:L[k]?=some a)(o:StL h' x (L.set k a'))(h1:a'.1.2.2<4)(t:a'.1.1=a.1.1/\a'.1.2.1=a.1.2.1)(i:a'.2≠[])(j:∀c∈a'.2,c∈a.2)(u:a'.2.length<=a.2.length+1)(y:(bo L).length<=100/\a.2.length<=100):SpR w v l h' e x (L.set k a'):=by
 have f:=qab g;obtain⟨z,A,o3,p,B⟩:=d.ok a f;have q:=d.cl a f;have r:=flat_set (a':=a') g;refine⟨n,o,by rw[qay];exact d.len,λs b=>?_,λs b=>?_,by omega⟩
 ·rcases qbh b with b|rfl
  ·exact d.ok s b
  ·exact⟨h1,by omega,i,λc m=>p c (j c m),by omega⟩
 ·rcases qbh b with b|rfl
  ·exact d.cl s b
  ·omega
def stl_all{h:HL}{z:Value}{a:List Sk}(e:LsH h z 4 enc5 a)(d:∀s∈a,LsH h s.2.1 1 encN s.2.2):StL h z (a.map stS):=by
 refine⟨a.map λs=>(s.1,s.2.1),ls45 e,by simp,λi m b=>?_⟩;rw[qan]at b;cases c:a[i]? with
 |none=>rw[c]at b;cases b
 |some s=>
  rw[c]at b;cases b;exact⟨s.2.2,by rw[qan,c];rfl,d s (qab c)⟩
def pf{w8 v8:Int}(d9:0<=w8/\w8<=255)(d8:0<=v8/\v8<=255){H:HL}{xf xw:Value}{Fl Sw:List Tr8}(hF:LsH H xf 3 pL Fl)(cA:∀a∈Fl,okT8 a)(hS:LsH H xw 3 pL Sw)(cD:∀a∈Sw,okT8 a)
  {s0 s1 t x y:Int} (dT:0<=s0/\s0<=255) (e0:0<=s1/\s1<=255) (ht:0<=t/\t<=255) :
  ∃h',aB cc ab 5 [.i w8,.i v8,.v xf,.v xw,.i s0,.i s1,.i t,.i x,.i y] (absH aa H) [.b true] (absH aa h'):=by
 obtain⟨w,v,rs,h1,V,c1,hR⟩:=sof24_c d9 d8 hF cA hS cD;obtain⟨z,r,zs,l,G,m,rfl,ex,ev,d⟩:=hR;obtain⟨b1,b2,b3,b4⟩:=V.n;have hs:=V.sh;have hN:=sh_N hs;have ar:0<m.length:=by
  have:=d.st.pos V
  rwa [qaB]at this
 have ef:m.length<=36:=by
  have:=d.st.lenL;rw[qaB]at this;omega
 have eb:=x5 (ls:=[.i w8,.i v8,.v xf,.v xw,.i s0,.i s1,.i t,.i x,.i y]) (K:=λrs h'=>rs=[.b true]) (H:=H) (glsI (glsI (glsV hF.good (glsV hS.good (glsI (glsI (glsI (glsI (glsI gls0))))))))) (by
  unfold f5;simp only[qxh]
  try simp (disch:=omega) only[↓qxn,↓qxc,↓qxa]
  refine ai c1 ?_
  try simp (disch:=omega) only[↓qxn,↓qxc,↓qxa]
  try rw[p_rem_nn (by omega) (by omega)]
  try simp (disch:=omega) only[↓qxn,↓qxc,↓qxa]
  refine qz λtt d0=>?_
  try simp (disch:=omega) only[↓qxn,↓qxc,↓qxa]
  refine iM (λls h=>∃r':Mv,ls=[.i (Int.ofNat w),.i (Int.ofNat v),.v z,.i (Int.ofNat r'.1),.i r'.2.1,.i r'.2.2,.v zs]/\h=h1/\RootR r') ?_ ?_
  case refine_2=>
   intro jj N;cases tt with
   |false=>
    refine p_x ?_;exact N _ _ ⟨r,rfl,rfl,.inl d.st.rk⟩
   |true=>
    refine p_x ?_;by_cases a1:x < -100
    ·rw[p_lss_t a1];refine p_x ?_;refine ah iq ?_;simp(disch:=omega)only[↓qXX]
    rw[p_lss_f (by omega)];refine p_x ?_;by_cases a2:100<x
    ·rw[p_gtr_t a2];refine p_x ?_;refine ah iq ?_;simp(disch:=omega)only[↓qXX]
    rw[p_gtr_f (by omega)];refine p_x ?_;by_cases a3:y < -100
    ·rw[p_lss_t a3];refine p_x ?_;refine ah iq ?_;simp(disch:=omega)only[↓qXX]
    rw[p_lss_f (by omega)];refine p_x ?_;by_cases a4:100<y
    ·rw[p_gtr_t a4];refine p_x ?_;refine ah iq ?_;simp(disch:=omega)only[↓qXX]
    rw[p_gtr_f (by omega)];refine p_x ?_;have cb:Int.ofNat t.toNat=t:=Int.toNat_of_nonneg ht.1;have:=N [.i (Int.ofNat w),.i (Int.ofNat v),.v z,.i (Int.ofNat t.toNat),.i x,.i y,.v zs] h1 ⟨(t.toNat,x,y),rfl,rfl,?_⟩
    ·rw[cb]at this;exact this
    by_cases D:vMI (Int.ofNat t.toNat) x y=true
    ·unfold vMI at D;rw[qdX,cb]at D;exact .inl ⟨by show t.toNat<8;omega,by show -1280<=x;omega,by show x<=1280;omega,by show -1280<=y;omega,by show y<=1280;omega,D.2.2.2⟩
    ·exact .inr ⟨by show t.toNat<=255;omega,by cases h:vMI (Int.ofNat t.toNat) x y with
      |false=>rfl
      |true=>exact absurd h D⟩
  rintro ls h ⟨r',rfl,rfl,Y⟩
  try simp (disch:=omega) only[↓qxn,↓qxc,↓qxa]
  refine OwnL.apL bz (OwnL.emp (n0:=h.length) ao (qaj _)) (by simp) (d.ss.pre ⟨_,rfl⟩) (by simp only[qbI];omega) (by simp only[qbI];omega) ?_;intro X g hO gX bS dn et;rw[qaf]at hO;have R:Pre h g:=xV λj o f=>bS j o (Pre.get ⟨_,rfl⟩ f) (by simp[Sx.blk];have:=aw f;omega);clear bS;have ap:=d.pre R;have eu:h.length+1<=g.length:=by simpa using dn
  simp (disch:=omega) only[↓qxn,↓qxc,↓qxa];refine ac gX ?_
  try simp (disch:=omega) only[↓qxn,↓qxc,↓qxa]
  refine br (hO.ls bz) ?_;obtain⟨c0,dk⟩:=oT dT.1 ar;rw[p_rem_nn (by omega) (show(0:Int)<Int.ofNat m.length by show(0:Int)<(m.length:Int);omega),dk];generalize s0.toNat%m.length=k at *;obtain⟨q,T⟩:=aH c0;have a0:(m.map stS)[k]?=some (q.1,q.2.2):=by rw[qan,T];rfl
  have a5:=qab a0;have a6:q.2.2≠[]:=d.st.st.ne _ a5;have dD:=ap.pc.1 q (qab T);obtain⟨f1,f2⟩:=d.st.cell V a5;simp only at f1 f2
  try simp (disch:=omega) only[↓qxn,↓qxc,↓qxa]
  try rw[p_rem_nn (by omega) (by omega)]
  try simp (disch:=omega) only[↓qxn,↓qxc,↓qxa]
  refine qz λec ca=>?_;clear ca d0
  try simp (disch:=omega) only[↓qxn,↓qxc,↓qxa]
  have I:=FSt.spr V ap (hO.ls bz);refine iM (λls h'=>ls=[]/\∃L,SpR w v l h' z X L) ?_ ?_
  case refine_2=>
   intro jj N;obtain⟨id,cx,ax,ei,hid,bI⟩ : ∃id cx,X = .slice (some ⟨id,0,tag 4⟩) m.length cx/\h.length<=id/\g[id]?=some (.o (.cells (m.flatMap enc5) 4 true))/\(cx=0∨cx=m.length+1):=by
    rcases hO with⟨_,e⟩|h
    ·rw[e]at ar;simp at ar
    ·exact h
   have B:=aw hid;have Q:(bo (m.map stS)).length<=100:=by have:=d.st.tot;unfold bo;omega
   have S:q.2.2.length<=100:=by have:=d.st.lenP a5;show((q.1,q.2.2):Stc).2.length<=100;omega
   have dB:∀j,blk q.2.1=some j->j<h.length:=λj f=>(d.pc.1 q (qab T)).blk f |>.2
   cases ec with
   |false=>
    simp (disch:=omega) only[↓qxn,↓qxc,↓qxa];refine qz λci a7=>?_;clear a7;cases ci with
    |false=>
     refine p_x ?_;exact N _ _ ⟨rfl,_,I⟩
    |true=>
     refine p_x ?_;obtain⟨i1,i2,i3⟩:=oI (cx:=cx) (o:=2) (k:=1) bz hid T rfl (by omega);rw[ax];refine ae i1 ?_;refine ae (x:=.pointer (some ⟨id,0+k*4+0,none⟩)) rfl ?_;refine ac (bC _ _) ?_;refine ae (x:=.pointer (some ⟨id,0+k*4+2,none⟩)) rfl ?_;refine ac (bC _ _) ?_;refine cN i3 rfl ?_;rw[show((enc5 q).drop 2).take 1=[.int .u8 (Int.ofNat q.1.2.2)]from rfl];refine p_x ?_;rw[p_add8 (by show(0:Int)<=(q.1.2.2:Int)+1;omega) (by show(q.1.2.2:Int)+1<=255;omega)];refine p_y ?_;rw[p_rem_nn (by show(0:Int)<=(q.1.2.2:Int)+1;omega) (by omega)];refine p_y ?_;refine ae i1 ?_;refine ae (x:=.pointer (some ⟨id,0+k*4+0,none⟩)) rfl ?_;refine ac (bC _ _) ?_;refine ae (x:=.pointer (some ⟨id,0+k*4+2,none⟩)) rfl ?_;refine ac (bC _ _) ?_;have ds:(Int.ofNat q.1.2.2+1)%4=Int.ofNat ((q.1.2.2+1)%4):=rfl;rw[ds];refine p_setptr (e:=4) bz hid T rfl (by simp) (a':=((q.1.1,q.1.2.1,(q.1.2.2+1)%4),q.2.1,q.2.2)) rfl ?_;have F:∀(j:Nat) o,j≠id->g[j]?=some o->(putE g id 4 enc5 (m.set k ((q.1.1,q.1.2.1,(q.1.2.2+1)%4),q.2.1,q.2.2)))[j]?=some o:=λj o O f=>by
      rw[cP O];exact f
     have a8:LsH (putE g id 4 enc5 (m.set k ((q.1.1,q.1.2.1,(q.1.2.2+1)%4),q.2.1,q.2.2))) X 4 enc5 (m.set k ((q.1.1,q.1.2.1,(q.1.2.2+1)%4),q.2.1,q.2.2)):=by
      have:OwnL 0 (putE g id 4 enc5 (m.set k ((q.1.1,q.1.2.1,(q.1.2.2+1)%4),q.2.1,q.2.2))) X 4 enc5 (m.set k ((q.1.1,q.1.2.1,(q.1.2.2+1)%4),q.2.1,q.2.2)):=.inr ⟨id,cx,by rw[qay];exact ax,qaC _,bF B,by rw[qay];exact bI⟩;exact this.ls bz
     have bX:∀s∈m,LsH (putE g id 4 enc5 (m.set k ((q.1.1,q.1.2.1,(q.1.2.2+1)%4),q.2.1,q.2.2))) s.2.1 1 encN s.2.2:=λs A=>((d.pc.1 s A).keep λj o f D=>F j o (by have:=(d.pc.1 s A).blk D;omega) (R.get f)).ls aG;have hX:=stl_all a8 λs A=>by
      rcases qbh A with A|rfl
      ·exact bX s A
      ·exact bX q (qab T)
     rw[qb4]at hX;refine N _ _ ⟨rfl,_,I.set ?_ a0 hX (qck _ (by omega)) ⟨rfl,rfl⟩ a6 (λc J=>J) (Nat.le_succ _) ⟨Q,S⟩⟩;exact d.cr.keep λj o f D=>F j o (by have:=d.cr.blkLt D;omega) (R.get f)
   |true=>
    simp (disch:=omega) only[↓qxn,↓qxc,↓qxa];subst ax;have be:(g++[HO.o (.cells [] 1 true)])[g.length]?=some (.o (.cells [] 1 true)):=ao;have ad:Pre g (g++[HO.o (.cells [] 1 true)]):=⟨_,rfl⟩;have el:(g++[HO.o (.cells [] 1 true)]).length=g.length+1:=by simp
    have hidA:=ad.get hid;generalize g++[HO.o (.cells [] 1 true)]=gA at *;have aE:=(dD.ls aG).pre ad;have b8:=aE.good;obtain⟨cd,cq,dC,eX,b7,eL⟩ : ∃id cx,q.2.1 = .slice (some ⟨id,0,tag 1⟩) q.2.2.length cx/\H.length<=id/\h[id]?=some (.o (.cells (q.2.2.flatMap encN) 1 true))/\(cx=0∨cx=q.2.2.length+1):=by
     rcases d.pc.1 q (qab T)with⟨_,e⟩|h
     ·exact absurd e a6
     ·exact h
    have cT:=aw b7;obtain⟨i1,i2,i3⟩:=oI (cx:=cx) (o:=3) (k:=1) bz hidA T rfl (by omega);refine ae i1 ?_;refine ae i2 ?_;refine ac (bC _ _) ?_;refine cN i3 rfl ?_;rw[show((enc5 q).drop 3).take 1=[q.2.1]from rfl];simp (disch:=omega) only[↓qxn,↓qxc,↓qxa];refine ac b8 ?_
    try simp (disch:=omega) only[↓qxn,↓qxc,↓qxa]
    refine OwnL.apL aG (OwnL.emp (n0:=g.length) be (qaj _)) (by omega) aE (by simp only[qbI];omega) (by simp only[qbI];omega) ?_;intro U gB hU gU kB e1 bU;rw[qaf]at hU;have bd:∀(j:Nat) o,gA[j]?=some o->j≠g.length->gB[j]?=some o:=λj o f O=>kB j o f (by simp[Sx.blk];omega);have W:∀j,blk U=some j->g.length<=j/\j<gB.length:=λj f=>hU.blk f;have ag:=bd _ _ hidA (by omega);have dA:=bd _ _ (ad.get (R.get b7)) (by omega);simp (disch:=omega) only[↓qxn,↓qxc,↓qxa];refine ac gU ?_
    try simp (disch:=omega) only[↓qxn,↓qxc,↓qxa]
    obtain⟨_,_,ea⟩:=oI (cx:=cx) (o:=3) (k:=1) bz ag T rfl (by omega);refine ae i1 ?_;refine ae i2 ?_;refine ac (bC _ _) ?_;refine cN ea rfl ?_;rw[show((enc5 q).drop 3).take 1=[q.2.1]from rfl];simp (disch:=omega) only[↓qxn,↓qxc,↓qxa];refine ac b8 ?_
    try simp (disch:=omega) only[↓qxn,↓qxc,↓qxa]
    obtain⟨n0,b0⟩:=aH (l:=q.2.2) (i:=0) (qbd.2 a6);obtain⟨j1,_,j3⟩:=oI (cx:=cq) (o:=0) (k:=1) aG dA b0 rfl (by omega);refine ae (x:=.pointer (some ⟨cd,0+0*1,none⟩)) (by rw[dC];exact j1) ?_;refine cN (p:=.pointer (some ⟨cd,0+0*1,none⟩)) j3 rfl ?_;rw[show((encN n0).drop 0).take 1=[.int .i64 (Int.ofNat n0)]from rfl];simp (disch:=omega) only[↓qxn,↓qxc,↓qxa];have bl:(gB++[HO.o (.cells [.int .i64 (Int.ofNat n0)] 1 true)])[gB.length]?=some (.o (.cells [.int .i64 (Int.ofNat n0)] 1 true)):=ao;have cf:Pre gB (gB++[HO.o (.cells [.int .i64 (Int.ofNat n0)] 1 true)]):=⟨_,rfl⟩;have cK:=hU.app [HO.o (.cells [.int .i64 (Int.ofNat n0)] 1 true)];have lC:(gB++[HO.o (.cells [.int .i64 (Int.ofNat n0)] 1 true)]).length=gB.length+1:=by simp
    generalize gB++[HO.o (.cells [.int .i64 (Int.ofNat n0)] 1 true)]=gC at *;refine OwnL.apL aG cK (by omega) (bT (L:=[n0]) aG bl rfl) (by simp only[qa0,qbI];omega) (by simp only[qa0,qbI];omega) ?_;intro U2 gD bs cn kD e4 en;have an:=kD _ _ (cf.get ag) λe=>by have:=(W _ e).1;omega
    simp (disch:=omega) only[↓qxn,↓qxc,↓qxa];refine ac cn ?_
    try simp (disch:=omega) only[↓qxn,↓qxc,↓qxa]
    refine sH bz an rfl T rfl (by simp) (a':=(q.1,U2,q.2.2++[n0])) rfl ?_;have P:∀i:Nat,blk (.slice (some ⟨g.length,0,some 11⟩) 0 1)=some i->i=g.length:=λi E=>by simpa[blk]using E.symm
    have C:∀i:Nat,blk (.slice (some ⟨gB.length,0,some 11⟩) 1 2)=some i->i=gB.length:=λi E=>by simpa[blk]using E.symm
    have bt:=ir (hU.ls aG);have d1:∀b o:Nat,b<g.length->Sx.disjN (Sx.adr (.slice (some ⟨g.length,0,some 11⟩) 0 1)) (Sx.adrK 0 (.pointer (some ⟨b,o,none⟩)))=true:=λb o D=>jq ⟨_,_,_,rfl⟩ λi E=>by have:=P i E;omega
    have d2:∀b o:Nat,b<g.length->Sx.disjN (Sx.adr U) (Sx.adrK 0 (.pointer (some ⟨b,o,none⟩)))=true:=λb o D=>jq bt λi E=>by have:=(W i E).1;omega
    have d3:∀b o:Nat,b<g.length->Sx.disjN (Sx.adr (.slice (some ⟨gB.length,0,some 11⟩) 1 2)) (Sx.adrK 0 (.pointer (some ⟨b,o,none⟩)))=true:=λb o D=>jq ⟨_,_,_,rfl⟩ λi E=>by have:=C i E;omega
    have d4:Sx.disjN (Sx.adr (.slice (some ⟨g.length,0,some 11⟩) 0 1)) (Sx.adrK 0 (.slice (some ⟨gB.length,0,some 11⟩) 1 2))=true:=lS ⟨_,_,_,rfl⟩ ⟨_,_,_,rfl⟩ λi E e=>by have:=P i E;have:=C i e;omega
    have d5:Sx.disjN (Sx.adr (.slice (some ⟨gB.length,0,some 11⟩) 1 2)) (Sx.adrK 0 (.slice (some ⟨g.length,0,some 11⟩) 0 1))=true:=lS ⟨_,_,_,rfl⟩ ⟨_,_,_,rfl⟩ λi E e=>by have:=C i E;have:=P i e;omega
    have d6:Sx.disjN (Sx.adr U) (Sx.adrK 0 (.slice (some ⟨gB.length,0,some 11⟩) 1 2))=true:=lS bt ⟨_,_,_,rfl⟩ λi E e=>by have:=(W i E).2;have:=C i e;omega
    have d7:Sx.disjN (Sx.adr (.slice (some ⟨gB.length,0,some 11⟩) 1 2)) (Sx.adrK 0 q.2.1)=true:=lS ⟨_,_,_,rfl⟩ (ir aE) λi E e=>by have:=C i E;have:=dB i e;omega
    refine ae (x:=()) (fq (d1 _ _ B) (fq (d1 _ _ B) (fq (d1 _ _ B) (fq (d2 _ _ B) (fq (d1 _ _ (by omega)) (fq (d1 _ _ (by omega)) (fq (d2 _ _ (by omega)) (fq d4 (fq (d3 _ _ B) (fq d4 (fq d6 (fq d5 (fq d7 jE))))))))))))) ?_;refine p_y ?_;have F:∀(j:Nat) o,j≠id->gD[j]?=some o->(putE gD id 4 enc5 (m.set k (q.1,U2,q.2.2++[n0])))[j]?=some o:=λj o O f=>by
     rw[cP O];exact f
    have bP:∀(j:Nat) o,h[j]?=some o->j≠id->(putE gD id 4 enc5 (m.set k (q.1,U2,q.2.2++[n0])))[j]?=some o:=λj o f O=>F j o O (kD _ _ (cf.get (bd _ _ (ad.get (R.get f)) (by have:=aw f;omega))) λe=>by have:=(W _ e).1;have:=aw f;omega);have a8:LsH (putE gD id 4 enc5 (m.set k (q.1,U2,q.2.2++[n0]))) (.slice (some ⟨id,0,tag 4⟩) m.length cx) 4 enc5 (m.set k (q.1,U2,q.2.2++[n0])):=by
     have:OwnL 0 (putE gD id 4 enc5 (m.set k (q.1,U2,q.2.2++[n0]))) (.slice (some ⟨id,0,tag 4⟩) m.length cx) 4 enc5 (m.set k (q.1,U2,q.2.2++[n0])):=.inr ⟨id,cx,by rw[qay],qaC _,bF (aw an),by rw[qay];exact bI⟩;exact this.ls bz
    have hX:=stl_all a8 λs A=>by
     rcases qbh A with A|rfl
     ·exact((d.pc.1 s A).keep λj o f D=>bP j o f (by have:=(d.pc.1 s A).blk D;omega)).ls aG
     ·exact(bs.keep λj o f D=>F j o (by have:=(bs.blk D).1;omega) f).ls aG
    rw[qb4]at hX;refine N _ _ ⟨rfl,_,I.set (d.cr.keep λj o f D=>bP j o f (by have:=d.cr.blkLt D;omega)) a0 hX f1 ⟨rfl,rfl⟩ (by simp[stS]) (λc J=>?_) (by simp[stS]) ⟨Q,S⟩⟩;have J:c∈q.2.2++[n0]:=J;rcases qaz.1 J with J|J
    ·exact J
    ·rw[qaq]at J;subst J;exact qab b0
  rintro ls h' ⟨rfl,L,u⟩;refine p_x ?_;obtain⟨e,h2,c2,ay,hE⟩:=stacksA_c V d.st.vk d.st.so (by omega) u Y;obtain⟨y2,e2,h4,c4,b5,ct,S2,eg,es⟩:=ofA_c V d.st.vk d.st.so (by omega) (u.pre ay) Y;obtain⟨y3,e3,h5,c5,dr,cy,S3,bn,cC⟩:=ofA_c V d.st.vk d.st.so (by omega) (u.pre (ay.trans b5)) Y;have ck:=ct.eq hs u.ok hE;have cl:=cy.eq hs u.ok hE;subst ck cl;have co:az X=true:=gX;obtain⟨n1,n2,n3,n4,n5,n6,v1,v2,v3,ge,c6,cS⟩:=at01_c u.cr.good co c5 cC bn;simp only[mvl,qag,qaf]at c2 c4 c6;refine ai c2 ?_;refine p_x ?_;refine ai c4 ?_;refine p_x ?_;refine ai c6 ?_;simp(disch:=omega)only[↓qXX]
  try rw[p_neq_f rfl]
  refine p_y ?_;have b6:=(ay.trans b5).trans dr;have cm:=sc (t:=Int.ofNat r'.1) (x:=r'.2.1) (y:=r'.2.2) ⟨qaG _,by
   show(r'.1:Int)<=255;rcases Y with h|h
   ·have:=h.1;omega
   ·have:=h.1;omega⟩
  by_cases he:e3=0
  case' pos=>rw[p_neq_f he]
  case' neg=>rw[p_neq_t he]
  all_goals
   simp(disch:=omega)only[↓qXX]
   try rw[p_neq_f (cS he)]
   try simp(disch:=omega)only[↓qXX]
   rcases hE with⟨b9,hE⟩|⟨bx,cs⟩
   ·rw[qd0 (vT b9 (by omega))]at cm;refine ah cm ?_;refine p_x ?_;obtain⟨eE,h6,c7,eB,bm⟩:=errorG_c V (u.cr.pre b6) (λc J=>(d.st.vk c J).1) (λc J=>(d.st.vk c J).k0) (by omega) b9 (by omega) (u.st.pre b6) u.len u.ok u.tot;have M:=stk_err hs u.ok hE bm;simp only[mvl,qag,qaf]at c7;refine ai c7 ?_;by_cases Z:eE=12
    ·rw[qd0 (.inl Z)]at M;clear bm
     repeat (first|simp(disch:=omega)only[↓qXX]|rw[p_eql_t Z]|rw[p_eql_t M]|refine ah iq ?_)
    by_cases a9:eE=13
    ·rw[qd0 (.inr a9)]at M
     repeat (first|simp(disch:=omega)only[↓qXX]|rw[p_eql_f Z]|rw[p_eql_t a9]|rw[p_eql_t M]|refine ah iq ?_)
    rw[qd1 (by omega)]at M
    repeat (first|simp(disch:=omega)only[↓qXX]|rw[p_eql_f Z]|rw[p_eql_f a9]|rw[p_eql_t M]|refine ah iq ?_)
   ·rw[bx,qd1 (by simp)]at cm;refine ah cm ?_;simp(disch:=omega)only[↓qXX]
    try rw[p_neq_t (by decide)]
    try simp(disch:=omega)only[↓qXX]
    try rw[p_eql_t cs]
    try simp(disch:=omega)only[↓qXX]
    try refine ah iq ?_
    try simp(disch:=omega)only[↓qXX])
 obtain⟨rs,h',h2,rfl⟩:=eb;exact⟨h',h2⟩
def kA(ls:TB)(h:HL)(c:bE h [.i .u8,.i .u8,.s [.i .u8,.i .u8,.i .u8],.s [.i .u8,.i .u8,.i .u8],.i .u8,.i .u8,.i .u8,.i .i64,.i .i64] ls):∃h',aB cc ab 5 ls (absH aa h) [.b true] (absH aa h'):=by
 obtain⟨w,ls,rfl,B,c⟩:=c.i;obtain⟨v,ls,rfl,A,c⟩:=c.i;obtain⟨s,ls,n,e,rfl,m,_,o,c⟩:=c.s;obtain⟨E,ls,D,d,rfl,f,_,g,c⟩:=c.s;obtain⟨a,ls,rfl,p,c⟩:=c.i;obtain⟨b,ls,rfl,q,c⟩:=c.i;obtain⟨t,ls,rfl,z,c⟩:=c.i;obtain⟨x,ls,rfl,_,c⟩:=c.i;obtain⟨y,ls,rfl,_,c⟩:=c.i;obtain rfl:=c.nil;obtain⟨l,u,_,r⟩:=ls_of (enc:=pL) (ok:=okT8) (λ_=>rfl) dec8 m o;obtain⟨C,k,_,j⟩:=ls_of (enc:=pL) (ok:=okT8) (λ_=>rfl) dec8 f g;exact pf (uZ B) (uZ A) u r k j (uZ p) (uZ q) (uZ z)
end Go.Am
namespace Go.Proofs.YtiimabnndpeioaaGreatDoor
open Go Go.Am Go.Am.Sx
open Go.ChangeShapes Go.WideShapes Go.ChangeAt Go.WideMaps Go.WideElems Go.RowKit
abbrev laidC:List (String×DataW Unit):= [("crimp/moves.turns",Rows.laid_crimp_moves_turns), ("crimp/cells.quarters",Rows.laid_crimp_cells_quarters)]
def name1 : Tryz.prog.globalNamed "crimp/moves.turns" = some 1:=by kernel_rfl
def name0 : Tryz.prog.globalNamed "crimp/cells.quarters" = some 0:=by kernel_rfl
def of_laid{W:World}(h:laidMetH Tryz.prog laidC W):∃_:Unit,∀(g:Nat) (vs:Tk),cc.G g=some vs->
  gBlk g<W.heap.size/\vs.all bg=true/\∃c e fr,W.heap[gBlk g]?=some (.cells c e fr)/\cF (λ_=>none) vs c (gOff g):=by
 rw[MakeChecks.laidMetH_plain _ _ _ (by kernel_rfl)]at h;obtain⟨d,h,_,_⟩:=h;refine⟨(),λg vs b=>?_⟩;have a:=gl_cell g vs b;unfold cc at b;simp only at b;split at b
 ·cases b;exact tW (by kernel_rfl) a (by kernel_rfl) (ql h "crimp/moves.turns" Rows.laid_crimp_moves_turns qaN 1 225 8 gl1 name1 (by kernel_rfl) (by kernel_rfl))
 ·cases b;exact tW (by kernel_rfl) a (by kernel_rfl) (ql h "crimp/cells.quarters" Rows.laid_crimp_cells_quarters (qav _ qaN) 0 179 8 gl0 name0 (by kernel_rfl) (by kernel_rfl))
 ·cases b
def own:ownKnob Tryz.prog.godebug=none:=by kernel_rfl
def door_met(os:Os)(args:Tj):laidMetH Tryz.prog laidC ((World.doorLaid Tryz.prog 400 os).forCall (λ_ _=>0) ⟨#[],args,[]⟩).memory:=
 laidMetH_of_parts3 (fuel:=8) (laidMet_of_run' 8 (by kernel_rfl) (by kernel_rfl)) (by kernel_rfl) (by kernel_rfl)
end Go.Proofs.YtiimabnndpeioaaGreatDoor
end

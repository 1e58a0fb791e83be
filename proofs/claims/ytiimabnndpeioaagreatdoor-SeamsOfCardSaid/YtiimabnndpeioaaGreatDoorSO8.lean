/-
  PART 8 OF THE PROOF (no conditions).
-/
import Derived.Test.YtiimabnndpeioaaGreatDoorSO7
import Derived.SevenTiedAt
import Derived.Test.YtiimabnndpeioaaGreatDoorCards
import Derived.Test.YtiimabnndpeioaaGreatDoorTie
set_option linter.unusedSectionVars false
set_option linter.unusedSimpArgs false
set_option linter.unusedVariables false
set_option linter.constructorNameAsVariable false
set_option linter.defProp false
noncomputable section
set_option maxRecDepth 100000
set_option maxHeartbeats 16000000
namespace Go.Am
open Sx Go.Proofs Go.Shelf Go.Lib Go.Sort
def xd:Cc 70 [.i 0] [.i 0]:=io (n:=20) rfl (by kernel_rfl) rfl (by kernel_rfl)
structure RdH(c:BC)(h:HL)(kv:Value)(m:Nat)(hg:Tz):Prop where
 mp:h[m]?=some (.o (.cells [te c.bm] 1 true))
 bl:h[c.bm]?=some (.o (.cells (bE c kv) 8 true))
 hl:LsH h c.hg 1 km ((List.range (4*c.w*c.v)).map hg)
def LH(c:BC)(m:Nat)(i:Nat):Bool:=Nat.beq i m||Nat.beq i c.bm||(match blk c.hg with
 |some j=>Nat.beq i j
 |none=>false)
def RD{c:BC}{m i:Nat}(h1:i≠m)(f:i≠c.bm)(g:blk c.hg≠some i):LH c m i=false:=by
 unfold LH;have e:∀a b:Nat,a≠b->Nat.beq a b=false:=λa b h=>by
  cases k:Nat.beq a b with
  |true=>exact absurd (AE k) h
  |false=>rfl
 rw[e _ _ h1,e _ _ f];cases l:blk c.hg with
 |none=>rfl
 |some j=>exact e _ _ λd=>g (by rw[l,d])
def RdH.ro{c:BC}{h:HL}{j:Value}{m:Nat}{hg:Tz}(b:RdH c h j m hg):(MR (LH c m) h)[m]?=some (.o (.cells [te c.bm] 1 false))/\(MR (LH c m) h)[c.bm]?=some (.o (.cells (bE c j) 8 false))/\LsH (MR (LH c m) h) c.hg 1 km ((List.range (4*c.w*c.v)).map hg):=by
 have e:∀a:Nat,Nat.beq a a=true:=λa=>Ea a;refine⟨vW b.mp (by unfold LH;rw[e];rfl),vW b.bl (by unfold LH;rw[e,Bool.or_true];rfl),?_⟩;obtain⟨f,g,l|⟨id,d,k,r,q,i,n,p⟩⟩:=b.hl
 ·exact⟨f,g,.inl l⟩
 ·refine⟨f,g,.inr ⟨id,d,k,r,false,i,vW n ?_,p⟩⟩;unfold LH;rw[i];show(_||Nat.beq id id)=true;rw[e,Bool.or_true]
def iB{h:HL}{b e:Nat}{cs:Tk}{a:Bool}(c:h[b]?=some (.o (.cells cs e a))):Ptr h (te b) cs:=⟨b,0,cs,e,a,rfl,c,Sx.cut_all rfl⟩
def s73_c{c:BC}{H:HL}{p:Value}{m:Nat}{hg:Tz}(h:H[m]?=some (.o (.cells [te c.bm] 1 false)))(g:H[c.bm]?=some (.o (.cells (bE c p) 8 false)))(e:LsH H c.hg 1 km ((List.range (4*c.w*c.v)).map hg)){a a':Nat}(b k:Int)(l:a<4*c.w*c.v)(f:a'<4*c.w*c.v) :
  aD cc ab 73 [.i (Int.ofNat a),.i b,.i (Int.ofNat a'),.i k,.v (te m)] (ka aa H) [.i (Ae (Int.ofNat (hg a)) (Int.ofNat (hg a')))] (ka aa H):=by
 have d:∀j,j<4*c.w*c.v->((List.range (4*c.w*c.v)).map hg)[j]?=some (hg j):=λj n=>by rw[AU,HX n];rfl
 exact xK x73 (kx (kx (kx (kx (rv (aY _) ub))))) (by
  unfold f73;simp only[xp];refine jw ?_;refine cQ (iB h) rfl ?_;refine jw ?_;refine ac (aY _) ?_;refine qs ?_;refine ah (x:=te c.bm) rfl (ac (aY _) ?_);refine iz (ds:=[c.hg]) (iB g) (by simp[bE]) rfl ?_;refine jw ?_;refine ac e.good ?_;refine qs ?_;refine aQ e rfl (d a l) ?_;rw[show km (hg a)=[.int .i64 (Int.ofNat (hg a))]from rfl];refine jw ?_;refine cQ (iB h) rfl ?_;refine jw ?_;refine ac (aY _) ?_;refine qs ?_;refine ah (x:=te c.bm) rfl (ac (aY _) ?_);refine iz (ds:=[c.hg]) (iB g) (by simp[bE]) rfl ?_;refine jw ?_;refine ac e.good ?_;refine qs ?_;refine aQ e rfl (d a' f) ?_;rw[show km (hg a')=[.int .i64 (Int.ofNat (hg a'))]from rfl];refine jw ?_;refine ai (Jg _ _) ?_;simp(disch:=omega)only[↓my];trivial)
def KO(a:Int):Cc 119 [.i a] [.b false]:=by
 refine q119 rfl ?_;unfold JD;simp only[xp];simp(disch:=omega)only[↓my]
def Sl(a b:Int):Cc 76 [.i a,.i b] [.i (Ae a b)]:=by
 refine q76 rfl ?_;unfold YB;simp only[xp]
 repeat (first|simp(disch:=omega)only[↓my]|refine ai (KO a) ?_|refine ai (KO b) ?_)
 unfold Ae;by_cases c:a<b
 ·simp(disch:=omega)only[↓my];simp[c]
 ·by_cases d:b<a
  ·simp(disch:=omega)only[↓my];simp[c,d]
  ·simp(disch:=omega)only[↓my];simp[c,d]
def s75_c{c:BC}{H:HL}{z:Value}{m:Nat}{hg:Tz}(q:H[m]?=some (.o (.cells [te c.bm] 1 false)))(p:H[c.bm]?=some (.o (.cells (bE c z) 8 false)))(g:LsH H c.hg 1 km ((List.range (4*c.w*c.v)).map hg)){a a':Nat}(s f b n:Int)(u:a<4*c.w*c.v)(h:a'<4*c.w*c.v) :
  ∃H',aD cc ab 75 [.i s,.i (Int.ofNat a),.i b,.i f,.i (Int.ofNat a'),.i n,.v (te m)] (ka aa H) [.i (Cy [Ae s f,Ae (Int.ofNat (hg a)) (Int.ofNat (hg a'))])] (ka aa H'):=by
 have d:∀j,j<4*c.w*c.v->((List.range (4*c.w*c.v)).map hg)[j]?=some (hg j):=λj y=>by rw[AU,HX y];rfl
 have k:=x75 (ls:=[.i s,.i (Int.ofNat a),.i b,.i f,.i (Int.ofNat a'),.i n,.v (te m)]) (K:=λr _=>r=[.i (Cy [Ae s f,Ae (Int.ofNat (hg a)) (Int.ofNat (hg a'))])]) (H:=H) (kx (kx (kx (kx (kx (kx (rv (aY _) ub))))))) (by
  unfold f75;simp only[xp];refine jw ?_;refine ai (Sl _ _) ?_;refine jw ?_;refine cQ (iB q) rfl ?_;refine jw ?_;refine ac (aY _) ?_;refine qs ?_;refine ah (x:=te c.bm) rfl (ac (aY _) ?_);refine iz (ds:=[c.hg]) (iB p) (by simp[bE]) rfl ?_;refine jw ?_;refine ac g.good ?_;refine qs ?_;refine aQ g rfl (d a u) ?_;rw[show km (hg a)=[.int .i64 (Int.ofNat (hg a))]from rfl];refine jw ?_;refine cQ (iB q) rfl ?_;refine jw ?_;refine ac (aY _) ?_;refine qs ?_;refine ah (x:=te c.bm) rfl (ac (aY _) ?_);refine iz (ds:=[c.hg]) (iB p) (by simp[bE]) rfl ?_;refine jw ?_;refine ac g.good ?_;refine qs ?_;refine aQ g rfl (d a' h) ?_;rw[show km (hg a')=[.int .i64 (Int.ofNat (hg a'))]from rfl];refine jw ?_;refine ai (Jg _ _) ?_;refine jw ?_;refine al (or_c (l:=[Ae s f,Ae (Int.ofNat (hg a)) (Int.ofNat (hg a'))]) (vK (e:=1) (enc:=E9) (λ_=>rfl) rfl) (by simp)) ?_;simp(disch:=omega)only[↓my])
 obtain⟨r,H',t,rfl⟩:=k;exact⟨H',t⟩
def Uk{H:HL}{f:Value}(a:aB f=true):aD cc ab 72 [.v (.slice none 0 0),.v f] (ka aa H) [] (ka aa H):=by
 have b:aD cc ab 144 [.v (.slice none 0 0),.i 0,.i 0,.v f] (ka aa H) [] (ka aa H):=by
  exact xK x144 (rv rfl (kx (kx (rv a ub)))) (by
   unfold Od;simp only[xp]
   repeat (first|simp(disch:=omega)only[↓my]|refine gD 2 ?_)
   trivial)
 have c:aD cc ab 117 [.v (.slice none 0 0),.i 0,.i 0,.i 0,.v f] (ka aa H) [] (ka aa H):=by
  exact xK x117 (rv rfl (kx (kx (kx (rv a ub))))) (by
   unfold N6;simp only[xp]
   repeat (first|simp(disch:=omega)only[↓my]|refine gD 2 ?_)
   refine al b ?_
   repeat (first|simp(disch:=omega)only[↓my])
   trivial)
 exact xK x72 (rv rfl (rv a ub)) (by
  unfold f72;simp only[xp];refine jw ?_;refine ah (x:=(0:Int)) rfl ?_;refine qs ?_;refine oF (by omega) (by omega) ?_;refine qs ?_;refine ai xd ?_;refine jw ?_;refine al c ?_;simp(disch:=omega)only[↓my];trivial)
def Uj{H:HL}{f:Value}(a:aB f=true):aD cc ab 74 [.v (.slice none 0 0),.v f] (ka aa H) [] (ka aa H):=by
 have b:aD cc ab 152 [.v (.slice none 0 0),.i 0,.i 0,.v f] (ka aa H) [] (ka aa H):=by
  exact xK x152 (rv rfl (kx (kx (rv a ub)))) (by
   unfold Oe;simp only[xp]
   repeat (first|simp(disch:=omega)only[↓my]|refine gD 2 ?_)
   trivial)
 have c:aD cc ab 118 [.v (.slice none 0 0),.i 0,.i 0,.i 0,.v f] (ka aa H) [] (ka aa H):=by
  exact xK x118 (rv rfl (kx (kx (kx (rv a ub))))) (by
   unfold N7;simp only[xp]
   repeat (first|simp(disch:=omega)only[↓my]|refine gD 2 ?_)
   refine al b ?_
   repeat (first|simp(disch:=omega)only[↓my])
   trivial)
 exact xK x74 (rv rfl (rv a ub)) (by
  unfold f74;simp only[xp];refine jw ?_;refine ah (x:=(0:Int)) rfl ?_;refine qs ?_;refine oF (by omega) (by omega) ?_;refine qs ?_;refine ai xd ?_;refine jw ?_;refine al c ?_;simp(disch:=omega)only[↓my];trivial)
def Ui{H:HL}{f:Value}(a:aB f=true):aD cc ab 27 [.v (.slice none 0 0),.v f] (ka aa H) [] (ka aa H):=by
 have b:aD cc ab 107 [.v (.slice none 0 0),.i 0,.i 0,.v f] (ka aa H) [] (ka aa H):=by
  exact xK x107 (rv rfl (kx (kx (rv a ub)))) (by
   unfold N5;simp only[xp]
   repeat (first|simp(disch:=omega)only[↓my]|refine gD 2 ?_)
   trivial)
 have c:aD cc ab 69 [.v (.slice none 0 0),.i 0,.i 0,.i 0,.v f] (ka aa H) [] (ka aa H):=by
  exact xK x69 (rv rfl (kx (kx (kx (rv a ub))))) (by
   unfold f69;simp only[xp]
   repeat (first|simp(disch:=omega)only[↓my]|refine gD 2 ?_)
   refine al b ?_
   repeat (first|simp(disch:=omega)only[↓my])
   trivial)
 exact xK x27 (rv rfl (rv a ub)) (by
  unfold f27;simp only[xp];refine jw ?_;refine ah (x:=(0:Int)) rfl ?_;refine qs ?_;refine oF (by omega) (by omega) ?_;refine qs ?_;refine ai xd ?_;refine jw ?_;refine al c ?_;simp(disch:=omega)only[↓my];trivial)
def Uh{H:HL}:aD cc ab 77 [.v (.slice none 0 0)] (ka aa H) [] (ka aa H):=by
 have a:aD cc ab 160 [.v (.slice none 0 0),.i 0,.i 0] (ka aa H) [] (ka aa H):=by
  exact xK x160 (rv rfl (kx (kx ub))) (by
   unfold Of;simp only[xp]
   repeat (first|simp(disch:=omega)only[↓my]|refine gD 2 ?_)
   trivial)
 have b:aD cc ab 120 [.v (.slice none 0 0),.i 0,.i 0,.i 0] (ka aa H) [] (ka aa H):=by
  exact xK x120 (rv rfl (kx (kx (kx ub)))) (by
   unfold N8;simp only[xp]
   repeat (first|simp(disch:=omega)only[↓my]|refine gD 2 ?_)
   refine al a ?_
   repeat (first|simp(disch:=omega)only[↓my])
   trivial)
 exact xK x77 (rv rfl ub) (by
  unfold f77;simp only[xp];refine jw ?_;refine ah (x:=(0:Int)) rfl ?_;refine qs ?_;refine oF (by omega) (by omega) ?_;refine qs ?_;refine ai xd ?_;refine jw ?_;refine al b ?_;simp(disch:=omega)only[↓my];trivial)
def mo{c e:Nat}{α:Type}{enc:α->Tk}{h:HL}{id cx:Nat}{l l':List α}(hid:h[id]?=some (.o (.cells (l.flatMap enc) e true)))(h1:c<=id)(a:cx=0∨cx=l.length+1)(b:l'.length=l.length):OwnL c (h.set id (.o (.cells (l'.flatMap enc) e true))) (.slice (some ⟨id,0,pu e⟩) l.length cx) e enc l':=
 .inr ⟨id,cx,by rw[b],h1,fc hid,by rw[b];exact a⟩
def PQ{c:BC}{h:HL}{V:Value}{m:Nat}{hg:Tz}(r:RdH c h V m hg){O:Nat}{v:Value}{l:List Pq}(U:OwnL O h v 2 gX l)(k:l=[]->v = .slice none 0 0)(G:0<4*c.w*c.v)(I:∀p∈l,p.1<4*c.w*c.v/\p.2<4*c.w*c.v)(T:l.length<=1000) :
  ∃(l':List Pq) (h':HL),aD cc ab 72 [.v v,.v (.func (.func 73) ⟨[]⟩ ⟨[te m]⟩)] (ka aa h) [] (ka aa h')/\l'.Perm l/\l'.Pairwise (λa b=>¬hg b.1<hg a.1)/\OwnL O h' v 2 gX l'/\(∀(j:Nat) o,h[j]?=some o->blk v≠some j->h'[j]?=some o)/\h'.length=h.length:=by
 rcases U with⟨rfl,rfl⟩|⟨id,cx,rfl,W,n,X⟩
 ·exact⟨[],h,Uk (show aB (.func (.func 73) ⟨[]⟩ ⟨[te m]⟩)=true from rfl),MP _,.nil,.inl ⟨rfl,rfl⟩,λj o t _=>t,rfl⟩
 have D:0<l.length:=qbe.2 λe=>by have:=k e;cases this
 obtain⟨J,P⟩ : ∃J:List (Fin (4*c.w*c.v)×Fin (4*c.w*c.v)),J.map (λx=>((x.1.val,x.2.val):Pq))=l:=jO λp K=>by
  exact⟨(⟨p.1,(I p K).1⟩,⟨p.2,(I p K).2⟩),rfl⟩
 subst P;obtain⟨Y,Z,r3⟩:=r.ro;have C:∀L:List (Fin (4*c.w*c.v)×Fin (4*c.w*c.v)),(L.map (λx=>((x.1.val,x.2.val):Pq))).flatMap gX=L.flatMap λx=>gX ((λx=>((x.1.val,x.2.val):Pq)) x):=λL=>by rw[UO]
 let _:Inhabited (Fin (4*c.w*c.v)×Fin (4*c.w*c.v)):=⟨(⟨0,G⟩,⟨0,G⟩)⟩
 have q:SWO (ltOf λx y:(Fin (4*c.w*c.v)×Fin (4*c.w*c.v))=>Ae (Int.ofNat (hg x.1.val)) (Int.ofNat (hg y.1.val))):=wq (R:=λx y=>hg x.1.val<hg y.1.val) (λx y=>cmpI_l.trans qcd) (λx h=>Nat.lt_irrefl _ h) (λx y z E F=>Nat.lt_trans E F) (λx y z E F=>by omega);rw[AZ]at D T;have d:=L2 layP (λw=>by kernel_rfl) (λw=>by kernel_rfl) (enc:=λx:(Fin (4*c.w*c.v)×Fin (4*c.w*c.v))=>gX ((λx=>((x.1.val,x.2.val):Pq)) x)) (e:=2) (λ_=>rfl) (λx u M=>by
  simp only[gX,qar,Px,or_false]at M;rcases M with rfl|rfl<;>rfl) q (g:=73) (λB w=>by kernel_rfl) (S:=LH c m) (H:=h) (caps:=[te m]) rfl (λx y=>by
  have Q:=s73_c Y Z r3 (Int.ofNat x.2.val) (Int.ofNat y.2.val) x.1.isLt y.1.isLt;refine⟨ka aa (MR (LH c m) h),?_⟩;rw[←qQ];exact fv (N:=CZ) C6 (Sg:=ab) (sg:=⟨[.agg [.i .i64,.i .i64],.agg [.i .i64,.i .i64],lv],[li]⟩) rfl Q (xs:=[.agg [.i .i64 (Int.ofNat x.1.val),.i .i64 (Int.ofNat x.2.val)],.agg [.i .i64 (Int.ofNat y.1.val),.i .i64 (Int.ofNat y.2.val)],.leaf (.v (te m))]) rfl rfl (ys:=[.leaf (.i .i64 (Ae (Int.ofNat (hg x.1.val)) (Int.ofNat (hg y.1.val))))]) rfl rfl) (id:=id) (cx:=cx) (J:=J) (by rw[←C];exact n) (RD (λe=>by
   subst e;have:=eS n;rw[eS r.mp]at this;cases this) (λe=>by
   subst e;have:=eS n;rw[eS r.bl]at this;cases this) (λe=>by
   have:=vB r.hl e;rw[eS n]at this;cases this)) D (by omega) rfl (by kernel_rfl)
 refine⟨(srt (λx y:(Fin (4*c.w*c.v)×Fin (4*c.w*c.v))=>Ae (Int.ofNat (hg x.1.val)) (Int.ofNat (hg y.1.val))) J).map (λx=>((x.1.val,x.2.val):Pq)),_,(by rw[AZ];exact d),(iQ q J).map _,?_,?_,λj o t s=>aV t λe=>s (by rw[e];rfl),by rw[Bc]⟩
 ·rw[qbj];refine(sO q J).imp λ{x y} f=>?_;unfold ltOf at f;rw[decide_eq_false_iff_not]at f;intro A;exact f (by exact(cmpI_l.trans qcd).2 A)
 ·have:=mo (l':=(srt (λx y:(Fin (4*c.w*c.v)×Fin (4*c.w*c.v))=>Ae (Int.ofNat (hg x.1.val)) (Int.ofNat (hg y.1.val))) J).map (λx=>((x.1.val,x.2.val):Pq))) n W X (by rw[AZ,AZ,(iQ q J).length_eq]);rw[C]at this;exact this
def or2_l{a b a' c:Nat}:Cy [Ae (Int.ofNat a) (Int.ofNat a'),Ae (Int.ofNat b) (Int.ofNat c)]<0↔a<a'∨(a=a'/\b<c):=by
 simp only[Cy,So];split<;>(try split)<;>(try split)<;>(try split)<;>(try split)<;>omega
def PP{c:BC}{h:HL}{W:Value}{m:Nat}{hg:Tz}(r:RdH c h W m hg){K:Nat}{v:Value}{l:List Lq}(V:OwnL K h v 3 gW l)(k:l=[]->v = .slice none 0 0)(G:0<4*c.w*c.v)(s:∀p∈l,p.1<2/\p.2.1<4*c.w*c.v/\p.2.2<4*c.w*c.v)(U:l.length<=1000) :
  ∃(l':List Lq) (h':HL),aD cc ab 74 [.v v,.v (.func (.func 75) ⟨[]⟩ ⟨[te m]⟩)] (ka aa h) [] (ka aa h')/\l'.Perm l/\l'.Pairwise (λa b=>¬(b.1<a.1∨(b.1=a.1/\hg b.2.1<hg a.2.1)))/\OwnL K h' v 3 gW l'/\(∀(j:Nat) o,h[j]?=some o->blk v≠some j->h'[j]?=some o)/\h'.length=h.length:=by
 rcases V with⟨rfl,rfl⟩|⟨id,cx,rfl,X,n,Y⟩
 ·exact⟨[],h,Uj (show aB (.func (.func 75) ⟨[]⟩ ⟨[te m]⟩)=true from rfl),MP _,.nil,.inl ⟨rfl,rfl⟩,λj o A _=>A,rfl⟩
 have F:0<l.length:=qbe.2 λe=>by have:=k e;cases this
 obtain⟨J,Q⟩ : ∃J:List (Fin 2×Fin (4*c.w*c.v)×Fin (4*c.w*c.v)),J.map (λx=>((x.1.val,x.2.1.val,x.2.2.val):Lq))=l:=jO λp C=>by
  exact⟨(⟨p.1,(s p C).1⟩,⟨p.2.1,(s p C).2.1⟩,⟨p.2.2,(s p C).2.2⟩),rfl⟩
 subst Q;obtain⟨Z,r2,r3⟩:=r.ro;have E:∀L:List (Fin 2×Fin (4*c.w*c.v)×Fin (4*c.w*c.v)),(L.map (λx=>((x.1.val,x.2.1.val,x.2.2.val):Lq))).flatMap gW=L.flatMap λx=>gW ((λx=>((x.1.val,x.2.1.val,x.2.2.val):Lq)) x):=λL=>by rw[UO]
 let _:Inhabited (Fin 2×Fin (4*c.w*c.v)×Fin (4*c.w*c.v)):=⟨(⟨0,by omega⟩,⟨0,G⟩,⟨0,G⟩)⟩
 have q:SWO (ltOf λx y:(Fin 2×Fin (4*c.w*c.v)×Fin (4*c.w*c.v))=>Cy [Ae (Int.ofNat x.1.val) (Int.ofNat y.1.val),Ae (Int.ofNat (hg x.2.1.val)) (Int.ofNat (hg y.2.1.val))]):=wq (R:=λx y=>x.1.val<y.1.val∨(x.1.val=y.1.val/\hg x.2.1.val<hg y.2.1.val)) (λx y=>or2_l) (λx h=>by omega) (λx y z O P=>by omega) (λx y z O P=>by omega);rw[AZ]at F U;have d:=L2 layO (λw=>by kernel_rfl) (λw=>by kernel_rfl) (enc:=λx:(Fin 2×Fin (4*c.w*c.v)×Fin (4*c.w*c.v))=>gW ((λx=>((x.1.val,x.2.1.val,x.2.2.val):Lq)) x)) (e:=3) (λ_=>rfl) (λx u I=>by
  simp only[gW,qar,Px,or_false]at I;rcases I with rfl|rfl|rfl<;>rfl) q (g:=75) (λD w=>by kernel_rfl) (S:=LH c m) (H:=h) (caps:=[te m]) rfl (λx y=>by
  obtain⟨M,T⟩:=s75_c Z r2 r3 (Int.ofNat x.1.val) (Int.ofNat y.1.val) (Int.ofNat x.2.2.val) (Int.ofNat y.2.2.val) x.2.1.isLt y.2.1.isLt;refine⟨ka aa M,?_⟩;rw[←qQ];exact fv (N:=CZ) C6 (Sg:=ab) (sg:=⟨[.agg [.i .u8,.i .i64,.i .i64],.agg [.i .u8,.i .i64,.i .i64],lv],[li]⟩) rfl T (xs:=[.agg [.i .u8 (Int.ofNat x.1.val),.i .i64 (Int.ofNat x.2.1.val),.i .i64 (Int.ofNat x.2.2.val)],.agg [.i .u8 (Int.ofNat y.1.val),.i .i64 (Int.ofNat y.2.1.val),.i .i64 (Int.ofNat y.2.2.val)],.leaf (.v (te m))]) rfl rfl (ys:=[.leaf (.i .i64 (Cy [Ae (Int.ofNat x.1.val) (Int.ofNat y.1.val),Ae (Int.ofNat (hg x.2.1.val)) (Int.ofNat (hg y.2.1.val))]))]) rfl rfl) (id:=id) (cx:=cx) (J:=J) (by rw[←E];exact n) (RD (λe=>by
   subst e;have:=eS n;rw[eS r.mp]at this;cases this) (λe=>by
   subst e;have:=eS n;rw[eS r.bl]at this;cases this) (λe=>by
   have:=vB r.hl e;rw[eS n]at this;cases this)) F (by omega) rfl (by kernel_rfl)
 refine⟨(srt (λx y:(Fin 2×Fin (4*c.w*c.v)×Fin (4*c.w*c.v))=>Cy [Ae (Int.ofNat x.1.val) (Int.ofNat y.1.val),Ae (Int.ofNat (hg x.2.1.val)) (Int.ofNat (hg y.2.1.val))]) J).map (λx=>((x.1.val,x.2.1.val,x.2.2.val):Lq)),_,(by rw[AZ];exact d),(iQ q J).map _,?_,?_,λj o A t=>aV A λe=>t (by rw[e];rfl),by rw[Bc]⟩
 ·rw[qbj];refine(sO q J).imp λ{x y} f=>?_;unfold ltOf at f;rw[decide_eq_false_iff_not]at f;intro B;exact f (by exact or2_l.2 B)
 ·have:=mo (l':=(srt (λx y:(Fin 2×Fin (4*c.w*c.v)×Fin (4*c.w*c.v))=>Cy [Ae (Int.ofNat x.1.val) (Int.ofNat y.1.val),Ae (Int.ofNat (hg x.2.1.val)) (Int.ofNat (hg y.2.1.val))]) J).map (λx=>((x.1.val,x.2.1.val,x.2.2.val):Lq))) n X Y (by rw[AZ,AZ,(iQ q J).length_eq]);rw[E]at this;exact this
def JX{l:Tx}:l.flatMap km=(l.map Int.ofNat).flatMap gV:=by
 rw[UO];rfl
def PN{h:HL}{t:Nat}{v:Value}{l:Tx}(z:OwnL t h v 1 km l)(d:l=[]->v = .slice none 0 0)(D:l.length<=1000) :
  ∃(l':Tx) (h':HL),aD cc ab 77 [.v v] (ka aa h) [] (ka aa h')/\l'.Perm l/\l'.Pairwise (λa b=>a<=b)/\OwnL t h' v 1 km l'/\(∀(j:Nat) o,h[j]?=some o->blk v≠some j->h'[j]?=some o)/\h'.length=h.length:=by
 rcases z with⟨rfl,rfl⟩|⟨id,cx,rfl,A,u,B⟩
 ·exact⟨[],h,Uh,MP _,.nil,.inl ⟨rfl,rfl⟩,λj o m _=>m,rfl⟩
 have x:0<l.length:=qbe.2 λe=>by have:=d e;cases this
 have c:(ka aa h)[id]?=some (.cells ((l.map Int.ofNat).flatMap gV) 1 true):=by
  rw[←JX];unfold ka;rw[AU,u];rfl
 have f:=uM (C:=cc) layI (λp w=>by kernel_rfl) (n:=l.length) (cx:=cx) c (by rw[AZ]) x (by omega);obtain⟨l',r,q⟩:=jr (uN (l.map Int.ofNat));have g:(ka aa h).set id (.cells ((ER (l.map Int.ofNat)).flatMap gV) 1 true)=ka aa (h.set id (.o (.cells (l'.flatMap km) 1 true))):=by
  rw[th,JX,q];rfl
 rw[g]at f;refine⟨l',_,⟨⟨[lv],[]⟩,[.leaf (.v (.slice (some ⟨id,0,pu 1⟩) l.length cx))],[],rfl,⟨rfl,rfl,λy i=>by
  simp only[qar,Px,or_false]at i;subst i;exact az (show aB (.slice (some ⟨id,0,pu 1⟩) l.length cx)=true by simp[aB,noLoc,aP,bg,aW,aG,aw,pu])⟩,⟨rfl,rfl,λy i=>by cases i⟩,⟨0,.inr ⟨.inl (by kernel_rfl),f⟩⟩⟩,r,?_,mo (l':=l') u A B r.length_eq,λj o m k=>aV m λe=>k (by rw[e];rfl),by rw[Bc]⟩
 have s:=Ie (l.map Int.ofNat);rw[←q,qbj]at s;exact s.imp λh=>qdy.1 h
end Go.Am
namespace Go.Am
open Sx Go.Proofs
def G5(a:Option Addr):Er a a=true:=by
 rcases a with _|⟨b,o,s⟩
 ·rfl
 ·unfold Er;simp only[Ea];rcases s with _|s
  ·rfl
  ·exact Ea s
def nN{v:Value}(h:∃a n c,v = .slice a n c):Sx.eqVl v v=some ():=by
 obtain⟨a,n,c,rfl⟩:=h;show(match Er a a,Nat.beq n n,Nat.beq c c with
  |true,true,true=>some ()
  |_,_,_=>none)=_
 rw[G5,Ea,Ea]
def G7(n:Int):Sx.eqNt n n=true:=by
 cases n with
 |ofNat n=>exact Ea n
 |negSucc n=>exact Ea n
def bA(n:Int):Sx.eqIn n n=some ():=by
 unfold Sx.eqIn;rw[G7]
def EQ{e id n o cx:Nat}:CR e (.slice (some ⟨id,o,pu e⟩) n cx) none (some (Int.ofNat n)) (some (Int.ofNat n))=some (.slice (some ⟨id,o,pu e⟩) n (n+1)):=by
 unfold CR;simp only;rw[po (by simp),mc (by simp[cV])];simp[fJ,bT]
def Xv{h:HL}{x:Value}{l:List Pq}(i:LsH h x 2 gX l)(d:l=[]->x = .slice none 0 0)(w:l.length<=1000) :
  ∃k p h',aD cc ab 79 [.v x] (ka aa h) [.v k] (ka aa h')/\(∀g:HL,aD cc ab 78 [.v k] (ka aa g) [.v p] (ka aa g))/\Pre h h'/\LsH h' p 2 gX l/\aB k=true/\∀b,blk p=some b->h.length<=b:=by
 by_cases q:l=[]
 ·subst q;obtain rfl:=d rfl;refine⟨.slice none 0 0,.slice none 0 0,h,?_,λg=>?_,.refl _,.nil _ _ _,rfl,λb f=>(by cases f)⟩
  ·exact xK x79 (rv rfl ub) (by
    unfold YD;simp only[xp]
    repeat (first|simp(disch:=omega)only[↓my]|refine ah (x:=true) rfl ?_)
    trivial)
  ·exact xK x78 (rv rfl ub) (by
    unfold YC;simp only[xp]
    repeat (first|simp(disch:=omega)only[↓my]|refine ah (x:=(0:Int)) rfl ?_|refine ah (x:=Value.slice none 0 0) rfl ?_|refine ac rfl ?_)
    trivial)
 ·have j:=qbe.2 q;have r:∃a n c,x = .slice (some a) n c:=by
   rcases i.2.2 with⟨_,y⟩|⟨id,s,u,z,t,rfl,_,_⟩
   ·omega
   ·exact⟨_,_,_,rfl⟩
  refine⟨.slice (some ⟨h.length+1,0,pu 2⟩) l.length 0,.slice (some ⟨h.length+1,0,pu 2⟩) l.length (l.length+1),h++[.o (.cells [] 2 true)]++[.o (.cells (l.flatMap gX) 2 true)],?_,λg=>?_,by rw[AN];exact⟨_,rfl⟩,?_,by simp[aB,noLoc,aP,bg,aW,aG,aw,pu],λb f=>by
   have:h.length+1=b:=by simpa[blk]using f
   omega⟩
  ·exact xK x79 (rv i.good ub) (by
    unfold YD;simp only[xp];refine jw ?_;obtain⟨a,n,c,rfl⟩:=r
    repeat (first|simp(disch:=omega)only[↓my]|refine ah (x:=false) rfl ?_|refine Gb (kb:=16) (h:=h++[.o (.cells [] 2 true)]) (m:=h.length) aA (i.pre ⟨_,rfl⟩) j (by omega) (by omega) ?_)
    refine ac (by simp[aB,noLoc,aP,bg,aW,aG,aw,pu]) ?_;refine⟨by simp,by simp⟩)
  ·exact xK x78 (rv (by simp[aB,noLoc,aP,bg,aW,aG,aw,pu]) ub) (by
    unfold YC;simp only[xp];refine jw ?_;refine ah (x:=Int.ofNat l.length) rfl ?_;refine ah (x:=Int.ofNat l.length) rfl ?_;refine ah EQ ?_;refine ac (by simp[aB,noLoc,aP,bg,aW,aG,aw,pu]) ?_;trivial)
  ·refine cp (enc:=gX) (e:=2) (λ_=>rfl) ?_ rfl;rw[show h.length+1=(h++[HO.o (.cells [] 2 true)]).length by simp];exact aA
def Xu{h:HL}{x:Value}{l:List Lq}(i:LsH h x 3 gW l)(d:l=[]->x = .slice none 0 0)(w:l.length<=1000) :
  ∃k p h',aD cc ab 81 [.v x] (ka aa h) [.v k] (ka aa h')/\(∀g:HL,aD cc ab 80 [.v k] (ka aa g) [.v p] (ka aa g))/\Pre h h'/\LsH h' p 3 gW l/\aB k=true/\∀b,blk p=some b->h.length<=b:=by
 by_cases q:l=[]
 ·subst q;obtain rfl:=d rfl;refine⟨.slice none 0 0,.slice none 0 0,h,?_,λg=>?_,.refl _,.nil _ _ _,rfl,λb f=>(by cases f)⟩
  ·exact xK x81 (rv rfl ub) (by
    unfold YF;simp only[xp]
    repeat (first|simp(disch:=omega)only[↓my]|refine ah (x:=true) rfl ?_)
    trivial)
  ·exact xK x80 (rv rfl ub) (by
    unfold YE;simp only[xp]
    repeat (first|simp(disch:=omega)only[↓my]|refine ah (x:=(0:Int)) rfl ?_|refine ah (x:=Value.slice none 0 0) rfl ?_|refine ac rfl ?_)
    trivial)
 ·have j:=qbe.2 q;have r:∃a n c,x = .slice (some a) n c:=by
   rcases i.2.2 with⟨_,y⟩|⟨id,s,u,z,t,rfl,_,_⟩
   ·omega
   ·exact⟨_,_,_,rfl⟩
  refine⟨.slice (some ⟨h.length+1,0,pu 3⟩) l.length 0,.slice (some ⟨h.length+1,0,pu 3⟩) l.length (l.length+1),h++[.o (.cells [] 3 true)]++[.o (.cells (l.flatMap gW) 3 true)],?_,λg=>?_,by rw[AN];exact⟨_,rfl⟩,?_,by simp[aB,noLoc,aP,bg,aW,aG,aw,pu],λb f=>by
   have:h.length+1=b:=by simpa[blk]using f
   omega⟩
  ·exact xK x81 (rv i.good ub) (by
    unfold YF;simp only[xp];refine jw ?_;obtain⟨a,n,c,rfl⟩:=r
    repeat (first|simp(disch:=omega)only[↓my]|refine ah (x:=false) rfl ?_|refine Gb (kb:=24) (h:=h++[.o (.cells [] 3 true)]) (m:=h.length) aA (i.pre ⟨_,rfl⟩) j (by omega) (by omega) ?_)
    refine ac (by simp[aB,noLoc,aP,bg,aW,aG,aw,pu]) ?_;refine⟨by simp,by simp⟩)
  ·exact xK x80 (rv (by simp[aB,noLoc,aP,bg,aW,aG,aw,pu]) ub) (by
    unfold YE;simp only[xp];refine jw ?_;refine ah (x:=Int.ofNat l.length) rfl ?_;refine ah (x:=Int.ofNat l.length) rfl ?_;refine ah EQ ?_;refine ac (by simp[aB,noLoc,aP,bg,aW,aG,aw,pu]) ?_;trivial)
  ·refine cp (enc:=gW) (e:=3) (λ_=>rfl) ?_ rfl;rw[show h.length+1=(h++[HO.o (.cells [] 3 true)]).length by simp];exact aA
def Xt{h:HL}{x:Value}{l:Tx}(i:LsH h x 1 km l)(d:l=[]->x = .slice none 0 0)(w:l.length<=1000) :
  ∃k p h',aD cc ab 83 [.v x] (ka aa h) [.v k] (ka aa h')/\(∀g:HL,aD cc ab 82 [.v k] (ka aa g) [.v p] (ka aa g))/\Pre h h'/\LsH h' p 1 km l/\aB k=true/\∀b,blk p=some b->h.length<=b:=by
 by_cases q:l=[]
 ·subst q;obtain rfl:=d rfl;refine⟨.slice none 0 0,.slice none 0 0,h,?_,λg=>?_,.refl _,.nil _ _ _,rfl,λb f=>(by cases f)⟩
  ·exact xK x83 (rv rfl ub) (by
    unfold YH;simp only[xp]
    repeat (first|simp(disch:=omega)only[↓my]|refine ah (x:=true) rfl ?_)
    trivial)
  ·exact xK x82 (rv rfl ub) (by
    unfold YG;simp only[xp]
    repeat (first|simp(disch:=omega)only[↓my]|refine ah (x:=(0:Int)) rfl ?_|refine ah (x:=Value.slice none 0 0) rfl ?_|refine ac rfl ?_)
    trivial)
 ·have j:=qbe.2 q;have r:∃a n c,x = .slice (some a) n c:=by
   rcases i.2.2 with⟨_,y⟩|⟨id,s,u,z,t,rfl,_,_⟩
   ·omega
   ·exact⟨_,_,_,rfl⟩
  refine⟨.slice (some ⟨h.length+1,0,pu 1⟩) l.length 0,.slice (some ⟨h.length+1,0,pu 1⟩) l.length (l.length+1),h++[.o (.cells [] 1 true)]++[.o (.cells (l.flatMap km) 1 true)],?_,λg=>?_,by rw[AN];exact⟨_,rfl⟩,?_,by simp[aB,noLoc,aP,bg,aW,aG,aw,pu],λb f=>by
   have:h.length+1=b:=by simpa[blk]using f
   omega⟩
  ·exact xK x83 (rv i.good ub) (by
    unfold YH;simp only[xp];refine jw ?_;obtain⟨a,n,c,rfl⟩:=r
    repeat (first|simp(disch:=omega)only[↓my]|refine ah (x:=false) rfl ?_|refine Gb (kb:=8) (h:=h++[.o (.cells [] 1 true)]) (m:=h.length) aA (i.pre ⟨_,rfl⟩) j (by omega) (by omega) ?_)
    refine ac (by simp[aB,noLoc,aP,bg,aW,aG,aw,pu]) ?_;refine⟨by simp,by simp⟩)
  ·exact xK x82 (rv (by simp[aB,noLoc,aP,bg,aW,aG,aw,pu]) ub) (by
    unfold YG;simp only[xp];refine jw ?_;refine ah (x:=Int.ofNat l.length) rfl ?_;refine ah (x:=Int.ofNat l.length) rfl ?_;refine ah EQ ?_;refine ac (by simp[aB,noLoc,aP,bg,aW,aG,aw,pu]) ?_;trivial)
  ·refine cp (enc:=km) (e:=1) (λ_=>rfl) ?_ rfl;rw[show h.length+1=(h++[HO.o (.cells [] 1 true)]).length by simp];exact aA
structure okE(N:Nat)(q:En):Prop where
 bd:bndE 1000 q
 np:q.ps=[]->q.vp = .slice none 0 0
 nl:q.ls=[]->q.vl = .slice none 0 0
 ne:q.es=[]->q.ve = .slice none 0 0
 ip:∀p∈q.ps,p.1<N/\p.2<N
 il:∀p∈q.ls,p.1<2/\p.2.1<N/\p.2.2<N
def zF{c:BC}{V h:HL}{U:Value}{Q:List En}{l:Ty}{G:TC}{r:Mv}{hg:Tz}(W:CtxB c V l G r hg)(f:Bld c V h U Q){i:Nat}{q:En}(hq:Q[i]?=some q)(a2:okE (4*c.w*c.v) q) :
  ∃(h':HL) (I J L:Value) (q':En),aD cc ab 31 [.v (te c.bm),.v (te q.id)] (ka aa h) (Ab q.a++Ab q.b++[.v I,.v J,.v L]) (ka aa h')/\Bld c V h' U (Q.set i q')/\
   q'.a=q.a/\q'.b=q.b/\q'.id=q.id/\q'.ps.Perm q.ps/\q'.ls.Perm q.ls/\q'.es.Perm q.es/\q'.ps.Pairwise (λa b=>¬hg b.1<hg a.1)/\q'.ls.Pairwise (λa b=>¬(b.1<a.1∨(b.1=a.1/\hg b.2.1<hg a.2.1)))/\q'.es.Pairwise (λa b=>a<=b)/\
   LsH h' I 2 gX q'.ps/\LsH h' J 3 gW q'.ls/\LsH h' L 1 km q'.es/\(∀b,blk I=some b∨blk J=some b∨blk L=some b->h.length<=b)/\(∀(j:Nat) o,h[j]?=some o->¬Co q j->h'[j]?=some o)/\h.length<=h'.length:=by
 have h3:=W.h3;have hs:=h3.sh;obtain⟨b1,b2,b3,b4⟩:=h3.n;have hN:=Bj hs;have ag:=Af hq;have M:=f.en q ag;obtain⟨ay,np,nl,ne,ip,il⟩:=a2;unfold bndE at ay;have a5:=x31 (ls:=[.v (te c.bm),.v (te q.id)]) (K:=λrs h'=>∃(I J L:Value) (q':En),rs=Ab q.a++Ab q.b++[.v I,.v J,.v L]/\Bld c V h' U (Q.set i q')/\
   q'.a=q.a/\q'.b=q.b/\q'.id=q.id/\q'.ps.Perm q.ps/\q'.ls.Perm q.ls/\q'.es.Perm q.es/\q'.ps.Pairwise (λa b=>¬hg b.1<hg a.1)/\q'.ls.Pairwise (λa b=>¬(b.1<a.1∨(b.1=a.1/\hg b.2.1<hg a.2.1)))/\q'.es.Pairwise (λa b=>a<=b)/\
   LsH h' I 2 gX q'.ps/\LsH h' J 3 gW q'.ls/\LsH h' L 1 km q'.es/\(∀b,blk I=some b∨blk J=some b∨blk L=some b->h.length<=b)/\(∀(j:Nat) o,h[j]?=some o->¬Co q j->h'[j]?=some o)/\h.length<=h'.length) (H:=h) (rv (aY _) (rv (aY _) ub)) (by
  unfold f31;simp only[xp];refine jw ?_;have Z:Pre h (h++[HO.o (.cells [te c.bm] 1 true)]):=⟨_,rfl⟩;have N:=f.grow Z;have X:(h++[HO.o (.cells [te c.bm] 1 true)])[h.length]?=some (HO.o (.cells [te c.bm] 1 true)):=aA;have a7:(h++[HO.o (.cells [te c.bm] 1 true)]).length=h.length+1:=by simp
  generalize h++[HO.o (.cells [te c.bm] 1 true)]=hA at *;have d:=N.en q ag;have ar:RdH c hA U h.length hg:=⟨X,N.bl,N.ls W W.hg (by decide)⟩;have a0:∀j,Co q j->c.n1<=j/\j<h.length:=λj p=>M.lt p;have a6:=f.bn;refine dW (ds:=[q.vp]) d.bl (by simp[aF,bw]) rfl ?_;refine jw ?_;refine ac (d.op.good eY) ?_;refine qs ?_;refine ac rfl ?_;refine qs ?_;obtain⟨k,hB,cB,pB,sB,oB,F,lB⟩:=PQ ar d.op np hN.1 ip (by omega);refine al cB ?_;refine jw ?_;have A:∀ {e:Nat} {α:Type} {ap:α->Tk} {l:List α} {v:Value} {g:HL} {b:Nat},OwnL c.n1 g v e ap l->(e≠9)->g[q.id]?=some (.o (.cells (aF q) 9 true))->blk v=some b->b≠q.id:=λho he hg f e=>by
   subst e;have:=cN ho f;rw[eS hg]at this;exact he (AD this).symm
  have C:hB[q.id]?=some (.o (.cells (aF q) 9 true)):=F _ _ d.bl λe=>A d.op (by decide) d.bl e rfl;have O:Bld c V hB U (Q.set i ⟨q.a,q.b,q.id,q.vp,q.vl,q.ve,k,q.ls,q.es⟩):=N.upd hq rfl rfl ⟨M.idn,C,oB,d.ol.keep λj o p f=>F j o p λe=>aI d.op d.ol (by decide) e f,d.oe.keep λj o p f=>F j o p λe=>aI d.op d.oe (by decide) e f⟩ (λb=>⟨.inl,.inl,.inl⟩) (λj o p s=>F j o p λe=>s (.inr (.inl e))) (by omega);have a1:hB[h.length]?=some (HO.o (.cells [te c.bm] 1 true)):=F _ _ X λe=>by have:=(a0 _ (.inr (.inl e))).2;omega
  have ad:(Q.set i ⟨q.a,q.b,q.id,q.vp,q.vl,q.ve,k,q.ls,q.es⟩)[i]?=some ⟨q.a,q.b,q.id,q.vp,q.vl,q.ve,k,q.ls,q.es⟩:=CQ (aq hq);have u:=O.en _ (Af ad);have ax:RdH c hB U h.length hg:=⟨a1,O.bl,O.ls W W.hg (by decide)⟩;refine dW (ds:=[q.vl]) C (by simp[aF,bw]) rfl ?_;refine jw ?_;refine ac (d.ol.good cE) ?_;refine qs ?_;refine ac rfl ?_;refine qs ?_;obtain⟨t,hC,cC,pC,sC,oC,kC,lC⟩:=PP ax u.ol nl hN.1 il (by show q.ls.length<=1000;omega);refine al cC ?_;refine jw ?_;have D:hC[q.id]?=some (.o (.cells (aF q) 9 true)):=kC _ _ C λe=>A u.ol (by decide) C e rfl;have S:=O.upd ad (q':=⟨q.a,q.b,q.id,q.vp,q.vl,q.ve,k,t,q.es⟩) rfl rfl ⟨M.idn,D,u.op.keep λj o p f=>kC j o p λe=>aI u.ol u.op (by decide) e f,oC,u.oe.keep λj o p f=>kC j o p λe=>aI u.ol u.oe (by decide) e f⟩ (λb=>⟨.inl,.inl,.inl⟩) (λj o p s=>kC j o p λe=>s (.inr (.inr (.inl e)))) (by omega);rw[qd0]at S;have af:(Q.set i ⟨q.a,q.b,q.id,q.vp,q.vl,q.ve,k,t,q.es⟩)[i]?=some ⟨q.a,q.b,q.id,q.vp,q.vl,q.ve,k,t,q.es⟩:=CQ (aq hq);have y:=S.en _ (Af af);refine dW (ds:=[q.ve]) D (by simp[aF,bw]) rfl ?_;refine jw ?_
  refine ac (d.oe.good aU) ?_;refine qs ?_;obtain⟨E,hD,cD,pD,sD,oD,kD,lD⟩:=PN y.oe ne (by show q.es.length<=1000;omega);refine al cD ?_;refine jw ?_;have m:hD[q.id]?=some (.o (.cells (aF q) 9 true)):=kD _ _ D λe=>A y.oe (by decide) D e rfl;have T:=S.upd af (q':=⟨q.a,q.b,q.id,q.vp,q.vl,q.ve,k,t,E⟩) rfl rfl ⟨M.idn,m,y.op.keep λj o p f=>kD j o p λe=>aI y.oe y.op (by decide) e f,y.ol.keep λj o p f=>kD j o p λe=>aI y.oe y.ol (by decide) e f,oD⟩ (λb=>⟨.inl,.inl,.inl⟩) (λj o p s=>kD j o p λe=>s (.inr (.inr (.inr e)))) (by omega);rw[qd0]at T;have a3:(Q.set i ⟨q.a,q.b,q.id,q.vp,q.vl,q.ve,k,t,E⟩)[i]?=some ⟨q.a,q.b,q.id,q.vp,q.vl,q.ve,k,t,E⟩:=CQ (aq hq);have R:=T.en _ (Af a3);have aE:∀(j:Nat) o,h[j]?=some o->¬Co q j->hD[j]?=some o:=λj o p s=>kD j o (kC j o (F j o (Z.get p) λe=>s (.inr (.inl e))) λe=>s (.inr (.inr (.inl e)))) λe=>s (.inr (.inr (.inr e)));have a8:hD.length=h.length+1:=by omega
  refine ah (x:=te q.id) rfl (ac (aY _) (ah (x:=.pointer (some ⟨q.id,0+0,none⟩)) rfl (ac (cM _ _) ?_)));refine cQ (ed (o:=0) (n:=3) m (by simp[aF,bw])) rfl ?_;rw[show((aF q).drop 0).take 3=[.int .i64 q.a.1,.int .i64 q.a.2.1,.int .u8 (Int.ofNat q.a.2.2)]from rfl];refine jw ?_;refine ah (x:=te q.id) rfl (ac (aY _) (ah (x:=.pointer (some ⟨q.id,0+3,none⟩)) rfl (ac (cM _ _) ?_)));refine cQ (ed (o:=3) (n:=3) m (by simp[aF,bw])) rfl ?_;rw[show((aF q).drop 3).take 3=[.int .i64 q.b.1,.int .i64 q.b.2.1,.int .u8 (Int.ofNat q.b.2.2)]from rfl];refine jw ?_;refine ah (x:=te q.id) rfl (ac (aY _) (ah (x:=.pointer (some ⟨q.id,0+6,none⟩)) rfl (ac (cM _ _) ?_)));refine cQ (ed (o:=6) (n:=1) m (by simp[aF,bw])) rfl ?_;rw[show((aF q).drop 6).take 1=[q.vp]from rfl];refine jw ?_;refine ac (d.op.good eY) ?_;refine qs ?_;obtain⟨u1,I,h1,c1,d1,p1,l1,g1,n1⟩:=Xv (R.op.ls eY) (λe=>np (by have:k=[]:=e;rw[this]at pB;exact pB.symm.eq_nil)) (by show k.length<=1000;rw[pB.length_eq];omega);refine al c1 ?_;refine jw ?_;refine al (d1 h1) ?_;refine jw ?_;have z:=p1.get m;refine ah (x:=te q.id) rfl (ac (aY _) (ah (x:=.pointer (some ⟨q.id,0+7,none⟩)) rfl (ac (cM _ _) ?_)))
  refine cQ (ed (o:=7) (n:=1) z (by simp[aF,bw])) rfl ?_;rw[show((aF q).drop 7).take 1=[q.vl]from rfl];refine jw ?_;refine ac (d.ol.good cE) ?_;refine qs ?_;obtain⟨u2,J,h2,c2,d2,p2,l2,g2,n2⟩:=Xu ((R.ol.ls cE).pre p1) (λe=>nl (by have:t=[]:=e;rw[this]at pC;exact pC.symm.eq_nil)) (by show t.length<=1000;rw[pC.length_eq];show q.ls.length<=1000;omega);refine al c2 ?_;refine jw ?_;refine al (d2 h2) ?_;refine jw ?_;have B:=p2.get z;refine ah (x:=te q.id) rfl (ac (aY _) (ah (x:=.pointer (some ⟨q.id,0+8,none⟩)) rfl (ac (cM _ _) ?_)));refine cQ (ed (o:=8) (n:=1) B (by simp[aF,bw])) rfl ?_;rw[show((aF q).drop 8).take 1=[q.ve]from rfl];refine jw ?_;refine ac (d.oe.good aU) ?_;refine qs ?_;obtain⟨u3,L,h4,c3,d3,p3,l3,g3,n3⟩:=Xt ((R.oe.ls aU).pre (p1.trans p2)) (λe=>ne (by have:E=[]:=e;rw[this]at pD;exact pD.symm.eq_nil)) (by show E.length<=1000;rw[pD.length_eq];show q.es.length<=1000;omega);refine al c3 ?_;refine jw ?_;refine al (d3 h4) ?_;refine jw ?_;have P:=p3.get B;have a4:=jP (d.ol.ls cE);have an:=jP (d.oe.ls aU);refine cQ (ed (o:=0) (n:=3) z (by simp[aF,bw])) rfl ?_
  rw[show((aF q).drop 0).take 3=[.int .i64 q.a.1,.int .i64 q.a.2.1,.int .u8 (Int.ofNat q.a.2.2)]from rfl];refine jw ?_;refine ah (bA _) ?_;refine ah (bA _) ?_;refine ah (bA _) ?_;refine qs ?_;refine cQ (ed (o:=3) (n:=3) z (by simp[aF,bw])) rfl ?_;rw[show((aF q).drop 3).take 3=[.int .i64 q.b.1,.int .i64 q.b.2.1,.int .u8 (Int.ofNat q.b.2.2)]from rfl];refine jw ?_;refine ah (bA _) ?_;refine ah (bA _) ?_;refine ah (bA _) ?_;refine qs ?_;refine cQ (ed (o:=7) (n:=1) m (by simp[aF,bw])) rfl ?_;rw[show((aF q).drop 7).take 1=[q.vl]from rfl];refine jw ?_;refine ac (d.ol.good cE) ?_;refine qs ?_;refine ah (nN a4) ?_;refine qs ?_;refine cQ (ed (o:=0) (n:=3) B (by simp[aF,bw])) rfl ?_;rw[show((aF q).drop 0).take 3=[.int .i64 q.a.1,.int .i64 q.a.2.1,.int .u8 (Int.ofNat q.a.2.2)]from rfl];refine jw ?_;refine ah (bA _) ?_;refine ah (bA _) ?_;refine ah (bA _) ?_;refine qs ?_;refine cQ (ed (o:=3) (n:=3) B (by simp[aF,bw])) rfl ?_;rw[show((aF q).drop 3).take 3=[.int .i64 q.b.1,.int .i64 q.b.2.1,.int .u8 (Int.ofNat q.b.2.2)]from rfl];refine jw ?_;refine ah (bA _) ?_;refine ah (bA _) ?_;refine ah (bA _) ?_;refine qs ?_;refine cQ (ed (o:=8) (n:=1) m (by simp[aF,bw])) rfl ?_
  rw[show((aF q).drop 8).take 1=[q.ve]from rfl];refine jw ?_;refine ac (d.oe.good aU) ?_;refine qs ?_;refine ah (nN an) ?_;refine qs ?_;refine cQ (ed (o:=8) (n:=1) z (by simp[aF,bw])) rfl ?_;rw[show((aF q).drop 8).take 1=[q.ve]from rfl];refine jw ?_;refine ac (d.oe.good aU) ?_;refine qs ?_;refine ah (nN an) ?_;refine qs ?_;refine cQ (ed (o:=0) (n:=3) P (by simp[aF,bw])) rfl ?_;rw[show((aF q).drop 0).take 3=[.int .i64 q.a.1,.int .i64 q.a.2.1,.int .u8 (Int.ofNat q.a.2.2)]from rfl];refine jw ?_;refine ah (bA _) ?_;refine ah (bA _) ?_;refine ah (bA _) ?_;refine qs ?_;refine cQ (ed (o:=3) (n:=3) P (by simp[aF,bw])) rfl ?_;rw[show((aF q).drop 3).take 3=[.int .i64 q.b.1,.int .i64 q.b.2.1,.int .u8 (Int.ofNat q.b.2.2)]from rfl];refine jw ?_;refine ah (bA _) ?_;refine ah (bA _) ?_;refine ah (bA _) ?_;refine qs ?_;have Y:=(p1.trans p2).trans p3;have:=p1.len;have:=p2.len;have:=p3.len;exact⟨I,J,L,⟨q.a,q.b,q.id,q.vp,q.vl,q.ve,k,t,E⟩,by first|rfl|trivial,T.grow Y,rfl,rfl,rfl,pB,pC,pD,sB,sC,sD,l1.pre (p2.trans p3),l2.pre p3,l3,λb f=>by
   rcases f with f|f|f
   ·have:=n1 b f;omega
   ·have:=n2 b f;omega
   ·have:=n3 b f;omega,λj o p s=>Y.get (aE j o p s),by omega⟩)
 obtain⟨rs,h',h2,I,J,L,q',rfl,h4⟩:=a5;exact⟨h',I,J,L,q',h2,h4⟩
end Go.Am
namespace Go.Am
open Sx Go.Proofs Go.Shelf Go.Lib Go.Sort
def D6(a b:K6):Prop:=AO a.1 b.1=true∨(a.1=b.1/\AO a.2 b.2=true)
def Ej(a b:K6):Int:=Cy [Bh a.1 b.1,Bh a.2 b.2]
def ij{a:Cl}:AO a a=false:=by
 rw[yN];omega
def wV{a b c:Cl}(h:AO a b=true)(h':AO b c=true):AO a c=true:=by
 rw[yO]at *;omega
def cmpC_0{a b:Cl}:Bh a b=0↔a=b:=by
 have d:=Je a b;have f:=tC a b;constructor
 ·intro h;by_cases e:a=b
  ·exact e
  ·cases c:AO a b with
   |true=>have:=d.2 c;omega
   |false=>have:=f.2 (nX c e);omega
 ·rintro rfl;have c:¬0<Bh a a:=λe=>by
   have:=d.1 e;rw[ij]at this;cases this
  have g:¬Bh a a<0:=λe=>by
   have:=f.1 e;rw[ij]at this;cases this
  omega
def Jf(a b:K6):Ej a b<0↔D6 b a:=by
 unfold Ej D6;have d:∀n:Int,Cy [n]=n:=λn=>by
  show(if n=0 then 0 else n)=n;split
  ·omega
  ·rfl
 show(if Bh a.1 b.1=0 then Cy [Bh a.2 b.2]else Bh a.1 b.1)<0↔_;rw[d];by_cases h:Bh a.1 b.1=0
 ·rw[mc h,tC];have c:=cmpC_0.1 h;rw[c,ij];simp
 ·rw[po h,tC];have c:¬b.1=a.1:=λe=>h (cmpC_0.2 e.symm);simp[c]
def Oq{a:K6}:¬D6 a a:=by
 unfold D6;rw[ij,ij];simp
def J6{a b c:K6}(h:D6 a b)(h':D6 b c):D6 a c:=by
 unfold D6 at *;rcases h with h|⟨h,k⟩<;>rcases h' with h'|⟨h',d⟩
 ·exact .inl (wV h h')
 ·exact .inl (h'▸h)
 ·exact .inl (h▸h')
 ·exact .inr ⟨h.trans h',wV k d⟩
def Fu{a b:K6}(h:¬D6 a b)(d:a≠b):D6 b a:=by
 unfold D6 at *;by_cases e:a.1=b.1
 ·refine .inr ⟨e.symm,nX ?_ λf=>d (DY e f)⟩;cases c:AO a.2 b.2 with
  |false=>rfl
  |true=>exact absurd (.inr ⟨e,c⟩) h
 ·refine .inl (nX ?_ e);cases c:AO a.1 b.1 with
  |false=>rfl
  |true=>exact absurd (.inl c) h
def EF(k:K6):Prop:=k.1.2.2<4/\k.2.2.2<4
def Ki{a b:K6}(d:EF a)(f:EF b):Cc 28 (Ab a.1++Ab a.2++Ab b.1++Ab b.2) [.i (Ej a b)]:=by
 refine q28 rfl ?_;unfold Yp;simp only[xp];have c:=jz d.1 f.1;have c2:=jz d.2 f.2;simp only[Ab,Aw,Ap]at c c2 ⊢;refine jw ?_;refine ai c ?_;refine jw ?_;refine ai c2 ?_;refine jw ?_;refine al (h':=[]++[HO.o (.cells [.int .i64 (Bh a.1 b.1),.int .i64 (Bh a.2 b.2)] 1 true)]) (or_c (l:=[Bh a.1 b.1,Bh a.2 b.2]) ?_ (by simp)) ?_
 ·exact vK (h:=[]) (e:=1) (enc:=E9) (l:=[Bh a.1 b.1,Bh a.2 b.2]) (λ_=>rfl) (by rfl)
 ·simp(disch:=omega)only[↓my];rfl
abbrev X6:={k:K6 // EF k}
def PO{h:HL}{F:Nat}{v:Value}{l:List K6}(Z:OwnL F h v 6 nJ l)(f:l=[]->v = .slice none 0 0)(V:∀k∈l,EF k)(X:l.length<=1000) :
  ∃(l':List K6) (h':HL),aD cc ab 27 [.v v,.v (.func (.func 28) ⟨[]⟩ ⟨[]⟩)] (ka aa h) [] (ka aa h')/\l'.Perm l/\l'.Pairwise (λa b=>¬D6 a b)/\OwnL F h' v 6 nJ l'/\(∀(j:Nat) o,h[j]?=some o->blk v≠some j->h'[j]?=some o)/\h'.length=h.length:=by
 rcases Z with⟨rfl,rfl⟩|⟨id,cx,rfl,q1,G,q3⟩
 ·exact⟨[],h,Ui (show aB (.func (.func 28) ⟨[]⟩ ⟨[]⟩)=true from rfl),MP _,.nil,.inl ⟨rfl,rfl⟩,λj o A _=>A,rfl⟩
 have E:0<l.length:=qbe.2 λe=>by have:=f e;cases this
 obtain⟨J,U⟩ : ∃J:List X6,J.map Subtype.val=l:=jO λp Y=>⟨⟨p,V p Y⟩,rfl⟩;subst U;have D:∀L:List X6,(L.map Subtype.val).flatMap nJ=L.flatMap λx=>nJ x.val:=λL=>by rw[UO]
 let _:Inhabited X6:=⟨⟨((0,0,0),(0,0,0)),by unfold EF;decide⟩⟩
 have n:SWO (ltOf λx y:X6=>Ej x.val y.val):=wq (R:=λx y=>D6 y.val x.val) (λx y=>Jf _ _) (λx h=>Oq h) (λx y z r m=>J6 m r) (λx y z r m s=>by
  by_cases e:x.val=y.val
  ·rw[e]at s;exact m s
  ·exact m (J6 s (Fu r λT=>e T.symm)))
 rw[AZ]at E X;have c:=L2 layK (λw=>by kernel_rfl) (λw=>by kernel_rfl) (enc:=λx:X6=>nJ x.val) (e:=6) (λ_=>rfl) (λx u q=>by
  obtain⟨⟨⟨I,K,M⟩,⟨O,P,Q⟩⟩,_⟩:=x;have q:u∈[Value.int .i64 I,.int .i64 K,.int .u8 (Int.ofNat M),.int .i64 O,.int .i64 P,.int .u8 (Int.ofNat Q)]:=q;simp only[qar,Px,or_false]at q;rcases q with rfl|rfl|rfl|rfl|rfl|rfl<;>rfl) n (g:=28) (λC w=>by kernel_rfl) (S:=λ_=>false) (H:=h) (caps:=[]) rfl (λx y=>by
  have W:=Ki x.2 y.2;refine⟨ka aa (MR (λ_=>false) h),?_⟩;rw[←qQ];exact fv (N:=CZ) C6 (Sg:=ab) (sg:=⟨[.agg [.i .i64,.i .i64,.i .u8,.i .i64,.i .i64,.i .u8],.agg [.i .i64,.i .i64,.i .u8,.i .i64,.i .i64,.i .u8]],[li]⟩) rfl (W (ka aa (MR (λ_=>false) h)))
   (xs:=[.agg [.i .i64 x.val.1.1,.i .i64 x.val.1.2.1,.i .u8 (Int.ofNat x.val.1.2.2),.i .i64 x.val.2.1,.i .i64 x.val.2.2.1,.i .u8 (Int.ofNat x.val.2.2.2)],.agg [.i .i64 y.val.1.1,.i .i64 y.val.1.2.1,.i .u8 (Int.ofNat y.val.1.2.2),.i .i64 y.val.2.1,.i .i64 y.val.2.2.1,.i .u8 (Int.ofNat y.val.2.2.2)]]) rfl rfl
   (ys:=[.leaf (.i .i64 (Ej x.val y.val))]) rfl rfl) (id:=id) (cx:=cx) (J:=J) (by rw[←D];exact G) rfl E (by omega) rfl (by kernel_rfl)
 refine⟨(srt (λx y:X6=>Ej x.val y.val) J).map Subtype.val,_,(by rw[AZ];exact c),(iQ n J).map _,?_,?_,λj o A t=>aV A λe=>t (by rw[e];rfl),by rw[Bc]⟩
 ·rw[qbj];refine(sO n J).imp λ{x y} d=>?_;unfold ltOf at d;rw[decide_eq_false_iff_not]at d;intro B;exact d ((Jf _ _).2 B)
 ·have:=mo (l':=(srt (λx y:X6=>Ej x.val y.val) J).map Subtype.val) G q1 q3 (by rw[AZ,AZ,(iQ n J).length_eq]);rw[D]at this;exact this
end Go.Am
namespace Go.Am
open Sx Go.Proofs
def nr{h:HL}{y f:Value}{l:Tx}{p:Tt}(q:LsH h y 1 km l)(E:l.length<=1000)(hg:aB f=true)(B:∀i∈l,sZ cc f [.int .i64 (Int.ofNat i)] [.leaf .b] (ka aa h) [.b (p i)] (ka aa h)):aD cc ab 49 [.v y,.v f] (ka aa h) [.b (l.any p)] (ka aa h):=by
 have C:∃n:Int,aD cc ab 95 [.v y,.v f] (ka aa h) [.i n] (ka aa h)/\(l.any p=true/\0<=n∨l.any p=false/\n<0):=by
  have u:=x95 (ls:=[.v y,.v f]) (K:=λz w=>w=h/\∃n:Int,z=[.i n]/\(l.any p=true/\0<=n∨l.any p=false/\n<0)) (H:=h) (rv q.good (rv hg ub)) (by
   unfold f95;simp only[xp];refine jw ?_;refine br q ?_;refine eo l.length (λj=>∀i,i<j->∀a,l[i]?=some a->p a=false) (j0:=0) rfl (AM _) (λi h=>by omega) ?_;intro j D x A g;refine jw ?_;by_cases d:j<l.length
   ·rw[aJ d];refine jw ?_;obtain⟨a,k⟩:=aL d;have m:=Af k;refine aQ q rfl k ?_;rw[show km a=[.int .i64 (Int.ofNat a)]from rfl];refine jw ?_;refine oE (B a m) ?_;refine jw ?_;cases o:p a with
    |true=>
     refine jw ?_;exact⟨by trivial,_,by first|rfl|trivial,.inl ⟨qcm.2 ⟨a,m,o⟩,Cb _⟩⟩
    |false=>
     refine jw ?_;rw[aS (by omega)];exact g d λi c b s=>by
      by_cases e:i=j
      ·subst e;rw[k]at s;cases s;exact o
      ·exact x i (by omega) b s
   ·obtain rfl:j=l.length:=by omega
    rw[aM (zY _)];refine jw ?_;refine⟨by trivial,-1,by first|rfl|trivial,.inr ⟨?_,by omega⟩⟩;rw[qdI];intro a k;obtain⟨i,c⟩:=Dd k;rw[x i (aq c) a c];simp)
  obtain⟨z,w,r,rfl,n,rfl,c2⟩:=u;exact⟨n,r,c2⟩
 obtain⟨n,r,c2⟩:=C;exact xK x49 (rv q.good (rv hg ub)) (by
  unfold f49;simp only[xp];refine jw ?_;refine al r ?_;refine jw ?_;rcases c2 with⟨e,t⟩|⟨e,t⟩
  ·rw[Ca t,e];simp(disch:=omega)only[↓my];trivial
  ·rw[AY t,e];simp(disch:=omega)only[↓my];trivial)
def KX(N:Nat)(L:List zR):Prop:=∀s∈L,s.1.2.2<4/\(-4096<=s.1.1/\s.1.1<=4096/\-4096<=s.1.2.1/\s.1.2.1<=4096)/\s.2≠[]/\(∀c∈s.2,c<N)/\s.2.length<=200
def Dy(L:List zR):Prop:=∀(i:Nat) a b,L[i]?=some a->L[i+1]?=some b->AO b.1 a.1=true
abbrev bV(L:List zR):Tx:=L.flatMap Prod.snd
def ChkR(N:Nat)(L:List zR)(e:Int):Prop:=(e=1/\¬Dy L)∨(Dy L/\((e=8/\¬(bV L).Nodup)∨((bV L).Nodup/\((e=6/\(bV L).length<N)∨(e=0/\N<=(bV L).length)))))
def ChkR.eq{N:Nat}{L:List zR}{e e':Int}(h:ChkR N L e)(h':ChkR N L e'):e=e':=by
 unfold ChkR at h h';rcases h with⟨rfl,a⟩|⟨a,⟨rfl,b⟩|⟨b,⟨rfl,c⟩|⟨rfl,c⟩⟩⟩<;>rcases h' with⟨rfl,d⟩|⟨d,⟨rfl,f⟩|⟨f,⟨rfl,g⟩|⟨rfl,g⟩⟩⟩
 all_goals first
  |rfl
  |exact absurd ‹Dy L› ‹¬Dy L›
  |exact absurd ‹(bV L).Nodup› ‹¬(bV L).Nodup›
  |omega
def lz(N:Nat)(S:Tx):Tv:=(List.range N).map λc=>decide (c∈S)
def oU{N c:Nat}{S:Tx}(h:c<N):(lz N S)[c]?=some (decide (c∈S)):=by
 unfold lz;rw[AU,HX h];rfl
def fm{N:Nat}{S:Tx}:(lz N S).length=N:=by simp[lz]
def H5{N c:Nat}{S:Tx}(h:c<N):(lz N S).set c true=lz N (S++[c]):=by
 refine Ga λi=>?_;by_cases a:i<N
 ·rw[DX,fm,oU a,oU a];by_cases e:c=i
  ·subst e;rw[mc rfl,mc h];simp
  ·rw[po e];have:i∈S++[c]↔i∈S:=by
    rw[qas,qav];exact⟨λh=>h.elim id λh=>absurd h.symm e,.inl⟩
   rw[decide_eq_decide.2 this]
 ·rw[Bd (by rw[Bc,fm];omega),Bd (by rw[fm];omega)]
def HH{S T:Tx}(h:¬S.Nodup):¬(S++T).Nodup:=λe=>h (qb0.1 e).1
def nU{L:List zR}{i:Nat}{a:zR}(h:L[i]?=some a):bV (L.take (i+1))=bV (L.take i)++a.2:=by
 unfold bV;rw[Dm,h,MK];simp
def yK{L:List zR}{i:Nat}:bV L=bV (L.take i)++bV (L.drop i):=by
 unfold bV;rw[←MK,Iu]
def nT{L:List zR}{i k:Nat}{a:zR}(h:L[i]?=some a):bV L=(bV (L.take i)++a.2.take k)++(a.2.drop k++bV (L.drop (i+1))):=by
 rw[yK (i:=i+1),nU h,AN,AN]
 congr 1
 rw[←AN,Iu]
def zH{w v:Nat}(h3:S3 w v){H:HL}{x:Value}{L:List zR}(hx:StL H x L)(hL:L.length<=200)(Q:KX (4*w*v) L)(a3:(bV L).length<=1000) :
  ∃e h',aD cc ab 48 [.v x,.i (.ofNat w),.i (.ofNat v)] (ka aa H) [.i e] (ka aa h')/\Pre H h'/\ChkR (4*w*v) L e:=by
 have hs:=h3.sh;obtain⟨b1,b2,b3,b4⟩:=h3.n;have hN:=Bj hs;obtain⟨M,hM,ag,hm⟩:=hx;have aE:Cj (Int.ofNat w) (Int.ofNat v):=wk (LW h3);have a0:=x48 (ls:=[.v x,.i (.ofNat w),.i (.ofNat v)]) (K:=λrs h'=>∃e,rs=[.i e]/\Pre H h'/\ChkR (4*w*v) L e) (H:=H) (rv hM.good (kx (kx ub))) (by
  unfold f48;simp only[xp];refine jw ?_;refine ai (lG aE) ?_;refine jw ?_;refine ai (Jh hs) ?_;refine jw ?_;refine zm (b:=H.length) aA rfl ?_;rw[eG];refine qs ?_;have N:(H++[HO.o (.cells [.int .i64 (Int.ofNat (4*w*v))] 1 true)])[H.length]?=some (HO.o (.cells [.int .i64 (Int.ofNat (4*w*v))] 1 true)):=aA;have s:Pre H (H++[HO.o (.cells [.int .i64 (Int.ofNat (4*w*v))] 1 true)]):=⟨_,rfl⟩;generalize a4:H++[HO.o (.cells [.int .i64 (Int.ofNat (4*w*v))] 1 true)]=h1 at *;have C:=hM.pre s;refine br C ?_;rw[ag];refine qs ?_;refine eo L.length (λi=>∀(j:Nat) a b,j+1<i->L[j]?=some a->L[j+1]?=some b->AO b.1 a.1=true) (j0:=0) rfl (AM _) (λj a b h=>by omega) ?_;intro i hi I ar g;refine jw ?_;by_cases A:i<L.length
  case pos=>
   rw[aJ A];refine jw ?_;obtain⟨⟨c,y⟩,hy⟩:=aL (l:=M) (i:=i) (by omega);obtain⟨m,d,t⟩:=hm i _ hy;simp only at d t;obtain⟨o1,U,o3,o4,o5⟩:=Q _ (Af d);simp only at o1 U o3 o4 o5;have T:=t.good;have R:=t.pre s;refine aQ C rfl hy ?_;rw[show Ao (c,y)=[.int .i64 c.1,.int .i64 c.2.1,.int .u8 (Int.ofNat c.2.2),y]from rfl];refine jw ?_;refine ac T ?_;refine qs ?_;refine ac (show aB (.func (.func 93) ⟨[]⟩ ⟨[te H.length]⟩)=true from rfl) ?_;refine qs ?_;have k1:=nr (f:=.func (.func 93) ⟨[]⟩ ⟨[te H.length]⟩) (p:=λ_=>false) R (by omega) rfl λn hn=>nk (Xq N (o4 n hn)) rfl [.leaf (.i .i64 (Int.ofNat n)),.leaf (.v (te H.length))] rfl rfl rfl;rw[show m.any (λ_=>false)=false by rw[qdI];simp]at k1;refine al k1 ?_;refine jw ?_;have W:=wC (c:=c) ⟨U.1,U.2.1,U.2.2.1,U.2.2.2,o1⟩;simp only[Ab]at W;refine ai W ?_;refine jw ?_;have Z:m.length≠0:=λe=>o3 (qa5.1 e);by_cases h0:0<i
   ·rw[Ad (show(0:Int)<Int.ofNat i by show(0:Int)<(i:Int);omega)];refine jw ?_;rw[gf (by omega) (by omega)];refine qs ?_;obtain⟨⟨V,y'⟩,an⟩:=aL (l:=M) (i:=i - 1) (by omega);obtain⟨a6,u,_⟩:=hm (i - 1) _ an;simp only at u;obtain⟨a1,a7,_⟩:=Q _ (Af u);refine bB (cs:=[.int .i64 V.1,.int .i64 V.2.1,.int .u8 (Int.ofNat V.2.2)]) C rfl an rfl (by omega) ?_;refine jw ?_;have c1:=jz (a:=V) (b:=c) a1 o1;simp only[Ab,Aw,Ap]at c1;refine ai c1 ?_;refine jw ?_;by_cases hg:Bh V c<0
    ·rw[AY hg];refine jw ?_;refine br R ?_;rw[zO (show ¬Int.ofNat m.length=0 from λe=>Z (Dn e))];refine jw ?_;rw[aS (by omega)];refine g A λj a b hj J D=>?_;by_cases e:j+1<i
     ·exact I j a b e J D
     ·obtain rfl:j=i - 1:=by omega
      rw[u]at J;rw[show i - 1+1=i by omega,d]at D;cases J;cases D;exact(tC _ _).1 hg
    ·rw[Ca (by omega)];refine jw ?_;refine⟨1,rfl,s,.inl ⟨rfl,λhA=>hg ((tC _ _).2 (hA (i - 1) _ _ u (by rw[show i - 1+1=i by omega];exact d)))⟩⟩
   ·obtain rfl:i=0:=by omega
    rw[zU (show Int.ofNat 0<=0 from HZ _)];refine jw ?_;refine br R ?_;rw[zO (show ¬Int.ofNat m.length=0 from λe=>Z (Dn e))];refine jw ?_;rw[aS (by omega)];exact g A λj a b hj=>by omega
  obtain rfl:i=L.length:=by omega
  rw[aM (zY _)];refine jw ?_;clear g;have r:Dy L:=λj a b J D=>I j a b (by have:=aq D;omega) J D;refine cQ (dK N) rfl ?_;refine jw ?_;refine ah (eE (by omega)) ?_;refine jw ?_;rw[show(Int.ofNat (4*w*v)).toNat=4*w*v from rfl];have z1:HO.o (.cells (bk [.bool false] (4*w*v)) 1 true)=HO.o (.cells ((lz (4*w*v) []).flatMap zX) 1 true):=by
   have:lz (4*w*v) []=List.replicate (4*w*v) false:=by
    rw[List.eq_replicate_iff];refine⟨fm,λx hx=>?_⟩;obtain⟨i,_,rfl⟩:=qaz.1 hx;exact BV (by simp)
   rw[this,←dc (enc:=zX) (z:=false) (n:=4*w*v)];rfl
  rw[z1];have X:∀S:List Bool,LsH (h1++[HO.o (.cells (S.flatMap zX) 1 true)]) x 4 Ao M:=λS=>C.pre ⟨_,rfl⟩;have af:∀S:List Bool,S.length=4*w*v->LsH (h1++[HO.o (.cells (S.flatMap zX) 1 true)]) (.slice (some ⟨h1.length,0,pu 1⟩) (4*w*v) (4*w*v+1)) 1 zX S:=λS h=>cp ez aA h.symm;have ax:∀S:List Bool,(h1++[HO.o (.cells (S.flatMap zX) 1 true)])[H.length]?=some (HO.o (.cells [.int .i64 (Int.ofNat (4*w*v))] 1 true)):=λS=>Pre.get ⟨_,rfl⟩ N;refine br (X (lz (4*w*v) [])) ?_;rw[ag];refine qs ?_;refine aR (σ:=Unit) L.length (λj _=>[.i (Int.ofNat (bV (L.take j)).length),.i (Int.ofNat j)]) (λj _=>h1++[HO.o (.cells ((lz (4*w*v) (bV (L.take j))).flatMap zX) 1 true)]) (λj _=>(bV (L.take j)).Nodup) (j0:=0) (s0:=()) rfl rfl (AM _) (by simp) ?_;intro i _ hi F ar g;refine jw ?_;by_cases A:i<L.length
  case neg=>
   obtain rfl:i=L.length:=by omega
   rw[aM (zY _)];refine jw ?_;refine cQ (dK (ax _)) rfl ?_;refine jw ?_;rw[Ly]at F ⊢;by_cases Y:(bV L).length<4*w*v
   ·rw[aJ Y];refine jw ?_;exact⟨6,rfl,s.app _,.inr ⟨r,.inr ⟨F,.inl ⟨rfl,Y⟩⟩⟩⟩
   ·rw[aM (by omega)];refine jw ?_;exact⟨0,rfl,s.app _,.inr ⟨r,.inr ⟨F,.inr ⟨rfl,by omega⟩⟩⟩⟩
  rw[aJ A];refine jw ?_;obtain⟨⟨c,y⟩,hy⟩:=aL (l:=M) (i:=i) (by omega);obtain⟨m,d,t⟩:=hm i _ hy;simp only at d t;obtain⟨o1,U,o3,o4,o5⟩:=Q _ (Af d);simp only at o1 U o3 o4 o5;have T:=t.good;have ap:∀S:List Bool,LsH (h1++[HO.o (.cells (S.flatMap zX) 1 true)]) y 1 km m:=λS=>(t.pre s).pre ⟨_,rfl⟩;have ay:∀k,(bV (L.take i)++m.take k).length<=1000:=λk=>by
   have:=congrArg List.length (nT (k:=k) d);simp only[A5]at this ⊢;omega
  refine aQ (X _) rfl hy ?_;rw[show Ao (c,y)=[.int .i64 c.1,.int .i64 c.2.1,.int .u8 (Int.ofNat c.2.2),y]from rfl];refine jw ?_;refine ac T ?_;refine qs ?_;refine br (ap (lz (4*w*v) (bV (L.take i)))) ?_;refine qs ?_;refine aR (σ:=Unit) m.length (λk _=>[.i (Int.ofNat (bV (L.take i)++m.take k).length),.i (Int.ofNat k)]) (λk _=>h1++[HO.o (.cells ((lz (4*w*v) (bV (L.take i)++m.take k)).flatMap zX) 1 true)]) (λk _=>(bV (L.take i)++m.take k).Nodup) (j0:=0) (s0:=()) (by simp) (by simp) (AM _) (by simpa using F) ?_;intro k _ hk B a2 G;have a5:=ay k;refine jw ?_;by_cases O:k<m.length
  case neg=>
   obtain rfl:k=m.length:=by omega
   rw[aM (zY _)];refine jw ?_;rw[aS (by omega)];rw[Ly]at B ⊢;have:=g () A (by rw[nU d];exact B);rw[nU d]at this;exact this
  rw[aJ O];refine jw ?_;obtain⟨n,hn⟩:=aL O;have P:=o4 n (Af hn);have q:m.take (k+1)=m.take k++[n]:=by rw[Dm,hn];rfl
  refine aQ (ap _) rfl hn ?_;rw[show km n=[.int .i64 (Int.ofNat n)]from rfl];refine jw ?_;refine aQ (af _ fm) rfl (oU P) ?_;rw[show ∀b:Bool,zX b=[.bool b]from λ_=>rfl];refine jw ?_;by_cases E:n∈bV (L.take i)++m.take k
  ·rw[Bp E];refine jw ?_;refine⟨8,rfl,s.app _,.inr ⟨r,.inl ⟨rfl,?_⟩⟩⟩;rw[nT (k:=k+1) d];refine HH ?_;rw[show((c,m):zR).2=m from rfl,q,←AN];intro hd;exact(qb0.1 hd).2.2 n E n (by simp) rfl
  ·rw[BV E];refine jw ?_;refine dd (enc:=zX) (l:=lz (4*w*v) (bV (L.take i)++m.take k)) (i:=n) (a:=true) ez aA rfl (by rw[fm];exact P) fm rfl ?_;rw[H5 P];unfold td;rw[eG];refine qs ?_;rw[aS (by omega)];refine qs ?_;rw[aS (by omega)];have ad:(Int.ofNat (bV (L.take i)++m.take k).length)+1=Int.ofNat (bV (L.take i)++m.take (k+1)).length:=by
    rw[q,←AN,A5 (bs:=[n])];rfl
   rw[ad];have:=G () O (by
    rw[q,←AN,qb0];refine⟨B,by simp,λa J b D e=>?_⟩;rw[qav]at D;subst D e;exact E J)
   rw[q,←AN]at this;rw[q,←AN];exact this)
 obtain⟨rs,h',h2,e,rfl,h4,h5⟩:=a0;exact⟨e,h',h2,h4,h5⟩
def zi(a:Nat->Cl)(L:List zR):Prop:=∀s∈L,∀c∈s.2,a c=s.1
def uV{w v:Nat}(f:S3 w v){l:Ty}{G:TC}(a:ConsO w v l G){r:Mv}{k:Int}(d:Av k r)(n:k<=4000):allV w G r (4*w*v):=λc b=>by
 have m:=rO f a d b;have e:=dm (a.ok c b) d;obtain⟨_,g,h,i,j,_⟩:=e;constructor
 ·unfold Im;exact Bp (by omega)
 ·unfold D4;exact Bp (by omega)
def Eb(w v:Nat)(l:Ty)(r:Mv)(L:List zR)(e:Int):Prop:=
 (e=11/\¬ ∃G,nc w v l G/\G 0=AG)∨∃G,ConsO w v l G/\((e≠0/\ChkR (4*w*v) L e)∨(ChkR (4*w*v) L 0/\((e=6/\¬zi (λc=>am (ae (G c) r) (sd w c)) L)∨(e=0/\zi (λc=>am (ae (G c) r) (sd w c)) L))))
def pI{w v:Nat}(h3:S3 w v){l:Ty}{H:HL}{V x:Value}(a3:(l.map bD).Nodup)(hl:LsH H V 3 zz l)(aE:aD cc ab 99 [.i (.ofNat w),.i (.ofNat v),.v V] (ka aa H) [.i 0] (ka aa H))(I:l.length<=1000){r:Mv}{k:Int}(hr:Av k r)(hk:k<=4000){L:List zR}(hx:StL H x L)(hL:L.length<=200)(R:KX (4*w*v) L)(a0:∀s∈L,-4000<=s.1.1/\s.1.1<=4000/\-4000<=s.1.2.1/\s.1.2.1<=4000)(af:(bV L).length<=1000) :
  ∃e h',aD cc ab 16 ([.i (.ofNat w),.i (.ofNat v),.v V]++Al r++[.v x]) (ka aa H) [.i e] (ka aa h')/\Pre H h'/\Eb w v l r L e:=by
 have hs:=h3.sh;obtain⟨b1,b2,b3,b4⟩:=h3.n;have hN:=Bj hs;obtain⟨M,hM,P,hm⟩:=hx;obtain⟨a9,q,c1,t,hB⟩:=Ed hs a3 I hl aE (r:=r) (aN hr (by omega));have a5:=x16 (ls:=[.i (.ofNat w),.i (.ofNat v),.v V,.i (Int.ofNat r.1),.i r.2.1,.i r.2.2,.v x]) (K:=λrs h'=>∃e:Int,rs=[.i e]/\Pre H h'/\Eb w v l r L e) (H:=H) (kx (kx (rv hl.good (kx (kx (kx (rv hM.good ub))))))) (by
  unfold Yl;simp only[xp];refine jw ?_;simp only[Al,Aw,Ap]at c1;rcases hB with⟨rfl,Q⟩|⟨G,hG,⟨rfl,Q⟩|⟨lx,ix,rfl,a7,a2,a1⟩⟩
  ·have hb:BothC [.i (.ofNat w),.i (.ofNat v),.v V,.i (Int.ofNat r.1),.i r.2.1,.i r.2.2] H jo jo 11 q:=⟨c1,t,rfl,rfl⟩;refine al (rM hl.good hb) ?_;refine jw ?_;refine zm (b:=q.length) aA rfl ?_;rw[eG];refine qs ?_;exact⟨11,rfl,t.app _,.inl ⟨rfl,Q⟩⟩
  ·exact absurd (uV h3 hG hr hk) Q
  have an:=a1.ls eX;have hb:BothC [.i (.ofNat w),.i (.ofNat v),.v V,.i (Int.ofNat r.1),.i r.2.1,.i r.2.2] H lx ix 0 q:=⟨c1,t,(a2.ls bR).good,an.good⟩;refine al (rM hl.good hb) ?_;refine jw ?_;refine zm (b:=q.length) aA rfl ?_;rw[eG];refine qs ?_;have ax:(q++[HO.o (.cells [ix] 1 true)])[q.length]?=some (HO.o (.cells [ix] 1 true)):=aA;have T:Pre q (q++[HO.o (.cells [ix] 1 true)]):=⟨_,rfl⟩;generalize q++[HO.o (.cells [ix] 1 true)]=h2 at *;obtain⟨e,h4,c4,U,z⟩:=zH h3 (StL.pre ⟨M,hM,P,hm⟩ (t.trans T)) hL R af;refine al c4 ?_;refine jw ?_;have B:=(t.trans T).trans U;by_cases N:e=0
  case neg=>
   rw[AR N];refine jw ?_;exact⟨e,rfl,B,.inr ⟨G,hG,.inl ⟨N,z⟩⟩⟩
  subst N;rw[Aj rfl];refine jw ?_;have J:=hM.pre B;have X:=U.get ax;have ap:=(an.pre T).pre U;refine br J ?_;rw[P];refine qs ?_;have a8:H.length<=q.length:=t.len;refine aR (σ:=HL) L.length (λj _=>[.i (Int.ofNat j)]) (λ_ s=>s) (λj s=>Pre h4 s/\∀(i:Nat) a,i<j->L[i]?=some a->∀c∈a.2,am (ae (G c) r) (sd w c)=a.1) (j0:=0) (s0:=h4) rfl rfl (AM _) ⟨.refl _,λc a h=>by omega⟩ ?_;rintro i h hi ⟨D,C⟩ ar d;refine jw ?_;by_cases A:i<L.length
  case pos=>
   rw[aJ A];refine jw ?_;obtain⟨⟨c,y⟩,hy⟩:=aL (l:=M) (i:=i) (by omega);obtain⟨ly,m,u⟩:=hm i _ hy;simp only at m u;obtain⟨o1,o2,o3,o4,o5⟩:=R _ (Af m);simp only at o1 o2 o3 o4 o5;have ag:=u.good;refine aQ (J.pre D) rfl hy ?_;rw[show Ao (c,y)=[.int .i64 c.1,.int .i64 c.2.1,.int .u8 (Int.ofNat c.2.2),y]from rfl];refine jw ?_;refine ac ag ?_;refine qs ?_;refine zm (b:=h.length) aA rfl ?_;rw[eG];refine qs ?_;have Y:(h++[HO.o (.cells [.int .i64 c.1,.int .i64 c.2.1,.int .u8 (Int.ofNat c.2.2),y] 4 true)])[h.length]?=some (HO.o (.cells [.int .i64 c.1,.int .i64 c.2.1,.int .u8 (Int.ofNat c.2.2),y] 4 true)):=aA;have a4:Pre h (h++[HO.o (.cells [.int .i64 c.1,.int .i64 c.2.1,.int .u8 (Int.ofNat c.2.2),y] 4 true)]):=⟨_,rfl⟩;generalize h++[HO.o (.cells [.int .i64 c.1,.int .i64 c.2.1,.int .u8 (Int.ofNat c.2.2),y] 4 true)]=h5 at *;have g:=D.trans a4;refine iz (ds:=[y]) (dK Y) (by simp) rfl ?_;refine jw ?_;refine ac ag ?_;refine qs ?_;refine ac (show aB (.func (.func 50) ⟨[]⟩ ⟨[te q.length,te h.length]⟩)=true from rfl) ?_;refine qs ?_
   have k1:=nr (f:=.func (.func 50) ⟨[]⟩ ⟨[te q.length,te h.length]⟩) (p:=λn=>!decide (am (ae (G n) r) (sd w n)=c)) (u.pre (B.trans g)) (by omega) rfl λn I=>nk (st1_c (g.get X) Y (ap.pre g) (rL (o4 n I))) rfl [.leaf (.i .i64 (Int.ofNat n)),.leaf (.v (te q.length)),.leaf (.v (te h.length))] rfl rfl rfl;refine al k1 ?_;refine jw ?_;cases F:ly.any (λn=>!decide (am (ae (G n) r) (sd w n)=c))with
   |true=>
    refine jw ?_;refine⟨6,rfl,B.trans g,.inr ⟨G,hG,.inr ⟨z,.inl ⟨rfl,λC=>?_⟩⟩⟩⟩;obtain⟨n,I,ad⟩:=qcm.1 F;have:=C _ (Af m) n I;simp only at this;rw[Bp this]at ad;cases ad
   |false=>
    refine jw ?_;rw[aS (by omega)];exact d h5 A ⟨g,λj a hj ha n I=>by
     by_cases e:j=i
     ·subst e;rw[m]at ha;cases ha;have:=qdI.1 F n I;simpa using this
     ·exact C j a (by omega) ha n I⟩
  obtain rfl:i=L.length:=by omega
  rw[aM (zY _)];refine jw ?_;clear d;have S:zi (λc=>am (ae (G c) r) (sd w c)) L:=λs hs c hc=>by
   obtain⟨i,hi⟩:=Dd hs;exact C i s (aq hi) hi c hc
  have W:=J.pre D;refine br W ?_;rw[P];refine qs ?_;refine eo L.length (λ_=>True) (j0:=0) rfl (AM _) trivial ?_;intro i hi _ ar d;refine jw ?_;by_cases A:i<L.length
  case neg=>
   obtain rfl:i=L.length:=by omega
   rw[aM (zY _)];refine jw ?_;exact⟨0,rfl,B.trans D,.inr ⟨G,hG,.inr ⟨z,.inr ⟨rfl,S⟩⟩⟩⟩
  rw[aJ A];refine jw ?_;obtain⟨⟨c,y⟩,hy⟩:=aL (l:=M) (i:=i) (by omega);obtain⟨ly,m,u⟩:=hm i _ hy;simp only at m u;have Z:=Af m;obtain⟨o1,o2,o3,o4,o5⟩:=R _ Z;have ay:=a0 _ Z;simp only at o1 o2 o3 o4 o5 ay;refine aQ W rfl hy ?_;rw[show Ao (c,y)=[.int .i64 c.1,.int .i64 c.2.1,.int .u8 (Int.ofNat c.2.2),y]from rfl];refine jw ?_;refine ac u.good ?_;refine qs ?_;refine eo 3 (λ_=>True) (j0:=0) rfl (AM _) trivial ?_;intro k hk _ a6 E;refine jw ?_;by_cases O:k<3
  case neg=>
   obtain rfl:k=3:=by omega
   rw[zQ (show(3:Int)<=Int.ofNat 3 from HZ _)];refine jw ?_;rw[aS (by omega)];exact d A trivial
  rw[zV (show Int.ofNat k<3 by show(k:Int)<3;omega)];refine jw ?_;have c5:=Z1 (c:=c) (e:=k) o1 O o2;have hq:=zf (c:=c) (e:=k) o1 O;rw[mc (show D4 (AB c k)=true by unfold D4;exact Bp (by omega))]at c5;simp only[Ab,Aw,Ap]at c5;refine ai c5 ?_;refine jw ?_;rw[Dc (by show(0:Int)<=(k:Int)+1;omega) (by show(k:Int)+1<=255;omega)];exact E O trivial)
 obtain⟨rs,h',h2,e,rfl,h4,h5⟩:=a5;exact⟨e,h',h2,h4,h5⟩
def Bn(id e:Nat):List (Nat×Nat):=(List.range id).flatMap (λi=>(List.range 3).map λk=>(i,k))++(List.range e).map λk=>(id,k)
def vU{id e:Nat}:Bn id (e+1)=Bn id e++[(id,e)]:=by
 unfold Bn;rw[show List.range (e+1)=List.range e++[e]from UQ,Cw,AN];rfl
def xU{id:Nat}:Bn (id+1) 0=Bn id 3:=by
 unfold Bn;rw[show List.range (id+1)=List.range id++[id]from UQ,MK];simp
def Pr{id e:Nat}{p:Nat×Nat}(c:e<=3):p∈Bn id e->p.1<=id/\p.2<3/\(e=0->p.1<id):=by
 unfold Bn;rw[qas];rintro(h|h)
 ·obtain⟨i,b,h⟩:=qa1.1 h;obtain⟨k,a,rfl⟩:=qaz.1 h;have:=qad.1 b;have:=qad.1 a;exact⟨by show i<=id;omega,by assumption,λ_=>by show i<id;omega⟩
 ·obtain⟨k,a,rfl⟩:=qaz.1 h;have:=qad.1 a;exact⟨zY _,by show k<3;omega,λh=>by omega⟩
def BI(w v:Nat)(l:Ty)(P:TC)(hg:Tz)(E:List (Nat×Nat)):List Sm:=E.foldl (λQ p=>ir w v l P hg Q p.1 p.2) []
def LZ{w v:Nat}{l:Ty}{P:TC}{hg:Tz}{id e:Nat}:BI w v l P hg (Bn id (e+1))=ir w v l P hg (BI w v l P hg (Bn id e)) id e:=by
 unfold BI;rw[vU,qcM];rfl
def D7(N:Nat)(s:Sm):Prop:=(∀p∈s.ps,p.1<N/\p.2<N)/\(∀p∈s.ls,p.1<2/\p.2.1<N/\p.2.2<N)/\EF s.k
theorem PG{w:Nat}{P:TC}{k:K6}{id:Nat}:Bk w P k id<2:=by
 unfold Bk;split<;>omega
def OA{x y:Cl}(a:x.2.2<4)(b:y.2.2<4):EF (AX x y):=by
 unfold AX;split
 ·exact⟨b,a⟩
 ·exact⟨a,b⟩
def KE{w v:Nat}(y:Sh w v){l:Ty}{P:TC}{hg:Tz}{Q:List Sm}{id e:Nat}(hid:id<4*w*v)(u:e<3)(r:∀s∈Q,D7 (4*w*v) s):∀s∈ir w v l P hg Q id e,D7 (4*w*v) s:=by
 intro s m;obtain⟨t,c,rfl⟩:=qaz.1 m;have h:D7 (4*w*v) t:=by
  unfold fR at c;split at c
  ·exact r t c
  ·rcases qas.1 c with c|c
   ·exact r t c
   ·rw[qav]at c;subst c;exact⟨λp hp=>(by cases hp),λp hp=>(by cases hp),OA gI gI⟩
 split
 case isFalse=>exact h
 have g:=@PG w P t.k id;have o:∀(L:List Pq) (a:Pq),(∀p∈L,p.1<4*w*v/\p.2<4*w*v)->a.1<4*w*v/\a.2<4*w*v->∀p∈L++[a],p.1<4*w*v/\p.2<4*w*v:=λL a i j p hp=>by
  rcases qas.1 hp with hp|hp
  ·exact i p hp
  ·rw[qav]at hp;subst hp;exact j
 have q:∀(L:List Lq) (a:Lq),(∀p∈L,p.1<2/\p.2.1<4*w*v/\p.2.2<4*w*v)->a.1<2/\a.2.1<4*w*v/\a.2.2<4*w*v->∀p∈L++[a],p.1<2/\p.2.1<4*w*v/\p.2.2<4*w*v:=λL a i j p hp=>by
  rcases qas.1 hp with hp|hp
  ·exact i p hp
  ·rw[qav]at hp;subst hp;exact j
 obtain⟨d,f,o3⟩:=h;unfold Ce;cases x:Aa w v id e with
 |none=>exact⟨d,f,o3⟩
 |some n=>
  have b:=(dI y hid u x).1;simp only
  repeat' split
  ·exact⟨d,f,o3⟩
  ·exact⟨o _ _ d ⟨hid,b⟩,f,o3⟩
  ·exact⟨o _ _ d ⟨b,hid⟩,f,o3⟩
  ·exact⟨d,q _ _ f ⟨g,hid,b⟩,o3⟩
  ·exact⟨d,q _ _ f ⟨g,b,hid⟩,o3⟩
def PK{w v:Nat}(f:Sh w v){l:Ty}{P:TC}{hg:Tz}{E:List (Nat×Nat)}(b:∀p∈E,p.1<4*w*v/\p.2<3):∀s∈BI w v l P hg E,D7 (4*w*v) s:=by
 unfold BI;have c:∀(E:List (Nat×Nat)) (Q:List Sm),(∀p∈E,p.1<4*w*v/\p.2<3)->(∀s∈Q,D7 (4*w*v) s)->∀s∈E.foldl (λQ p=>ir w v l P hg Q p.1 p.2) Q,D7 (4*w*v) s:=by
  intro E
  induction E with
  |nil=>intro Q _ d;exact d
  |cons a E g=>
   intro Q b d;exact g _ (λp e=>b p (Bo _ e)) (KE f (b a Ch).1 (b a Ch).2 d)
 exact c E [] b λs h=>by cases h
def Lp(s:zR):List (Nat×Nat):=s.2.zipIdx
def fC(A:Tx)(P:List (Nat×Nat)):Tx:=P.foldl (λA p=>A.set p.1 p.2) A
def qF{A:Tx}{P:List (Nat×Nat)}:(fC A P).length=A.length:=by
 unfold fC
 induction P generalizing A with
 |nil=>rfl
 |cons a P b=>rw[Is,b,Bc]
def lE{A:Tx}{P a:List (Nat×Nat)}:fC A (P++a)=fC (fC A P) a:=qcM
def zB{A:Tx}{P:List (Nat×Nat)}{n:Nat}(h:n∉P.map Prod.fst):(fC A P)[n]?=A[n]?:=by
 unfold fC
 induction P generalizing A with
 |nil=>rfl
 |cons a P b=>
  rw[AL,qar,not_or]at h;rw[Is,b h.2,BL (λe=>h.1 e.symm)]
def H9{A:Tx}{P:List (Nat×Nat)}{n i:Nat}(b:(P.map Prod.fst).Nodup)(d:(n,i)∈P)(c:n<A.length):(fC A P)[n]?=some i:=by
 induction P generalizing A with
 |nil=>cases d
 |cons a P e=>
  rw[AL,qbU]at b;show(fC (A.set a.1 a.2) P)[n]?=some i;rcases qar.1 d with h|h
  ·subst h;rw[zB b.1,CQ c]
  ·exact e b.2 h (by rw[Bc];exact c)
def Eu(N:Nat)(L:List zR):Tx:=fC (List.replicate N 0) (L.flatMap Lp)
def Cr(N:Nat)(L:List zR)(n:Nat):Nat:=(Eu N L).getD n 0
def Fw{N:Nat}{L:List zR}:Eu N L=(List.range N).map (Cr N L):=by
 have c:(Eu N L).length=N:=by unfold Eu;rw[qF,qcK]
 refine Ga λi=>?_;rw[AU];by_cases h:i<N
 ·rw[HX h];obtain⟨a,b⟩:=aL (l:=Eu N L) (i:=i) (by omega);rw[b];simp[Cr,List.getD_eq_getElem?_getD,b]
 ·rw[Bd (by omega),Bd (by rw[qc6];omega)];rfl
def S2{N:Nat}{L:List zR}(a:(bV L).Nodup){s:zR}(e:s∈L){i n:Nat}(c:s.2[i]?=some n)(d:n<N):Cr N L n=i:=by
 have b:(Eu N L)[n]?=some i:=by
  unfold Eu;refine H9 ?_ ?_ (by rw[qcK];exact d)
  ·have:(L.flatMap Lp).map Prod.fst=bV L:=by
    rw[List.map_flatMap]
    congr 1
    funext s
    unfold Lp;rw[List.zipIdx_map_fst]
   rw[this];exact a
  ·refine qa1.2 ⟨s,e,?_⟩;unfold Lp;exact List.mem_zipIdx_iff_getElem?.2 c
 unfold Cr;rw[List.getD_eq_getElem?_getD,b];rfl
abbrev S9:=K6×Value×Value×Value
def BZ(s:S9):Tk:=bw s.1.1++bw s.1.2++[s.2.1,s.2.2.1,s.2.2.2]
def wL(s:S9):(BZ s).length=9:=rfl
def SmH(h:HL)(m:S9)(s:Sm):Prop:=m.1=s.k/\LsH h m.2.1 2 gX s.ps/\LsH h m.2.2.1 3 gW s.ls/\LsH h m.2.2.2 1 km s.es
def SmH.keep{h h':HL}{m:S9}{s:Sm}(c:SmH h m s)(d:∀(j:Nat) o,h[j]?=some o->(blk m.2.1=some j∨blk m.2.2.1=some j∨blk m.2.2.2=some j)->h'[j]?=some o):SmH h' m s:=
 ⟨c.1,c.2.1.keep λj o b a=>d j o b (.inl a),c.2.2.1.keep λj o b a=>d j o b (.inr (.inl a)),c.2.2.2.keep λj o b a=>d j o b (.inr (.inr a))⟩
def SmL(h:HL)(x:Value)(S:List Sm):Prop:=∃M:List S9,Ful h x 9 BZ M/\M.length=S.length/\∀(i:Nat) m,M[i]?=some m->∃s,S[i]?=some s/\SmH h m s
def SmL.pre{h h':HL}{x:Value}{S:List Sm}(l:SmL h x S)(a:Pre h h'):SmL h' x S:=by
 obtain⟨M,b,c,d⟩:=l;refine⟨M,b.pre a,c,λi m k=>?_⟩;obtain⟨s,e,f⟩:=d i m k;exact⟨s,e,f.keep λj o g _=>a.get g⟩
structure OfR(hg:Tz)(Q S:List Sm):Prop where
 ks:(S.map (·.k)).Perm (Q.map (·.k))
 asc:(S.map (·.k)).Pairwise λa b=>D6 b a
 el:∀s∈S,∃q∈Q,q.k=s.k/\s.ps.Perm q.ps/\s.ls.Perm q.ls/\s.es.Perm q.es
 op:∀s∈S,s.ps.Pairwise λa b=>¬hg b.1<hg a.1
 ol:∀s∈S,s.ls.Pairwise λa b=>¬(b.1<a.1∨(b.1=a.1/\hg b.2.1<hg a.2.1))
 oe:∀s∈S,s.es.Pairwise λa b=>a<=b
def Bld.store{c:BC}{n h:HL}{p:Value}{Q:List En}(a:Bld c n h p Q){m:Nat}{o:HO}(z:c.n1<=m)(b:Dp h m=some 9)(hid:∀q∈Q,q.id≠m):Bld c n (h.set m o) p Q:=by
 have x:=a.bn;have y:=a.mn;refine⟨λj g r s t u=>aV (a.low j g r s t u) (by omega),aV a.bl (by omega),a.mp.elim λw f=>⟨w,f.1,f.2.keep _ λg v=>aV v (by omega)⟩,a.ky.keep λj g k d=>aV k λe=>?_,λq l=>(a.en q l).keep λj g k d=>aV k λe=>?_,a.ap,a.nd,a.bn,a.mn,a.ne,by rw[Bc];exact a.sz⟩
 ·have:=cN a.ky d;rw[←e,b]at this;cases this
 ·have i:=a.en q l;subst e;rcases d with e|e|e|e
  ·exact hid q l e.symm
  ·have:=cN i.op e;rw[b]at this;cases this
  ·have:=cN i.ol e;rw[b]at this;cases this
  ·have:=cN i.oe e;rw[b]at this;cases this
def Bld.srt{c:BC}{t h h':HL}{l:Value}{Q:List En}(b:Bld c t h l Q){l':List K6}(v:l'.Perm (Q.map wd))(p:OwnL c.n1 h' l 6 nJ l')(a:∀(j:Nat) o,h[j]?=some o->blk l≠some j->h'[j]?=some o)(A:h'.length=h.length):∃g,g.Perm Q/\g.map wd=l'/\Bld c t h' l g:=by
 obtain⟨g,m,r⟩:=jr v;have d:∀j,j<c.n1->blk l≠some j:=λj u e=>by
  have:=(b.ky.blk e).1;omega
 refine⟨g,m,r,λj o s w x y=>a j o (b.low j o s w x y) (d j s),a _ _ b.bl (d _ b.bn),b.mp.elim λB k=>⟨B,k.1.trans (m.symm.map _),k.2.keep _ λo p=>a _ _ p (d _ b.mn)⟩,by rw[r];exact p,λq z=>?_,(m.pairwise_iff λh=>h.symm).2 b.ap,by rw[r];exact v.nodup_iff.2 b.nd,b.bn,b.mn,b.ne,by have:=b.sz;omega⟩;have i:=b.en q (m.mem_iff.1 z);refine i.keep λj o u n=>a j o u λe=>?_;have f:=cN b.ky e;rcases n with rfl|e|e|e
 ·rw[eS i.bl]at f;cases f
 ·rw[cN i.op e]at f;cases f
 ·rw[cN i.ol e]at f;cases f
 ·rw[cN i.oe e]at f;cases f
def KD{w v:Nat}{l:Ty}{P:TC}{hg:Tz}{Q:List Sm}{id e:Nat}:ir w v l P hg Q id e≠[]:=by
 unfold ir;intro h;have h:=qcV.1 h;unfold fR at h;split at h
 next a=>
  rw[h]at a;cases a
 ·simp at h
theorem PJ{w v:Nat}{l:Ty}{P:TC}{hg:Tz}{N:Nat}(h:0<N):BI w v l P hg (Bn N 0)≠[]:=by
 obtain⟨n,rfl⟩ : ∃n,N=n+1:=⟨N - 1,by omega⟩;rw[xU,LZ];exact KD
def NI{a j o n c:Nat}{b:To}(h:a≠j):Sx.disjN (Sx.adr (.slice (some ⟨a,o,b⟩) n c)) (Sx.adrK 0 (.map (some j)))=true:=by
 have d:Sx.adr (.slice (some ⟨a,o,b⟩) n c)=[]∨Sx.adr (.slice (some ⟨a,o,b⟩) n c)=[a]:=by
  unfold Sx.adr;simp only;split
  ·exact .inl rfl
  ·exact .inr rfl
 rcases d with e|e<;>rw[e]
 ·rfl
 ·exact nD h
def zA{w v:Nat}(h3:S3 w v){l:Ty}{H:HL}{R x:Value}(N:Pat w v l)(dC:(l.map bD).Nodup)(hl:LsH H R 3 zz l){r:Mv}{k:Int}(hr:Av k r)(hk:k<=4000){L:List zR}(hx:StL H x L)(hL:L.length<=200)(eB:KX (4*w*v) L)(gd:∀s∈L,-4000<=s.1.1/\s.1.1<=4000/\-4000<=s.1.2.1/\s.1.2.1<=4000)(e5:(bV L).length<=1000) :
  ∃y e h',aD cc ab 7 ([.i (.ofNat w),.i (.ofNat v),.v R]++Al r++[.v x]) (ka aa H) [.v y,.i e] (ka aa h')/\Pre H h'/\Eb w v l r L e/\(e≠0->y=jo)/\
   (e=0->∃G S,ConsO w v l G/\SmL h' y S/\OfR (Cr (4*w*v) L) (BI w v l (λn=>ae (G n) r) (Cr (4*w*v) L) (Bn (4*w*v) 0)) S):=by
 have C:=h3.sh;obtain⟨b1,b2,b3,b4⟩:=h3.n;have hN:=Bj C;obtain⟨e,d,c1,bn,hR⟩:=pI h3 dC hl (N.check hl) N.len hr hk hx hL eB gd e5;have go:aB x=true:=by
  obtain⟨M,hM,_⟩:=hx;exact hM.good
 have g9:=x7 (ls:=[.i (.ofNat w),.i (.ofNat v),.v R,.i (Int.ofNat r.1),.i r.2.1,.i r.2.2,.v x]) (K:=λrs h'=>∃y,rs=[.v y,.i e]/\Pre H h'/\(e≠0->y=jo)/\
   (e=0->∃G S,ConsO w v l G/\SmL h' y S/\OfR (Cr (4*w*v) L) (BI w v l (λn=>ae (G n) r) (Cr (4*w*v) L) (Bn (4*w*v) 0)) S)) (H:=H) (kx (kx (rv hl.good (kx (kx (kx (rv go ub))))))) (by
  unfold f7;simp only[xp];refine jw ?_;simp only[Al,Aw,Ap]at c1;refine al c1 ?_;refine jw ?_;by_cases dr:e=0
  case neg=>
   rw[AR dr];refine jw ?_;exact⟨jo,rfl,bn,λ_=>rfl,λh=>absurd h dr⟩
  subst dr;rw[Aj rfl];refine jw ?_;rcases hR with⟨hC,_⟩|⟨G,hG,⟨h0,_⟩|⟨el,⟨h6,_⟩|⟨_,hF⟩⟩⟩
  ·omega
  ·exact absurd rfl h0
  ·omega
  have fn:(bV L).Nodup:=by
   rcases el with⟨h,_⟩|⟨_,⟨h,_⟩|⟨h,_⟩⟩
   ·omega
   ·omega
   ·exact h
  refine ai (Jh C) ?_;refine jw ?_;refine ah (eE (by omega)) ?_;refine jw ?_;rw[show(Int.ofNat (4*w*v)).toNat=4*w*v from rfl];refine ah (x:=()) (sL (NI (by simp)) lA) ?_;have z0:HO.o (.cells (bk [.int .i64 0] (4*w*v)) 1 true)=HO.o (.cells ((List.replicate (4*w*v) 0).flatMap km) 1 true):=by
   rw[←dc (enc:=km) (z:=0) (n:=4*w*v)];rfl
  rw[z0];obtain⟨Z,hZ⟩ : ∃Z,List.replicate (4*w*v) 0=Z:=⟨_,rfl⟩;have f5:Z.length=4*w*v:=by rw[←hZ,qcK]
  rw[hZ];have ag:∀B:HO,(d++[HO.o (.cells (Z.flatMap km) 1 true)]++[HO.o (.map [] 0)]++[B])[(d++[HO.o (.cells (Z.flatMap km) 1 true)]++[HO.o (.map [] 0)]).length]?=some B:=λB=>aA;have bI:∀B:HO,(d++[HO.o (.cells (Z.flatMap km) 1 true)]++[HO.o (.map [] 0)]++[B])[(d++[HO.o (.cells (Z.flatMap km) 1 true)]).length]?=some (HO.o (.map [] 0)):=λB=>ji aA;have bx:∀B:HO,(d++[HO.o (.cells (Z.flatMap km) 1 true)]++[HO.o (.map [] 0)]++[B])[d.length]?=some (HO.o (.cells (Z.flatMap km) 1 true)):=λB=>ji (ji aA);have dT:∀B:HO,Pre d (d++[HO.o (.cells (Z.flatMap km) 1 true)]++[HO.o (.map [] 0)]++[B]):=λB=>(((Pre.refl d).app _).app _).app _;have hJ:(d++[HO.o (.cells (Z.flatMap km) 1 true)]).length=d.length+1:=by simp
  have hP:(d++[HO.o (.cells (Z.flatMap km) 1 true)]++[HO.o (.map [] 0)]).length=d.length+2:=by simp
  have hf:H.length<=d.length:=bn.len;have ag:=ag (HO.o (.cells [.int .i64 (Int.ofNat w),.int .i64 (Int.ofNat v),R,.slice none 0 0,.slice none 0 0,.slice (some ⟨d.length,0,some 11⟩) (4*w*v) (4*w*v+1),.map (some (d++[HO.o (.cells (Z.flatMap km) 1 true)]).length),.slice none 0 0] 8 true));have bI:=bI (HO.o (.cells [.int .i64 (Int.ofNat w),.int .i64 (Int.ofNat v),R,.slice none 0 0,.slice none 0 0,.slice (some ⟨d.length,0,some 11⟩) (4*w*v) (4*w*v+1),.map (some (d++[HO.o (.cells (Z.flatMap km) 1 true)]).length),.slice none 0 0] 8 true));have bx:=bx (HO.o (.cells [.int .i64 (Int.ofNat w),.int .i64 (Int.ofNat v),R,.slice none 0 0,.slice none 0 0,.slice (some ⟨d.length,0,some 11⟩) (4*w*v) (4*w*v+1),.map (some (d++[HO.o (.cells (Z.flatMap km) 1 true)]).length),.slice none 0 0] 8 true));have dT:=dT (HO.o (.cells [.int .i64 (Int.ofNat w),.int .i64 (Int.ofNat v),R,.slice none 0 0,.slice none 0 0,.slice (some ⟨d.length,0,some 11⟩) (4*w*v) (4*w*v+1),.map (some (d++[HO.o (.cells (Z.flatMap km) 1 true)]).length),.slice none 0 0] 8 true))
  generalize d++[HO.o (.cells (Z.flatMap km) 1 true)]++[HO.o (.map [] 0)]++[HO.o (.cells [.int .i64 (Int.ofNat w),.int .i64 (Int.ofNat v),R,.slice none 0 0,.slice none 0 0,.slice (some ⟨d.length,0,some 11⟩) (4*w*v) (4*w*v+1),.map (some (d++[HO.o (.cells (Z.flatMap km) 1 true)]).length),.slice none 0 0] 8 true)]=g2 at *;generalize (d++[HO.o (.cells (Z.flatMap km) 1 true)]++[HO.o (.map [] 0)]).length=m34 at *;generalize (d++[HO.o (.cells (Z.flatMap km) 1 true)]).length=m32 at *;have bs:=bn.trans dT;obtain⟨hT,g3,cA,D,hA⟩:=Ed C dC N.len (hl.pre bs) (N.check (hl.pre bs)) (r:=r) (aN hr (by omega));have fa:=uV h3 hG hr hk;have a1:∀ {rs:TB} {g:HL},IA w v l r rs g->∃W ix,rs=[.v W,.v ix,.i 0]/\Ful g W 3 tx (A8 w v G r)/\Ful g ix 3 bw (Fz w v G r):=by
   rintro rs g (⟨rfl,dD⟩|⟨G',cC,⟨rfl,dD⟩|⟨W,ix,rfl,ht,ar,ap⟩⟩)
   ·exact absurd ⟨G,hG.g,hG.z⟩ dD
   ·exact absurd (uV h3 cC hr hk) dD
   ·have e1:A8 w v G' r=A8 w v G r:=DV λc hc=>by rw[qD C cC hG (qad.1 hc)]
    have e2:Fz w v G' r=Fz w v G r:=DV λc hc=>by rw[qD C cC hG (qad.1 hc)]
    rw[e1]at ar;rw[e2]at ap;exact⟨W,ix,rfl,ar,ap⟩
  obtain⟨W,hH,rfl,ar,cd⟩:=a1 hA;simp only[Al,Aw,Ap]at cA;have fu:=(ar.ls bR).good;refine al (Lm hl.good ⟨cA,D,fu,(cd.ls eX).good⟩) ?_;refine jw ?_;refine jU (b:=m34) (D.get ag) (by simp) ?_;refine qs ?_;have ax:=fc (b:=HO.o (.cells [.int .i64 (Int.ofNat w),.int .i64 (Int.ofNat v),R,W,.slice none 0 0,.slice (some ⟨d.length,0,some 11⟩) (4*w*v) (4*w*v+1),.map (some m32),.slice none 0 0] 8 true)) (D.get ag);have bX:∀(j:Nat) o,g3[j]?=some o->j≠m34->(g3.set m34 (HO.o (.cells [.int .i64 (Int.ofNat w),.int .i64 (Int.ofNat v),R,W,.slice none 0 0,.slice (some ⟨d.length,0,some 11⟩) (4*w*v) (4*w*v+1),.map (some m32),.slice none 0 0] 8 true)))[j]?=some o:=λj o J af=>aV J (BO af);have bt:Pre H (g3.set m34 (HO.o (.cells [.int .i64 (Int.ofNat w),.int .i64 (Int.ofNat v),R,W,.slice none 0 0,.slice (some ⟨d.length,0,some 11⟩) (4*w*v) (4*w*v+1),.map (some m32),.slice none 0 0] 8 true))):=(bs.trans D).set (by omega) _;have hw:m34<g3.length:=aq (D.get ag)
  have gx:(g3.set m34 (HO.o (.cells [.int .i64 (Int.ofNat w),.int .i64 (Int.ofNat v),R,W,.slice none 0 0,.slice (some ⟨d.length,0,some 11⟩) (4*w*v) (4*w*v+1),.map (some m32),.slice none 0 0] 8 true))).length=g3.length:=Bc ..;show P1.call _ _ (g3.set m34 (HO.o (.cells [.int .i64 (Int.ofNat w),.int .i64 (Int.ofNat v),R,W,.slice none 0 0,.slice (some ⟨d.length,0,some 11⟩) (4*w*v) (4*w*v+1),.map (some m32),.slice none 0 0] 8 true))) _;generalize g3.set m34 (HO.o (.cells [.int .i64 (Int.ofNat w),.int .i64 (Int.ofNat v),R,W,.slice none 0 0,.slice (some ⟨d.length,0,some 11⟩) (4*w*v) (4*w*v+1),.map (some m32),.slice none 0 0] 8 true))=g3' at *;have ca:=bX _ _ (D.get bI) (by omega);have b8:=bX _ _ (D.get bx) (by omega);have cs:∀j,blk W=some j->j≠m34:=λj J e=>by
   have d:=vB (ar.ls bR) J;subst e;rw[eS (D.get ag)]at d;cases d
  have co:=(ar.ls bR).keep λj o J X=>bX j o J (cs j X);obtain⟨hU,g4,cB,F,hB⟩:=Ed C dC N.len (hl.pre bt) (N.check (hl.pre bt)) (r:=r) (aN hr (by omega));obtain⟨hI,ix,rfl,cn,ap⟩:=a1 hB;simp only[Al,Aw,Ap]at cB;have fs:=(ap.ls eX).good;refine al (rM hl.good ⟨cB,F,(cn.ls bR).good,fs⟩) ?_;refine jw ?_;refine jU (b:=m34) (F.get ax) (by simp) ?_;have d2:=fc (b:=HO.o (.cells [.int .i64 (Int.ofNat w),.int .i64 (Int.ofNat v),R,W,ix,.slice (some ⟨d.length,0,some 11⟩) (4*w*v) (4*w*v+1),.map (some m32),.slice none 0 0] 8 true)) (F.get ax);have a7:∀(j:Nat) o,g4[j]?=some o->j≠m34->(g4.set m34 (HO.o (.cells [.int .i64 (Int.ofNat w),.int .i64 (Int.ofNat v),R,W,ix,.slice (some ⟨d.length,0,some 11⟩) (4*w*v) (4*w*v+1),.map (some m32),.slice none 0 0] 8 true)))[j]?=some o:=λj o J af=>aV J (BO af);have ct:Pre H (g4.set m34 (HO.o (.cells [.int .i64 (Int.ofNat w),.int .i64 (Int.ofNat v),R,W,ix,.slice (some ⟨d.length,0,some 11⟩) (4*w*v) (4*w*v+1),.map (some m32),.slice none 0 0] 8 true))):=(bt.trans F).set (by omega) _
  rw[show(g4.set m34 (HO.o (.cells (List.take 4 [.int .i64 (Int.ofNat w),.int .i64 (Int.ofNat v),R,W,.slice none 0 0,.slice (some ⟨d.length,0,some 11⟩) (4*w*v) (4*w*v+1),.map (some m32),.slice none 0 0]++[ix]++List.drop (4+[ix].length) [.int .i64 (Int.ofNat w),.int .i64 (Int.ofNat v),R,W,.slice none 0 0,.slice (some ⟨d.length,0,some 11⟩) (4*w*v) (4*w*v+1),.map (some m32),.slice none 0 0]) 8 true)))=g4.set m34 (HO.o (.cells [.int .i64 (Int.ofNat w),.int .i64 (Int.ofNat v),R,W,ix,.slice (some ⟨d.length,0,some 11⟩) (4*w*v) (4*w*v+1),.map (some m32),.slice none 0 0] 8 true))from rfl];generalize g4.set m34 (HO.o (.cells [.int .i64 (Int.ofNat w),.int .i64 (Int.ofNat v),R,W,ix,.slice (some ⟨d.length,0,some 11⟩) (4*w*v) (4*w*v+1),.map (some m32),.slice none 0 0] 8 true))=g4' at *;have d3:=a7 _ _ (F.get ca) (by omega);have a2:=a7 _ _ (F.get b8) (by omega);have et:∀j,blk ix=some j->j≠m34:=λj J e=>by
   have d:=vB (ap.ls eX) J;subst e;rw[eS (F.get ax)]at d;cases d
  have cr:=(co.pre F).keep λj o J X=>a7 j o J (cs j X);have cf:=(ap.ls eX).keep λj o J X=>a7 j o J (et j X);clear a7 bX ar cn ap cd co ca bI bx b8 ag ax cA cB c1 hA hB;obtain⟨M,hM,gy,hm⟩:=hx;refine qs ?_;refine br (hM.pre ct) ?_;rw[gy];refine qs ?_;generalize d.length=m30 at *;have ck:m30<g4'.length:=aq a2;have f4:∀P,(fC Z P).length=4*w*v:=λP=>by rw[qF,f5]
  have b7:∀A:List Nat,(td g4' m30 1 km A)[m34]?=some (HO.o (.cells [.int .i64 (Int.ofNat w),.int .i64 (Int.ofNat v),R,W,ix,.slice (some ⟨m30,0,some 11⟩) (4*w*v) (4*w*v+1),.map (some m32),.slice none 0 0] 8 true)):=λA=>by
   rw[cU (by omega)];exact d2
  have D:∀A:List Nat,Pre H (td g4' m30 1 km A):=λA=>gn ct hf;refine aR (σ:=List Nat) L.length (λj _=>[.i (Int.ofNat j)]) (λ_ A=>td g4' m30 1 km A) (λj A=>A=fC Z ((L.take j).flatMap Lp)) (j0:=0) (s0:=Z) rfl (bC a2).symm (AM _) rfl ?_;rintro i A hi hA cx u;refine jw ?_;by_cases U:i<L.length
  case pos=>
   rw[aJ U];refine jw ?_;obtain⟨⟨c,y⟩,hy⟩:=aL (l:=M) (i:=i) (by omega);obtain⟨ly,dB,b6⟩:=hm i _ hy;simp only at dB b6;obtain⟨o1,o2,o3,o4,o5⟩:=eB _ (Af dB);simp only at o1 o2 o3 o4 o5;refine aQ (hM.pre (D A)) rfl hy ?_;rw[show Ao (c,y)=[.int .i64 c.1,.int .i64 c.2.1,.int .u8 (Int.ofNat c.2.2),y]from rfl];refine jw ?_;refine ac b6.good ?_;refine qs ?_;refine br (b6.pre (D A)) ?_;refine qs ?_;refine aR (σ:=List Nat) ly.length (λj _=>[.i (Int.ofNat j)]) (λ_ B=>td g4' m30 1 km B) (λj B=>B=fC A (ly.zipIdx.take j)) (j0:=0) (s0:=A) rfl rfl (AM _) rfl ?_;rintro j B J hB d1 Y;have cy:B.length=4*w*v:=by rw[hB,hA,←lE,f4]
   refine jw ?_;by_cases a9:j<ly.length
   case pos=>
    rw[aJ a9];refine jw ?_;obtain⟨n,hn⟩:=aL (l:=ly) (i:=j) a9;have hE:=o4 n (Af hn);refine aQ (b6.pre (D B)) rfl hn ?_;rw[show km n=[.int .i64 (Int.ofNat n)]from rfl];refine jw ?_;refine dW (ds:=[.slice (some ⟨m30,0,some 11⟩) (4*w*v) (4*w*v+1)]) (b7 B) (by simp) rfl ?_;refine jw ?_;refine ac (by simp[aB,noLoc,aP,bg,aW,aG,aw]) ?_;refine qs ?_;refine dd (enc:=km) (l:=B) (i:=n) (a:=j) aU (bM ck) rfl (by omega) cy rfl ?_;refine qs ?_;rw[aS (by omega),eh];refine Y (B.set n j) a9 ?_;rw[Dm,lE,←hB,List.getElem?_zipIdx,hn];simp[fC]
   obtain rfl:j=ly.length:=by omega
   rw[aM (zY _)];refine jw ?_;rw[aS (by omega)];refine u B U ?_;rw[Dm,dB];simp only[Vs,MK,C2,List.flatMap_nil,Ci];rw[lE,←hA,hB,Cg (by rw[List.length_zipIdx];exact zY _)];rfl
  obtain rfl:i=L.length:=by omega
  rw[aM (zY _)];refine jw ?_;clear u;rw[Ly]at hA;have f0:A=Eu (4*w*v) L:=by rw[hA,←hZ];rfl
  subst f0;clear hA;obtain⟨hS,fr⟩ : ∃g,td g4' m30 1 km (Eu (4*w*v) L)=g:=⟨_,rfl⟩;have ad:=b7 (Eu (4*w*v) L);have b5:=D (Eu (4*w*v) L);have b9:(td g4' m30 1 km (Eu (4*w*v) L))[m30]?=some (.o (.cells ((Eu (4*w*v) L).flatMap km) 1 true)):=bM ck;have b0:∀(j:Nat) o,g4'[j]?=some o->j≠m30->(td g4' m30 1 km (Eu (4*w*v) L))[j]?=some o:=λj o J af=>by
   rw[cU af];exact J
  rw[fr]at ad b5 b9 b0 ⊢;have a3:=b0 _ _ d3 (by omega);have gl:(Eu (4*w*v) L).length=4*w*v:=by rw[Fw];simp
  refine dW (ds:=[.slice (some ⟨m30,0,some 11⟩) (4*w*v) (4*w*v+1)]) ad (by simp) rfl ?_;refine jw ?_;refine ac (by simp[aB,noLoc,aP,bg,aW,aG,aw]) ?_;refine qs ?_;have d0:Dp g4' m30=some 1:=eS a2;have be:∀ {α:Type} {e:Nat} {enc:α->Tk} {l:List α} {v:Value},LsH g4' v e enc l->e≠1->∀j,blk v=some j->j≠m30:=λhv he j J e=>by
   subst e;have:=vB hv J;rw[d0]at this;cases this;exact he rfl
  have ex:=cr.keep λj o J X=>b0 j o J (be cr (by decide) j X);have em:=cf.keep λj o J X=>b0 j o J (be cf (by decide) j X);have eA:m34<hS.length:=aq ad
  let c:BC:=⟨w,v,R,W,ix,.slice (some ⟨m30,0,some 11⟩) (4*w*v) (4*w*v+1),m34,m32,hS.length⟩
  have hc:CtxB c hS l G r (Cr (4*w*v) L):=by
   refine⟨h3,rfl,eS ad,?_,ex,em,?_,hl.pre b5,N,hG,aN hr hk,fa,λid e hid he=>?_⟩
   ·unfold Dp;rw[a3]
   ·show LsH hS (.slice (some ⟨m30,0,some 11⟩) (4*w*v) (4*w*v+1)) 1 km ((List.range (4*w*v)).map (Cr (4*w*v) L));rw[←Fw];exact cp aU b9 gl.symm
   ·have V:=(dh C hid).2.2.2.2;have d:=rO h3 hG hr hid;show D4 (am (ae (G id) r) (AB (sd w id) e))=true;rw[ge fg V he];have h2:=zf (c:=am (ae (G id) r) (sd w id)) (e:=eT (ae (G id) r).1 e) gI (kJ he);unfold D4;exact Bp (by omega)
  have ec:Bld c hS hS (.slice none 0 0) []:=⟨λj o _ _ _ J=>J,ad,⟨[],MP _,_,_,a3,rfl⟩,.nil _ _ _ _,λq V=>(by cases V),.nil,.nil,eA,aq a3,by show m34≠m32;omega,zY _⟩;refine ah (x:=Int.ofNat (4*w*v)) rfl ?_;refine qs ?_;refine aR (σ:=HL×Value×List En) (4*w*v) (λj _=>[.i (Int.ofNat j)]) (λ_ t=>t.1) (λj t=>Bld c hS t.1 t.2.1 t.2.2/\t.2.2.map Ay=BI w v l (λn=>ae (G n) r) (Cr (4*w*v) L) (Bn j 0)/\t.2.2.length<=3*j/\(∀q∈t.2.2,bndE (3*j) q)/\hS.length<=t.1.length) (j0:=0) (s0:=(hS,.slice none 0 0,[])) rfl rfl (AM _) ⟨ec,rfl,AM _,λq V=>(by cases V),zY _⟩ ?_;rintro id ⟨h,kv,Q⟩ hid ⟨I,hQ,d7,c0,dA⟩ cx u;simp only at I hQ d7 c0 dA ⊢;refine jw ?_;by_cases U:id<4*w*v
  case pos=>
   rw[aJ U];refine jw ?_;refine aR (σ:=HL×Value×List En) 3 (λj _=>[.i (Int.ofNat j)]) (λ_ t=>t.1) (λj t=>Bld c hS t.1 t.2.1 t.2.2/\t.2.2.map Ay=BI w v l (λn=>ae (G n) r) (Cr (4*w*v) L) (Bn id j)/\t.2.2.length<=3*id+j/\(∀q∈t.2.2,bndE (3*id+j) q)/\hS.length<=t.1.length) (j0:=0) (s0:=(h,kv,Q)) rfl rfl (AM _) ⟨I,hQ,d7,c0,dA⟩ ?_;rintro e ⟨h',ha,Q'⟩ he ⟨dk,cD,d8,a5,cl⟩ d1 Y;simp only at dk cD d8 a5 cl ⊢;refine jw ?_;by_cases cm:e<3
   case pos=>
    rw[zV (show Int.ofNat e<3 by show(e:Int)<3;omega)];refine jw ?_;obtain⟨h2,hd,Q2,c2,ga,f2,ho,d6,hz⟩:=TZ hc dk (by omega) (B:=3*id+e) (by omega) a5 U cm;refine al c2 ?_;refine jw ?_;rw[Dc (by show(0:Int)<=(e:Int)+1;omega) (by show(e:Int)+1<=255;omega)];refine Y (h2,hd,Q2) cm ⟨ga,?_,by show Q2.length<=3*id+(e+1);omega,d6,by show hS.length<=h2.length;omega⟩;rw[LZ,←cD];exact f2
   obtain rfl:e=3:=by omega
   rw[zQ (show(3:Int)<=Int.ofNat 3 from HZ _)];refine jw ?_;rw[aS (by omega)];refine u (h',ha,Q') U ⟨dk,?_,by show Q'.length<=3*(id+1);omega,λq V=>(a5 q V).mono (by omega),cl⟩;rw[xU];exact cD
  obtain rfl:id=4*w*v:=by omega
  rw[aM (zY _)];refine jw ?_;clear u ec;have eg:=I.ky;have a8:=eg.good fH;refine dW (ds:=[kv]) I.bl (by simp[bE]) rfl ?_;refine jw ?_;refine ac a8 ?_;refine qs ?_;have af:=@PJ w v l (λn=>ae (G n) r) (Cr (4*w*v) L) (4*w*v) hN.1;have bm:=PK C (l:=l) (P:=λn=>ae (G n) r) (hg:=Cr (4*w*v) L) (E:=Bn (4*w*v) 0) λp hp=>by
   have:=Pr (by omega) hp;exact⟨this.2.2 rfl,this.2.1⟩
  rw[←hQ]at af bm;have gs:(Q.map Ay).map (·.k)=Q.map wd:=by rw[D9];rfl
  have eL:∀q∈Q,okE (4*w*v) q:=λq V=>by
   obtain⟨o1,o2,o3⟩:=bm (Ay q) (qaz.2 ⟨q,V,rfl⟩);have aE:=c0 q V;exact⟨aE.mono (by omega),aE.2.1,aE.2.2.1,aE.2.2.2,o1,o2⟩
  obtain⟨T,hK,cK,pK,sK,oK,kK,eK⟩:=PO eg (λe=>absurd (by rw[qcV.1 e];rfl) af) (λk hk=>by
   obtain⟨q,V,rfl⟩:=qaz.1 hk;exact(bm (Ay q) (qaz.2 ⟨q,V,rfl⟩)).2.2) (by rw[AZ];omega)
  obtain⟨Q1,fd,fb,bP⟩:=I.srt pK oK kK eK;refine al cK ?_;refine jw ?_;refine dW (ds:=[kv]) bP.bl (by simp[bE]) rfl ?_;refine jw ?_;refine ac a8 ?_;refine qs ?_;have hu:T.length=Q.length:=by rw[pK.length_eq,AZ]
  refine br (oK.ls fH) ?_;refine qs ?_;refine ah (eE (by omega)) ?_;refine jw ?_;rw[show(Int.ofNat T.length).toNat=T.length from rfl];have z9:HO.o (.cells (bk [.int .i64 0,.int .i64 0,.int .u8 0,.int .i64 0,.int .i64 0,.int .u8 0,.slice none 0 0,.slice none 0 0,.slice none 0 0] T.length) 9 true)=HO.o (.cells ((List.replicate T.length ((((0,0,0),(0,0,0)),.slice none 0 0,.slice none 0 0,.slice none 0 0):S9)).flatMap BZ) 9 true):=by
   rw[←dc (enc:=BZ) (z:=((((0,0,0),(0,0,0)),.slice none 0 0,.slice none 0 0,.slice none 0 0):S9)) (n:=T.length)];rfl
  rw[z9];obtain⟨O0,d4⟩ : ∃O,List.replicate T.length ((((0,0,0),(0,0,0)),.slice none 0 0,.slice none 0 0,.slice none 0 0):S9)=O:=⟨_,rfl⟩;have d5:O0.length=T.length:=by rw[←d4,qcK]
  rw[d4];have e0:Pre hK (hK++[HO.o (.cells (O0.flatMap BZ) 9 true)]):=(Pre.refl hK).app _;have g0:(hK++[HO.o (.cells (O0.flatMap BZ) 9 true)])[hK.length]?=some (HO.o (.cells (O0.flatMap BZ) 9 true)):=aA;have hD:(hK++[HO.o (.cells (O0.flatMap BZ) 9 true)]).length=hK.length+1:=by simp
  have ef:=bP.grow e0;have oO:=(oK.ls fH).pre e0;generalize hK++[HO.o (.cells (O0.flatMap BZ) 9 true)]=hO at *;refine dW (ds:=[kv]) ef.bl (by simp[bE]) rfl ?_;refine jw ?_;refine ac a8 ?_;refine qs ?_;refine br oO ?_;refine qs ?_;have a4:∀q∈Q1,∀b,Co q b->b<hK.length:=λq V b I=>((bP.en q V).lt I).2;have f1:hS.length<=hK.length:=bP.sz;have hh:Q1.length=T.length:=by rw[←fb,AZ]
  have ev:T.Nodup:=pK.nodup_iff.2 I.nd;refine aR (σ:=HL×List En×List S9×List Sm) T.length (λj _=>[.i (Int.ofNat j)]) (λ_ t=>t.1)
   (λj t=>Bld c hS t.1 kv t.2.1/\t.2.1.map wd=T/\t.2.1.map En.id=Q1.map En.id/\(∀(i:Nat) q,j<=i->t.2.1[i]?=some q->Q1[i]?=some q)/\t.1[hK.length]?=some (.o (.cells (t.2.2.1.flatMap BZ) 9 true))/\t.2.2.1.length=T.length/\
    t.2.2.2.map (·.k)=T.take j/\(∀(i:Nat) m,i<j->t.2.2.1[i]?=some m->(∃s,t.2.2.2[i]?=some s/\SmH t.1 m s)/\∀b,(blk m.2.1=some b∨blk m.2.2.1=some b∨blk m.2.2.2=some b)->hO.length<=b)/\
    (∀s∈t.2.2.2,∃q∈Q1,wd q=s.k/\s.ps.Perm q.ps/\s.ls.Perm q.ls/\s.es.Perm q.es)/\(∀s∈t.2.2.2,s.ps.Pairwise (λa b=>¬Cr (4*w*v) L b.1<Cr (4*w*v) L a.1)/\s.ls.Pairwise (λa b=>¬(b.1<a.1∨(b.1=a.1/\Cr (4*w*v) L b.2.1<Cr (4*w*v) L a.2.1)))/\s.es.Pairwise (λa b=>a<=b))/\hO.length<=t.1.length)
   (j0:=0) (s0:=(hO,Q1,O0,[])) rfl rfl (AM _) ⟨ef,fb,rfl,λi q _ h=>h,g0,d5,rfl,λi m h=>(by omega),λs h=>(by cases h),λs h=>(by cases h),zY _⟩ ?_
  rintro j ⟨g,Qj,O,Sd⟩ J ⟨i1,i2,i3,i4,i5,i6,i7,i8,i9,Q0,i11⟩ cx u;simp only at i1 i2 i3 i4 i5 i6 i7 i8 i9 Q0 i11 ⊢;refine jw ?_;by_cases U:j<T.length
  case pos=>
   rw[aJ U];refine jw ?_;obtain⟨q,V⟩:=aL (l:=Qj) (i:=j) (by rw[←AZ (f:=wd),i2];exact U);have g6:=i4 j q (zY _) V;have a0:=Af g6;have eu:T[j]?=some (wd q):=by rw[←i2,AU,V];rfl
   have ci:=i1.ky.ls fH;rw[i2]at ci;refine aQ ci rfl eu ?_;rw[show nJ (wd q)=[.int .i64 q.a.1,.int .i64 q.a.2.1,.int .u8 (Int.ofNat q.a.2.2),.int .i64 q.b.1,.int .i64 q.b.2.1,.int .u8 (Int.ofNat q.b.2.2)]from rfl];refine jw ?_;refine dW (ds:=[.map (some m32)]) i1.bl (by simp[bE]) rfl ?_;refine jw ?_;refine ac rfl ?_;refine qs ?_;refine LF i1 V (k:=wd q) rfl rfl ?_;refine jw ?_;refine ac (aY _) ?_;refine qs ?_;obtain⟨g',v1,v2,v3,q',cS,bS,ea,eb,ei,pp,pl,pe,sp,sl,se,l1,l2,l3,nb,kp,le⟩:=zF hc i1 V (eL q (fd.mem_iff.1 a0));simp only[Ab,Aw,Ap]at cS;refine al cS ?_;refine jw ?_;have g1:¬Co q hK.length:=λI=>by have:=a4 q a0 _ I;omega
   have bd:=kp _ _ i5 g1;refine dd (enc:=BZ) (l:=O) (i:=j) (a:=((wd q,v1,v2,v3):S9)) wL bd rfl (by omega) i6 rfl ?_;refine qs ?_;rw[aS (by omega)];have gv:wd q'=wd q:=DY ea eb;have cb:(Qj.set j q').map En.id=Q1.map En.id:=by
    rw[LC,ei,←i3];exact bC (by rw[AU,V];rfl)
   have a6:Sd.length=j:=by
    have:=congrArg List.length i7;rw[AZ,BN]at this;omega
   have ay:∀(b:Nat) o,g'[b]?=some o->hO.length<=b->(td g' hK.length 9 BZ (O.set j (wd q,v1,v2,v3)))[b]?=some o:=λb o I dA=>by
    rw[cU (by omega)];exact I
   refine u (td g' hK.length 9 BZ (O.set j (wd q,v1,v2,v3)),Qj.set j q',O.set j (wd q,v1,v2,v3),Sd++[⟨wd q,q'.ps,q'.ls,q'.es⟩]) U ⟨?_,?_,cb,λi p hi hp=>?_,bM (aq bd),by show(O.set j _).length=_;rw[Bc];exact i6,?_,λi m hi hm=>?_,λs C=>?_,λs C=>?_,?_⟩
   ·refine bS.store f1 (eS bd) λp hp e=>?_;have g5:p.id∈Q1.map En.id:=cb▸qaz.2 ⟨p,hp,rfl⟩;obtain⟨p1,bn,e1⟩:=qaz.1 g5;have:=a4 p1 bn _ (.inl rfl);omega
   ·show(Qj.set j q').map wd=T;rw[LC,gv,bC (by rw[AU,V];rfl)];exact i2
   ·have hp:(Qj.set j q')[i]?=some p:=hp;rw[BL (by omega)]at hp;exact i4 i p (by omega) hp
   ·show(Sd++[(⟨wd q,q'.ps,q'.ls,q'.es⟩ : Sm)]).map (·.k)=T.take (j+1);rw[Dm,eu,Cw,i7];rfl
   ·have hm:(O.set j (wd q,v1,v2,v3))[i]?=some m:=hm;by_cases e:i=j
    ·subst e;rw[CQ (by omega)]at hm;cases hm;refine⟨⟨⟨wd q,q'.ps,q'.ls,q'.es⟩,by show(Sd++_)[i]?=_;rw[Cd (by omega),a6,F8];rfl,rfl,l1.keep λb o I an=>ay b o I (by have:=nb b (.inl an);omega),l2.keep λb o I an=>ay b o I (by have:=nb b (.inr (.inl an));omega),l3.keep λb o I an=>ay b o I (by have:=nb b (.inr (.inr an));omega)⟩,λb I=>?_⟩;have:=nb b I;omega
    ·rw[BL (λe'=>e e'.symm)]at hm;obtain⟨⟨s,g7,g8⟩,I⟩:=i8 i m (by omega) hm;refine⟨⟨s,by show(Sd++_)[i]?=_;rw[BE (by omega)];exact g7,g8.keep λb o dn an=>?_⟩,I⟩;have gb:=I b an;exact ay b o (kp b o dn λaE=>by have:=a4 q a0 _ aE;omega) gb
   ·rcases qas.1 C with C|C
    ·exact i9 s C
    ·rw[qav]at C;subst C;exact⟨q,a0,rfl,pp,pl,pe⟩
   ·rcases qas.1 C with C|C
    ·exact Q0 s C
    ·rw[qav]at C;subst C;exact⟨sp,sl,se⟩
   ·show hO.length<=(td g' _ _ _ _).length;rw[su];omega
  obtain rfl:j=T.length:=by omega
  rw[aM (zY _)];refine jw ?_;have a6:Sd.length=T.length:=by
   have:=congrArg List.length i7;rw[AZ,BN,Nat.min_self]at this;exact this
  rw[Ly]at i7;refine⟨.slice (some ⟨hK.length,0,some 19⟩) T.length (T.length+1),rfl,bG b5 λb o I dn=>i1.low b o (by show b<hS.length;exact qc3 I b5.len) (by show b≠m34;omega) (by show b≠m32;omega) dn,λh=>absurd rfl h,λ_=>⟨G,Sd,hG,⟨O,⟨hK.length,by rw[i6];rfl,i5⟩,by rw[i6,a6],λi m hm=>(i8 i m (by have:=aq hm;omega) hm).1⟩,?_,?_,λs C=>?_,λs C=>(Q0 s C).1,λs C=>(Q0 s C).2.1,λs C=>(Q0 s C).2.2⟩⟩
  ·rw[i7,←hQ,gs];exact pK
  ·rw[i7];refine(sK.and ev).imp λ{a b} d9=>Fu d9.1 d9.2
  ·obtain⟨q,a0,e1,e2,e3,e4⟩:=i9 s C;refine⟨Ay q,?_,e1,e2,e3,e4⟩;rw[←hQ];exact qaz.2 ⟨q,fd.mem_iff.1 a0,rfl⟩)
 obtain⟨rs,h',h2,y,rfl,h4,h5,h6⟩:=g9;exact⟨y,e,h',h2,h4,hR,h5,h6⟩
def A1(L:List (Cl×List Nat))(c:Cl):Tx:=match L.find? λs=>decide (s.1=c)with
 |some s=>s.2
 |none=>[]
def pW{L:List (Cl×List Nat)}{c:Cl}:∀ {i:Nat} {s:Cl×List Nat},L[i]?=some s->s.1=c->(∀j,j<i->∀t,L[j]?=some t->t.1≠c)->L.find? (λs=>decide (s.1=c))=some s:=by
 induction L with
 |nil=>intro i s h;simp at h
 |cons a L f=>
  intro i s h d b;rw[List.find?_cons];cases i with
  |zero=>
   simp at h;subst h;rw[Bp d]
  |succ i=>
   rw[BV (b 0 (by omega) a rfl)];exact f (by simpa using h) d λj g t e=>b (j+1) (by omega) t (by simpa using e)
def Hh{L:List (Cl×List Nat)}{c:Cl}(a:∀(j:Nat) t,L[j]?=some t->t.1≠c):L.find? (λs=>decide (s.1=c))=none:=by
 rw[qdA];intro s d;obtain⟨j,b⟩:=Dd d;simpa using a j s b
def ug{H:HL}{x:Value}{L:List (Cl×List Nat)}(F:StL H x L)(I:L.length<=1000)(c:Cl) :
  ∃y,aD cc ab 37 ([.v x]++Ab c) (ka aa H) [.v y] (ka aa H)/\aB y=true/\LsH H y 1 km (A1 L c):=by
 obtain⟨M,o,q,D⟩:=F;have s:=x37 (ls:=[.v x,.i c.1,.i c.2.1,.i (Int.ofNat c.2.2)]) (K:=λw u=>∃y,w=[.v y]/\u=H/\aB y=true/\LsH H y 1 km (A1 L c)) (H:=H) (rv o.good (kx (kx (kx ub)))) (by
  unfold f37;simp only[xp];refine jw ?_;refine eo L.length (λj=>∀n,n<j->∀t,L[n]?=some t->t.1≠c) (j0:=0) rfl (AM _) (λn h=>by omega) ?_;intro i G f z g;refine jw ?_;refine br o ?_;rw[q];by_cases m:i<L.length
  case neg=>
   obtain rfl:i=L.length:=by omega
   rw[aM (zY _)];refine jw ?_;refine⟨_,by first|rfl|trivial,by first|rfl|trivial,rfl,?_⟩;unfold A1;rw[Hh λj t k=>f j (aq k) t k];exact .nil _ _ _
  rw[aJ m];refine jw ?_;obtain⟨⟨a,y⟩,r⟩:=aL (l:=M) (i:=i) (by omega);obtain⟨J,d,b⟩:=D i _ r;simp only at d b;refine bB (cs:=[.int .i64 a.1,.int .i64 a.2.1,.int .u8 (Int.ofNat a.2.2)]) o rfl r rfl (by omega) ?_;refine jw ?_;rw[G9];by_cases p:a=c
  ·rw[Bp p];refine jw ?_;refine bB (cs:=[y]) o rfl r rfl (by omega) ?_;refine jw ?_;refine ac b.good ?_;refine qs ?_;refine⟨y,by first|rfl|trivial,by first|rfl|trivial,b.good,?_⟩;unfold A1;rw[pW d p f];exact b
  ·rw[BV p];refine jw ?_;rw[aS (by omega)];exact g m λn E t k=>by
    by_cases e:n=i
    ·subst e;rw[d]at k;cases k;exact p
    ·exact f n (by omega) t k)
 obtain⟨w,u,A,y,rfl,rfl,B,C⟩:=s;exact⟨y,A,B,C⟩
abbrev Wg:=Nat×Int×Int
def Eo(x:Wg):Tk:=[.int .i64 (Int.ofNat x.1),.int .i64 x.2.1,.int .u8 x.2.2]
def KH(w v:Nat)(l:Ty)(P:TC)(d:Cl)(n k:Nat):Option Wg:=
 if am (P n) (AB (sd w n) (eK (n%4) k))=d then some (n,CY w v n k,CH w v l n k)else none
def CI(w v:Nat)(l:Ty)(P:TC)(d:Cl)(n:Nat):List Wg:=(List.range 3).filterMap (KH w v l P d n)
def DN(w v:Nat)(l:Ty)(P:TC)(L:List (Cl×List Nat))(c d:Cl):List Wg:=(A1 L c).flatMap (CI w v l P d)
def xo{w v:Nat}{l:Ty}{P:TC}{d:Cl}{n k:Nat}:((List.range k).filterMap (KH w v l P d n)).length<=k:=EL (qcW _ _) (by simp)
def FR{w v:Nat}{l:Ty}{P:TC}{d:Cl}:∀ {Y:Tx},(Y.flatMap (CI w v l P d)).length<=3*Y.length
 | []=>by simp
 |n :: Y=>by
  rw[C2,A5,CT];have a:=FR (w:=w) (v:=v) (l:=l) (P:=P) (d:=d) (Y:=Y);have b:(CI w v l P d n).length<=3:=xo;omega
def FQ{w v:Nat}(u:S3 w v){l:Ty}{H:HL}{x U T V:Value}{L:List (Cl×List Nat)}(hx:StL H x L)(D:L.length<=1000)(G:aB U=true)(hk:LsH H T 1 Cp (Ak w v l)){Pl:TI}(hp:LsH H V 3 tx Pl){P:TC}(hP:∀n,n<4*w*v->Pl[n]?=some (P n))(F:∀n,n<4*w*v->Av 30000 (P n))
  (c d:Cl) (hid:∀n∈A1 L c,n<4*w*v) (an:(A1 L c).length<=1000) :
  ∃z h',aD cc ab 10 ([.i (.ofNat w),.i (.ofNat v),.v U,.v T,.v V,.v x]++Ab c++Ab d) (ka aa H) [.v z] (ka aa h')/\Pre H h'/\aB z=true/\LsH h' z 3 Eo (DN w v l P L c d):=by
 have hs:=u.sh;obtain⟨b1,b2,b3,b4⟩:=u.n;have hN:=Bj hs;obtain⟨y,hy,ar,X⟩:=ug hx D c;obtain⟨M,hM,_,_⟩:=hx;have Q:DN w v l P L c d=(A1 L c).flatMap (CI w v l P d):=rfl;rw[Q];generalize A1 L c=Y at *;have R:=x10 (ls:=[.i (.ofNat w),.i (.ofNat v),.v U,.v T,.v V,.v x,.i c.1,.i c.2.1,.i (Int.ofNat c.2.2),.i d.1,.i d.2.1,.i (Int.ofNat d.2.2)]) (K:=λrs h'=>∃z,rs=[.v z]/\Pre H h'/\aB z=true/\LsH h' z 3 Eo (Y.flatMap (CI w v l P d))) (H:=H) (kx (kx (rv G (rv hk.good (rv hp.good (rv hM.good (kx (kx (kx (kx (kx (kx ub)))))))))))) (by
  unfold f10;simp only[xp];refine jw ?_;simp only[Ab,Aw,Ap]at hy;refine al hy ?_;refine jw ?_;refine aR (σ:=HL×Value) Y.length (λj s=>[.v s.2,.i (Int.ofNat j)]) (λ_ s=>s.1) (λj s=>Pre H s.1/\aB s.2=true/\MkL H.length s.1 s.2 3 Eo ((Y.take j).flatMap (CI w v l P d))) (j0:=0) (s0:=(H,.slice none 0 0)) rfl rfl (AM _) ⟨.refl _,rfl,.nil _ _ _ _⟩ ?_;rintro j ⟨h,z⟩ hj ⟨b,e,o⟩ ad t;simp only at b o e ⊢;refine jw ?_;refine br (X.pre b) ?_;by_cases p:j<Y.length
  case neg=>
   rw[aM (by omega)];refine jw ?_;rw[Cg (by omega)]at o;exact⟨z,rfl,b,e,o.ls⟩
  rw[aJ p];refine jw ?_;obtain⟨n,r⟩:=aL p;have q:=hid n (Af r);have O:(Y.take (j+1)).flatMap (CI w v l P d)=(Y.take j).flatMap (CI w v l P d)++CI w v l P d n:=by
   rw[Dm,r,MK];simp
  have J:=FR (w:=w) (v:=v) (l:=l) (P:=P) (d:=d) (Y:=Y.take j);rw[BN]at J;refine aQ (X.pre b) rfl r ?_;rw[show km n=[.int .i64 (Int.ofNat n)]from rfl];refine jw ?_;have hr:=dh hs q;have B:=F n q;refine aR (σ:=HL×Value) 3 (λk s=>[.v s.2,.i (Int.ofNat k)]) (λ_ s=>s.1) (λk s=>Pre H s.1/\aB s.2=true/\MkL H.length s.1 s.2 3 Eo ((Y.take j).flatMap (CI w v l P d)++(List.range k).filterMap (KH w v l P d n))) (j0:=0) (s0:=(h,z)) rfl rfl (AM _) ⟨b,e,by simpa using o⟩ ?_;clear b o e;rintro k ⟨h,z⟩ af ⟨b,e,o⟩ S f;simp only at b o e ⊢;refine jw ?_;by_cases g:k<3
  case neg=>
   obtain rfl:k=3:=by omega
   rw[zQ (show(3:Int)<=Int.ofNat 3 from HZ _)];refine jw ?_;rw[aS (by omega)];exact t (h,z) p ⟨b,e,by rw[O];exact o⟩
  rw[zV (show Int.ofNat k<3 by show(k:Int)<3;omega)];refine jw ?_;have I:=fq (n%4) k;have hq:=zf (c:=sd w n) hr.2.2.2.2 I;have W:=iH u q;have c2:=yy u q g;have c3:=jK (m:=P n) (c:=AB (sd w n) (eK (n%4) k)) B.1 (by obtain⟨_,g1,g2,g3,g4,_⟩:=B;omega) hq.1 (by omega);have c4:=uo u q g;have A:KH w v l P d n k=if am (P n) (AB (sd w n) (eK (n%4) k))=d then some (n,CY w v n k,CH w v l n k)else none:=rfl
  generalize AB (sd w n) (eK (n%4) k)=be at *;generalize ap:am (P n) be=mb at *;simp only[Ab,Al,Aw,Ap]at W c2 c3;refine aQ (hp.pre b) rfl (hP n q) ?_;rw[show tx (P n)=[.int .u8 (Int.ofNat (P n).1),.int .i64 (P n).2.1,.int .i64 (P n).2.2]from rfl];refine jw ?_;refine ai W ?_;refine jw ?_;refine ai c2 ?_;refine jw ?_;refine ai c3 ?_;refine jw ?_;rw[G9];by_cases C:mb=d
  case neg=>
   rw[BV C];simp(disch:=omega)only[↓my,Cv];rw[aS (by omega)];exact f (h,z) g ⟨b,e,by rw[jE,A,po C];simpa using o⟩
  rw[Bp C];simp(disch:=omega)only[↓my,Bs];refine ai c4 ?_;refine jw ?_;rw[ze (by omega)];refine qs ?_;rw[lI (by omega)];refine qs ?_;refine aQ (hk.pre b) rfl (kw q g) ?_;rw[show Cp (CH w v l n k)=[.int .u8 (CH w v l n k)]from rfl];refine jw ?_;have ag:=xo (w:=w) (v:=v) (l:=l) (P:=P) (d:=d) (n:=n) (k:=k);refine K7 (h0:=H) (a:=((n,CY w v n k,CH w v l n k):Wg)) b o rfl rfl rfl rfl (by
   unfold bh;rw[A5,Be (by omega),Be (by omega)];rfl) ?_
  intro z' h' N E Z _ _;refine jw ?_;refine ac Z ?_;refine qs ?_;rw[aS (by omega)];exact f (h',z') g ⟨N,Z,by rw[jE,A,mc C,←AN];exact E⟩)
 obtain⟨rs,h',h2,z,rfl,h4,h5,h6⟩:=R;exact⟨z,h',h2,h4,h5,h6⟩
def FF{l:Ty}(i:(l.map bD).Nodup)(u e:Nat):jN l (.ofNat u) (.ofNat e)=B6 l u e:=by
 have j:∀(l:Ty) (a:Int),(l.map bD).Nodup->l.foldl (λa c=>if bD c=((Int.ofNat u,Int.ofNat e):Ku)then c.2.2 else a) a=(match l.find? (G8 (.ofNat u) (.ofNat e))with|some c=>c.2.2|none=>a):=by
  intro l
  induction l with
  |nil=>intro a _;rfl
  |cons c l p=>
   intro a h;rw[AL,qbU]at h;rw[Is,p _ h.2,List.find?_cons];by_cases f:bD c=((Int.ofNat u,Int.ofNat e):Ku)
   ·have k:=congrArg Prod.fst f;have m:=congrArg Prod.snd f;simp only[bD]at k m;have g:G8 (.ofNat u) (.ofNat e) c=true:=by simp[G8,k,m]
    have o:l.find? (G8 (.ofNat u) (.ofNat e))=none:=qdA.2 λd n b=>by
     simp only[G8,uc,BF]at b;refine h.1 (qaz.2 ⟨d,n,?_⟩);rw[f];exact DY b.1 b.2
    rw[g,o,mc f]
   ·have g:G8 (.ofNat u) (.ofNat e) c=false:=by
     rw[←Cz];intro b;simp only[G8,uc,BF]at b;exact f (DY b.1 b.2)
    rw[g,po f]
 unfold jN B6;exact(j l 0 i).symm
def Z0{c:Cl}{e:Nat}(a:c.2.2<4)(b:e<3):AB c e≠c:=by
 obtain⟨x,y,q⟩:=c;simp only at a;intro h;rcases BD a with rfl|rfl|rfl|rfl
 all_goals obtain rfl|rfl|rfl:e=0∨e=1∨e=2:=by omega
 all_goals simp[AB]at h
def Su{t e f:Nat}(a:e<3)(b:f<3)(h:eT t e=eT t f):e=f:=by
 unfold eT at h
 repeat' split at h
 all_goals omega
structure Eds(w v:Nat)(l:Ty)(P:TC):Prop where
 ne:∀ {n e:Nat},n<4*w*v->e<3->Ar w P n≠A7 w P n e
 inj:∀ {n e f:Nat},n<4*w*v->e<3->f<3->A7 w P n e=A7 w P n f->e=f
 nb:∀ {n e m:Nat},n<4*w*v->e<3->Aa w v n e=some m->m<4*w*v/\Aa w v m e=some n/\m≠n
 flat:∀ {n e m:Nat},n<4*w*v->e<3->Aa w v n e=some m->B6 l (min n m) e=0->A7 w P n e=Ar w P m/\A7 w P m e=Ar w P n
 bent:∀ {n e m:Nat},n<4*w*v->e<3->Aa w v n e=some m->B6 l (min n m) e≠0->Ar w P m=Ar w P n/\A7 w P m e=A7 w P n e
def Sv{w v:Nat}(N:S3 w v){l:Ty}(q:∀c∈l,c.2.2≠0){G:TC}(y:ConsO w v l G){r:Mv}{k:Int}(P:Av k r):Eds w v l (λn=>ae (G n) r):=by
 have o:=N.sh;have B:∀n,(sd w n).2.2<4:=λn=>H3 _ (by omega);have z:∀n,(ae (G n) r).1<8:=λn=>fg;have i:∀n e,e<3->A7 w (λn=>ae (G n) r) n e=AB (Ar w (λn=>ae (G n) r) n) (eT (ae (G n) r).1 e):=λn e a=>ge (z n) (B n) a;have d:∀ {n e m:Nat},n<4*w*v->e<3->Aa w v n e=some m->B6 l (min n m) e≠0->ae (G m) r=ae (Bb (ua (sd w n) e)) (ae (G n) r):=λ{n e m} b a j p=>by
  rw[y.g n e m b a j];unfold BK;rw[mc ((lQ q).1 p),(rZ o b a j).2];exact cu (by have:=FJ o b a;unfold Bb;repeat' split<;>omega) (y.ok n b).1 P.1
 refine⟨λ{n e} b a h=>?_,λ{n e f} b a A h=>?_,λ{n e m} b a j=>?_,λ{n e m} b a j p=>?_,λ{n e m} b a j p=>?_⟩
 ·rw[i n e a]at h;exact Z0 (c:=Ar w (λn=>ae (G n) r) n) gI (kJ a) h.symm
 ·rw[i n e a,i n f A]at h;exact Su a A (vH (c:=Ar w (λn=>ae (G n) r) n) gI (kJ a) (kJ A) h)
 ·have:=dI o b a j;exact⟨this.1,this.2.1,this.2.2.2.2⟩
 ·obtain⟨s,t,C,u,F⟩:=dI o b a j;obtain⟨H,I,J,x,K⟩:=dI o s a t;have O:G m=G n:=by
   rw[y.g n e m b a j];unfold BK;rw[po λh=>(lQ q).2 h p]
  unfold A7 Ar;rw[←u,←x];show am (ae (G n) r) (sd w m)=am (ae (G m) r) (sd w m)/\am (ae (G m) r) (sd w n)=am (ae (G n) r) (sd w n);rw[O];exact⟨rfl,rfl⟩
 ·obtain⟨s,t,C,u,F⟩:=dI o b a j;obtain⟨H,I,J,x,K⟩:=dI o s a t;have L:=d b a j p;have M:=d s a t (by rw[qdC];exact p);have D:=gc (g:=ae (G n) r) (c:=sd w n) (e:=e) (z n) (B n) a;have E:=gc (g:=ae (G m) r) (c:=sd w n) (e:=e) (z m) (B n) a;rw[←u]at D E;constructor
  ·show am (ae (G m) r) (sd w m)=am (ae (G n) r) (sd w n);rw[←D,←L]
  ·show am (ae (G m) r) (AB (sd w m) e)=am (ae (G n) r) (AB (sd w n) e);rw[←u,←x,←E,C,←M]
structure Lys(N:Nat)(img:Nat->Cl)(L:List zR)(hg:Tz):Prop where
 mem:∀c n,n∈A1 L c↔n<N/\img n=c
 hgt:∀c (i:Nat) n,(A1 L c)[i]?=some n->hg n=i
def Lys.srt{N:Nat}{d:Nat->Cl}{L:List zR}{hg:Tz}(h:Lys N d L hg)(c:Cl):(A1 L c).Pairwise λa b=>hg a<hg b:=by
 rw[qby];intro i j e g f;have k:=h.hgt c i _ (A4 e);have l:=h.hgt c j _ (A4 g);omega
theorem Lys.inj{N:Nat}{a:Nat->Cl}{L:List zR}{hg:Tz}(h:Lys N a L hg){n m:Nat}(f:n<N)(e:m<N)(d:a n=a m)(l:hg n=hg m):n=m:=by
 obtain⟨i,c⟩:=Dd ((h.mem (a m) n).2 ⟨f,d⟩);obtain⟨j,b⟩:=Dd ((h.mem (a m) m).2 ⟨e,rfl⟩);have g:=h.hgt _ _ _ c;have k:=h.hgt _ _ _ b;have:i=j:=by omega
 subst this;rw[c]at b;cases b;rfl
def RY{L:List zR}(h:Dy L):L.Pairwise λa b=>AO b.1 a.1=true:=by
 rw[qby];intro i j g f e;obtain⟨d,rfl⟩ : ∃d,j=i+d+1:=⟨j - i - 1,by omega⟩;clear e
 induction d with
 |zero=>exact h i _ _ (A4 g) (A4 f)
 |succ d k=>
  have c:i+d+1<L.length:=by omega
  exact wV (h (i+d+1) _ _ (A4 c) (A4 f)) (k c)
def S7{L:List zR}(h:Dy L){s:zR}(f:s∈L):A1 L s.1=s.2:=by
 obtain⟨i,a⟩:=Dd f;unfold A1;rw[pW a rfl λj d t b e=>?_];have c:=qby.1 (RY h) j i (aq b) (aq a) d;rw[A4 (aq b)]at b;rw[A4 (aq a)]at a;rw[AD b,AD a,e,ij]at c;cases c
def TU{N:Nat}{q:Nat->Cl}{L:List zR}(g:KX N L)(z:ChkR N L 0)(w:zi q L):Lys N q L (Cr N L):=by
 obtain⟨m,o,v⟩ : Dy L/\(bV L).Nodup/\N<=(bV L).length:=by
  rcases z with⟨h,_⟩|⟨h,⟨y,_⟩|⟨r,⟨y,_⟩|⟨_,k⟩⟩⟩
  ·omega
  ·omega
  ·omega
  ·exact⟨h,r,k⟩
 have l:∀n,n<N->n∈bV L:=λn a=>Classical.byContradiction λu=>by
  have r:(n :: bV L).Nodup:=qbU.2 ⟨u,o⟩;have k:∀x∈n :: bV L,x∈List.range N:=λx f=>by
   rw[qad];rcases qar.1 f with rfl|f
   ·exact a
   ·obtain⟨s,b,f⟩:=qa1.1 f;exact(g s b).2.2.2.1 x f
  have:=r.length_le_of_subset k;rw[CT,qc6]at this;omega
 have d:∀c n,n∈A1 L c->∃s∈L,s.1=c/\A1 L c=s.2:=λc n a=>by
  unfold A1 at a ⊢;cases t:L.find? λs=>decide (s.1=c)with
  |none=>rw[t]at a;cases a
  |some s=>
   have k:=List.find?_some t;exact⟨s,qcR t,of_decide_eq_true (p:=s.1=c) k,rfl⟩
 refine⟨λc n=>⟨λa=>?_,λ⟨a,j⟩=>?_⟩,λc i n j=>?_⟩
 ·obtain⟨s,b,rfl,e⟩:=d c n a;rw[e]at a;exact⟨(g s b).2.2.2.1 n a,w s b n a⟩
 ·obtain⟨s,b,f⟩:=qa1.1 (l n a);have:=w s b n f;rw[←j,this,S7 m b];exact f
 ·obtain⟨s,b,rfl,e⟩:=d c n (Af j);rw[e]at j;exact S2 o b j ((g s b).2.2.2.1 n (Af j))
def Vc(w:Nat)(P:TC)(d:Cl)(n k:Nat):Option (Nat×Nat):=if A7 w P n (eK (n%4) k)=d then some (n,eK (n%4) k)else none
def edA(w:Nat)(P:TC)(d:Cl)(n:Nat):List (Nat×Nat):=(List.range 3).filterMap (Vc w P d n)
def AV(w:Nat)(P:TC)(L:List zR)(c d:Cl):List (Nat×Nat):=(A1 L c).flatMap (edA w P d)
def Bv(w v:Nat)(l:Ty)(p:Nat×Nat):Wg:=(p.1,(match Aa w v p.1 p.2 with
 |some m=>Int.ofNat m
 |none=>-1),match Aa w v p.1 p.2 with
 |some m=>B6 l (min p.1 m) p.2
 |none=>0)
def vD{w v:Nat}{l:Ty}{P:TC}{L:List zR}{c d:Cl}:DN w v l P L c d=(AV w P L c d).map (Bv w v l):=by
 unfold DN AV;rw[List.map_flatMap]
 congr 1
 funext n
 unfold CI edA;rw[List.map_filterMap]
 congr 1
 funext k
 unfold KH Vc;by_cases h:am (P n) (AB (sd w n) (eK (n%4) k))=d
 ·rw[mc h,mc (show A7 w P n (eK (n%4) k)=d from h)];rfl
 ·rw[po h,po (show ¬A7 w P n (eK (n%4) k)=d from h)];rfl
section
variable {w v:Nat} {l:Ty} {P:TC} {L:List zR} {hg:Tz} (hE:Eds w v l P) (hL:Lys (4*w*v) (Ar w P) L hg)
include hL in
theorem cT{c d:Cl}{p:Nat×Nat}:p∈AV w P L c d↔p.1<4*w*v/\p.2<3/\Ar w P p.1=c/\A7 w P p.1 p.2=d:=by
 unfold AV;rw[qa1];constructor
 ·rintro⟨n,o,r⟩;obtain⟨k,f,h⟩:=qaG.1 r;unfold Vc at h;split at h
  ·cases h;obtain⟨a,b⟩:=(hL.mem c n).1 o;exact⟨a,fq _ _,b,by assumption⟩
  ·cases h
 ·rintro⟨g,i,j,m⟩;refine⟨p.1,(hL.mem c p.1).2 ⟨g,j⟩,?_⟩;obtain⟨k,f,e⟩:=Jr (q:=p.1%4) p.2 i;refine qaG.2 ⟨k,qad.2 f,?_⟩;unfold Vc;rw[e,mc m]
include hE hL in
theorem oZ{c d:Cl}:(AV w P L c d).Pairwise λp q=>hg p.1<hg q.1:=by
 unfold AV;rw[qdc];constructor
 ·intro n s;unfold edA;rw[UI];refine qcf ?_ (Rt (n:=3));intro a b i r f p e q g;exfalso;unfold Vc at e g;split at e<;>split at g
  next m o=>
   have:=hE.inj ((hL.mem c n).1 s).1 (fq _ _) (fq _ _) (m.trans o.symm);have j:=congrArg (eK (n%4)) this;rw[md (qad.1 i),md (qad.1 r)]at j;omega
  ·cases g
  ·cases e
  ·cases e
 ·refine(hL.srt c).imp ?_;intro a b f p e q g;have i:∀ {n:Nat} {p:Nat×Nat},p∈edA w P d n->p.1=n:=λ{n p} e=>by
   obtain⟨k,t,h⟩:=qaG.1 e;unfold Vc at h;split at h
   ·cases h;rfl
   ·cases h
  rw[i e,i g];exact f
end
def Ai(w:Nat)(P:TC)(p:Nat×Nat):K6:=AX (Ar w P p.1) (A7 w P p.1 p.2)
def MJ(w v:Nat)(l:Ty)(P:TC)(k:K6)(p:Nat×Nat):Option Pq:=if Ai w P p=k then(match Aa w v p.1 p.2 with
 |none=>none
 |some n=>if n<p.1 then none else if jN l (.ofNat (min p.1 n)) (.ofNat p.2)=0 then some (if Bk w P k p.1=0 then(p.1,n)else(n,p.1))else none)else none
def Kv(w v:Nat)(l:Ty)(P:TC)(hg:Tz)(k:K6)(p:Nat×Nat):Option Lq:=if Ai w P p=k then(match Aa w v p.1 p.2 with
 |none=>none
 |some n=>if n<p.1 then none else if jN l (.ofNat (min p.1 n)) (.ofNat p.2)=0 then none else some (if hg p.1<hg n then(Bk w P k p.1,p.1,n)else(Bk w P k p.1,n,p.1)))else none
def ME(w v:Nat)(P:TC)(k:K6)(p:Nat×Nat):To:=if Ai w P p=k then(match Aa w v p.1 p.2 with
 |none=>some p.1
 |some _=>none)else none
def U8{w v:Nat}{l:Ty}{P:TC}{hg:Tz}{p:Nat×Nat}{s:Sm}(d:s.k=Ai w P p):Ce w v l P hg p.1 p.2 s=⟨s.k,s.ps++(MJ w v l P s.k p).toList,s.ls++(Kv w v l P hg s.k p).toList,s.es++(ME w v P s.k p).toList⟩:=by
 unfold Ce MJ Kv ME;simp only[←d,if_true];cases Aa w v p.1 p.2 with
 |none=>simp
 |some n=>
  simp only;by_cases b:n<p.1
  ·simp[b]
  ·simp only[b,if_false];by_cases c:jN l (.ofNat (min p.1 n)) (.ofNat p.2)=0
   ·simp only[c,if_true];by_cases a:Bk w P s.k p.1=0<;>simp[a]
   ·simp only[c,if_false];by_cases a:hg p.1<hg n<;>simp[a]
def SmsP(w v:Nat)(l:Ty)(P:TC)(hg:Tz)(E:List (Nat×Nat))(Q:List Sm):Prop:=
 (Q.map (·.k)).Nodup/\(∀k,k∈Q.map (·.k)↔∃p∈E,Ai w P p=k)/\∀s∈Q,s.ps=E.filterMap (MJ w v l P s.k)/\s.ls=E.filterMap (Kv w v l P hg s.k)/\s.es=E.filterMap (ME w v P s.k)
def SmsP.step{w v:Nat}{l:Ty}{P:TC}{hg:Tz}{E:List (Nat×Nat)}{Q:List Sm}(h:SmsP w v l P hg E Q)(p:Nat×Nat):SmsP w v l P hg (E++[p]) (ir w v l P hg Q p.1 p.2):=by
 obtain⟨C,n,D⟩:=h;have o:AX (Ar w P p.1) (A7 w P p.1 p.2)=Ai w P p:=rfl;unfold ir;rw[o];have r:((fR (Ai w P p) Q).map (·.k)).Nodup/\(∀k,k∈(fR (Ai w P p) Q).map (·.k)↔∃q∈E++[p],Ai w P q=k)/\∀s∈fR (Ai w P p) Q,s.ps=E.filterMap (MJ w v l P s.k)/\s.ls=E.filterMap (Kv w v l P hg s.k)/\s.es=E.filterMap (ME w v P s.k):=by
  unfold fR;by_cases c:Ai w P p∈Q.map (·.k)
  ·rw[mc c];refine⟨C,λk=>⟨λb=>?_,?_⟩,D⟩
   ·obtain⟨q,a,e⟩:=(n k).1 b;exact⟨q,qas.2 (.inl a),e⟩
   ·rintro⟨q,a,rfl⟩;rcases qas.1 a with a|a
    ·exact(n _).2 ⟨q,a,rfl⟩
    ·rw[qav]at a;subst a;exact c
  ·rw[po c];refine⟨?_,λk=>?_,λs d=>?_⟩
   ·rw[Cw,qb0];refine⟨C,by simp,λx G y u e=>?_⟩;have u:y=Ai w P p:=by simpa using u
    subst u e;exact c G
   ·rw[Cw,qas];constructor
    ·rintro(b|b)
     ·obtain⟨q,a,e⟩:=(n k).1 b;exact⟨q,qas.2 (.inl a),e⟩
     ·have b:k=Ai w P p:=by simpa using b
      exact⟨p,by simp,b.symm⟩
    ·rintro⟨q,a,rfl⟩;rcases qas.1 a with a|a
     ·exact .inl ((n _).2 ⟨q,a,rfl⟩)
     ·rw[qav]at a;subst a;exact .inr (by simp)
   ·rcases qas.1 d with d|d
    ·exact D s d
    ·rw[qav]at d;subst d;have i:∀q∈E,Ai w P q≠Ai w P p:=λq a e=>c ((n _).2 ⟨q,a,e⟩);have j:∀ {α:Type} (f:Nat×Nat->Option α),(∀q∈E,f q=none)->([]:List α)=E.filterMap f:=λf F=>(qdF.2 F).symm;refine⟨j _ λq a=>?_,j _ λq a=>?_,j _ λq a=>?_⟩
     ·unfold MJ;rw[po (i q a)]
     ·unfold Kv;rw[po (i q a)]
     ·unfold ME;rw[po (i q a)]
 obtain⟨K,L,M⟩:=r;have AQ:((fR (Ai w P p) Q).map λs=>if s.k=Ai w P p then Ce w v l P hg p.1 p.2 s else s).map (·.k)=(fR (Ai w P p) Q).map (·.k):=by
  rw[D9];refine DV λs _=>?_;simp only[Function.comp];split
  ·rw[U7]
  ·rfl
 refine⟨by rw[AQ];exact K,λk=>by rw[AQ];exact L k,λs d=>?_⟩;obtain⟨t,r,rfl⟩:=qaz.1 d;obtain⟨z,A,B⟩:=M t r;have m:∀ {α:Type} (f:Nat×Nat->Option α),(E++[p]).filterMap f=E.filterMap f++(f p).toList:=λf=>by
  rw[qcr];cases h:f p<;>simp[h]
 by_cases b:t.k=Ai w P p
 ·rw[mc b,U8 b];simp only;rw[m,m,m,←z,←A,←B];exact⟨rfl,rfl,rfl⟩
 ·rw[po b,m,m,m];have g:¬Ai w P p=t.k:=λe=>b e.symm;have H:MJ w v l P t.k p=none:=by unfold MJ;rw[po g]
  have I:Kv w v l P hg t.k p=none:=by unfold Kv;rw[po g]
  have J:ME w v P t.k p=none:=by unfold ME;rw[po g]
  rw[H,I,J];simp only[Option.toList_none,Ci];exact⟨z,A,B⟩
def yf{w v:Nat}{l:Ty}{P:TC}{hg:Tz}(E:List (Nat×Nat)):SmsP w v l P hg E (BI w v l P hg E):=by
 unfold BI;have b:∀(E a:List (Nat×Nat)) (Q:List Sm),SmsP w v l P hg a Q->SmsP w v l P hg (a++E) (E.foldl (λQ p=>ir w v l P hg Q p.1 p.2) Q):=by
  intro E
  induction E with
  |nil=>intro a Q h;rw[Ci];exact h
  |cons p E d=>
   intro a Q h;have:=d (a++[p]) _ (h.step p);rw[AN]at this;exact this
 exact b E [] [] ⟨by simp,λk=>by simp,λs c=>by cases c⟩
def oY{α:Type}{R:α->α->Prop}(c:∀a b,R a b->¬R b a):∀ {i j:List α},i.Pairwise R->j.Pairwise R->(∀x,x∈i↔x∈j)->i=j
 | [],[],_,_,_=>rfl
 | [],b :: j,_,_,h=>by have:=(h b).2 (by simp);cases this
 |a :: i,[],_,_,h=>by have:=(h a).1 (by simp);cases this
 |a :: i,b :: j,k,l,h=>by
  rw[qbb]at k l;have n:a=b:=Classical.byContradiction λd=>by
   rcases qar.1 ((h a).1 (by simp))with e|e
   ·exact d e
   rcases qar.1 ((h b).2 (by simp))with m|m
   ·exact d m.symm
   exact c _ _ (k.1 b m) (l.1 a e)
  subst n
  congr 1
  refine oY c k.2 l.2 λx=>⟨λg=>?_,λg=>?_⟩
  ·rcases qar.1 ((h x).1 (Bo _ g))with rfl|e
   ·exact absurd (k.1 x g) λf=>c _ _ f f
   ·exact e
  ·rcases qar.1 ((h x).2 (Bo _ g))with rfl|e
   ·exact absurd (l.1 x g) λf=>c _ _ f f
   ·exact e
def dp{N:Nat}{p:Nat×Nat}:p∈Bn N 0↔p.1<N/\p.2<3:=by
 unfold Bn;rw[qdY,C7,Ci,qa1];constructor
 ·rintro⟨i,c,h⟩;obtain⟨k,d,rfl⟩:=qaz.1 h;exact⟨qad.1 c,qad.1 d⟩
 ·rintro⟨a,b⟩;exact⟨p.1,qad.2 a,qaz.2 ⟨p.2,qad.2 b,rfl⟩⟩
def KP{N:Nat}:(Bn N 0).Nodup:=by
 unfold Bn;rw[qdY,C7,Ci];unfold List.Nodup;rw[qdc];refine⟨λa _=>?_,(qcT (n:=N)).imp λ{a b} c x d y f e=>?_⟩
 ·rw[qbj];exact(qcT (n:=3)).imp λ{a b} c e=>c (congrArg Prod.snd e)
 ·obtain⟨_,_,rfl⟩:=qaz.1 d;obtain⟨_,_,rfl⟩:=qaz.1 f;exact c (congrArg Prod.fst e)
def Ps(w v:Nat)(l:Ty)(p:Nat×Nat):Option Pq:=match Aa w v p.1 p.2 with
 |some m=>if B6 l (min p.1 m) p.2=0 then some (p.1,m)else none
 |none=>none
def BW(w v:Nat)(l:Ty)(hg:Tz)(a:Nat)(p:Nat×Nat):Option Lq:=match Aa w v p.1 p.2 with
 |some m=>if B6 l (min p.1 m) p.2=0 then none else if hg p.1<hg m then some (a,p.1,m)else none
 |none=>none
def CF(w v:Nat)(p:Nat×Nat):To:=match Aa w v p.1 p.2 with
 |some _=>none
 |none=>some p.1
section
variable {w v:Nat} {l:Ty} {P:TC} {L:List zR} {hg:Tz} {A B:Cl} (hE:Eds w v l P) (hL:Lys (4*w*v) (Ar w P) L hg) (hnd:(l.map bD).Nodup) (hAB:AO B A=true)
include hAB in
theorem Dx:A≠B:=λe=>by
 rw[e,ij]at hAB;cases hAB
include hE in
theorem OB{p:Nat×Nat}(h1:p.1<4*w*v)(a:p.2<3):AO (Ai w P p).2 (Ai w P p).1=true:=by
 unfold Ai AX;by_cases h:AO (Ar w P p.1) (A7 w P p.1 p.2)=true
 ·rw[mc h];exact h
 ·rw[po h];exact nX (qcw.2 h) (hE.ne h1 a)
include hAB in
theorem dG{p:Nat×Nat}:Ai w P p=(A,B)↔(Ar w P p.1=A/\A7 w P p.1 p.2=B)∨(Ar w P p.1=B/\A7 w P p.1 p.2=A):=by
 unfold Ai AX;constructor
 ·intro h;split at h
  ·exact .inr ⟨congrArg Prod.snd h,congrArg Prod.fst h⟩
  ·exact .inl ⟨congrArg Prod.fst h,congrArg Prod.snd h⟩
 ·rintro(⟨a,b⟩|⟨a,b⟩)
  ·rw[a,b,po];intro h;have:=wV h hAB;rw[ij]at this;cases this
  ·rw[a,b,mc hAB]
include hE hAB in
theorem FE{p q:Nat×Nat}(g:p.1<4*w*v)(h:p.2<3)(i:q.2<3)(j:Ai w P p=(A,B))(k:Ai w P q=(A,B))(e:p.1=q.1):p=q:=by
 have a:=Dx hAB;refine DY e (hE.inj g h i ?_);rcases(dG hAB).1 j with⟨d,f⟩|⟨d,f⟩<;>rcases(dG hAB).1 k with⟨b,c⟩|⟨b,c⟩<;>rw[←e]at b c
 ·exact f.trans c.symm
 ·exact absurd (d.symm.trans b) a
 ·exact absurd (b.symm.trans d) a
 ·exact f.trans c.symm
include hL hAB in
theorem qk{p:Nat×Nat}:p∈AV w P L A B++AV w P L B A↔p∈Bn (4*w*v) 0/\Ai w P p=(A,B):=by
 rw[qas,cT hL,cT hL,dp,dG hAB];constructor
 ·rintro(⟨c,d,a,b⟩|⟨c,d,a,b⟩)
  ·exact⟨⟨c,d⟩,.inl ⟨a,b⟩⟩
  ·exact⟨⟨c,d⟩,.inr ⟨a,b⟩⟩
 ·rintro⟨⟨c,d⟩,⟨a,b⟩|⟨a,b⟩⟩
  ·exact .inl ⟨c,d,a,b⟩
  ·exact .inr ⟨c,d,a,b⟩
include hE hL hAB in
theorem Ra:(AV w P L A B++AV w P L B A).Nodup:=by
 rw[qb0];refine⟨(oZ hE hL).imp λ{a b} h e=>?_,(oZ hE hL).imp λ{a b} h e=>?_,λp c q d e=>?_⟩
 ·rw[e]at h;omega
 ·rw[e]at h;omega
 ·subst e;exact Dx hAB (((cT hL).1 c).2.2.1.symm.trans ((cT hL).1 d).2.2.1)
include hE hL hAB in
theorem TQ:(AV w P L A B).length+(AV w P L B A).length=((Bn (4*w*v) 0).filter λp=>decide (Ai w P p=(A,B))).length:=by
 rw[←A5];refine List.Perm.length_eq ((qdx (Ra hE hL hAB) (qcP _ KP)).2 λp=>?_);rw[qk hL hAB,qaN,BF]
include hE hAB in
theorem Uc{α:Type}{f:Nat×Nat->Option α}{g:α->Nat}(c:∀p x,p∈Bn (4*w*v) 0->f p=some x->Ai w P p=(A,B)/\g x=p.1):((Bn (4*w*v) 0).filterMap f).Nodup:=by
 unfold List.Nodup;rw[UI];refine qcf ?_ (KP (N:=4*w*v));intro p q a d b x m y n e;subst e;obtain⟨h,i⟩:=c p x a m;obtain⟨j,k⟩:=c q x d n;exact b (FE hE hAB (dp.1 a).1 (dp.1 a).2 (dp.1 d).2 h j (i.symm.trans k))
def Gm{n:Nat}(h:Ar w P n=A)(a:A≠B):Bk w P (A,B) n=0:=by
 unfold Bk;rw[po];rw[h];exact a
def Gn{n:Nat}(h:Ar w P n=B):Bk w P (A,B) n=1:=by
 unfold Bk;rw[mc h]
include hnd in
theorem mW{p:Nat×Nat}{x:Pq}:MJ w v l P (A,B) p=some x↔Ai w P p=(A,B)/\∃n,Aa w v p.1 p.2=some n/\¬n<p.1/\B6 l (min p.1 n) p.2=0/\x=if Bk w P (A,B) p.1=0 then(p.1,n)else(n,p.1):=by
 unfold MJ;by_cases c:Ai w P p=(A,B)
 ·rw[mc c];cases d:Aa w v p.1 p.2 with
  |none=>simp
  |some n=>
   simp only;by_cases a:n<p.1
   ·rw[mc a];constructor
    ·intro h;cases h
    ·rintro⟨_,m,e,h,_⟩;cases e;exact absurd a h
   rw[po a,FF hnd];by_cases b:B6 l (min p.1 n) p.2=0
   ·rw[mc b];constructor
    ·intro h;cases h;exact⟨c,n,rfl,a,b,rfl⟩
    ·rintro⟨_,m,e,_,_,rfl⟩;cases e;rfl
   ·rw[po b];constructor
    ·intro h;cases h
    ·rintro⟨_,m,e,_,h,_⟩;cases e;exact absurd h b
 ·rw[po c];constructor
  ·intro h;cases h
  ·rintro⟨h,_⟩;exact absurd h c
include hnd in
theorem mP{p:Nat×Nat}{x:Lq}:Kv w v l P hg (A,B) p=some x↔Ai w P p=(A,B)/\∃n,Aa w v p.1 p.2=some n/\¬n<p.1/\B6 l (min p.1 n) p.2≠0/\x=if hg p.1<hg n then(Bk w P (A,B) p.1,p.1,n)else(Bk w P (A,B) p.1,n,p.1):=by
 unfold Kv;by_cases c:Ai w P p=(A,B)
 ·rw[mc c];cases d:Aa w v p.1 p.2 with
  |none=>simp
  |some n=>
   simp only;by_cases a:n<p.1
   ·rw[mc a];constructor
    ·intro h;cases h
    ·rintro⟨_,m,e,h,_⟩;cases e;exact absurd a h
   rw[po a,FF hnd];by_cases b:B6 l (min p.1 n) p.2=0
   ·rw[mc b];constructor
    ·intro h;cases h
    ·rintro⟨_,m,e,_,h,_⟩;cases e;exact absurd b h
   ·rw[po b];constructor
    ·intro h;cases h;exact⟨c,n,rfl,a,b,rfl⟩
    ·rintro⟨_,m,e,_,_,rfl⟩;cases e;rfl
 ·rw[po c];constructor
  ·intro h;cases h
  ·rintro⟨h,_⟩;exact absurd h c
def ry{p:Nat×Nat}{x:Nat}:ME w v P (A,B) p=some x↔Ai w P p=(A,B)/\Aa w v p.1 p.2=none/\x=p.1:=by
 unfold ME;by_cases a:Ai w P p=(A,B)
 ·rw[mc a];cases b:Aa w v p.1 p.2 with
  |none=>simp[a,eq_comm]
  |some n=>simp
 ·rw[po a];simp[a]
def gp{p:Nat×Nat}{x:Pq}:Ps w v l p=some x↔Aa w v p.1 p.2=some x.2/\B6 l (min p.1 x.2) p.2=0/\x.1=p.1:=by
 unfold Ps;cases c:Aa w v p.1 p.2 with
 |none=>simp
 |some m=>
  simp only;by_cases h:B6 l (min p.1 m) p.2=0
  ·rw[mc h];constructor
   ·intro e;cases e;exact⟨rfl,h,rfl⟩
   ·rintro⟨e,_,a⟩;cases e;rw[←a]
  ·rw[po h];constructor
   ·intro e;cases e
   ·rintro⟨e,b,_⟩;cases e;exact absurd b h
def cY{c:Nat}{p:Nat×Nat}{x:Lq}:BW w v l hg c p=some x↔Aa w v p.1 p.2=some x.2.2/\B6 l (min p.1 x.2.2) p.2≠0/\hg p.1<hg x.2.2/\x.1=c/\x.2.1=p.1:=by
 unfold BW;cases f:Aa w v p.1 p.2 with
 |none=>simp
 |some m=>
  simp only;by_cases h:B6 l (min p.1 m) p.2=0
  ·rw[mc h];constructor
   ·intro e;cases e
   ·rintro⟨e,b,_⟩;cases e;exact absurd h b
  ·rw[po h];by_cases a:hg p.1<hg m
   ·rw[mc a];constructor
    ·intro e;cases e;exact⟨rfl,h,a,rfl,rfl⟩
    ·rintro⟨e,_,_,d,e3⟩;cases e;rw[←d,←e3]
   ·rw[po a];constructor
    ·intro e;cases e
    ·rintro⟨e,_,b,_⟩;cases e;exact absurd b a
include hE hL hnd hAB in
theorem T2{x:Pq}:x∈(Bn (4*w*v) 0).filterMap (MJ w v l P (A,B))↔x∈(AV w P L A B).filterMap (Ps w v l):=by
 have i:=Dx hAB;rw[qaG,qaG];constructor
 ·rintro⟨p,o,h⟩;obtain⟨f,b⟩:=dp.1 o;obtain⟨t,n,d,g,c,rfl⟩:=(mW hnd).1 h;obtain⟨q,r,u⟩:=hE.nb f b d;obtain⟨j,k⟩:=hE.flat f b d c;rcases(dG hAB).1 t with⟨a,e⟩|⟨a,e⟩
  ·rw[mc (Gm a i)];exact⟨p,(cT hL).2 ⟨f,b,a,e⟩,gp.2 ⟨d,c,rfl⟩⟩
  ·rw[Gn a,po (by omega)];exact⟨(n,p.2),(cT hL).2 ⟨q,b,j.symm.trans e,k.trans a⟩,gp.2 ⟨r,by rw[qdC];exact c,rfl⟩⟩
 ·rintro⟨p,o,h⟩;obtain⟨f,b,a,e⟩:=(cT hL).1 o;obtain⟨d,c,s⟩:=gp.1 h;obtain⟨y,m⟩:=x;simp only at d c s;subst s;obtain⟨q,r,u⟩:=hE.nb f b d;obtain⟨j,k⟩:=hE.flat f b d c;by_cases g:m<p.1
  ·refine⟨(m,p.2),dp.2 ⟨q,b⟩,(mW hnd).2 ⟨(dG hAB).2 (.inr ⟨j.symm.trans e,k.trans a⟩),p.1,r,by show ¬p.1<m;omega,by rw[qdC];exact c,?_⟩⟩;rw[Gn (j.symm.trans e),po (by omega)]
  ·refine⟨p,dp.2 ⟨f,b⟩,(mW hnd).2 ⟨(dG hAB).2 (.inl ⟨a,e⟩),m,d,g,c,?_⟩⟩;rw[mc (Gm a i)]
include hE hL hnd hAB in
theorem T0{x:Lq}:x∈(Bn (4*w*v) 0).filterMap (Kv w v l P hg (A,B))↔x∈(AV w P L A B).filterMap (BW w v l hg 0)++(AV w P L B A).filterMap (BW w v l hg 1):=by
 have t:=Dx hAB;rw[qas,qaG,qaG,qaG];constructor
 ·rintro⟨p,u,h⟩;obtain⟨c,b⟩:=dp.1 u;obtain⟨J,n,i,r,g,rfl⟩:=(mP hnd).1 h;obtain⟨E,G,N⟩:=hE.nb c b i;obtain⟨j,F⟩:=hE.bent c b i g;have q:¬hg p.1<hg n->hg n<hg p.1:=λh=>by
   have:hg n≠hg p.1:=λe=>N (hL.inj E c j e);omega
  have o:B6 l (min n p.1) p.2≠0:=by rw[qdC];exact g
  rcases(dG hAB).1 J with⟨a,f⟩|⟨a,f⟩
  ·left;rw[Gm a t];by_cases d:hg p.1<hg n
   ·rw[mc d];exact⟨p,(cT hL).2 ⟨c,b,a,f⟩,cY.2 ⟨i,g,d,rfl,rfl⟩⟩
   ·rw[po d];exact⟨(n,p.2),(cT hL).2 ⟨E,b,j.trans a,F.trans f⟩,cY.2 ⟨G,o,q d,rfl,rfl⟩⟩
  ·right;rw[Gn a];by_cases d:hg p.1<hg n
   ·rw[mc d];exact⟨p,(cT hL).2 ⟨c,b,a,f⟩,cY.2 ⟨i,g,d,rfl,rfl⟩⟩
   ·rw[po d];exact⟨(n,p.2),(cT hL).2 ⟨E,b,j.trans a,F.trans f⟩,cY.2 ⟨G,o,q d,rfl,rfl⟩⟩
 ·have k:∀(M:Nat) (p:Nat×Nat),p.1<4*w*v->p.2<3->Ai w P p=(A,B)->(∀n,Ar w P n=Ar w P p.1->Bk w P (A,B) n=M)->BW w v l hg M p=some x->(∀m,Ar w P m=Ar w P p.1->A7 w P m p.2=A7 w P p.1 p.2->Ai w P (m,p.2)=(A,B))->∃p∈Bn (4*w*v) 0,Kv w v l P hg (A,B) p=some x:=by
   intro M p c b J z h K;obtain⟨i,g,d,C,D⟩:=cY.1 h;obtain⟨s,y,m⟩:=x;simp only at i g d C D;subst C D;obtain⟨E,G,N⟩:=hE.nb c b i;obtain⟨j,F⟩:=hE.bent c b i g;by_cases r:m<p.1
   ·refine⟨(m,p.2),dp.2 ⟨E,b⟩,(mP hnd).2 ⟨K m j F,p.1,G,by show ¬p.1<m;omega,by rw[qdC];exact g,?_⟩⟩;rw[po (by show ¬hg m<hg p.1;omega),z m j]
   ·refine⟨p,dp.2 ⟨c,b⟩,(mP hnd).2 ⟨J,m,i,r,g,?_⟩⟩;rw[mc d,z p.1 rfl]
  rintro(⟨p,u,h⟩|⟨p,u,h⟩)
  ·obtain⟨c,b,a,f⟩:=(cT hL).1 u;exact k 0 p c b ((dG hAB).2 (.inl ⟨a,f⟩)) (λn e=>Gm (e.trans a) t) h λm H I=>(dG hAB).2 (.inl ⟨H.trans a,I.trans f⟩)
  ·obtain⟨c,b,a,f⟩:=(cT hL).1 u;exact k 1 p c b ((dG hAB).2 (.inr ⟨a,f⟩)) (λn e=>Gn (e.trans a)) h λm H I=>(dG hAB).2 (.inr ⟨H.trans a,I.trans f⟩)
include hL hAB in
theorem KF{x:Nat}:x∈(Bn (4*w*v) 0).filterMap (ME w v P (A,B))↔x∈(AV w P L A B++AV w P L B A).filterMap (CF w v):=by
 rw[qaG,qaG];have e:∀ {p:Nat×Nat},CF w v p=some x↔Aa w v p.1 p.2=none/\x=p.1:=λ{p}=>by
  unfold CF;cases Aa w v p.1 p.2 with
  |none=>simp[eq_comm]
  |some n=>simp
 constructor
 ·rintro⟨p,f,h⟩;obtain⟨a,b,c⟩:=ry.1 h;exact⟨p,(qk hL hAB).2 ⟨f,a⟩,e.2 ⟨b,c⟩⟩
 ·rintro⟨p,f,h⟩;obtain⟨a,b⟩:=(qk hL hAB).1 f;obtain⟨c,d⟩:=e.1 h;exact⟨p,a,ry.2 ⟨b,c,d⟩⟩
end
structure SmT(w v:Nat)(l:Ty)(P:TC)(L:List zR)(hg:Tz)(s:Sm):Prop where
 ord:AO s.k.2 s.k.1=true
 ne:AV w P L s.k.1 s.k.2++AV w P L s.k.2 s.k.1≠[]
 ps:s.ps=(AV w P L s.k.1 s.k.2).filterMap (Ps w v l)
 ls:s.ls=(AV w P L s.k.1 s.k.2).filterMap (BW w v l hg 0)++(AV w P L s.k.2 s.k.1).filterMap (BW w v l hg 1)
 es:s.es.Pairwise λa b=>a<b
 em:∀n,n∈s.es↔n∈(AV w P L s.k.1 s.k.2++AV w P L s.k.2 s.k.1).filterMap (CF w v)
 el:s.es.length=((AV w P L s.k.1 s.k.2++AV w P L s.k.2 s.k.1).filterMap (CF w v)).length
def LX{w v:Nat}{l:Ty}{P:TC}{L:List zR}{hg:Tz}(t:Eds w v l P)(j:Lys (4*w*v) (Ar w P) L hg)(J:(l.map bD).Nodup){S:List Sm}(hS:OfR hg (BI w v l P hg (Bn (4*w*v) 0)) S){s:Sm}(hs:s∈S):SmT w v l P L hg s:=by
 obtain⟨q,G,hk,pp,pl,T⟩:=hS.el s hs;obtain⟨_,N,V⟩:=yf (w:=w) (v:=v) (l:=l) (P:=P) (hg:=hg) (Bn (4*w*v) 0);obtain⟨q1,q2,q3⟩:=V q G;obtain⟨p0,O,m⟩:=(N q.k).1 (qaz.2 ⟨q,G,rfl⟩);rw[hk]at q1 q2 q3 m;rw[q1]at pp;rw[q2]at pl;rw[q3]at T;have Y:=hS.op s hs;have X:=hS.ol s hs;have W:=hS.oe s hs;obtain⟨⟨A,B⟩,ps,ls,es⟩:=s;simp only at m pp pl T Y X W ⊢;have c:AO B A=true:=by
  have:=OB t (dp.1 O).1 (dp.1 O).2;rw[m]at this;exact this
 have aE:=Dx c;have n1:ps.Nodup:=pp.nodup_iff.2 (Uc t c (g:=λx=>min x.1 x.2) λp x o h=>by
  obtain⟨a,n,hn,ar,_,rfl⟩:=(mW J).1 h;refine⟨a,?_⟩;split<;>simp only<;>omega)
 have n2:ls.Nodup:=pl.nodup_iff.2 (Uc t c (g:=λx=>min x.2.1 x.2.2) λp x o h=>by
  obtain⟨a,n,hn,ar,_,rfl⟩:=(mP J).1 h;refine⟨a,?_⟩;split<;>simp only<;>omega)
 have n3:es.Nodup:=T.nodup_iff.2 (Uc t c (g:=id) λp x o h=>by
  obtain⟨a,_,rfl⟩:=ry.1 h;exact⟨a,rfl⟩)
 have ag:∀ {p q:Nat×Nat} {C D:Cl},p∈AV w P L C D->q∈AV w P L C D->hg p.1=hg q.1->p=q:=λ{p q C D} o G e=>by
  obtain⟨H,U,a3,F⟩:=(cT j).1 o;obtain⟨b1,b2,b3,Q⟩:=(cT j).1 G;have e1:=j.inj H b1 (a3.trans b3.symm) e;refine DY e1 (t.inj H U b2 ?_);rw[F,e1,Q]
 refine⟨c,?_,?_,?_,?_,?_,?_⟩
 ·exact List.ne_nil_of_mem ((qk j c).2 ⟨O,m⟩)
 ·have d:∀x,x∈ps↔x∈(AV w P L A B).filterMap (Ps w v l):=λx=>pp.mem_iff.trans (T2 t j J c);refine oY (R:=λx y=>hg x.1<hg y.1) (λa b I M=>by omega) ?_ ?_ d
  ·refine qcf ?_ (Y.and n1);rintro x y i r ⟨I,M⟩;refine Nat.lt_of_le_of_ne (Nat.le_of_not_lt I) λe=>M ?_;obtain⟨p,o,f⟩:=qaG.1 ((d x).1 i);obtain⟨q,G,E⟩:=qaG.1 ((d y).1 r);have e1:=(gp.1 f).2.2;have e2:=(gp.1 E).2.2;rw[e1,e2]at e;have:=ag o G e;subst this;rw[f]at E;exact AD E
  ·rw[UI];refine(oZ t j).imp ?_;intro p q h x i y r;rw[(gp.1 i).2.2,(gp.1 r).2.2];exact h
 ·have d:∀x,x∈ls↔x∈(AV w P L A B).filterMap (BW w v l hg 0)++(AV w P L B A).filterMap (BW w v l hg 1):=λx=>pl.mem_iff.trans (T0 t j J c);have u:∀x,x∈ls->∃p C D,p∈AV w P L C D/\(x.1=0/\C=A/\D=B∨x.1=1/\C=B/\D=A)/\x.2.1=p.1/\Aa w v p.1 p.2=some x.2.2:=λx i=>by
   rcases qas.1 ((d x).1 i)with h|h
   ·obtain⟨p,o,f⟩:=qaG.1 h;obtain⟨H,U,a3,F,K⟩:=cY.1 f;exact⟨p,A,B,o,.inl ⟨F,rfl,rfl⟩,K,H⟩
   ·obtain⟨p,o,f⟩:=qaG.1 h;obtain⟨H,U,a3,F,K⟩:=cY.1 f;exact⟨p,B,A,o,.inr ⟨F,rfl,rfl⟩,K,H⟩
  refine oY (R:=λx y=>x.1<y.1∨(x.1=y.1/\hg x.2.1<hg y.2.1)) (λa b I M=>by omega) ?_ ?_ d
  ·refine qcf ?_ (X.and n2);rintro x y i r ⟨I,M⟩;refine Classical.byContradiction λa0=>M ?_;have e0:x.1=y.1/\hg x.2.1=hg y.2.1:=by omega
   obtain⟨p,C,D,o,hc,Z,ay⟩:=u x i;obtain⟨q,C',D',G,ap,ad,af⟩:=u y r;have an:C=C'/\D=D':=by
    rcases hc with⟨z,rfl,rfl⟩|⟨z,rfl,rfl⟩<;>rcases ap with⟨z',rfl,rfl⟩|⟨z',rfl,rfl⟩
    ·exact⟨rfl,rfl⟩
    ·omega
    ·omega
    ·exact⟨rfl,rfl⟩
   obtain⟨rfl,rfl⟩:=an;have:=ag o G (by rw[←Z,←ad];exact e0.2);subst this;rw[ay]at af;exact DY e0.1 (DY (Z.trans ad.symm) (AD af))
  ·rw[UE];refine⟨?_,?_,?_⟩
   ·rw[UI];refine(oZ t j).imp ?_;intro p q h x i y r;obtain⟨_,_,_,F,K⟩:=cY.1 i;obtain⟨_,_,_,Q,b5⟩:=cY.1 r;exact .inr ⟨F.trans Q.symm,by rw[K,b5];exact h⟩
   ·rw[UI];refine(oZ t j).imp ?_;intro p q h x i y r;obtain⟨_,_,_,F,K⟩:=cY.1 i;obtain⟨_,_,_,Q,b5⟩:=cY.1 r;exact .inr ⟨F.trans Q.symm,by rw[K,b5];exact h⟩
   ·intro x i y r;obtain⟨p,_,f⟩:=qaG.1 i;obtain⟨q,_,E⟩:=qaG.1 r;obtain⟨_,_,_,F,K⟩:=cY.1 f;obtain⟨_,_,_,Q,b5⟩:=cY.1 E;left;omega
 ·refine(W.and n3).imp ?_;rintro a b ⟨I,M⟩;exact Nat.lt_of_le_of_ne I M
 ·exact λn=>T.mem_iff.trans (KF j c)
 ·rw[T.length_eq];refine List.Perm.length_eq ((qdx (T.nodup_iff.1 n3) ?_).2 λx=>KF j c);unfold List.Nodup;rw[UI];refine qcf ?_ (Ra t j c);intro p q o G ax x i y r e;subst e;have I:∀ {p:Nat×Nat},CF w v p=some x->x=p.1:=λ{p} h=>by
   unfold CF at h;split at h
   ·cases h
   ·cases h;rfl
  obtain⟨H,U⟩:=(qk j c).1 o;obtain⟨b1,b2⟩:=(qk j c).1 G;exact ax (FE t c (dp.1 H).1 (dp.1 H).2 (dp.1 b1).2 U b2 ((I i).symm.trans (I r)))
def uP{α β:Type} [DecidableEq β]{f:α->β}{K:List β}(a:K.Nodup):∀ {E:List α},(∀p∈E,f p∈K)->(K.map λk=>(E.filter λp=>decide (f p=k)).length).sum=E.length
 | [],_=>by
  simp only[qds,UP]
  induction K with
  |nil=>rfl
  |cons k K b=>rw[AL,qd6,b (qbU.1 a).2 λp h=>by cases h]
 |p :: E,h=>by
  have b:=uP a (E:=E) λq i=>h q (Bo _ i);rw[CT,←b];have d:=h p (by simp);clear b h
  induction K with
  |nil=>cases d
  |cons k K c=>
   rw[qbU]at a;rw[AL,qd6,AL,qd6,ML];by_cases e:f p=k
   ·subst e;rw[Bp rfl,mc rfl,CT];have:(K.map λk=>((p :: E).filter λp=>decide (f p=k)).length)=K.map λk=>(E.filter λp=>decide (f p=k)).length:=DV λk g=>by
     rw[ML,BV (λe=>a.1 (by rw[e];exact g)),po (by simp)]
    rw[this];omega
   ·rw[BV e,po (by simp),c a.2 ((qar.1 d).resolve_left e)];omega
def LY{w v:Nat}{l:Ty}{P:TC}{L:List zR}{hg:Tz}(g:Eds w v l P)(h:Lys (4*w*v) (Ar w P) L hg)(d:(l.map bD).Nodup){S:List Sm}(c:OfR hg (BI w v l P hg (Bn (4*w*v) 0)) S) :
  (S.map λs=>(AV w P L s.k.1 s.k.2).length+(AV w P L s.k.2 s.k.1).length).sum=3*(4*w*v):=by
 obtain⟨f,a,_⟩:=yf (w:=w) (v:=v) (l:=l) (P:=P) (hg:=hg) (Bn (4*w*v) 0);have i:S.map (λs=>(AV w P L s.k.1 s.k.2).length+(AV w P L s.k.2 s.k.1).length)=(S.map (·.k)).map λk=>((Bn (4*w*v) 0).filter λp=>decide (Ai w P p=k)).length:=by
  rw[D9];exact DV λs m=>TQ g h (LX g h d c m).ord
 rw[i,uP (c.ks.nodup_iff.2 f) λp j=>c.ks.mem_iff.2 ((a _).2 ⟨p,j,rfl⟩)];have b:∀n,(Bn n 0).length=3*n:=by
  intro n
  induction n with
  |zero=>rfl
  |succ n o=>
   rw[xU];have e:Bn n 3=Bn n 0++[(n,0),(n,1),(n,2)]:=by
    rw[vU,vU,vU];simp
   rw[e,A5,o];simp;omega
 exact b _
def Vb(l:List Wg)(id:Int):Int:=match l.findIdx? λa=>decide (Int.ofNat a.1=id)with
 |some i=>Int.ofNat i
 |none=>-1
def yP{H:HL}{x:Value}{l:Tx}(d:LsH H x 1 km l)(p:l.length<=1000000){i n:Nat}(f:l[i]?=some n)(k:∀j,l[j]?=some n->j=i):aD cc ab 40 [.v x,.i (Int.ofNat n)] (ka aa H) [.i (Int.ofNat i)] (ka aa H):=by
 exact xK x40 (rv d.good (kx ub)) (by
  unfold f40;simp only[xp];refine jw ?_;refine eo i (λ_=>True) (j0:=0) rfl (AM _) trivial ?_;intro j o _ g b;refine jw ?_;refine br d ?_;have m:=aq f;rw[aJ (by omega)];refine jw ?_;obtain⟨a,c⟩:=aL (l:=l) (i:=j) (by omega);refine aQ d rfl c ?_;rw[show km a=[.int .i64 (Int.ofNat a)]from rfl];refine jw ?_;by_cases e:a=n
  ·subst e;rw[zT rfl];refine jw ?_;rw[k j c];trivial
  ·rw[zO (λh=>e (Dn h))];refine jw ?_;rw[aS (by omega)];refine b ?_ trivial;rcases Bi j i with h|h
   ·exact h
   ·have:j=i:=by omega
    subst this;rw[f]at c;cases c;exact absurd rfl e)
def nj{a b:Cl}:Cc 12 (Ab a++Ab b) [.i (if AO a b then 1 else 0)]:=by
 obtain⟨x,y,q⟩:=a;obtain⟨d,f,c⟩:=b;refine q12 rfl ?_;unfold Yh;simp only[xp];simp only[Ab,Aw,Ap];refine jw ?_;have m:(Int.ofNat c<Int.ofNat q)↔c<q:=qcd;by_cases k:f<y
 ·rw[Ad k];refine jw ?_;rw[show AO (x,y,q) (d,f,c)=true from Bp (.inl k)];rfl
 rw[zU (by omega)];refine jw ?_;by_cases g:y=f
 case neg=>
  rw[zO g];refine jw ?_;rw[show AO (x,y,q) (d,f,c)=false from BV (by simp only;omega)];rfl
 rw[zT g];refine jw ?_;by_cases l:d<x
 ·rw[Ad l];refine jw ?_;rw[show AO (x,y,q) (d,f,c)=true from Bp (.inr ⟨g,.inl l⟩)];rfl
 rw[zU (by omega)];refine jw ?_;by_cases h:x=d
 case neg=>
  rw[zO h];refine jw ?_;rw[show AO (x,y,q) (d,f,c)=false from BV (by simp only;omega)];rfl
 rw[zT h];refine jw ?_;by_cases j:c<q
 ·rw[Ad (m.2 j)];refine jw ?_;rw[show AO (x,y,q) (d,f,c)=true from Bp (.inr ⟨g,.inr ⟨h,j⟩⟩)];rfl
 rw[zU (Int.not_lt.1 λe=>j (m.1 e))];refine jw ?_;rw[show AO (x,y,q) (d,f,c)=false from BV (by simp only;omega)];rfl
def wR{α β:Type}{f:α->Option β}{N:List α}{i:Nat}{p:α}{y:β}(a:N[i]?=some p)(c:f p=some y):(N.filterMap f)[((N.take i).filterMap f).length]?=some y:=by
 have h:N=N.take i++p :: N.drop (i+1):=by
  have b:=aq a;rw[A4 b]at a;rw[←AD a,List.getElem_cons_drop,Iu]
 have e:N.filterMap f=(N.take i).filterMap f++y :: (N.drop (i+1)).filterMap f:=by
  conv=>lhs;rw[h]
  rw[qcr,List.filterMap_cons,c]
 rw[e,Cd (zY _),F8];rfl
def vr{α β:Type}{f:α->Option β}{N:List α}{i:Nat}{p:α}(a:N[i]?=some p):((N.take (i+1)).filterMap f).length=((N.take i).filterMap f).length+(f p).toList.length:=by
 rw[Dm,a,qcr,A5];cases h:f p<;>simp[h]
def CO(w v:Nat)(l:Ty)(a:Nat)(p:Nat×Nat):Option Pq:=if a=0 then Ps w v l p else none
def U6(w v:Nat)(l:Ty)(hg:Tz)(M a:List (Nat×Nat)):Nat->Nat×Nat×Nat
 |0=>(0,0,0)
 |1=>((M.filterMap (CF w v)).length,(M.filterMap (CO w v l 0)).length,(M.filterMap (BW w v l hg 0)).length)
 |_=>((M.filterMap (CF w v)).length+(a.filterMap (CF w v)).length,(M.filterMap (CO w v l 0)).length+(a.filterMap (CO w v l 1)).length,(M.filterMap (BW w v l hg 0)).length+(a.filterMap (BW w v l hg 1)).length)
theorem B2{α β:Type}{f:α->Option β}{N:List α}:(N.filterMap f).length<=N.length:=qcW _ _
def G1{w v:Nat}{l:Ty}{P:TC}{L:List zR}{hg:Tz}(hE:Eds w v l P)(hL:Lys (4*w*v) (Ar w P) L hg)(hN:4*w*v<=100){H:HL}{x xl:Value}(hx:StL H x L)(bd:L.length<=1000)(bt:aB xl=true){s:Sm}(hT:SmT w v l P L hg s){v1 v2 v3 xa xb:Value}(h1:LsH H v1 2 gX s.ps)(h2:LsH H v2 3 gW s.ls)(h3:LsH H v3 1 km s.es)
  (ha:LsH H xa 3 Eo (DN w v l P L s.k.1 s.k.2)) (hb:LsH H xb 3 Eo (DN w v l P L s.k.2 s.k.1)) (ar:(AV w P L s.k.1 s.k.2).length<=1000) (ax:(AV w P L s.k.2 s.k.1).length<=1000) {r:Mv} :
  aD cc ab 11 (Ab s.k.1++Ab s.k.2++[.v v1,.v v2,.v v3,.i (.ofNat w),.i (.ofNat v),.v xl]++Al r++[.v x,.v xa,.v xb]) (ka aa H) [.i 0] (ka aa H):=by
 obtain⟨⟨A,B⟩,ps,ls,U⟩:=s;simp only at h1 h2 h3 ha hb ar ax ⊢;have bx:aB x=true:=by
  obtain⟨M,hM,_⟩:=hx;exact hM.good
 have ad:=hT.ps;have J:=hT.ls;have R:=hT.em;have Q:=hT.el;have a7:=hT.es;simp only at ad J R Q a7;rw[vD]at ha hb;obtain⟨M,hM⟩ : ∃M,AV w P L A B=M:=⟨_,rfl⟩;obtain⟨S,ag⟩ : ∃M,AV w P L B A=M:=⟨_,rfl⟩;have mM:∀p∈M,p.1<4*w*v/\p.2<3/\Ar w P p.1=A:=λp u=>by
  rw[←hM]at u;have:=(cT hL).1 u;exact⟨this.1,this.2.1,this.2.2.1⟩
 have b1:∀p∈S,p.1<4*w*v/\p.2<3/\Ar w P p.1=B:=λp u=>by
  rw[←ag]at u;have:=(cT hL).1 u;exact⟨this.1,this.2.1,this.2.2.1⟩
 rw[hM]at ad J R Q ha ar;rw[ag]at J R Q hb ax;rw[qcr,A5]at Q;clear hT hM ag;have n1:ps.length=(M.filterMap (CO w v l 0)).length+(S.filterMap (CO w v l 1)).length:=by
  have T:S.filterMap (CO w v l 1)=[]:=qdF.2 λp _=>rfl;rw[T,ad];rfl
 have n2:ls.length=(M.filterMap (BW w v l hg 0)).length+(S.filterMap (BW w v l hg 1)).length:=by rw[J,A5]
 have k1:=@B2 _ _ (CF w v) M;have k2:=@B2 _ _ (CF w v) S;have k3:=@B2 _ _ (CO w v l 0) M;have k4:=@B2 _ _ (CO w v l 1) S;have k5:=@B2 _ _ (BW w v l hg 0) M;have k6:=@B2 _ _ (BW w v l hg 1) S;exact xK x11 (by
  simp only[Ab,Al,Aw,Ap];exact kx (kx (kx (kx (kx (kx (rv h1.good (rv h2.good (rv h3.good (kx (kx (rv bt (kx (kx (kx (rv bx (rv ha.good (rv hb.good ub)))))))))))))))))) (by
  unfold f11;simp only[xp];simp only[Ab,Al,Aw,Ap];refine jw ?_;refine aR (σ:=Nat×Nat×Nat) 2 (λj t=>[.i (Int.ofNat t.1),.i 0,.i (Int.ofNat t.2.1),.i (Int.ofNat t.2.2),.i (Int.ofNat j)]) (λ_ _=>H) (λj t=>t=U6 w v l hg M S j) (j0:=0) (s0:=(0,0,0)) rfl rfl (AM _) rfl ?_;rintro d ⟨e0,p0,l0⟩ b5 ht a6 q;simp only;refine jw ?_;by_cases b0:d<2
  case neg=>
   obtain rfl:d=2:=by omega
   rw[zQ (show(2:Int)<=Int.ofNat 2 from HZ _)];refine jw ?_;have t1:e0=U.length:=(congrArg Prod.fst ht).trans Q.symm;have t2:p0=ps.length:=(congrArg (λt=>t.2.1) ht).trans n1.symm;have t3:l0=ls.length:=(congrArg (λt=>t.2.2) ht).trans n2.symm;subst t1 t2 t3;refine br h1 ?_;rw[Aj rfl];refine jw ?_;refine br h2 ?_;rw[Aj rfl];refine jw ?_;refine br h3 ?_;rw[Aj rfl];refine cO ?_;refine jw ?_;clear q;refine aR (σ:=Unit) (max 1 U.length) (λj _=>[.i 0,.i (Int.ofNat j)]) (λ_ _=>H) (λj _=>1<=j) (j0:=1) (s0:=()) rfl rfl (Vp _ _) (zY _) ?_;rintro j _ hj bP a6 q;refine jw ?_;refine br h3 ?_;by_cases C:j<U.length
   case neg=>
    rw[aM (by omega)];simp(disch:=omega)only[↓my];trivial
   rw[aJ C];refine jw ?_;rw[gf bP (by omega)];obtain⟨a,an⟩:=aL (l:=U) (i:=j - 1) (by omega);obtain⟨b,D⟩:=aL (l:=U) (i:=j) C;have bs:a<b:=by
    have:=qby.1 a7 (j - 1) j (by omega) C (by omega);rw[A4 (by omega)]at an;rw[A4 C]at D;rw[←AD an,←AD D];exact this
   refine aQ h3 rfl an ?_;rw[show km a=[.int .i64 (Int.ofNat a)]from rfl];refine jw ?_;refine aQ h3 rfl D ?_;rw[show km b=[.int .i64 (Int.ofNat b)]from rfl];refine jw ?_;rw[AY (show Int.ofNat a<Int.ofNat b from qcd.2 bs)];refine cO ?_;refine jw ?_;rw[aS (by omega)];exact q () (by omega) (by omega)
  obtain⟨z,N,c,ap,bX,af,K,b3,bl,a9,bm,be,bS,b4⟩ : ∃(z:Value) (N:List (Nat×Nat)) (c:Cl),BM 2 (Int.ofNat d)=some ()/\iW [.v xa,.v xb] 0 [(Int.ofNat d,1)] 1=some [.v z]/\iW [.i A.1,.i A.2.1,.i (Int.ofNat A.2.2),.i B.1,.i B.2.1,.i (Int.ofNat B.2.2)] 0 [(Int.ofNat d,3)] 3=some [.i c.1,.i c.2.1,.i (Int.ofNat c.2.2)]/\
    LsH H z 3 Eo (N.map (Bv w v l))/\N.length<=1000/\(∀p∈N,p.1<4*w*v/\p.2<3/\Ar w P p.1=c)/\(∀p∈N,∀n,CF w v p=some n->n∈U)/\
    (∀(i:Nat) p y,N[i]?=some p->CO w v l d p=some y->ps[p0+((N.take i).filterMap (CO w v l d)).length]?=some y)/\
    (∀(i:Nat) p y,N[i]?=some p->BW w v l hg d p=some y->ls[l0+((N.take i).filterMap (BW w v l hg d)).length]?=some y)/\
    (e0+(N.filterMap (CF w v)).length,p0+(N.filterMap (CO w v l d)).length,l0+(N.filterMap (BW w v l hg d)).length)=U6 w v l hg M S (d+1)/\e0<=1000/\p0<=1000/\l0<=1000:=by
   obtain rfl|rfl:d=0∨d=1:=by omega
   ·cases ht;refine⟨xa,M,A,rfl,rfl,rfl,ha,ar,mM,λp u n hn=>(R n).2 (qaG.2 ⟨p,qas.2 (.inl u),hn⟩),λi p y hi I=>?_,λi p y hi I=>?_,?_,by omega,by omega,by omega⟩
    ·rw[Br,ad];exact wR (f:=CO w v l 0) hi I
    ·rw[Br,J,BE (aq (wR hi I))];exact wR hi I
    ·simp only[Br,U6]
   ·cases ht;refine⟨xb,S,B,rfl,rfl,rfl,hb,ax,b1,λp u n hn=>(R n).2 (qaG.2 ⟨p,qas.2 (.inr u),hn⟩),λi p y hi I=>?_,λi p y hi I=>?_,rfl,by omega,by omega,by omega⟩
    ·cases I
    ·rw[J,Cd (qdR _ _),qcF];exact wR hi I
  rw[zV (show Int.ofNat d<2 by show(d:Int)<2;omega)];refine jw ?_;refine ah ap ?_;refine ah bX ?_;refine jw ?_;refine aR (σ:=Nat×Nat×Nat) N.length (λi t=>[.i (Int.ofNat t.1),.i 0,.i (Int.ofNat t.2.1),.i (Int.ofNat t.2.2),.i (Int.ofNat i)]) (λ_ _=>H) (λi t=>t=(e0+((N.take i).filterMap (CF w v)).length,p0+((N.take i).filterMap (CO w v l d)).length,l0+((N.take i).filterMap (BW w v l hg d)).length)) (j0:=0) (s0:=(e0,p0,l0)) rfl rfl (AM _) rfl ?_;rintro i ⟨T,p1,l1⟩ hi Z ay Y;simp only;refine jw ?_;refine br K ?_;rw[AZ];by_cases C:i<N.length
  case neg=>
   rw[aM (by omega)];refine jw ?_;rw[aS (by omega)];refine q (T,p1,l1) b0 ?_;rw[Z,←bS,Cg (by omega)]
  rw[aJ C];refine jw ?_;obtain⟨p,u⟩:=aL C;have o:(N.map (Bv w v l))[i]?=some (Bv w v l p):=by rw[AU,u];rfl
  have E:=bl p (Af u);have q1:=@B2 _ _ (CF w v) (N.take i);have q2:=@B2 _ _ (CO w v l d) (N.take i);have q3:=@B2 _ _ (BW w v l hg d) (N.take i);have q4:(N.take i).length<=1000:=by rw[BN];omega
  have u1:T=e0+((N.take i).filterMap (CF w v)).length:=congrArg Prod.fst Z;have u2:p1=p0+((N.take i).filterMap (CO w v l d)).length:=congrArg (λt=>t.2.1) Z;have u3:l1=l0+((N.take i).filterMap (BW w v l hg d)).length:=congrArg (λt=>t.2.2) Z;have s1:=vr (f:=CF w v) u;have s2:=vr (f:=CO w v l d) u;have s3:=vr (f:=BW w v l hg d) u;have a8:=a9 p (Af u);have a0:=bm i p;have aE:=be i p;rw[←u2]at a0;rw[←u3]at aE;have O:∀(a b c:Nat),a=T+(CF w v p).toList.length->b=p1+(CO w v l d p).toList.length->c=l1+(BW w v l hg d p).toList.length->ay [.i (Int.ofNat a),.i 0,.i (Int.ofNat b),.i (Int.ofNat c),.i (Int.ofNat i+1)] H:=λa b c ea eb ec=>Y (a,b,c) C (by
   rw[s1,s2,s3,ea,eb,ec,u1,u2,u3,EK,EK,EK])
  refine bB (cs:=[.int .i64 (Bv w v l p).2.1]) K rfl o rfl (by omega) ?_;refine jw ?_;cases g:Aa w v p.1 p.2 with
  |none=>
   have w1:CF w v p=some p.1:=by unfold CF;rw[g]
   have V:CO w v l d p=none:=by unfold CO Ps;rw[g];split<;>rfl
   have W:BW w v l hg d p=none:=by unfold BW;rw[g]
   have w4:(Bv w v l p).2.1 = -1:=by unfold Bv;simp only[g]
   rw[w4,zV (by decide)];refine cO ?_;refine jw ?_;rw[aS (by omega)];have a4:=a8 _ w1;refine aR (σ:=Nat) U.length (λj f=>[.i (Int.ofNat f),.i (Int.ofNat j)]) (λ_ _=>H) (λj f=>f=if p.1∈U.take j then 1 else 0) (j0:=0) (s0:=0) rfl rfl (AM _) (by simp) ?_;rintro j f hj hf b2 G;refine jw ?_;refine br h3 ?_;by_cases F:j<U.length
   case neg=>
    rw[aM (by omega)];refine jw ?_;rw[Cg (by omega),mc a4]at hf;subst hf;rw[F4 (by decide) (by decide),show(1 - Int.ofNat 1:Int)=0 from rfl];simp(disch:=omega)only[↓my]
    try rw[aS (by omega)]
    exact O (T+1) p1 l1 (by rw[w1];rfl) (by rw[V];rfl) (by rw[W];rfl)
   rw[aJ F];refine jw ?_;obtain⟨b,D⟩:=aL (l:=U) (i:=j) F;refine aQ h3 rfl D ?_;rw[show km b=[.int .i64 (Int.ofNat b)]from rfl];refine jw ?_;refine bB (cs:=[.int .i64 (Int.ofNat p.1)]) K rfl o rfl (by omega) ?_;refine jw ?_;by_cases e:b=p.1
   ·rw[zT (congrArg Int.ofNat e)];refine cO ?_;refine jw ?_;rw[aS (by omega)];refine G 1 F ?_;rw[mc];rw[Dm,D,e];simp
   ·rw[zO (λh=>e (Dn h))];refine cO ?_;refine jw ?_;rw[aS (by omega)];refine G f F ?_;rw[hf,Dm,D];simp[BO e]
  |some m=>
   have w1:CF w v p=none:=by unfold CF;rw[g]
   have w4:(Bv w v l p).2.1=Int.ofNat m:=by unfold Bv;simp only[g]
   have w5:(Bv w v l p).2.2=B6 l (min p.1 m) p.2:=by unfold Bv;simp only[g]
   have w6:(Bv w v l p).1=p.1:=rfl;rw[w4,zQ (show(0:Int)<=Int.ofNat m from Cb m)];refine cO ?_;refine jw ?_;refine bB (cs:=[.int .u8 (Bv w v l p).2.2]) K rfl o rfl (by omega) ?_;refine jw ?_;rw[w5];by_cases X:B6 l (min p.1 m) p.2=0
   ·have W:BW w v l hg d p=none:=by unfold BW;rw[g];simp only;rw[mc X]
    have V:CO w v l d p=if d=0 then some (p.1,m)else none:=by unfold CO Ps;rw[g];simp only;rw[mc X]
    rw[zT X];refine jw ?_;by_cases h0:d=0
    ·rw[mc h0]at V;rw[zT (show Int.ofNat d=0 by rw[h0];rfl)];refine cO ?_;refine jw ?_;have I:=a0 _ u V;refine br h1 ?_;rw[AY (show Int.ofNat p1<Int.ofNat ps.length from qcd.2 (aq I))];refine jw ?_;refine aQ h1 rfl I ?_;rw[show gX (p.1,m)=[.int .i64 (Int.ofNat p.1),.int .i64 (Int.ofNat m)]from rfl];refine jw ?_;refine bB (cs:=[.int .i64 (Int.ofNat p.1)]) K rfl o rfl (by omega) ?_;refine jw ?_;refine bB (cs:=[.int .i64 (Bv w v l p).2.1]) K rfl o rfl (by omega) ?_;simp(disch:=omega)only[↓my]
     try rw[w4]
     try simp(disch:=omega)only[↓my]
     try refine cO ?_
     simp(disch:=omega)only[↓my,Bs]
     repeat (first|rw[aS (by omega)]|simp(disch:=omega)only[↓my])
     exact O T (p1+1) l1 (by rw[w1];rfl) (by rw[V];rfl) (by rw[W];rfl)
    ·rw[po h0]at V;rw[zO (show Int.ofNat d≠0 by show(d:Int)≠0;omega)];refine cO ?_;refine jw ?_;refine bB (cs:=[.int .u8 (Bv w v l p).2.2]) K rfl o rfl (by omega) ?_;simp(disch:=omega)only[↓my]
     try rw[w5,Aj X]
     refine qs ?_;rw[aS (by omega)];exact O T p1 l1 (by rw[w1];rfl) (by rw[V];rfl) (by rw[W];rfl)
   ·have V:CO w v l d p=none:=by unfold CO Ps;rw[g];simp only;rw[po X];split<;>rfl
    have W:BW w v l hg d p=if hg p.1<hg m then some (d,p.1,m)else none:=by unfold BW;rw[g];simp only;rw[po X]
    obtain⟨m1,m2,m3⟩:=hE.nb E.1 E.2.1 g;obtain⟨f1,f2⟩:=hE.bent E.1 E.2.1 g X;rw[zO X];refine jw ?_;refine bB (cs:=[.int .u8 (Bv w v l p).2.2]) K rfl o rfl (by omega) ?_;simp(disch:=omega)only[↓my]
    try rw[w5,AR X]
    refine qs ?_;obtain⟨y,cy,gy,I⟩:=ug hx bd c;have bn:(A1 L c).length<=1000000:=by
     have h1:(A1 L c).Nodup:=(hL.srt c).imp λ{a b} h e=>by rw[e]at h;omega
     have:=h1.length_le_of_subset (l₂:=List.range (4*w*v)) λn hn=>qad.2 ((hL.mem c n).1 hn).1;rw[qc6]at this;omega
    have a3:∀n,n<4*w*v->Ar w P n=c->aD cc ab 40 [.v y,.i (Int.ofNat n)] (ka aa H) [.i (Int.ofNat (hg n))] (ka aa H):=λn hn hc=>by
     obtain⟨j,hj⟩:=Dd ((hL.mem c n).2 ⟨hn,hc⟩);have:=hL.hgt c j n hj;subst this;exact yP I bn hj λj' bI=>(hL.hgt c j' n bI).symm
    have a1:=a3 p.1 E.1 E.2.2;have a2:=a3 m m1 (f1.trans E.2.2);simp only[Ab,Aw,Ap]at cy;refine ah ap ?_;refine ah af ?_;refine jw ?_;refine al cy ?_;refine jw ?_;refine bB (cs:=[.int .i64 (Int.ofNat p.1)]) K rfl o rfl (by omega) ?_;refine jw ?_;refine al a1 ?_;refine jw ?_;refine ah ap ?_;refine ah af ?_;refine jw ?_;refine al cy ?_;refine jw ?_;refine bB (cs:=[.int .i64 (Bv w v l p).2.1]) K rfl o rfl (by omega) ?_;refine jw ?_;rw[w4];refine al a2 ?_;refine jw ?_;by_cases hh:hg p.1<hg m
    ·rw[mc hh]at W;have a5:=aE _ u W;rw[aJ hh];refine cO ?_;refine jw ?_;refine br h2 ?_;rw[AY (show Int.ofNat l1<Int.ofNat ls.length from qcd.2 (aq a5))];refine jw ?_;refine aQ h2 rfl a5 ?_;rw[show gW (d,p.1,m)=[.int .u8 (Int.ofNat d),.int .i64 (Int.ofNat p.1),.int .i64 (Int.ofNat m)]from rfl];simp(disch:=omega)only[↓my]
     try rw[F1 (show(0:Int)<=Int.ofNat d from Cb d) (by show(d:Int)<=255;omega)]
     refine qs ?_;refine bB (cs:=[.int .i64 (Int.ofNat p.1)]) K rfl o rfl (by omega) ?_;refine jw ?_;refine bB (cs:=[.int .i64 (Bv w v l p).2.1]) K rfl o rfl (by omega) ?_;simp(disch:=omega)only[↓my]
     try rw[w4]
     try simp(disch:=omega)only[↓my]
     try refine cO ?_
     simp(disch:=omega)only[↓my,Bs]
     repeat (first|rw[aS (by omega)]|simp(disch:=omega)only[↓my])
     exact O T p1 (l1+1) (by rw[w1];rfl) (by rw[V];rfl) (by rw[W];rfl)
    ·rw[po hh]at W;rw[aM (by omega)];refine cO ?_;refine jw ?_;rw[aS (by omega)];exact O T p1 l1 (by rw[w1];rfl) (by rw[V];rfl) (by rw[W];rfl))
def TP(l:List Wg)(i:Nat)(x y:Wg):Prop:=(0<=y.2.1/\y.2.2=0)∨(y.2.2≠0/\(Vb l y.2.1<Int.ofNat i∨Vb l x.2.1<Vb l y.2.1))
def rS{N:Nat}{L:List zR}(a:KX N L){c:Cl}:(∀n∈A1 L c,n<N)/\(A1 L c).length<=200:=by
 unfold A1;split
 next s d=>
  have b:=qcR d;exact⟨(a s b).2.2.2.1,(a s b).2.2.2.2⟩
 ·exact⟨λn h=>(by cases h),AM _⟩
def ChkR.val{N:Nat}{L:List zR}{e:Int}(h:ChkR N L e):e=0∨e=1∨e=8∨e=6:=by
 rcases h with⟨rfl,_⟩|⟨_,⟨rfl,_⟩|⟨_,⟨rfl,_⟩|⟨rfl,_⟩⟩⟩<;>simp
def si{w v:Nat}(i:Sh w v){l:Ty}{G e:TC}(g:ConsO w v l G)(b:ConsO w v l e){r:Mv}{L:List zR}(d:KX (4*w*v) L)(h:zi (λc=>am (ae (G c) r) (sd w c)) L):zi (λc=>am (ae (e c) r) (sd w c)) L:=λs a c f=>by
 have:=h s a c f;simp only at this ⊢;rw[←qD i g b ((d s a).2.2.2.1 c f)];exact this
def Mb{w v:Nat}(m:Sh w v){l:Ty}{r:Mv}{L:List zR}(f:KX (4*w*v) L){e e':Int}(h:Eb w v l r L e)(h':Eb w v l r L e'):e=e':=by
 rcases h with⟨rfl,d⟩|⟨G,i,h⟩
 ·rcases h' with⟨rfl,_⟩|⟨k,a,_⟩
  ·rfl
  ·exact absurd ⟨k,a.g,a.z⟩ d
 rcases h' with⟨rfl,d⟩|⟨k,a,h'⟩
 ·exact absurd ⟨G,i.g,i.z⟩ d
 rcases h with⟨n,j⟩|⟨j,h⟩<;>rcases h' with⟨c,b⟩|⟨b,h'⟩
 ·exact j.eq b
 ·have:=j.eq b;omega
 ·have:=j.eq b;omega
 ·rcases h with⟨rfl,h⟩|⟨rfl,h⟩<;>rcases h' with⟨c,h'⟩|⟨c,h'⟩
  ·exact c.symm
  ·exact absurd (si m a i f h') h
  ·exact absurd (si m i a f h) h'
  ·exact c.symm
section
variable {w v:Nat} {H:HL} {xl:Value} {r:Mv}
end
def OH:∀H,aD cc ab 13 [] H [.b true] H:=io (n:=60) rfl (by kernel_rfl) rfl (by kernel_rfl)
theorem L0{w v:Nat}{l:Ty}{P:TC}{hg:Tz}{E:List (Nat×Nat)}:(BI w v l P hg E).length<=E.length:=by
 unfold BI;have b:∀(E:List (Nat×Nat)) (Q:List Sm),(E.foldl (λQ p=>ir w v l P hg Q p.1 p.2) Q).length<=Q.length+E.length:=by
  intro E
  induction E with
  |nil=>intro Q;exact zY _
  |cons a E c=>
   intro Q;rw[Is];refine EL (c _) ?_;have:(ir w v l P hg Q a.1 a.2).length<=Q.length+1:=by
    unfold ir fR;rw[AZ];split
    ·omega
    ·simp
   rw[CT];omega
 have:=b E [];simpa using this
def Pp{n:Nat}:(Bn n 0).length=3*n:=by
 induction n with
 |zero=>rfl
 |succ n b=>
  rw[xU];have a:Bn n 3=Bn n 0++[(n,0),(n,1),(n,2)]:=by
   rw[vU,vU,vU];simp
  rw[a,A5,b];simp;omega
structure SpR(w v:Nat)(l:Ty)(h:HL)(xl x:Value)(L:List zR):Prop where
 cr:LsH h xl 3 zz l
 st:StL h x L
 len:L.length<=200
 ok:KX (4*w*v) L
 cl:∀s∈L,-4000<=s.1.1/\s.1.1<=4000/\-4000<=s.1.2.1/\s.1.2.1<=4000
 tot:(bV L).length<=1000
def SpR.pre{w v:Nat}{l:Ty}{h h':HL}{c x:Value}{L:List zR}(a:SpR w v l h c x L)(b:Pre h h'):SpR w v l h' c x L:=⟨a.cr.pre b,a.st.pre b,a.len,a.ok,a.cl,a.tot⟩
def EvR(w v:Nat)(l:Ty)(r:Mv)(L:List zR)(e:Int):Prop:=(Av 1280 r/\Eb w v l r L e)∨(P3 (Int.ofNat r.1) r.2.1 r.2.2=false/\e=1)
def FX{k:Int}{r:Mv}(h:Av k r)(g:k<=16384):P3 (Int.ofNat r.1) r.2.1 r.2.2=true:=by
 obtain⟨b,c,d,e,f,a⟩:=h;unfold P3;refine Bp ⟨?_,by omega,by omega,a⟩;show(r.1:Int)<8;omega
def EvR.eq{w v:Nat}(g:Sh w v){l:Ty}{r:Mv}{L:List zR}(d:KX (4*w*v) L){e e':Int}(h:EvR w v l r L e)(h':EvR w v l r L e'):e=e':=by
 rcases h with⟨b,f⟩|⟨b,rfl⟩<;>rcases h' with⟨a,c⟩|⟨a,rfl⟩
 ·exact Mb g d f c
 ·rw[FX b (by omega)]at a;cases a
 ·rw[FX a (by omega)]at b;cases b
 ·rfl
section
variable {w v:Nat} (h3:S3 w v) {l:Ty} (hv:∀c∈l,VK w v c) (hlt:l.Pairwise λa b=>Da a b=true) (hn:l.length<=1000)
include h3 hv hlt hn
theorem Uy:Pat w v l:=by
 obtain⟨a,b,c,d⟩:=h3;have k:=Bj (S3.sh ⟨a,b,c,d⟩);exact⟨by omega,λc f=>by
  obtain⟨⟨u,e,n,g,h,o,m,_,_,i,j⟩,_⟩:=hv c f;unfold EM;rw[g,h];refine⟨?_,?_,?_,?_,i,j⟩
  ·show(0:Int)<=(u:Int);omega
  ·show(u:Int)<=1000;omega
  ·show(0:Int)<=(e:Int);omega
  ·show(e:Int)<=255;omega,hn,Ny hv hlt⟩
end
def FSt.spr{w v n0:Nat}(e:S3 w v){h:HL}{z k:Value}{r:Mv}{l:Ty}{G:TC}{d:List Sk}(f:StH w v n0 h 1280 z r k l G d){x:Value}(j:LsH h x 4 Ac d):SpR w v l h z x (d.map CA):=by
 obtain⟨m,o,p,q⟩:=e.n;have b:=f.st;refine⟨f.cr,Mc j f.pc,?_,λs a=>?_,λs a=>?_,?_⟩
 ·have:=b.lenL;omega
 ·have g:=b.cell e a;have t:=b.lenP a;exact⟨g.1,by omega,b.st.ne s a,λc i=>b.idlt a i,by omega⟩
 ·have g:=b.cell e a;omega
 ·have:=b.tot;unfold bV;omega
def J0{L:List zR}{k:Nat}{a a':zR}(b:L[k]?=some a):(bV (L.set k a')).length+a.2.length=(bV L).length+a'.2.length:=by
 have f:=dM (a:=a') b;have c:=dM (a:=a) b;rw[bC b]at c;have d:=(f.flatMap_right Prod.snd).length_eq;have e:=(c.flatMap_right Prod.snd).length_eq;rw[C2,A5]at d e;unfold bV;omega
def SpR.set{w v:Nat}{l:Ty}{h h':HL}{e x:Value}{L:List zR}(d:SpR w v l h e x L)(n:LsH h' e 3 zz l){k:Nat}{a a':zR}(g:L[k]?=some a)(o:StL h' x (L.set k a'))(h1:a'.1.2.2<4)(t:a'.1.1=a.1.1/\a'.1.2.1=a.1.2.1)(i:a'.2≠[])(j:∀c∈a'.2,c∈a.2)(u:a'.2.length<=a.2.length+1)(y:(bV L).length<=100/\a.2.length<=100):SpR w v l h' e x (L.set k a'):=by
 have f:=Af g;obtain⟨z,A,o3,p,B⟩:=d.ok a f;have q:=d.cl a f;have r:=J0 (a':=a') g;refine⟨n,o,by rw[Bc];exact d.len,λs b=>?_,λs b=>?_,by omega⟩
 ·rcases Rw b with b|rfl
  ·exact d.ok s b
  ·exact⟨h1,by omega,i,λc m=>p c (j c m),by omega⟩
 ·rcases Rw b with b|rfl
  ·exact d.cl s b
  ·omega
def FSt.chk{w v:Nat}{k:Int}{l:Ty}{r:Mv}{G:TC}{L:List zR}(h:FSt w v k l r G L):ChkR (4*w*v) L 0:=by
 refine .inr ⟨λi a b c d=>?_,.inr ⟨h.st.pm.nodup_iff.2 qcT,.inr ⟨rfl,Nat.le_of_eq h.tot.symm⟩⟩⟩;have e:=qby.1 h.ss i (i+1) (aq c) (aq d) (by omega);rw[A4 (aq c)]at c;rw[A4 (aq d)]at d;rw[←AD c,←AD d];exact e
def FSt.stk{w v:Nat}(c:Sh w v){k:Int}{l:Ty}{r:Mv}{G:TC}{L:List zR}(h:FSt w v k l r G L)(a:KX (4*w*v) L){e:Int}(b:Eb w v l r L e):e=0:=
 Mb c a b (.inr ⟨G,h.co,.inr ⟨h.chk,.inr ⟨rfl,h.st.at'⟩⟩⟩)
structure OfT(w v:Nat)(l:Ty)(G:TC)(r:Mv)(L:List zR)(S:List Sm):Prop where
 hE:Eds w v l (λn=>ae (G n) r)
 hL:Lys (4*w*v) (Ar w (λn=>ae (G n) r)) L (Cr (4*w*v) L)
 t:∀s∈S,SmT w v l (λn=>ae (G n) r) L (Cr (4*w*v) L) s
 asc:(S.map (·.k)).Pairwise λa b=>D6 b a
 len:S.length<=3*(4*w*v)
 tot:(S.map λs=>(AV w (λn=>ae (G n) r) L s.k.1 s.k.2).length+(AV w (λn=>ae (G n) r) L s.k.2 s.k.1).length).sum=3*(4*w*v)
def Ul{w v:Nat}(g:S3 w v){k:Int}{l:Ty}{r:Mv}{G j:TC}{L:List zR}(h:FSt w v k l r j L)(b:KX (4*w*v) L)(i:ConsO w v l G){S:List Sm}(d:OfR (Cr (4*w*v) L) (BI w v l (λn=>ae (G n) r) (Cr (4*w*v) L) (Bn (4*w*v) 0)) S):OfT w v l G r L S:=by
 have e:=Sv g (λc p=>(h.vk c p).k0) i h.rk;have f:Lys (4*w*v) (Ar w (λn=>ae (G n) r)) L (Cr (4*w*v) L):=TU b h.chk (si g.sh h.co i b h.st.at');have a:=kR h.so;refine⟨e,f,λs q=>LX e f a d q,d.asc,?_,LY e f a d⟩;have m:=d.ks.length_eq;rw[AZ,AZ]at m;have o:=@L0 w v l (λn=>ae (G n) r) (Cr (4*w*v) L) (Bn (4*w*v) 0);rw[Pp]at o;omega
def Mg{α:Type}{f:α->Nat}{S:List α}{j:Nat}{s:α}(a:S[j]?=some s):((S.take (j+1)).map f).sum=((S.take j).map f).sum+f s/\((S.take (j+1)).map f).sum<=(S.map f).sum:=by
 constructor
 ·rw[Dm,a,Cw,List.sum_append];simp
 ·have:(S.map f).sum=((S.take (j+1)).map f).sum+((S.drop (j+1)).map f).sum:=by
   rw[←List.sum_append,←Cw,Iu]
  omega
def we{w8 v8:Int}(cd:0<=w8/\w8<=255)(b9:0<=v8/\v8<=255){H:HL}{xf xw:Value}{Fl Sw:List P7}(hF:LsH H xf 3 pz Fl)(bt:∀a∈Fl,EG a)(hS:LsH H xw 3 pz Sw)(bP:∀a∈Sw,EG a) :
  ∃h',aD cc ab 3 [.i w8,.i v8,.v xf,.v xw] (ka aa H) [.b true] (ka aa h'):=by
 obtain⟨w,v,rs,h1,J,c1,hR⟩:=PL cd b9 hF bt hS bP;obtain⟨z,r,zs,l,G0,Ms,rfl,ct,co,t⟩:=hR;obtain⟨b1,b2,b3,b4⟩:=J.n;have hs:=J.sh;have hN:=Bj hs;have x:=t.st;have d:=FSt.spr J t t.ss;have bl:=Uy J x.vk x.so (by omega);obtain⟨y,e,h2,c2,U,X,_,h0⟩:=zA J bl (kR x.so) t.cr x.rk (by omega) d.st d.len d.ok d.cl d.tot;have he:=x.stk hs d.ok X;subst he;obtain⟨G,S,hG,bS,hO⟩:=h0 rfl;have hT:=Ul J x d.ok hG hO;clear h0 X hO;generalize Ms.map CA=L at *;obtain⟨hE,hL,bX,a3,cn,Y⟩:=hT;obtain⟨ck,h5,c3,b6,a9⟩:=lj J (t.cr.pre U) (λc hc=>(x.vk c hc).1) (λc hc=>(x.vk c hc).k0) (by omega) (r:=r) (aN x.rk (by omega));obtain⟨a5,bm⟩ : ∃x40,LsH h5 x40 3 tx (A8 w v G r)/\ck=[.v x40,.i 1]:=by
  rcases b6 with⟨rfl,b5⟩|⟨G',T,bx,rfl,B,rfl⟩
  ·exact absurd ⟨G,hG.g,hG.z⟩ b5
  ·refine⟨_,?_,rfl⟩;rw[show A8 w v G r=A8 w v G' r from DV λc hc=>by rw[qD hs hG bx (qad.1 hc)]];exact cp bR KW (by simp[A8])
 obtain⟨a5,rfl⟩:=bm;have c4:=ph J (t.cr.pre (U.trans a9)) (λc hc=>(x.vk c hc).1) (by omega);have bd:Pre h5 (h5++[A9 (Ak w v l)]):=⟨_,rfl⟩;have a6:LsH (h5++[A9 (Ak w v l)]) (.slice (some ⟨h5.length,0,pu 1⟩) (12*w*v) (12*w*v+1)) 1 Cp (Ak w v l):=cp jC aA gw.symm;generalize h5++[A9 (Ak w v l)]=h6 at *;generalize (Value.slice (some ⟨h5.length,0,pu 1⟩) (12*w*v) (12*w*v+1))=xk at *;have F:=a9.trans bd;have D:=a5.pre bd;have a0:=bS.pre F;have ar:=d.st.pre (U.trans F);have C:=t.cr.pre (U.trans F);obtain⟨M,hM,bI,ay⟩:=a0;have aE:=hM.ls wL;have a4:=hM.cap;have O:∀(n:Nat) s,S[n]?=some s->_:=λn s R=>Mg (f:=λs=>(AV w (λn=>ae (G n) r) L s.k.1 s.k.2).length+(AV w (λn=>ae (G n) r) L s.k.2 s.k.1).length) R;have ci:=x3 (ls:=[.i w8,.i v8,.v xf,.v xw]) (K:=λrs h'=>rs=[.b true]) (H:=H) (kx (kx (rv hF.good (rv hS.good ub)))) (by
  unfold f3;simp only[xp]
  try simp (disch:=omega) only[↓US,↓RB,↓RA]
  refine al c1 ?_;refine jw ?_;simp only[Al,Aw,Ap]at c2 c3;refine al c2 ?_;refine jw ?_;refine al c3 ?_;refine jw ?_;refine al c4 ?_;refine jw ?_;refine ah a4 ?_;refine br aE ?_;rw[Aj rfl];refine jw ?_;refine aR (σ:=HL×Nat) S.length (λj s=>[.i (Int.ofNat s.2),.i (Int.ofNat j)]) (λ_ s=>s.1) (λj s=>Pre h6 s.1/\s.2=((S.take j).map λs=>(AV w (λn=>ae (G n) r) L s.k.1 s.k.2).length+(AV w (λn=>ae (G n) r) L s.k.2 s.k.1).length).sum) (j0:=0) (s0:=(h6,0)) rfl rfl (AM _) ⟨.refl _,rfl⟩ ?_;rintro j ⟨g,sm⟩ hj ⟨q,V⟩ bs an;simp only at q V ⊢;refine jw ?_;have N:=aE.pre q;refine br N ?_;rw[bI];by_cases a7:j<S.length
  case neg=>
   obtain rfl:j=S.length:=by omega
   rw[aM (zY _)];simp(disch:=omega)only[↓my]
   try refine cO ?_
   refine qs ?_;refine br (D.pre q) ?_;rw[show(A8 w v G r).length=4*w*v by simp[A8]];refine qs ?_;rw[ze (by omega)];rw[Ly,Y]at V;rw[V,zT rfl];refine jw ?_;refine ai OH ?_;simp(disch:=omega)only[↓my]
  rw[aJ a7];refine jw ?_;obtain⟨m,E⟩:=aL (l:=M) (i:=j) (by omega);obtain⟨s,ap,a8,k1,k2,k3⟩:=ay j m E;have T:=bX s (Af ap);obtain⟨t1,t2⟩:=O j s ap;obtain⟨mk,v1,v2,v3⟩:=m;obtain⟨k,ps,ls,es⟩:=s;simp only at a8 k1 k2 k3 t1 t2;subst a8;obtain⟨za,g1,ca,be,_,cf⟩:=FQ J (ar.pre q) (by have:=d.len;omega) C.good (a6.pre q) (D.pre q) (P:=λn=>ae (G n) r) (λn R=>iA R) (λn R=>aN (dm (hG.ok n R) x.rk) (by omega)) mk.1 mk.2 (rS d.ok).1 (by have:=(rS d.ok (c:=mk.1)).2;omega);have u:=q.trans be;obtain⟨zb,g2,cb,ag,_,ax⟩:=FQ J (ar.pre u) (by have:=d.len;omega) C.good (a6.pre u) (D.pre u) (P:=λn=>ae (G n) r) (λn R=>iA R) (λn R=>aN (dm (hG.ok n R) x.rk) (by omega)) mk.2 mk.1 (rS d.ok).1 (by have:=(rS d.ok (c:=mk.2)).2;omega);have p:=u.trans ag;have I:=cf.pre ag;have eA:(DN w v l (λn=>ae (G n) r) L mk.1 mk.2).length=(AV w (λn=>ae (G n) r) L mk.1 mk.2).length:=by rw[vD,AZ]
  have eB:(DN w v l (λn=>ae (G n) r) L mk.2 mk.1).length=(AV w (λn=>ae (G n) r) L mk.2 mk.1).length:=by rw[vD,AZ]
  have cm:0<(AV w (λn=>ae (G n) r) L mk.1 mk.2).length+(AV w (λn=>ae (G n) r) L mk.2 mk.1).length:=by
   rw[←A5];exact qbe.2 T.ne
  rw[Y]at t2;rw[t1]at t2;rw[←V]at t1 t2;have hd:=G1 hE hL (by omega) (ar.pre p) (by have:=d.len;omega) C.good T (k1.pre p) (k2.pre p) (k3.pre p) I ax (by simp only;omega) (by simp only;omega) (r:=r);have af:=nj (a:=mk.2) (b:=mk.1);rw[mc T.ord]at af;simp only[Ab,Al,Aw,Ap]at ca cb hd af;have A:=N.pre be;have h:=A.pre ag;generalize (AV w (λn=>ae (G n) r) L mk.1 mk.2).length=nA at *;generalize (AV w (λn=>ae (G n) r) L mk.2 mk.1).length=nB at *;have Z:bs [.i (Int.ofNat (sm+(nA+nB))),.i (Int.ofNat j+1)] g2:=an (g2,sm+(nA+nB)) a7 ⟨p,t1.symm⟩;refine bB (cs:=[.int .i64 mk.1.1,.int .i64 mk.1.2.1,.int .u8 (Int.ofNat mk.1.2.2)]) N rfl E rfl (by omega) ?_;refine jw ?_;refine bB (cs:=[.int .i64 mk.2.1,.int .i64 mk.2.2.1,.int .u8 (Int.ofNat mk.2.2.2)]) N rfl E rfl (by omega) ?_;refine jw ?_;refine al ca ?_;refine jw ?_;refine bB (cs:=[.int .i64 mk.2.1,.int .i64 mk.2.2.1,.int .u8 (Int.ofNat mk.2.2.2)]) A rfl E rfl (by omega) ?_;refine jw ?_;refine bB (cs:=[.int .i64 mk.1.1,.int .i64 mk.1.2.1,.int .u8 (Int.ofNat mk.1.2.2)]) A rfl E rfl (by omega) ?_;refine jw ?_;refine al cb ?_;refine jw ?_;refine br I ?_
  refine br ax ?_;rw[eA,eB,lI (by omega),zO (show Int.ofNat (nA+nB)≠0 by show((nA+nB:Nat):Int)≠0;omega)];refine jw ?_;refine aQ h rfl E ?_;rw[show BZ (mk,v1,v2,v3)=[.int .i64 mk.1.1,.int .i64 mk.1.2.1,.int .u8 (Int.ofNat mk.1.2.2),.int .i64 mk.2.1,.int .i64 mk.2.2.1,.int .u8 (Int.ofNat mk.2.2.2),v1,v2,v3]from rfl];refine jw ?_;refine ac k1.good ?_;refine qs ?_;refine ac k2.good ?_;refine qs ?_;refine ac k3.good ?_;refine qs ?_;refine al hd ?_;simp(disch:=omega)only[↓my]
  try rw[Aj rfl]
  refine qs ?_;refine br I ?_;refine br ax ?_;rw[eA,eB,lI (by omega),lI (by omega)];refine qs ?_;refine bB (cs:=[.int .i64 mk.2.1,.int .i64 mk.2.2.1,.int .u8 (Int.ofNat mk.2.2.2)]) h rfl E rfl (by omega) ?_;refine jw ?_;refine bB (cs:=[.int .i64 mk.1.1,.int .i64 mk.1.2.1,.int .u8 (Int.ofNat mk.1.2.2)]) h rfl E rfl (by omega) ?_;refine jw ?_;refine ai af ?_;refine jw ?_;by_cases b0:j=0
  case pos=>
   rw[zU (show Int.ofNat j<=0 by rw[b0];exact HZ _)];refine jw ?_;rw[aS (by omega)];exact Z
  rw[Ad (show 0<Int.ofNat j by show(0:Int)<(j:Int);omega)];refine jw ?_;obtain⟨m',Q⟩:=aL (l:=M) (i:=j - 1) (by omega);obtain⟨s',bn,W,_⟩:=ay (j - 1) m' Q;obtain⟨o,cx,cy,cA⟩:=m';simp only at W;have hY:D6 mk o:=by
   have q1:(S.map (·.k))[j]?=some mk:=by rw[AU,ap];rfl
   have q2:(S.map (·.k))[j - 1]?=some o:=by rw[AU,bn,W];rfl
   have q3:=qby.1 a3 (j - 1) j (aq q2) (aq q1) (by omega);rw[A4 (aq q2)]at q2;rw[A4 (aq q1)]at q1;rw[←AD q1,←AD q2];exact q3
  have a1:=nj (a:=mk.1) (b:=o.1);have a2:=nj (a:=mk.2) (b:=o.2);simp only[Ab,Aw,Ap]at a1 a2;refine bB (cs:=[.int .i64 mk.1.1,.int .i64 mk.1.2.1,.int .u8 (Int.ofNat mk.1.2.2)]) h rfl E rfl (by omega) ?_;refine jw ?_;rw[gf (by omega) (by omega)];refine bB (cs:=[.int .i64 o.1.1,.int .i64 o.1.2.1,.int .u8 (Int.ofNat o.1.2.2)]) h rfl Q rfl (by omega) ?_;refine jw ?_;refine ai a1 ?_;refine jw ?_;by_cases ad:AO mk.1 o.1=true
  case pos=>
   rw[mc ad]
   try rw[zO (by decide)]
   refine jw ?_;rw[aS (by omega)];exact Z
  obtain⟨b7,b8⟩:=hY.resolve_left ad;rw[po ad]
  try rw[zT rfl]
  refine jw ?_;refine bB (cs:=[.int .i64 mk.1.1,.int .i64 mk.1.2.1,.int .u8 (Int.ofNat mk.1.2.2)]) h rfl E rfl (by omega) ?_;refine jw ?_;rw[gf (by omega) (by omega)];refine bB (cs:=[.int .i64 o.1.1,.int .i64 o.1.2.1,.int .u8 (Int.ofNat o.1.2.2)]) h rfl Q rfl (by omega) ?_;refine jw ?_;rw[G9,Bp b7];simp(disch:=omega)only[↓my,Bs];refine bB (cs:=[.int .i64 mk.2.1,.int .i64 mk.2.2.1,.int .u8 (Int.ofNat mk.2.2.2)]) h rfl E rfl (by omega) ?_;refine jw ?_;rw[gf (by omega) (by omega)];refine bB (cs:=[.int .i64 o.2.1,.int .i64 o.2.2.1,.int .u8 (Int.ofNat o.2.2.2)]) h rfl Q rfl (by omega) ?_;refine jw ?_;rw[mc b8]at a2;refine ai a2 ?_;simp(disch:=omega)only[↓my]
  try rw[zO (by decide)]
  try refine cO ?_
  refine qs ?_;rw[aS (by omega)];exact Z)
 obtain⟨rs,h',h2,rfl⟩:=ci;exact⟨h',h2⟩
def pH(ls:TB)(h:HL)(a:bq h [.i .u8,.i .u8,.s [.i .u8,.i .u8,.i .u8],.s [.i .u8,.i .u8,.i .u8]] ls):∃h',aD cc ab 3 ls (ka aa h) [.b true] (ka aa h'):=by
 obtain⟨w,ls,rfl,r,a⟩:=a.i;obtain⟨v,ls,rfl,q,a⟩:=a.i;obtain⟨s,ls,n,d,rfl,k,_,m,a⟩:=a.s;obtain⟨x,ls,u,c,rfl,e,_,f,a⟩:=a.s;obtain rfl:=a.nil;obtain⟨l,p,_,o⟩:=Q7 (enc:=pz) (ok:=EG) (λ_=>rfl) Xz k m;obtain⟨t,j,_,g⟩:=Q7 (enc:=pz) (ok:=EG) (λ_=>rfl) Xz e f;exact we (D5 r) (D5 q) p o j g
end Go.Am
namespace Go.Proofs.YtiimabnndpeioaaGreatDoor
open Go Go.Am Go.Am.Sx
open Go.ChangeShapes Go.WideShapes Go.ChangeAt Go.WideMaps Go.WideElems Go.RowKit
abbrev DI:List (String×DataW Unit):= [("crimp/moves.turns",Rows.laid_crimp_moves_turns), ("crimp/cells.quarters",Rows.laid_crimp_cells_quarters)]
def ZY : Tryz.prog.globalNamed "crimp/moves.turns" = some 1:=by kernel_rfl
def ZX : Tryz.prog.globalNamed "crimp/cells.quarters" = some 0:=by kernel_rfl
def O4{W:World}(h:laidMetH Tryz.prog DI W):∃_:Unit,∀(g:Nat) (vs:Tk),cc.G g=some vs->
  BG g<W.heap.size/\vs.all bf=true/\∃c e fr,W.heap[BG g]?=some (.cells c e fr)/\cw (λ_=>none) vs c (Cq g):=by
 rw[MakeChecks.laidMetH_plain _ _ _ (by kernel_rfl)]at h;obtain⟨d,h,_,_⟩:=h;refine⟨(),λg vs b=>?_⟩;have a:=On g vs b;unfold cc at b;simp only at b;split at b
 ·cases b;exact tT (by kernel_rfl) a (by kernel_rfl) (qf h "crimp/moves.turns" Rows.laid_crimp_moves_turns Ch 1 225 8 SO ZY (by kernel_rfl) (by kernel_rfl))
 ·cases b;exact tT (by kernel_rfl) a (by kernel_rfl) (qf h "crimp/cells.quarters" Rows.laid_crimp_cells_quarters (Bo _ Ch) 0 179 8 SN ZX (by kernel_rfl) (by kernel_rfl))
 ·cases b
def own:ownKnob Tryz.prog.godebug=none:=by kernel_rfl
def Jq(os:Os)(args:Tj):laidMetH Tryz.prog DI ((World.doorLaid Tryz.prog 400 os).forCall (λ_ _=>0) ⟨#[],args,[]⟩).memory:=
 laidMetH_of_parts3 (fuel:=8) (laidMet_of_run' 8 (by kernel_rfl) (by kernel_rfl)) (by kernel_rfl) (by kernel_rfl)
end Go.Proofs.YtiimabnndpeioaaGreatDoor
end

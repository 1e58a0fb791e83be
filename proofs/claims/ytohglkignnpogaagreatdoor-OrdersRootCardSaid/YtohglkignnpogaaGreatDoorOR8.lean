import Derived.Test.YtohglkignnpogaaGreatDoorOR7
import Derived.SevenTiedAt
import Derived.Shelf.SlSortCmp.WholeK
import Derived.Test.YtohglkignnpogaaGreatDoorCards
import Derived.Test.YtohglkignnpogaaGreatDoorTie
set_option linter.all false
noncomputable section
set_option maxRecDepth 100000
set_option maxHeartbeats 16000000
open Int(ofNat)
open List(range replicate)
namespace Go.Am
open Sx Go.Proofs
def tV(a:K3):∃r,fY kk3 (Gb a) (Gb a)=some r:=by
 have b:df .i64 .i64=true:=rfl;have c:df .u8 .u8=true:=rfl;simp only[Gb,fY,b,c,jf];exact⟨_,rfl⟩
def WhH(h:HL)(m:Nat)(b:TM):Prop:=∃a:List (K3×Value),Ek Gb h m a/\(∀c,c∈a.map Prod.fst↔c∈b)/\∀(i:Nat) k u,a[i]?=some (k,u)->u = .int .i64 (ofNat ((EB b).idxOf k))
def WhH.ka{h h':HL}{m:Nat}{a:TM}(e:WhH h m a)(d:∀o,h[m]?=some o->h'[m]?=some o):WhH h' m a:=by
 obtain⟨f,b,c⟩:=e;exact⟨f,b.ka Gb d,c⟩
def WhH.lt{h:HL}{m:Nat}{a:TM}(c:WhH h m a):m<h.length:=by
 obtain⟨d,b,_⟩:=c;exact b.lt
def WhH.ne{h:HL}{m:Nat}{b:TM}(d:WhH h m b){j e:Nat}{cs:Tn}{a:Bool}(i:h[j]?=some (.o (.cells cs e a))):j≠m:=λq=>by
 subst q;obtain⟨k,⟨f,c,g,_⟩,_⟩:=d
 simp_all
def ZU{h:HL}{m:Nat}{a:TM}(n:WhH h m a){c:Cl}(g:c∈a){K:Tf}(q:K [.int .i64 (ofNat ((EB a).idxOf c))]):P1.ma (.fn (Gr cc 55 false (.int .i64 0) (.map (some m)) (.agg ⟨[.int .i64 c.1,.int .i64 c.2.1,.int .u8 (ofNat c.2.2)]⟩) false)) h (@i' _ ⟨K⟩):=by
 obtain⟨r,d,f,o⟩:=n;refine SH Gb zN d_ d_ tV d c rfl (λb e=>by cases e) (λp l b e=>?_) (λk=>absurd ((f c).2 g) k) λi u j=>?_
 .obtain⟨i,j⟩:=FK l
  grind
 grind
def zR{u v:TR}(e:∃a n c,v = .slice a n c):DG (El u) (C' 2 v)=true:=by
 obtain⟨b,m,d,rfl⟩:=e;exact oJ
def pV{v:TR}{b:Nat}(e:∃a n c,v = .slice a n c)(h:∀i,g_ v=some i->i≠b):DG (El v) (C' 0 (.map (some b)))=true:=by
 obtain⟨a,n,c,rfl⟩:=e;show DG (El (.slice a n c)) [b]=true;rcases a with _|a
 .rfl
 have d:=h a.block rfl;unfold El;simp only;split
 .rfl
 .exact xY d
def yM{j7:Type}{n0 e:Nat}{enc:j7->Tn}{l:List j7}{h:HL}{v:TR}(b:hY n0 h v e enc l):∃a n c,v = .slice a n c:=by
 rcases b with⟨rfl,_⟩|⟨id,d,rfl,_⟩
 .simp_all
 simp_all
def o'{h:HL}{b e:Nat}{cs new:Tn}{K:TR->Tn->HL->Prop}{o:Nat}(a:h[b]?=some (.o (.cells cs e true)))(d:o+new.length<=cs.length)(c:K (.pointer (some ⟨b,o,none⟩)) [] (h.set b (.o (.cells (cs.take o++new++cs.drop (o+new.length)) e true)))) :
  P1.jw (Ec (kb b)) (@i' _ ⟨λx=>P1.n4 x (@i' _ ⟨P1.jw (Eu o x) (@i' _ ⟨λy=>P1.n4 y (@i' _ ⟨P1.heap (.st y new) h (@i' _ ⟨K y⟩)⟩)⟩)⟩)⟩):=by
 refine ae (x:=kb b) rfl (ab (az b) (ae (x:=.pointer (some ⟨b,0+o,none⟩)) rfl (ab (by simp[aI,nc,aT,bE,bj,aP,aD]) ?_)));rw[F9];exact ZW a d c
structure N2(h0 h4:HL)(b mp mw:Nat)(w v:Nat)(xv:Value)(r:Mv)(xa xu:Value)(IM:TM):Prop where
 hb:h4[b]?=some (.o (.cells (ah ⟨w,v,xv,r,xa,.slice none 0 0,.slice none 0 0,xu,mp,.slice none 0 0,.slice none 0 0,.slice none 0 0⟩ false) 15 true))
 bn:h0.length<=b
 mpn:h0.length<=mp
 old:∀(j:Nat) o,h0[j]?=some o->h4[j]?=some o
 at_:hY h0.length h4 xa 3 bW (EB IM)
 us:hY h0.length h4 xu 1 B6 (replicate IM.length false)
 pr:h4[mp]?=some (.o (.map [] 0))
 wh:WhH h4 mw IM
structure NK(h6 g:HL)(xd:Value)(m:Nat)(IM:TM)(n:Nat)(vs:Tn):Prop where
 x:hY 0 g xd 1 D4 vs
 vl:vs.length=(EB IM).length
 iv:∀(j:Nat) x c,vs[j]?=some x->(EB IM)[j]?=some c->hY h6.length g x 1 l_ (GC IM n c)
 dj:∀(i j:Nat) x y z,vs[i]?=some x->vs[j]?=some y->g_ x=some z->g_ y=some z->i=j
 k:∀(j:Nat) o,h6[j]?=some o->j≠m->g[j]?=some o
 l:h6.length<=g.length
def q4{h0 A:HL}{b J mw w v:Nat}{R:TR}{r:Mv}{D N:TR}{f:TM}(s:N2 h0 A b J mw w v R r D N f)(cd:f.length<=36){xi:TR}(a3:q9 h0 xi 3 bW f){K:Te}(hK:∀g u G vs,h0.length<=g.length->N3 h0 g b J w v R r D u G N vs f->np3 (hA P1) b xi g K) :
  np2 (hA P1) b xi mw A K:=by
 have cf:=ai s.hb;have a4:h0.length<=A.length:=by have:=s.bn;omega
 have ce:(EB f).length<=36:=by have:=tv f;omega
 obtain⟨M,eM⟩ : ∃M,M=(EB f).length:=⟨_,rfl⟩;unfold np2;simp only[ub];refine kw (ds:=[D]) s.hb (by simp[ah]) rfl ?_;refine e_ ?_;refine ab (hY.h_ (e:=3) (enc:=bW) cK s.at_) ?_;refine k_ ?_;refine bw (hY.ls cK s.at_) ?_;rw[←eM];refine ae (dF a_) ?_;refine k_ ?_;rw[show(ofNat M).toNat=M from rfl];obtain⟨H,e5⟩ : ∃H,H=A++[HO.o (.cells (aL [.slice none 0 0] M) 1 true)]:=⟨_,rfl⟩;rw[←e5];have k5:∀(j:Nat) o,A[j]?=some o->H[j]?=some o:=λj o d=>i_;have l5:H.length=A.length+1:=by rw[e5];simp
 have m5:H[A.length]?=some (.o (.cells (aL [.slice none 0 0] M) 1 true)):=by rw[e5];exact aK
 refine kw (ds:=[D]) (k5 _ _ s.hb) (by simp[ah]) rfl ?_;refine e_ ?_;have ay:hY h0.length H D 3 bW (EB f):=s.at_.ka λj o d _=>k5 j o d;refine ab (hY.h_ (e:=3) (enc:=bW) cK ay) ?_;refine k_ ?_;refine bw (hY.ls cK ay) ?_;rw[←eM];refine ae (dF a_) ?_;refine k_ ?_;rw[show(ofNat M).toNat=M from rfl];obtain⟨h6,e6⟩ : ∃h6,h6=H++[HO.o (.cells (aL [.slice none 0 0] M) 1 true)]:=⟨_,rfl⟩;rw[←e6];have k6:∀(j:Nat) o,H[j]?=some o->h6[j]?=some o:=λj o d=>i_;have l6:h6.length=A.length+2:=by rw[e6];simp;omega
 have m6:h6[H.length]?=some (.o (.cells (aL [.slice none 0 0] M) 1 true)):=by rw[e6];exact aK
 refine o' (b:=b) (k6 _ _ (k5 _ _ s.hb)) (by simp[ah]) ?_;refine k_ ?_;obtain⟨u,T⟩ : ∃u:Value,u = .slice (some ⟨A.length,0,le 1⟩) M (M+1):=⟨_,rfl⟩;obtain⟨G,U⟩ : ∃G:Value,G = .slice (some ⟨H.length,0,le 1⟩) M (M+1):=⟨_,rfl⟩;have aE:Value.slice (some ⟨A.length,0,some 11⟩) M (M+1)=u:=T.symm;have a0:Value.slice (some ⟨H.length,0,some 11⟩) M (M+1)=G:=U.symm;rw[aE,a0];obtain⟨h7,e7⟩ : ∃h7,h7=h6.set b (.o (.cells (ah ⟨w,v,R,r,D,u,.slice none 0 0,N,J,.slice none 0 0,.slice none 0 0,.slice none 0 0⟩ false) 15 true)):=⟨_,rfl⟩;have bd:h6.set b (.o (.cells (List.take 7 (ah ⟨w,v,R,r,D,.slice none 0 0,.slice none 0 0,N,J,.slice none 0 0,.slice none 0 0,.slice none 0 0⟩ false)++[u]++List.drop (7+[u].length) (ah ⟨w,v,R,r,D,.slice none 0 0,.slice none 0 0,N,J,.slice none 0 0,.slice none 0 0,.slice none 0 0⟩ false)) 15 true))=h7:=by rw[e7];rfl
 rw[bd];have bs:h7[b]?=some (.o (.cells (ah ⟨w,v,R,r,D,u,.slice none 0 0,N,J,.slice none 0 0,.slice none 0 0,.slice none 0 0⟩ false) 15 true)):=by
  grind
 refine gH (b:=b) bs (by simp[ah]) ?_;obtain⟨C,e8⟩ : ∃C,C=h7.set b (.o (.cells (ah ⟨w,v,R,r,D,u,G,N,J,.slice none 0 0,.slice none 0 0,.slice none 0 0⟩ false) 15 true)):=⟨_,rfl⟩;have be:h7.set b (.o (.cells (List.take 8 (ah ⟨w,v,R,r,D,u,.slice none 0 0,N,J,.slice none 0 0,.slice none 0 0,.slice none 0 0⟩ false)++[G]++List.drop (8+[G].length) (ah ⟨w,v,R,r,D,u,.slice none 0 0,N,J,.slice none 0 0,.slice none 0 0,.slice none 0 0⟩ false)) 15 true))=C:=by rw[e8];rfl
 refine k_ ?_;rw[be];have cp:∀i,g_ D=some i->h0.length<=i/\i<A.length:=λi q=>s.at_.g_ q;have av:=yM s.at_;have cr:g_ u=some A.length:=by rw[T];rfl
 have cw:g_ G=some H.length:=by rw[U];rfl
 have a6:∃a n c,u = .slice a n c:=⟨_,_,_,T⟩;have Z:∃a n c,G = .slice a n c:=⟨_,_,_,U⟩;refine ae (x:=()) (dg (bU a6 λi B=>?_) (dg (zR av) (dg (bU Z λi B=>?_) (dg (zR av) (dg (vM a6 Z λi B=>?_) (dg (zR av) (dg (bU Z λi B=>?_) (dg (bU Z λi B=>?_) fm)))))))) ?_
 .grind
 .grind
 .simp_all
 .grind
 .grind
 refine k_ ?_;have l8:C.length=A.length+2:=j_;have k8:∀(j:Nat) o,h6[j]?=some o->j≠b->C[j]?=some o:=λj o d V=>by
  grind
 have bt:C[b]?=some (.o (.cells (ah ⟨w,v,R,r,D,u,G,N,J,.slice none 0 0,.slice none 0 0,.slice none 0 0⟩ false) 15 true)):=by
  grind
 have ax:∀(j:Nat) o,A[j]?=some o->j≠b->C[j]?=some o:=λj o d V=>k8 j o (k6 j o (k5 j o d)) V;have zz:(aL [Value.slice none 0 0] M)=((EB f).map λ_=>Value.slice none 0 0).flatMap D4:=by
  show aL (D4 (Value.slice none 0 0)) M=_;rw[cO (enc:=D4) (z:=Value.slice none 0 0) (n:=M),eM,List.map_const']
 have W:((EB f).map λ_=>Value.slice none 0 0).length=M:=j_;have b1:hY h0.length C u 1 D4 ((EB f).map λ_=>.slice none 0 0):=.inr ⟨A.length,M+1,by rw[W,T],a4,j_,.inr (by rw[W])⟩;have b3:hY h0.length C G 1 D4 ((EB f).map λ_=>.slice none 0 0):=.inr ⟨H.length,M+1,by rw[W,U],a_,j_,.inr (by rw[W])⟩;have Q:∀(j:Nat) o,h0[j]?=some o->C[j]?=some o:=λj o d=>ax j o (s.old j o d) (by have:=ai d;have:=s.bn;omega);refine bw (a3.ka λj o d _=>Q j o d) ?_;have a9:∀ {j7:Type} {e n0:Nat} {enc:j7->Tn} {L:List j7} {g:HL} {x:TR},hY n0 g x e enc L->hY 0 g x e enc L:=λq=>by
  rcases q with q|⟨id,cx,e1,_,e3⟩
  .exact .inl q
  .exact .inr ⟨id,cx,e1,D6 _,e3⟩
 refine aH (m:=f.length) (λm ls g=>∃n vs,ls=[.i (ofNat n)]/\m=f.length - n/\n<=f.length/\NK C g u A.length f n vs) ⟨0,(EB f).map λ_=>.slice none 0 0,rfl,rfl,D6 _,a9 b1,c_,λj x c E F=>?_,λi j x y z E F h3=>?_,λ_ _ h _=>h,B8 _⟩ ?_
 .obtain⟨_,_,rfl⟩:=DJ.1 (A9 E);exact .inl ⟨rfl,by simp[GC]⟩
 .obtain⟨_,_,rfl⟩:=DJ.1 (A9 E);cases h3
 rintro m ls g ⟨n,vs,rfl,rfl,hn,p⟩ ca ap;refine Ei ?_;refine e_ ?_;have a5:WhH g mw f:=by
  refine(s.wh.ka λo ho=>ax mw o ho λe=>?_).ka λo ho=>p.k mw o ho ?_
  .exact s.wh.ne s.hb e.symm
  .have:=s.wh.lt;omega
 have ag:g[b]?=some (.o (.cells (ah ⟨w,v,R,r,D,u,G,N,J,.slice none 0 0,.slice none 0 0,.slice none 0 0⟩ false) 15 true)):=p.k b _ bt a_;by_cases X:n<f.length
 case neg=>
  obtain rfl:n=f.length:=a_;rw[aN (B8 _)];refine k_ ?_;have kg:∀(j:Nat) o,A[j]?=some o->j≠b->g[j]?=some o:=λj o d V=>p.k j o (ax j o d V) i_;have a1:∀ {j e:Nat} {cs:Tn} {bb:Bool},A[j]?=some (.o (.cells cs e bb))->e≠15->j≠b:=λ{j e cs bb} d he q=>by
   subst q;rw[s.hb]at d
   simp_all
  have bC:(p_ f).length=(EB f).length:=by simp[p_]
  have cm:∀j,g_ N=some j->j<A.length:=λj q=>(s.us.g_ q).2;have cn:∀x∈vs,∀j,g_ x=some j->C.length<=j:=λx hx j q=>by
   obtain⟨i,B⟩:=FK hx;obtain⟨c,S⟩:=am (l:=EB f) (i:=i) (by rw[←p.vl];exact ai B);exact((p.iv i x c B S).g_ q).1
  refine hK g u G vs (by have:=p.l;omega) ⟨ag,s.bn,s.mpn,λj o d=>p.k j o (Q j o d) i_,s.at_.C2 λj cs _ h=>kg j _ h (a1 h m_),?_,by rw[bC];exact p.vl,λj x l E F=>?_,?_,s.us.C2 λj cs _ h=>kg j _ h (a1 h m_),kg J _ s.pr λe=>?_,λj q e=>?_,λj q=>⟨λe=>?_,λx hx e=>?_⟩⟩
  .rcases p.x with q|⟨id,cx,e1,_,e3⟩
   .exact .inl q
   .refine .inr ⟨id,cx,e1,?_,e3⟩
    simp_all
  .unfold p_ at F;rw[FM]at F;cases S:(EB f)[j]? with
   |none=>rw[S]at F;cases F
   |some c=>
    rw[S]at F;have:=EI F;subst this;rcases p.iv j x c E S with q|⟨id,cx,e1,e2,e3⟩
    .exact .inl q
    .exact .inr ⟨id,cx,e1,a_,e3⟩
  .have e1:((p_ f).map λ_=>Value.slice none 0 0)=(EB f).map λ_=>Value.slice none 0 0:=by
    unfold p_
    simp_all
   rw[e1];exact b3.ka λj o d hb=>p.k j o d i_
  .have E:=s.pr;rw[e,s.hb]at E;cases E
  .grind
  .grind
  grind
 rw[aO X];refine e_ ?_;obtain⟨c,S⟩:=am X;have al:=A9 S;refine aQ (a3.ka λj o d ci=>p.k j o (Q j o d) i_) rfl S ?_;rw[show bW c=[.int .i64 c.1,.int .i64 c.2.1,.int .u8 (ofNat c.2.2)]from rfl];refine e_ ?_;refine kw (ds:=[u]) ag (by simp[ah]) rfl ?_;refine e_ ?_;have a2:=hY.h_ (e:=1) (enc:=D4) bh p.x;refine ab a2 ?_;refine k_ ?_;refine ZU a5 al ?_;refine e_ ?_;refine kw (ds:=[u]) ag (by simp[ah]) rfl ?_;refine e_ ?_;refine ab a2 ?_;refine k_ ?_;refine ZU a5 al ?_;refine e_ ?_;obtain⟨I,bk⟩ : ∃I,I=(EB f).idxOf c:=⟨_,rfl⟩;rw[←bk];have an:(EB f)[I]?=some c:=by
  have X:=qcD.2 (xO.2 al)
  simp_all
 obtain⟨x,hx⟩:=am (l:=vs) (i:=I) (by rw[p.vl];exact ai an);refine SG p.x rfl hx ?_;intro id i';refine e_ ?_;have Y:=p.iv I x c hx an;refine ab (hY.h_ (e:=1) (enc:=l_) bv Y) ?_;refine k_ ?_;obtain⟨g1,cb⟩ : ∃g1,g1=g++[HO.o (.cells [.int .i64 (ofNat n)] 1 true)]:=⟨_,rfl⟩;refine Y.Il (a:=n) bv p.l rfl rfl rfl (by have:=oW (L:=f) (n:=n) (c:=c);unfold bc;rw[EY a_,EY a_];rfl) ?_;intro x' g2 o2 gx k2 l2 b2;refine e_ ?_;refine ab gx ?_;refine k_ ?_;have b7:id=A.length:=by
  simp_all
 have cq:∀j,g_ x=some j->C.length<=j/\j<g.length:=λj q=>Y.g_ q;have b9:∀j,g_ x'=some j->C.length<=j:=λj q=>(o2.g_ q).1;have b8:mw<A.length:=s.wh.lt;have b6:=p.l;have a8:∀(j:Nat) o,g[j]?=some o->g_ x≠some j->g2[j]?=some o:=λj o d hb=>k2 j o d hb;have b4:hY 0 g2 u 1 D4 vs:=p.x.ka λj o d hb=>a8 j o d λe=>by
  grind
 refine b4.KT bh rfl (ai hx) rfl ?_;intro g3 b5 k3 l3;refine k_ ?_;have P:∀m n c,∃a n' c',Value.slice (some ⟨m,0,some 11⟩) n c = .slice a n' c':=λm n c=>⟨_,_,_,rfl⟩;have a7:=yM Y;have ad:=yM o2;have bm:∀i,g_ (.slice (some ⟨g.length,0,some 11⟩) 1 2)=some i->i=g.length:=λi q=>(EI q).symm;refine ae (x:=()) (dg (bU (P _ _ _) λi B=>?_) (dg (pV (P _ _ _) λi B=>?_) (dg (bU (P _ _ _) λi B=>?_) (dg (pV (P _ _ _) λi B=>?_) (dg (bU (P _ _ _) λi B=>?_) (dg (bU a7 λi B=>?_) (dg (bU ad λi B=>?_) (dg (pV a7 λi B=>?_) (dg (pV ad λi B=>?_) fm))))))))) ?_
 .grind
 .grind
 .grind
 .grind
 .grind
 .grind
 .grind
 .grind
 .grind
 refine k_ ?_;rw[aU a_];have O:∀(j:Nat) y,(vs.set I x')[j]?=some y->(j=I/\y=x')∨(j≠I/\vs[j]?=some y):=λj y d=>by
  by_cases e:j=I
  .grind
  grind
 have ck:∀(j:Nat) y z,j≠I->vs[j]?=some y->g_ y=some z->g_ x≠some z/\C.length<=z/\z<g.length:=λj y z e d hz=>by
  obtain⟨c2,bx⟩:=am (l:=EB f) (i:=j) (by rw[←p.vl];exact ai d);exact⟨λq=>e (p.dj j I y x z d hx hz q),(p.iv j y c2 d bx).g_ hz⟩
 refine ap _ _ _ a_ ⟨n+1,vs.set I x',rfl,rfl,X,b5,by rw[GZ];exact p.vl,λj y c2 E F=>?_,λi j y z t E F h3 bl=>?_,λj o d bP=>?_,?_⟩
 .rcases O j y E with⟨rfl,rfl⟩|⟨e,E⟩
  .rw[an]at F;have:=EI F;subst this;rw[ww,qs S];refine o2.ka λi o B hb=>k3 i o B λe=>?_
   grind
  .have b0:f[n]?≠some c2:=λq=>by
    rw[S]at q;have:=EI q;subst this;have cl:=J2 (tu f)
    grind
   rw[ww,rv b0,HF];refine(p.iv j y c2 E F).ka λi o B hb=>?_
   grind
 .have ct:∀(j:Nat) y t,j≠I->vs[j]?=some y->g_ y=some t->g_ x'≠some t:=λj y t e d hy co=>by
   grind
  rcases O i y E with⟨q1,q2⟩|⟨e,q1⟩
  .grind
  .rcases O j z F with⟨p1,p2⟩|⟨e2,p1⟩
   .grind
   .exact p.dj i j y z t q1 p1 h3 bl
 .refine k3 j o (a8 j o (p.k j o d bP) λe=>?_) λe=>?_
  .grind
  grind
 .omega
end Go.Am
namespace Go.Am
open Sx Go.Proofs Go.Shelf Go.Lib Go.Sort
section
variable [DB]
def Uo [Fc]{C:m8}{a:Nat}{mu:ke}{H:Tu}{w w':TS}(h:WR C a mu H w)(d:Go.RowKit.Below w.heap.size w w')(n:w.drawn<=w'.drawn):WR C a mu H w'/\Fv H mu w H mu w':=by
 refine⟨⟨λid o k f=>?_,h.inj,h.own,h.ro,h.JP,λg r q=>?_⟩,⟨B8 _,λ_ _=>rfl,d.size,λb l _=>d.block b l,λb h=>.inr h,d.os,d.tape,d.output,n⟩⟩
 .obtain⟨p,i,j⟩:=h.obj id o k f;exact⟨p,i,by rw[d.block _ (kV f j)];exact j⟩
 .obtain⟨k,f,c,e,m,i,j⟩:=h.Fe g r q;exact⟨k,f,c,e,m,by rw[d.block _ (JX.1 i).1];exact i,j⟩
def CP{W w':TS}(h1:w'.os=W.os)(d:w'.tape=W.tape)(f:w'.output=W.output)(g:W.drawn<=w'.drawn)(i:W.heap.size<=w'.heap.size)(j:∀b,b<W.heap.size->w'.heap[b]?=W.heap[b]?):∃q a,w'=grow (W.drewN q) a:=by
 refine⟨w'.drawn - W.drawn,w'.heap.extract W.heap.size w'.heap.size,?_⟩;have e:w'.heap=W.heap++w'.heap.extract W.heap.size w'.heap.size:=by
  grind
 obtain⟨k,m,c,l,h⟩:=w';simp only at h1 d f g e;subst h1 d f;unfold grow World.drewN;simp only;rw[←e,show W.drawn+(c - W.drawn)=c by omega]
def Ae{j7:Type} [Inhabited j7]{enc:j7->Tn}{e:Nat}(c:∀x,(enc x).length=e){l:List j7}{t:Nat}(j:t<l.length*e):(l.flatMap enc)[t]?=some (Go.Sort.flatK enc e l.toArray)[t]!:=by
 rw[Go.Sort.get_flatK enc e l.toArray t a_];have b:0<e:=by
  grind
 have d:t / e<l.length:=Nat.div_lt_of_lt_mul i_;have g:=mN (e:=e) (enc:=enc) (l:=l) (λa _=>c a) (i:=t / e) (a:=l[t / e]) (Gm d);have h:=KK t b;have f:t=t / e*e+t%e:=by rw[Nat.mul_comm];exact(Nat.div_add_mod t e).symm
 grind
def UK{j7:Type} [Inhabited j7]{enc:j7->Tn}{e:Nat}(n:∀x,(enc x).length=e)(y:∀x,∀v∈enc x,Am.scalar v=true) [Fc]{mu:ke}{p:Pl}{w:TS}{l:List j7}(q:F6 mu p w.heap[p.b]? (.cells (l.flatMap enc) e true)):HoldsK enc e w p.b p.o l.toArray:=by
 obtain⟨_,_,_,c,t,r,f,s,g,h⟩:=q;obtain rfl:=g rfl;intro j m;rw[Go.Sort.size_flatK]at m;have d:=Ae (enc:=enc) n (l:=l) (t:=j) a_;obtain⟨z,i,k⟩:=h j _ d;have a:Am.scalar (Go.Sort.flatK enc e l.toArray)[j]! = true:=by
  have u:=A9 d
  grind
 have:=ch a k;subst this;exact⟨by simp[World.cell?,f,i],by simp[World.frozen?,f]⟩
def CL{C:m8}{d:Nat}{mu:ke}{H:Tu}{w:TS} [Fc](y:WR C d mu H w){j7:Type} [Inhabited j7]{enc:j7->Tn}{e:Nat}(h:∀x,(enc x).length=e)(A:∀x,∀v∈enc x,Am.scalar v=true){id:Nat}{p:Pl}{l l':List j7}
  (i':H[id]?=some (.cells (l.flatMap enc) e true)) (z:mu id=some p) (S:l'.length=l.length) (n:Nat) (os:Array Obj) :
  WR C d mu (H.set id (.cells (l'.flatMap enc) e true)) (sortWorldK enc e w p.b p.o n l'.toArray os)/\Fv H mu w (H.set id (.cells (l'.flatMap enc) e true)) mu (sortWorldK enc e w p.b p.o n l'.toArray os):=by
 obtain⟨T,f,N⟩:=y.obj id _ i' rfl;rw[z]at f;cases f;obtain⟨G,P,Q,c,t,r,s,I,J,R⟩:=N;have M:(l'.flatMap enc).length=l'.length*e:=aM λa _=>h a;have L:(l.flatMap enc).length=l.length*e:=aM λa _=>h a;have g:=y.set (w':=Go.Sort.putRowK enc e (Go.Sort.ahead w n) p.b p.o l'.toArray) (x:=.cells (Go.Sort.putCells (λv:Value=>v) p.o (Go.Sort.flatK enc e l'.toArray) c) t r) i' rfl z (by
   apply qc7;intro i;show(w.heap.modify p.b _)[i]?=_;rw[Array.getElem?_modify,ZK];split
   next q=>
    subst q;rw[s,qs (JX.1 s).1];rfl
   .rfl) rfl rfl rfl (.cells (l'.flatMap enc) e true) (λ_=>rfl) ⟨G,j_,by
    rw[A_];intro v j;obtain⟨a,_,m⟩:=GG.1 j;exact iA (A a v m),_,t,r,rfl,by simp[Go.Sort.putCells,I],J,λi v j=>by
    have q:i<l'.length*e:=i_;have K:=Ae (enc:=enc) h (l:=l') q;rw[j]at K;obtain⟨u,O⟩ : ∃u,c[p.o+i]?=some u:=⟨c[p.o+i]'(by grind),qcv _⟩;refine⟨v,?_,?_⟩
    .simp only[Go.Sort.putCells,Array.getElem?_mapIdx,O,FJ]
     simp_all
    .obtain⟨a,_,m⟩:=GG.1 (A9 j);exact .scalar (A a v m)⟩ (Nat.le_add_right _ _)
 obtain⟨B,D⟩:=g;obtain⟨E,F⟩:=Uo (w':=sortWorldK enc e w p.b p.o n l'.toArray os) B ⟨rfl,rfl,rfl,by unfold sortWorldK grow;simp,λk h=>by
  unfold sortWorldK grow
  grind⟩ (B8 _)
 exact⟨E,D.trans F⟩
def Qe{C:m8}(S:∀g vs,C.G g=some vs->vs.all UO=true){j7:Type} [Inhabited j7]{enc:j7->Tn}{e:Nat}{s:j7->j7->Int}{g:TQ}(Y:∀x,∀v∈enc x,Am.scalar v=true)
  (X:∀x y,en C g [.agg ⟨enc x⟩,.agg ⟨enc y⟩] [] (.int .i64 (s x y)) []) [glo:Fc] {a:Nat} {mu:ke} {H:Tu} {w:TS} (T:WR C a mu H w) {g_:Nat} (A:a<=g_) (off n:Nat):CmpLays C.P g #[] enc e s g_ off n w:=by
 intro m F l _ x y M;have d:∀b t,b<a->w.heap[b]?=some t->(sortWorldK enc e w g_ off m l F).heap[b]?=some t:=λb t V ht=>by
  unfold sortWorldK grow;simp only;rw[qc4 (by rw[show(Go.Sort.putRowK enc e (Go.Sort.ahead w m) g_ off l).heap.size=w.heap.size from Go.Sort.size_putRow _ _ _ _ _];grind)];show(w.heap.modify g_ _)[b]?=_
  grind
 generalize sortWorldK enc e w g_ off m l F=W at *;have r:WR C W.heap.size (λ_=>none) [] W:=
  ⟨λid o h=>by simp at h,λi j oi oj pi pj h=>by simp at h,λi o p h=>by simp at h,λi o p h=>by simp at h,λ_ _=>rfl,λg vs B=>by
   obtain⟨N,O,c,t,q,Q,R⟩:=T.Fe g vs B;have z:=d _ _ N Q;exact⟨(JX.1 z).1,O,c,t,q,z,uk (S g vs B) R⟩⟩
 have k:∀x:j7,VR DP (λ_=>none) (.agg ⟨enc x⟩) (.agg ⟨enc x⟩):=λx=>.agg rfl λi u v D E=>by
  rw[D]at E;cases E;exact .scalar (Y x u (A9 (by simpa using D)))
 obtain⟨v,Z,w',I,a2,f,a4,q,J,K,L⟩:=X x y glo W.heap.size (λ_=>none) W #[.agg (enc x).toArray,.agg (enc y).toArray] (B8 _) (vc.cons (k x) (vc.cons (k y) .nil)) r M;rw[show(#[Value.agg (enc x).toArray,Value.agg (enc y).toArray] ++ #[]) = #[Value.agg (enc x).toArray,Value.agg (enc y).toArray]by simp];exact⟨.returned v,w',q,⟨by rw[ch rfl I],CP f.os f.tape f.output f.dr f.size λb U=>f.ka b U KA⟩,J,K,L⟩
def IZ{j7:Type} [Inhabited j7](a:j7->j7->Int)(l:List j7):List j7:=(pdq (ltOf a) l.toArray 0 l.length (Lib.bitLen l.length) true true).toList
def xD{j7:Type} [Inhabited j7]{a:j7->j7->Int}(b:SWO (ltOf a))(l:List j7):PermIn 0 l.length l.toArray (IZ a l).toArray/\SortedIn (ltOf a) 0 l.length (IZ a l).toArray:=by
 have h:=pdq_sorts (ltOf a) b l.toArray 0 l.length (Lib.bitLen l.length) true true (D6 _) c_ (Or.inl rfl);unfold IZ;simpa using h
def By{j7:Type} [Inhabited j7]{a:j7->j7->Int}(b:SWO (ltOf a))(l:List j7):(IZ a l).Perm l:=by
 have h:=(xD b l).1.2.2;have c:(IZ a l).length=l.length:=by
  have:=(xD b l).1.1;omega
 grind
def Bw{j7:Type} [Inhabited j7]{a:j7->j7->Int}(c:SWO (ltOf a))(l:List j7):(IZ a l).Pairwise λx y=>ltOf a y x=false:=by
 have f:(IZ a l).length=l.length:=by
  have:=(xD c l).1.1;omega
 rw[KI];intro i j d e b;have h:=(xD c l).2 i j (D6 _) b a_;simpa[d,e]using h
def re{C:m8}(hG:∀g vs,C.G g=some vs->vs.all UO=true){z:Ren}(L:SlLaysF0.n6 C.P z){j7:Type} [Inhabited j7]{enc:j7->Tn}{e:Nat}(U:∀w,(isAgg (z.t 24)).run C.P w = .ok true w)(zE:∀w,(Go.sizeOf (z.t 24)).run C.P w = .ok e w)
  (E:∀x,(enc x).length=e) (u:∀x,∀v∈enc x,Am.scalar v=true) {c:j7->j7->Int} (O:SWO (ltOf c)) {g:TQ} (eg:∀args w,(callFunc g args).run C.P w = .ok (.enter g args) w)
  (hc:∀x y,en C g [.agg ⟨enc x⟩,.agg ⟨enc y⟩] [] (.int .i64 (c x y)) []) {H:Tu} {id n cx:Nat} {l:List j7} (i':H[id]?=some (.cells (l.flatMap enc) e true)) (hn:n=l.length) (h0:0<n) (hl:n<4611686018427387904) :
  en C (z.f 6) [.slice (some ⟨id,0,le e⟩) n cx,.func (.func g) ⟨[]⟩ ⟨[]⟩] H (.tuple #[]) (H.set id (.cells ((IZ c l).flatMap enc) e true)):=by
 subst hn;intro ad M R w d hb k s Y;obtain⟨S,al,h1,h2,h3⟩:=k.IK;obtain⟨T,an,rfl,h5,h6⟩:=h3.IK;obtain rfl:=h6.unnil;have a:d = #[S,T]:=u9.1 h1;subst a;obtain⟨p,j,F,rfl⟩ : ∃p j,R id=some p/\S = .slice (some ⟨p.b,p.o,none⟩) l.length j:=by
  clear i' hl;generalize l.length=N at *;cases h2 with
  |scalar h=>simp[Am.scalar]at h
  |A6 h I ag hx=>simp_all
  |x_ hx=>omega
 obtain⟨A,B,rfl,Q,D⟩ : ∃A B,T = .func (.func g) A B/\A.size=0/\B.size=0:=by
  cases h5 with
  |scalar h=>simp[Am.scalar]at h
  |func hf Q hb _ _=>grind
 obtain rfl:=qcN Q;obtain rfl:=qcN D;obtain⟨p',r,I⟩:=s.obj id _ i' rfl;rw[F]at r;cases r;have m:=AnyQ.slices_SortFunc_eq L e U zE enc E (λx v hv=>by
  have:=u x v hv;unfold Am.scalar at this;split at this<;>first|rfl|cases this) c O g #[] p.b p.o j l.toArray w eg (Qe hG u hc s (s.own id _ p i' rfl F) p.o l.toArray.size) (UK E u I) (kV rfl I) a_
 obtain⟨e',w',fr,⟨rfl,n,os,rfl⟩,J,V,K⟩:=m Y;have q:(IZ c l).length=l.length:=by
  have:=(xD O l).1.1;omega
 obtain⟨W,X⟩:=CL (l':=IZ c l) s E u i' F q n os;have Z:(pdq (ltOf c) l.toArray 0 l.toArray.size (Lib.bitLen l.toArray.size) true true)=(IZ c l).toArray:=by simp[IZ]
 rw[Z]at J K;exact⟨.tuple #[],R,_,.tuple c_ rfl (λi x y h=>by simp at h),W,X,L.f6.enters rfl _ _,fr,J,V,K⟩
end
def ax:Ren:=⟨fun|6=>46|15=>34|14=>79|28=>67|29=>68|20=>107|21=>108|22=>109|23=>110|24=>111|25=>112|26=>113|27=>114|46=>131|47=>96|48=>97|49=>132|50=>133|57=>141|n=>n,
 fun|22=>118|24=>55|25=>131|39=>102|53=>156|55=>158|46=>150|45=>149|50=>129|66=>197|70=>201|76=>219|77=>220|n=>n,λn=>n⟩
def ck(P:TI)(f:TQ):String:=match P.funcs[f]? with
 |some g=>g.name
 |none => ""
def zJ {P:TI} {f:TQ} {B:Func} (h1:(ck P f == "runtime.NumGoroutine")=false) (a:P.funcs[f]?=some { B with name:=ck P f }):Bears P f B:=⟨_,h1,a⟩
def layS:SlLaysF0.n6 Tryz.prog ax:=by
 constructor
 all_goals first
  |kernel_rfl
  |exact zJ d_ d_
  |exact λ_=>d_
end Go.Am
namespace Go.Am
namespace Sx
open Go.ChangeShapes Go.WideShapes Go.ChangeAt Go.WideMaps Go.WideElems Go.RowKit
def DR:TJ->Tn->Prop
 | [],[]=>True
 | .i k :: ks,v :: vs=>(∃n,v = .int k n/\(Lit.int k n).wf=true)/\DR ks vs
 | .b :: ks,v :: vs=>(∃t,v = .bool t)/\DR ks vs
 |_,_=>False
def DR.len:∀ {ks:TJ} {vs:Tn},DR ks vs->vs.length=ks.length
 | [],[],_=>rfl
 | .i k :: ks,v :: vs,h=>by simp[DR.len h.2]
 | .b :: ks,v :: vs,h=>by simp[DR.len h.2]
 | .v :: _,_,h=>by cases h
 | [],_ :: _,h=>by cases h
 | .i _ :: _,[],h=>by cases h
 | .b :: _,[],h=>by cases h
def DR.Gq:∀ {ks a:TJ} {vs c:Tn},DR ks vs->DR a c->DR (ks++a) (vs++c)
 | [],_,[],_,_,h=>h
 | .i k :: ks,_,v :: vs,_,h,h'=>⟨h.1,DR.Gq h.2 h'⟩
 | .b :: ks,_,v :: vs,_,h,h'=>⟨h.1,DR.Gq h.2 h'⟩
 | .v :: _,_,_,_,h,_=>by cases h
 | [],_,_ :: _,_,h,_=>by cases h
 | .i _ :: _,_,[],_,h,_=>by cases h
 | .b :: _,_,[],_,h,_=>by cases h
def Jf(F:TP->Option (TJ)):List Field->Nat->Option (TJ)
 | [],_=>some []
 |f :: a,off=>match Nat.beq f.offset off,F f.type with
  |true,some ks=>(Jf F a (off+ks.length)).map (ks ++ ·)
  |_,_=>none
def yh(P:TI):Nat->TP->Option (TJ)
 |0,_=>none
 |d+1,t=>match P.underlying t with
  |some (.int k)=>some [.i k]
  |some .bool=>some [.b]
  |some (.struct a)=>match Jf (yh P d) a.toList 0 with
   |some ks=>match Nat.beq ks.length (P.cellsOf t)with
    |true=>some ks
    |false=>none
   |none=>none
  |some (.array n e)=>match yh P d e with
   |some ks=>match Nat.beq (P.cellsOf e) ks.length&&Nat.beq (P.cellsOf t) (n*ks.length)with
    |true=>some (replicate n ks).flatten
    |false=>none
   |none=>none
  |_=>none
section
variable {H:Type} {enc:TypeId×Value->H} {P:TI}
def Ac{F:TP->Option (TJ)}{w:TS}{b:Nat}{j:Tx}{c:Bool}{fuel:Nat}
  (i:∀t ks,F t=some ks->∀cs (x:DataW H×List MemPlace),DataW.trod enc P w b j c fuel t cs=some x->x.2=[]/\DR ks cs/\∀w' d e h',DataW.trod enc P w' d e h' fuel t cs=some x) (cs:Tn) :
  ∀(g:List Field) (off:Nat) (ks:TJ) (xs:List (DataW H×List MemPlace)),Jf F g off=some ks->g.mapM (λf=>DataW.trod enc P w b j c fuel f.type ((cs.drop f.offset).take (P.cellsOf f.type)))=some xs->
   xs.flatMap (·.2)=[]/\DR ks ((cs.drop off).take ks.length)/\∀w' d e h',g.mapM (λf=>DataW.trod enc P w' d e h' fuel f.type ((cs.drop f.offset).take (P.cellsOf f.type)))=some xs
 | [],off,ks,xs,h1,a=>by
  simp only[Jf,G_]at h1;subst h1;simp only[qdm,qc3,G_]at a;subst a;refine⟨rfl,by simp[DR],λ_ _ _ _=>c_⟩
 |f :: g,off,ks,xs,h1,a=>by
  simp only[Jf]at h1;split at h1
  next k1 h p=>
   obtain⟨s,e3,rfl⟩:=EC.1 h1;have h:=Ey h;rw[XO]at a;obtain⟨x,q,a⟩:=FY.1 a;obtain⟨u,r,a⟩:=FY.1 a;cases a;obtain⟨k,l,m⟩:=i _ _ p _ _ q;obtain⟨n,v,o⟩:=Ac i cs g _ s u e3 r;refine⟨by simp[k,n],?_,λw' d e h'=>?_⟩
   .rw[HY,qdo];refine DR.Gq ?_ j_;have y:=DR.len l
    grind
   .rw[XO,m w' d e h',o w' d e h'];rfl
  .cases h1
def PF{w:TS}{a:Nat}{k:Tx}{b:Bool}{fuel c:Nat}{e:TP}{ks:TJ}(t:c=ks.length)
  (j:∀cs (x:DataW H×List MemPlace),DataW.trod enc P w a k b fuel e cs=some x->x.2=[]/\DR ks cs/\∀w' d f h',DataW.trod enc P w' d f h' fuel e cs=some x) (cs:Tn) :
  ∀(n:Nat) (xs:List (DataW H×List MemPlace)),(range n).mapM (λi=>DataW.trod enc P w a k b fuel e ((cs.drop (i*c)).take c))=some xs->
   xs.flatMap (·.2)=[]/\DR (replicate n ks).flatten (cs.take (n*c))/\∀w' d f h',(range n).mapM (λi=>DataW.trod enc P w' d f h' fuel e ((cs.drop (i*c)).take c))=some xs
 |0,xs,h=>by
  simp only[List.range_zero,qdm,qc3,G_]at h;subst h;exact⟨rfl,by simp[DR],λ_ _ _ _=>c_⟩
 |n+1,xs,h=>by
  rw[MT,List.mapM_append]at h;obtain⟨ys,h1,h⟩:=FY.1 h;obtain⟨u,g,h⟩:=FY.1 h;cases h;rw[XO]at g;obtain⟨z,s,g⟩:=FY.1 g;cases g;obtain⟨l,m,o⟩:=PF t j cs n ys h1;obtain⟨p,q,r⟩:=j _ _ s;refine⟨by simp[l,p],?_,λw' d f h'=>?_⟩
  .rw[List.replicate_succ',List.flatten_append,KJ,U1,qdo];refine DR.Gq m ?_;simpa using q
  .rw[MT,List.mapM_append,o w' d f h',XO,r w' d f h'];rfl
def lI:∀(d:Nat) (t:TP) (ks:TJ),yh P d t=some ks->∀(w:TS) (b:Nat) (j:Tx) (c:Bool) (fuel:Nat) (cs:Tn) (x:DataW H×List MemPlace),DataW.trod enc P w b j c fuel t cs=some x->
  x.2=[]/\DR ks cs/\∀w' f g h',DataW.trod enc P w' f g h' fuel t cs=some x
 |0,_,_,h=>by cases h
 |d+1,t,ks,h=>by
  intro w b j c fuel cs x a;simp only[yh]at h;split at h
  next k e=>
   cases h;obtain⟨n,rfl,rfl,v⟩:=DataW.trod_int e a;refine⟨rfl,⟨⟨n,rfl,v⟩,trivial⟩,λw' f g h'=>?_⟩;cases fuel with
   |zero=>simp[DataW.trod]at a
   |succ m=>simp[DataW.trod,e,v]
  next e=>
   cases h;obtain⟨n,rfl,rfl⟩:=DataW.trod_bool e a;refine⟨rfl,⟨⟨n,rfl⟩,trivial⟩,λw' f g h'=>?_⟩;cases fuel with
   |zero=>simp[DataW.trod]at a
   |succ m=>simp[DataW.trod,e]
  next z e=>
   split at h
   next y p=>
    split at h
    next e3=>
     cases h;have e3:=Ey e3;cases fuel with
     |zero=>simp[DataW.trod]at a
     |succ m=>
      simp only[DataW.trod,e]at a;split at a
      next r=>
       obtain⟨s,q,rfl⟩:=EC.1 a;obtain⟨l,i,o⟩:=Ac (λt ks h cs x a=>lI d t ks h w b j c m cs x a) cs z.toList 0 ks s p q;rw[XN,IW a_]at i;refine⟨l,i,λw' f g h'=>?_⟩;simp only[DataW.trod,e,r,if_true];rw[o w' f g h'];rfl
      .cases a
    .cases h
   .cases h
  next n e u=>
   split at h
   next y p=>
    split at h
    next e3=>
     cases h;rw[te]at e3;have e4:=Ey e3.1;have e5:=Ey e3.2;cases fuel with
     |zero=>simp[DataW.trod]at a
     |succ m=>
      simp only[DataW.trod,u]at a;split at a
      next r=>
       obtain⟨s,q,rfl⟩:=EC.1 a;obtain⟨l,i,o⟩:=PF e4 (λcs x a=>lI d e y p w b j c m cs x a) cs n s q;rw[IW j_]at i;refine⟨l,i,λw' f g h'=>?_⟩;simp only[DataW.trod,u,r,if_true];rw[o w' f g h'];rfl
      .cases a
    .cases h
   .cases h
  .cases h
end
section
variable [DB]
end
end Sx
end Go.Am
namespace Go.Am
namespace Sx
def zw{n:Int}(h:(Lit.int .u8 n).wf=true):0<=n/\n<=255:=by
 simp only[Lit.wf,te,E6]at h;exact h
def rg{H:Type}{enc:TypeId×Value->H}{P:TI}{w:TS}{a:Nat}{f:Tx}{b:Bool}:∀ {c:List TypeId} {vs:Tn} {ds:List (DataW H)} {e:List MemPlace},DataW.TrodAll enc P w a f b c vs ds e->ds.length=c.length
 | [],[],[],_,_=>rfl
 |_ :: _,_ :: _,_ :: _,_,h=>by
  obtain⟨p,q,_,d,_⟩:=h;simp[rg d]
 | [],_ :: _,_,_,h=>by cases h
 | [],[],_ :: _,_,h=>by cases h
 |_ :: _,[],_,_,h=>by cases h
 |_ :: _,_ :: _,[],_,h=>by cases h
end Sx
namespace Sx
open Go.ChangeShapes Go.WideShapes Go.ChangeAt Go.WideMaps Go.WideElems Go.RowKit
inductive FU where
 |i (k:TK)
 |b
 |s (ks:TJ)
def FU.lk:FU->LK
 | .i k=>.i k
 | .b=>.b
 | .s _=>.v
def YA(w:TS)(ks:TJ)(v:Value):Prop:=
 v = .slice none 0 0∨∃(a:Addr) (len cap:Nat) (c:Tl) (t:TP) (fr:Nat×Nat) (b:Tn),v = .slice (some a) len cap/\a.spot=none/\len<=cap/\cap<=maxLen/\
  w.heap[a.block]?=some (.cells c t fr)/\(cap=0∨a.off+cap*ks.length<=c.size)/\b.length=len*ks.length/\(∀(i:Nat) v,b[i]?=some v->c[a.off+i]?=some v)/\
  ∀i,i<len->DR ks ((b.drop (i*ks.length)).take ks.length)
def K9(w:TS):FU->Value->Prop
 | .i k,v=>∃n,v = .int k n/\(Lit.int k n).wf=true
 | .b,v=>∃t,v = .bool t
 | .s ks,v=>YA w ks v
def em(w:TS):List FU->Tn->Prop
 | [],[]=>True
 |k :: ks,v :: vs=>K9 w k v/\em w ks vs
 |_,_=>False
def bJ(h:HL):List FU->TG->Prop
 | [],[]=>True
 | .i k :: ks,.i n :: ls=>(Lit.int k n).wf=true/\bJ h ks ls
 | .b :: ks,.b _ :: ls=>bJ h ks ls
 | .s c :: ks,.v x :: ls=>(∃n a,He h x c.length n a/\n<=maxLen/\∀i,i<n->DR c ((a.drop (i*c.length)).take c.length))/\bJ h ks ls
 |_,_=>False
def em.len{w:TS}:∀ {ks:List FU} {vs:Tn},em w ks vs->vs.length=ks.length
 | [],[],_=>rfl
 |_ :: _,_ :: _,h=>by simp[em.len h.2]
 | [],_ :: _,h=>by cases h
 |_ :: _,[],h=>by cases h
def em.Gq{w:TS}:∀ {ks a:List FU} {vs b:Tn},em w ks vs->em w a b->em w (ks++a) (vs++b)
 | [],_,[],_,_,h=>h
 |_ :: _,_,_ :: _,_,h,h'=>⟨h.1,em.Gq h.2 h'⟩
 | [],_,_ :: _,_,h,_=>by cases h
 |_ :: _,_,[],_,h,_=>by cases h
def bJ.Gq{h:HL}:∀ {ks a:List FU} {vs c:TG},bJ h ks vs->bJ h a c->bJ h (ks++a) (vs++c)
 | [],_,[],_,_,h=>h
 | .i _ :: ks,_,.i _ :: _,_,h,h'=>⟨h.1,bJ.Gq (ks:=ks) h.2 h'⟩
 | .b :: ks,_,.b _ :: _,_,h,h'=>bJ.Gq (ks:=ks) h h'
 | .s _ :: ks,_,.v _ :: _,_,h,h'=>⟨h.1,bJ.Gq (ks:=ks) h.2 h'⟩
 | [],_,_ :: _,_,h,_=>by cases h
 | .i _ :: _,_,[],_,h,_=>by cases h
 | .b :: _,_,[],_,h,_=>by cases h
 | .s _ :: _,_,[],_,h,_=>by cases h
 | .i _ :: _,_,.b _ :: _,_,h,_=>by cases h
 | .i _ :: _,_,.v _ :: _,_,h,_=>by cases h
 | .b :: _,_,.i _ :: _,_,h,_=>by cases h
 | .b :: _,_,.v _ :: _,_,h,_=>by cases h
 | .s _ :: _,_,.i _ :: _,_,h,_=>by cases h
 | .s _ :: _,_,.b _ :: _,_,h,_=>by cases h
def hT(F:TP->Option (List FU)):List Field->Nat->Option (List FU)
 | [],_=>some []
 |f :: a,off=>match Nat.beq f.offset off,F f.type with
  |true,some ks=>(hT F a (off+ks.length)).map (ks ++ ·)
  |_,_=>none
def kby:LK->Nat
 | .i .i64=>8
 |_=>0
def kbs:TJ->Nat
 | []=>0
 |k :: ks=>kby k+kbs ks
def VO:TJ->Option (List FU)
 | []=>some []
 | .i k :: ks=>(VO ks).map (.i k :: ·)
 | .b :: ks=>(VO ks).map (.b :: ·)
 | .v :: _=>none
def xV{w:TS}:∀ {ks:TJ} {cs:Tn} {c:List FU},VO ks=some c->DR ks cs->em w c cs
 | [],[],_,h,_=>by cases h;exact trivial
 | .i k :: ks,v :: vs,_,h,a=>by
  obtain⟨l,h1,rfl⟩:=EC.1 h;exact⟨a.1,xV h1 a.2⟩
 | .b :: ks,v :: vs,_,h,a=>by
  obtain⟨l,h1,rfl⟩:=EC.1 h;exact⟨a.1,xV h1 a.2⟩
 | .v :: _,_,_,h,_=>by cases h
 | [],_ :: _,_,_,a=>by cases a
 | .i _ :: _,[],_,_,a=>by cases a
 | .b :: _,[],_,_,a=>by cases a
def dk(P:TI):Nat->TP->Option (List FU)
 |0,_=>none
 |d+1,t=>match P.underlying t with
  |some (.int k)=>some [.i k]
  |some .bool=>some [.b]
  |some (.slice e)=>match yh P 20 e with
   |some ks=>match Nat.beq (P.cellsOf e) ks.length&&Nat.blt 0 ks.length&&Nat.ble (kbs ks) (P.bytesOf e)with
    |true=>some [.s ks]
    |false=>none
   |none=>none
  |some (.struct a)=>match hT (dk P d) a.toList 0 with
   |some ks=>match Nat.beq ks.length (P.cellsOf t)with
    |true=>some ks
    |false=>none
   |none=>none
  |some (.array _ _)=>match yh P 20 t with
   |some ks=>VO ks
   |none=>none
  |_=>none
section
variable {H:Type} {enc:TypeId×Value->H} {P:TI}
def Nx(w:TS)(v:Value):Prop:=∀a len cap,v = .slice (some a) len cap->a.spot=none/\∃c t fr,w.heap[a.block]?=some (.cells c t fr)
def kS{j7 c:Type}{f g:j7->Option c}:∀ {l:List j7},(∀x∈l,f x=g x)->l.mapM f=l.mapM g
 | [],_=>rfl
 |a :: l,h=>by
  rw[XO,XO,h a KG,kS λx b=>h x (FZ _ b)]
def bX{a:Addr}(h:a.spot=none)(i:Nat):a.add i=⟨a.block,a.off+i,none⟩:=by
 obtain⟨b,o,s⟩:=a;cases h;unfold Addr.add;simp
def TU{w:TS}{t e:TP}{ks:TJ}(R:P.underlying t=some (.slice e))(X:yh P 20 e=some ks)(V:P.cellsOf e=ks.length)(h0:0<ks.length){q:Nat}(A:q=0){g:Bool}{fuel:Nat}{cs:Tn}{x:DataW H×List MemPlace}
  (S:DataW.trod enc P w q (λ_=>true) g fuel t cs=some x) (hl:∀v∈cs,Nx w v) :
  ∃v,cs=[v]/\YA w ks v/\∀(w':TS) (E:Tx),(∀b,b<w.heap.size->w'.heap[b]?=w.heap[b]?)->(∀b,b<w.heap.size->E b=true)->DataW.trod enc P w' q E g fuel t cs=some x:=by
 subst A;have D:=S;rcases DataW.trod_slice R S with⟨rfl,rfl⟩|⟨a,d,f,h,k,n,rfl,rfl,rfl,hb,I,Z,Y,G,O,_⟩
 .refine⟨_,rfl,.inl rfl,λw' E _ _=>?_⟩;cases fuel with
  |zero=>simp[DataW.trod]at S
  |succ m=>simp[DataW.trod,R]
 .obtain⟨N,c,t',fr,z⟩:=hl _ KG a d f rfl;obtain⟨al,hr⟩:=O rfl;rw[V]at G hr;have M:a.block<w.heap.size:=by
   grind
  have r:∀i,i<f->∃o y,w.cells? 0 (a.add (i*ks.length)) ks.length=some o/\DataW.trod enc P w 0 (λ_=>true) g n e o=some y/\(h++k)[i]?=some y:=by
   intro i C;by_cases s:i<d
   .have p:=G i s;have u:h[i]?=some h[i]:=Gm a_;rw[u]at p;obtain⟨o,U,h5⟩:=FY.1 p
    simp_all
   .have p:=hr (i - d) a_;rw[show d+(i - d)=i by omega]at p;have u:k[i - d]?=some (k[i - d]'(by omega)):=Gm a_;rw[u]at p;obtain⟨o,U,h5⟩:=FY.1 p
    grind
  have rd:∀i,i<f->∀j,j<ks.length->∀o,w.cells? 0 (a.add (i*ks.length)) ks.length=some o->c[a.off+i*ks.length+j]?=o[j]?:=by
   intro i C j L o J;have s:=(World.cells?_some J).2.2 j L;rw[bX N,bX rfl]at s;rw[←s];unfold World.cell?;simp[z]
  have Q:f=0∨a.off+f*ks.length<=c.size:=by
   by_cases W:f=0
   .omega
   .right;obtain⟨o,y,s,_,_⟩:=r (f - 1) a_;have p:=rd (f - 1) a_ (ks.length - 1) a_ o s;have K:=(World.cells?_some s).2.1;rw[Gm a_]at p;have u:=(JX.1 p).1;have U:f*ks.length=(f - 1)*ks.length+ks.length:=by
     rw[←Nat.succ_mul];congr 1;omega
    omega
  have ad:a.off+d*ks.length<=c.size∨d=0:=by
   grind
  refine⟨_,rfl,.inr ⟨a,d,f,c,t',fr,(c.toList.drop a.off).take (d*ks.length),rfl,N,I,Z,z,Q,?_,?_,?_⟩,?_⟩
  .grind
  .grind
  .intro i C;obtain⟨o,y,s,p,_⟩:=r i a_;obtain⟨_,u,_⟩:=lI 20 e ks X w 0 _ g n o y p;have K:=(World.cells?_some s).2.1;have:(((c.toList.drop a.off).take (d*ks.length)).drop (i*ks.length)).take ks.length=o:=by
    apply Ib;intro j;by_cases L:j<ks.length
    .have ag:i*ks.length+ks.length<=d*ks.length:=by
      have:=Pn ks.length (show i+1<=d by omega)
      grind
     grind
    grind
   rw[this];exact u
  .intro w' E hw an;have B:∀i,i<f->w'.cells? 0 (a.add (i*ks.length)) ks.length=w.cells? 0 (a.add (i*ks.length)) ks.length:=by
    intro i C;unfold World.cells?;have:∀j,w'.cell? ((a.add (i*ks.length)).add j)=w.cell? ((a.add (i*ks.length)).add j):=by
     intro j;rw[bX N,bX rfl];unfold World.cell?;rw[hw _ M]
    simp only[this]
   have T:∀i,i<f->(w'.cells? 0 (a.add (i*P.cellsOf e)) (P.cellsOf e)).bind (DataW.trod enc P w' 0 E g n e)=(h++k)[i]?:=by
    intro i C;rw[V,B i C];obtain⟨o,y,s,p,u⟩:=r i C;rw[s,u,Ex];exact(lI 20 e ks X w 0 _ g n o y p).2.2 w' 0 E g
   have F:∀i,i<f->(w.cells? 0 (a.add (i*P.cellsOf e)) (P.cellsOf e)).bind (DataW.trod enc P w 0 (λ_=>true) g n e)=(h++k)[i]?:=by
    grind
   unfold DataW.trod at D ⊢;simp only[R]at D ⊢;rw[qs ⟨D6 _,I,Z⟩]at D ⊢;rw[kS (λi C=>(T i i_).trans (F i i_).symm)];rw[kS (l:=range (f - d)) (λj L=>(T (d+j) i_).trans (F (d+j) i_).symm)]
   simp_all
def P_{F:TP->Option (List FU)}{w:TS}{a:Bool}{fuel:Nat}(cs:Tn)(g:∀v∈cs,Nx w v)
  (i:∀t ks,F t=some ks->∀cs (x:DataW H×List MemPlace),(∀v∈cs,Nx w v)->DataW.trod enc P w 0 (λ_=>true) a fuel t cs=some x->em w ks cs/\∀(w':TS) (d:Tx),(∀b,b<w.heap.size->w'.heap[b]?=w.heap[b]?)->(∀b,b<w.heap.size->d b=true)->DataW.trod enc P w' 0 d a fuel t cs=some x) :
  ∀(e:List Field) (off:Nat) (ks:List FU) (xs:List (DataW H×List MemPlace)),hT F e off=some ks->e.mapM (λf=>DataW.trod enc P w 0 (λ_=>true) a fuel f.type ((cs.drop f.offset).take (P.cellsOf f.type)))=some xs->
   em w ks ((cs.drop off).take ks.length)/\∀(w':TS) (d:Tx),(∀b,b<w.heap.size->w'.heap[b]?=w.heap[b]?)->(∀b,b<w.heap.size->d b=true)->e.mapM (λf=>DataW.trod enc P w' 0 d a fuel f.type ((cs.drop f.offset).take (P.cellsOf f.type)))=some xs
 | [],off,ks,xs,h1,c=>by
  simp only[hT,G_]at h1;subst h1;simp only[qdm,qc3,G_]at c;subst c;refine⟨by simp[em],λ_ _ _ _=>c_⟩
 |f :: e,off,ks,xs,h1,c=>by
  simp only[hT]at h1;split at h1
  next k1 h k=>
   obtain⟨p,e3,rfl⟩:=EC.1 h1;have h:=Ey h;rw[XO]at c;obtain⟨x,l,c⟩:=FY.1 c;obtain⟨q,m,c⟩:=FY.1 c;cases c;obtain⟨j,r⟩:=i _ _ k _ _ (λv o=>g v (lC (OO o))) l;obtain⟨s,u⟩:=P_ cs g i e _ p q e3 m;refine⟨?_,λw' d y n=>?_⟩
   .rw[HY,qdo];refine em.Gq ?_ j_;have g:=em.len j
    grind
   simp_all
  .cases h1
def P':∀(d:Nat) (t:TP) (ks:List FU),dk P d t=some ks->∀(w:TS) (a:Bool) (fuel:Nat) (cs:Tn) (x:DataW H×List MemPlace),(∀v∈cs,Nx w v)->DataW.trod enc P w 0 (λ_=>true) a fuel t cs=some x->
  em w ks cs/\∀(w':TS) (f:Tx),(∀b,b<w.heap.size->w'.heap[b]?=w.heap[b]?)->(∀b,b<w.heap.size->f b=true)->DataW.trod enc P w' 0 f a fuel t cs=some x
 |0,_,_,h=>by cases h
 |d+1,t,ks,h=>by
  intro w a fuel cs x o c;simp only[dk]at h;split at h
  next k e=>
   cases h;obtain⟨n,rfl,rfl,p⟩:=DataW.trod_int e c;refine⟨⟨⟨n,rfl,p⟩,trivial⟩,λw' f _ _=>?_⟩;cases fuel with
   |zero=>simp[DataW.trod]at c
   |succ m=>simp[DataW.trod,e,p]
  next e=>
   cases h;obtain⟨n,rfl,rfl⟩:=DataW.trod_bool e c;refine⟨⟨⟨n,rfl⟩,trivial⟩,λw' f _ _=>?_⟩;cases fuel with
   |zero=>simp[DataW.trod]at c
   |succ m=>simp[DataW.trod,e]
  next e r=>
   split at h
   next z i=>
    split at h
    next e3=>
     cases h;simp only[te,HA]at e3;obtain⟨v,rfl,g,l⟩:=TU r i (Ey e3.1.1) e3.1.2 rfl c o;exact⟨⟨g,trivial⟩,l⟩
    .cases h
   .cases h
  next s e=>
   split at h
   next z i=>
    split at h
    next e3=>
     cases h;have e3:=Ey e3;cases fuel with
     |zero=>simp[DataW.trod]at c
     |succ m=>
      simp only[DataW.trod,e]at c;split at c
      next j=>
       obtain⟨A,u,rfl⟩:=EC.1 c;obtain⟨g,l⟩:=P_ cs o (λt ks h cs x o c=>P' d t ks h w a m cs x o c) s.toList 0 ks A i u;rw[XN,IW a_]at g;refine⟨g,λw' f p y=>?_⟩;simp only[DataW.trod,e,j,if_true]
       simp_all
      .cases c
    .cases h
   .cases h
  .split at h
   next q i=>
    obtain⟨_,g,l⟩:=lI 20 t q i w 0 _ a fuel cs x c;exact⟨xV h g,λw' f _ _=>l w' 0 f a⟩
   .cases h
  .cases h
abbrev Ga:=s_×Option Pl
def xI(w:TS)(b:Ga):Prop:=b.1 = .dead∨∃vs e p c t fr,b.1 = .cells vs e false/\b.2=some p/\p.ra=e/\vs.all flat=true/\vs.all bg=true/\vs.length<=p.room/\w.heap[p.b]?=some (.cells c t fr)/\c.size=p.o+p.room/\∀(i:Nat) v,vs[i]?=some v->c[p.o+i]?=some v
def qf:∀ {ks:TJ} {vs:Tn},DR ks vs->vs.all flat=true/\vs.all bg=true
 | [],[],_=>⟨rfl,rfl⟩
 | .i k :: ks,v :: vs,h=>by
  obtain⟨⟨n,rfl,_⟩,c⟩:=h;obtain⟨a,b⟩:=qf c;exact⟨by simp[a,flat,gL,scalar],by simp[b];rfl⟩
 | .b :: ks,v :: vs,h=>by
  obtain⟨⟨n,rfl⟩,c⟩:=h;obtain⟨a,b⟩:=qf c;exact⟨by simp[a,flat,gL,scalar],by simp[b];rfl⟩
 | .v :: _,_,h=>by cases h
 | [],_ :: _,h=>by cases h
 | .i _ :: _,[],h=>by cases h
 | .b :: _,[],h=>by cases h
def xU{ks:TJ}(d:0<ks.length){c:Tn}{n:Nat}(o:c.length=n*ks.length)(h:∀i,i<n->DR ks ((c.drop (i*ks.length)).take ks.length)):c.all flat=true/\c.all bg=true:=by
 have f:∀j,j<c.length->∃v,c[j]?=some v/\flat v=true/\bg v=true:=by
  intro j k;have g:j / ks.length<n:=by
   rw[Nat.div_lt_iff_lt_mul d];omega
  obtain⟨a,b⟩:=qf (h _ g);have p:=KK j d;have m:=Nat.div_add_mod j ks.length;have e:((c.drop (j / ks.length*ks.length)).take ks.length)[j%ks.length]?=some c[j]:=by
   grind
  grind
 constructor<;>
 .rw[A_];intro v l;obtain⟨j,k⟩:=FK l
  grind
section
variable [DB] [Fc]
def P9{w:TS}{p:FU}{v:TR}(e:∀ks,p = .s ks->0<ks.length)(h:K9 w p v)(n0:Nat):∃(x:SL) (A:List Ga),(∀b∈A,xI w b)/\x.is p.lk=true/\x.h_/\
  (∀mu:ke,(∀(i:Nat) b,A[i]?=some b->mu (n0+i)=b.2)->VR DP mu x.val v)/\∀e:HL,(∀(i:Nat) b,A[i]?=some b->e[n0+i]?=some (.o b.1))->bJ e [p] [x.lf]:=by
 cases p with
 |i k=>
  obtain⟨n,rfl,N⟩:=h;exact⟨.i k n,[],c_,by simp[SL.is,FU.lk,fM],trivial,λmu _=>.scalar rfl,λe _=>⟨N,trivial⟩⟩
 |b=>
  obtain⟨t,rfl⟩:=h;exact⟨.b t,[],c_,rfl,trivial,λmu _=>.scalar rfl,λe _=>trivial⟩
 |s ks=>
  have J:=e ks rfl;rcases h with rfl|⟨a,len,cap,c,t,E,d,rfl,L,y,Q,f,z,m,u,j⟩
  .refine⟨.v (.slice none 0 0),[],c_,rfl,rfl,λmu _=>.scalar rfl,λe _=>⟨⟨0,[],⟨c_,.inl ⟨rfl,rfl⟩⟩,D6 _,λi O=>a_⟩,trivial⟩⟩
  .obtain⟨C,D⟩:=xU J m j;have F:aI (.slice (some ⟨n0,0,le ks.length⟩) len 0)=true:=by simp[aI,nc,aT,bE,bj,aP,aD,le]
   have I:a=⟨a.block,a.off,none⟩:=by cases a;cases L;rfl
   have q:∀e:HL,e[n0]?=some (.o (.cells d ks.length false))->bJ e [.s ks] [.v (.slice (some ⟨n0,0,le ks.length⟩) len 0)]:=λe l=>
    ⟨⟨len,d,⟨m,.inr ⟨n0,0,0,d,false,rfl,l,vd m⟩⟩,a_,j⟩,trivial⟩
   by_cases g:cap=0
   .subst g;obtain rfl:len=0:=a_;have B:d=[]:=qcT a_;subst B;refine⟨.v (.slice (some ⟨n0,0,le ks.length⟩) 0 0),[(.cells [] ks.length false,some ⟨a.block,c.size,0,ks.length⟩)],λb r=>?_,rfl,F,λmu _=>.x_ (D6 _),λe l=>q e (l 0 _ rfl)⟩;simp only[GM]at r;subst r;exact .inr ⟨[],ks.length,_,c,t,E,rfl,rfl,rfl,rfl,rfl,D6 _,f,c_,λi v M=>by simp at M⟩
   .have z:a.off+cap*ks.length<=c.size:=z.resolve_left g;have K:=Pn ks.length y;refine⟨.v (.slice (some ⟨n0,0,le ks.length⟩) len 0),[(.cells d ks.length false,some ⟨a.block,a.off,c.size - a.off,ks.length⟩)],λb r=>?_,rfl,F,λmu l=>?_,λe l=>q e (l 0 _ rfl)⟩
    .simp only[GM]at r;subst r;exact .inr ⟨d,ks.length,_,c,t,E,rfl,rfl,rfl,C,D,i_,f,i_,u⟩
    .have G:=l 0 _ rfl;rw[I];have:=VR.A6 (la:=DP) (mu:=mu) (id:=n0) (off:=0) (len:=len) (cap:=cap) (cx:=0) G i_ y (.inl rfl);exact this
def vG{w:TS}:∀ {a:List FU} {vs:Tn},(∀ks,FU.s ks∈a->0<ks.length)->em w a vs->∀n0,∃(xs:List SL) (d:List Ga),(∀b∈d,xI w b)/\ba xs (a.map FU.lk)=true/\(∀x∈xs,x.h_)/\xs.length=vs.length/\
  (∀mu:ke,(∀(i:Nat) b,d[i]?=some b->mu (n0+i)=b.2)->vc DP mu (xs.map SL.val) vs)/\∀c:HL,(∀(i:Nat) b,d[i]?=some b->c[n0+i]?=some (.o b.1))->bJ c a (xs.map SL.lf)
 | [],[],_,_,n0=>⟨[],[],c_,rfl,c_,rfl,λmu _=>⟨rfl,λi x y h=>by simp at h⟩,λc _=>trivial⟩
 |M :: a,v :: vs,c,h,n0=>by
  obtain⟨x,d,a1,a2,G,u,z⟩:=P9 (λks e=>c ks j_) h.1 n0;obtain⟨xs,j,I,A,J,B,C,D⟩:=vG (λks e=>c ks (FZ _ e)) h.2 (n0+d.length);have r:∀ {n:Type} {f:Nat->n} {g:Ga->n},(∀(i:Nat) b,(d++j)[i]?=some b->f (n0+i)=g b)->(∀(i:Nat) b,d[i]?=some b->f (n0+i)=g b)/\∀(i:Nat) b,j[i]?=some b->f (n0+d.length+i)=g b:=by
   intro n f g h;refine⟨λi b t=>h i b ?_,λi b t=>?_⟩
   .grind
   .rw[SB];refine h _ b ?_
    grind
  refine⟨x :: xs,d++j,λb t=>?_,by simp[ba,a2,A],λy Q=>?_,by simp[B],λmu m=>?_,λc F=>?_⟩
  .grind
  .grind
  .obtain⟨k,l⟩:=r (f:=mu) (g:=λb=>b.2) m;have K:=u mu k;obtain⟨E,L⟩:=C mu l;refine⟨by simpa using E,λi p q N O=>?_⟩
   grind
  .obtain⟨k,l⟩:=r (f:=λi=>c[i]?) (g:=λb=>some (HO.o b.1)) F;exact bJ.Gq (z c k) (D c l)
 | [],_ :: _,_,h,_=>by cases h
 |_ :: _,[],_,h,_=>by cases h
end
end
end Sx
namespace Sx
open Go.ChangeShapes Go.WideShapes Go.ChangeAt Go.WideMaps Go.WideElems Go.RowKit
section
variable {H:Type} {enc:TypeId×Value->H} {P:TI}
def qz{w:TS}{r:Reach}{d:Nat}{u:TP}{v:TR}(h:Cell.okWide P w r d u v):Nx w v:=by
 rintro a k b rfl;have g:∃e,w.has P r d a e b:=by
  unfold Cell.okWide at h;split at h<;>first|simp_all|(rename_i f;cases f;done)|skip
  all_goals
   unfold Cell.ok at h
   grind
 obtain⟨e,_,i,l,c,j,_⟩:=g;refine⟨i,?_⟩;unfold World.shape? at j
 grind
def Rj{w:TS}{r:Reach}{f:Nat}{t:TP}{v:TR}(h:Value.okWide P w r f t v):∀x∈v.cells.toList,Nx w x:=by
 intro x e;unfold Value.okWide at h;split at h
 .obtain⟨a,rfl,_,j,_,_,b⟩:=h;obtain⟨i,d⟩:=FK e;obtain⟨u,_,c⟩:=b i x (by simpa[Value.cells]using d);exact qz c
 .obtain⟨a,rfl,_,j,_,_,b⟩:=h;obtain⟨i,d⟩:=FK e;obtain⟨u,_,c⟩:=b i x (by simpa[Value.cells]using d);exact qz c
 .have:x=v∨∃a,v = .agg a:=by
   cases v<;>first|(right;exact⟨_,rfl⟩)|(left;simpa[Value.cells]using e)
  rcases this with rfl|⟨a,rfl⟩
  .exact qz h
  .exfalso;unfold Cell.okWide at h;split at h<;>first|simp_all|(rename_i g;cases g;done)|skip
   all_goals
    unfold Cell.ok at h
    simp_all
def skC(P:TI)(t:TP)(a:List FU):Option SK:=
 match P.underlying t,a with
 |some (.struct _),a=>some (.agg (a.map FU.lk))
 |some (.array _ _),a=>some (.agg (a.map FU.lk))
 |some (.int _),[k]=>some (.leaf k.lk)
 |some .bool,[k]=>some (.leaf k.lk)
 |some (.slice _),[k]=>some (.leaf k.lk)
 |_,_=>none
def vb(a:List FU):Bool:=a.all λk=>match k with
 | .s b=>Nat.blt 0 b.length
 |_=>true
def XD{a:List FU}(h:vb a=true):∀ks,FU.s ks∈a->0<ks.length:=by
 intro ks b;have:=A_.1 h _ b
 simp_all
section
variable [DB] [Fc]
abbrev Pw(mu:ke)(n0:Nat)(a:List Ga):Prop:=∀(i:Nat) b,a[i]?=some b->mu (n0+i)=b.2
abbrev U5(c:HL)(n0:Nat)(a:List Ga):Prop:=∀(i:Nat) b,a[i]?=some b->c[n0+i]?=some (.o b.1)
abbrev La(W a:TS):Prop:=∀b,b<W.heap.size->a.heap[b]?=W.heap[b]?
def Cs{W:TS}{r:Reach}{a:Nat}{t:TP}{n:Nat}{e:TP}{v:TR}(b:P.underlying t=some (.array n e))(h:Value.okWide P W r a t v):∃cs,v = .agg cs:=by
 simp only[Value.okWide,b]at h
 grind
def OG{W:TS}{r:Reach}{V:Nat}{c:Bool}{t:TP}{f:List FU}{C:SK}{v:TR}{d:DataW H}{B:List MemPlace}(h:dk P 20 t=some f)(p:skC P t f=some C)(z:vb f=true)(a:Value.okWide P W r V t v)(Z:DataW.Trod enc P W 0 (λ_=>true) c t v d B)(n0:Nat) :
  ∃(x:S0) (j:List Ga),(∀b∈j,xI W b)/\x.is C=true/\x.h_/\(∀mu:ke,Pw mu n0 j->VR DP mu x.val v)/\(∀o:HL,U5 o n0 j->bJ o f (x.cells.map SL.lf))/\
   ∀(q:TS) (s:Tx),La W q->(∀b,b<W.heap.size->s b=true)->DataW.Trod enc P q 0 s c t v d B:=by
 obtain⟨u,hf⟩:=Z;obtain⟨D,U⟩:=P' 20 t f h W c u _ _ (Rj a) hf;obtain⟨M,j,E,F,N,O,A,G⟩:=vG (XD z) D n0;have g:∀(q:TS) (s:Tx),La W q->(∀b,b<W.heap.size->s b=true)->DataW.Trod enc P q 0 s c t v d B:=λq s S Y=>⟨u,U q s S Y⟩;have T:(∀R,P.underlying t≠some (.struct R))->(∀n e,P.underlying t≠some (.array n e))->∀k,f=[k]->C = .leaf k.lk->∃(x:S0) (j:List Ga),(∀b∈j,xI W b)/\x.is C=true/\x.h_/\(∀mu:ke,Pw mu n0 j->VR DP mu x.val v)/\(∀o:HL,U5 o n0 j->bJ o f (x.cells.map SL.lf))/\
   ∀(q:TS) (s:Tx),La W q->(∀b,b<W.heap.size->s b=true)->DataW.Trod enc P q 0 s c t v d B:=by
  rintro ad ag k rfl rfl;have hv:v.cells.toList=[v]:=by
   have S:=em.len D;cases v with
   |agg Q=>
    exfalso;unfold Value.okWide at a;split at a
    .simp_all
    .simp_all
    .unfold Cell.okWide at a;split at a<;>first|simp_all|(rename_i X;cases X;done)|skip
     all_goals
      unfold Cell.ok at a
      simp_all
   |_=>simp[Value.cells]
  rw[hv]at D O A;obtain⟨x,rfl⟩ : ∃x,M=[x]:=List.length_eq_one_iff.1 O;refine⟨.leaf x,j,E,?_,λl hl=>?_,λmu m=>?_,λo w=>G o w,g⟩
  .show x.is k.lk=true;simpa[ba]using F
  .simp only[S0.cells,GM]at hl
   simp_all
  .exact(A mu m).2 0 _ _ rfl rfl
 unfold skC at p;split at p
 next R e=>
  cases p;obtain⟨Q,rfl,_⟩:=okWide_struct e a;refine⟨.agg M,j,E,F,N,λmu m=>?_,λo w=>G o w,g⟩;obtain⟨I,J⟩:=A mu m;refine .agg (by simpa[Value.cells]using I) λi x y K L=>J i x y (by simpa using K) (by simpa[Value.cells]using L)
 next n' e' e=>
  cases p;obtain⟨Q,rfl⟩:=Cs e a;refine⟨.agg M,j,E,F,N,λmu m=>?_,λo w=>G o w,g⟩;obtain⟨I,J⟩:=A mu m;refine .agg (by simpa[Value.cells]using I) λi x y K L=>J i x y (by simpa using K) (by simpa[Value.cells]using L)
 .simp_all
 .simp_all
 .simp_all
 .cases p
def De(P:TI):List TypeId->Option (List (List FU)×List SK)
 | []=>some ([],[])
 |t :: c=>match dk P 20 t,De P c with
  |some a,some (l,sks)=>match skC P t a,vb a with
   |some b,true=>some (a :: l,b :: sks)
   |_,_=>none
  |_,_=>none
def PI{j7:Type}{c a:List Ga}{f:Nat->j7}{g:Ga->j7}{n0:Nat}(h:∀(i:Nat) b,(c++a)[i]?=some b->f (n0+i)=g b):(∀(i:Nat) b,c[i]?=some b->f (n0+i)=g b)/\∀(i:Nat) b,a[i]?=some b->f (n0+c.length+i)=g b:=by
 refine⟨λi b d=>h i b ?_,λi b d=>?_⟩
 .grind
 .rw[SB];refine h _ b ?_
  grind
def sC{W:TS}{r:Reach}{K:Nat}{e:Bool}:∀(n:List TypeId) (l:List (List FU)) (sks:TN) (vs:Tn) (ds:List (DataW H)) (z:List MemPlace) (n0:Nat),De P n=some (l,sks)->
  (∀(j:Nat) t v,n[j]?=some t->vs[j]?=some v->Value.okWide P W r K t v)->DataW.TrodAll enc P W 0 (λ_=>true) e n vs ds z->
  ∃(xs:List S0) (m:List Ga),(∀b∈m,xI W b)/\cJ xs sks=true/\(∀x∈xs,x.h_)/\(∀mu:ke,Pw mu n0 m->vc DP mu (ao xs) vs)/\(∀k:HL,U5 k n0 m->bJ k l.flatten (cV xs))/\
   ∀(s:TS) (u:Tx),La W s->(∀b,b<W.heap.size->u b=true)->DataW.TrodAll enc P s 0 u e n vs ds z
 | [],l,sks,[],[],z,n0,h,_,a=>by
  cases h;exact⟨[],[],c_,rfl,c_,λmu _=>⟨rfl,λi x y h=>by simp[ao]at h⟩,λk _=>trivial,λ_ _ _ _=>a⟩
 |t :: n,l,sks,v :: vs,d :: ds,z,n0,h,E,a=>by
  simp only[De]at h;split at h
  next T l' w U V=>
   split at h
   next sk e3 e4=>
    cases h;obtain⟨p,q,h1,c,rfl⟩:=a;obtain⟨x,m,Y,F,Z,G,I,J⟩:=OG U e3 e4 (E 0 t v rfl rfl) h1 n0;obtain⟨xs,A,b1,L,b3,M,N,O⟩:=sC n l' w vs ds q (n0+m.length) V (λj t v h1 c=>E (j+1) t v h1 c) c;refine⟨x :: xs,m++A,λb hb=>?_,by simp[cJ,F,L],λy hy=>?_,λmu D=>?_,λk X=>?_,λs u h1 c=>⟨p,q,J s u h1 c,O s u h1 c,rfl⟩⟩
    .grind
    .grind
    .obtain⟨h1,c⟩:=PI (f:=mu) (g:=λb=>b.2) D;have Q:=G mu h1;obtain⟨R,S⟩:=M mu c;refine⟨by simpa[ao]using R,λi p q B C=>?_⟩;cases i with
     |zero=>
      simp only[ao,EN,qcd,G_]at B C;subst B C;exact Q
     |succ i=>exact S i p q (by simpa[ao]using B) (by simpa using C)
    .obtain⟨h1,c⟩:=PI (f:=λi=>k[i]?) (g:=λb=>some (HO.o b.1)) X;rw[ec];exact bJ.Gq (I k h1) (N k c)
   .cases h
  .cases h
 | [],_,_,_ :: _,_,_,_,_,_,a=>by cases a
 | [],_,_,[],_ :: _,_,_,_,_,a=>by cases a
 |_ :: _,_,_,[],_,_,_,_,_,a=>by cases a
 |_ :: _,_,_,_ :: _,[],_,_,_,_,a=>by cases a
def xR{C:m8}{f:TQ}{args:Tn}{r:TR}{H':Tu}{a:List Ga}{W:TS}(V:∀b∈a,xI W b)(h:en C f args (a.map (·.1)) r H'){args':Tl}(m:∀mu:ke,Pw mu 0 a->vc DP mu args args'.toList)(Z:flat r=true)
  (U:∀g vs,C.G g=some vs->Fz g<W.heap.size/\vs.all bg=true/\∃c e fr,W.heap[Fz g]?=some (.cells c e fr)/\cF (λ_=>none) vs c (GR g)) (X:∀g vs,C.G g=some vs->vs.all UO=true) :
  Calls C.P f args' W λe w=>e = .returned r/\w.os=W.os/\w.output=W.output/\w.tape=W.tape/\∀b,b<W.heap.size->w.heap[b]?=W.heap[b]?:=by
 let mu:ke:=λid=>(a[id]?).bind (·.2)
 have z:Pw mu 0 a:=λi b E=>i_;have n:∀(id:Nat) o,(a.map (·.1))[id]?=some o->∃b,a[id]?=some b/\o=b.1/\xI W b:=by
  grind
 have ad:∀(id:Nat) o,(a.map (·.1))[id]?=some o->o.owned=false:=by
  intro id o Y;obtain⟨b,_,rfl,q⟩:=n id o Y;rcases q with q|⟨vs,e,p,c,t,fr,q,_⟩<;>rw[q]<;>rfl
 have A:∀b,¬JL mu (a.map (·.1)) b:=by
  rintro b ⟨id,o,p,l,d,_⟩
  grind
 have y:WR C W.heap.size mu (a.map (·.1)) W:=by
  refine⟨λid o l d=>?_,λi j oi oj pi pj l d q=>?_,λi o p l d=>?_,λi o p l d _ D=>?_,λid l=>?_,λg vs F=>?_⟩
  .obtain⟨b,q1,rfl,k⟩:=n id o l;rcases k with k|⟨vs,e,p,c,t,fr,k,q4,J,q6,K,L,M,s,u⟩
   .rw[k]at d;cases d
   .refine⟨p,i_,?_⟩;rw[k];refine⟨J,L,K,c,t,fr,M,s,λh=>by(cases h),λi v I=>⟨v,u i v I,.of_flat (A_.1 q6 v (A9 I))⟩⟩
  .grind
  .grind
  .obtain⟨b,q1,rfl,k⟩:=n i o l;rcases k with k|⟨vs,e,p',c,t,fr,k,q4,J,q6,K,L,M,s,u⟩
   .rw[k]at d;cases d
   grind
  .grind
  .obtain⟨l,d,c,e,fr,D,T⟩:=U g vs F;exact⟨l,d,c,e,fr,D,uk (X g vs F) T⟩
 intro S;obtain⟨v,ag,w',N,a2,x,_,B⟩:=h _ W.heap.size mu W args' (B8 _) (m mu z) y S;rw[ue Z N]at B;obtain⟨fr,O,Q,R⟩:=B;exact⟨.returned r,w',fr,⟨rfl,x.os,x.output,x.tape,λb E=>x.ka b E (A b)⟩,O,Q,R⟩
def XE{P:TI}{f:Func}{s:ChangeSpec}{c g d:Bool}{W e:TS}{args:Tl}{v:TR}{ds k:List (DataW H)}{a n:List MemPlace}
  (q:DataW.Whole enc P f.params.toList s.vars c W args.toList ds k a)
  (l:∀(b:Nat) (m:Tx) (r:Bool),DataW.TrodAll enc P e b m r f.resultTypes.toList (v.resultList f.resultTypes.size) (s.fn H (ds++k)).results [])
  (i:DataW.TrodAll enc P e 0 (λb=>decide (b<W.heap.size)) true f.params.toList args.toList (s.fn H (ds++k)).args n)
  (j:∀m:Nat->Bool,DataW.TrodVars enc P e m s.vars (s.fn H (ds++k)).vars [])
  (h1:e.os=W.os) (o:e.output=W.output) (p:∀b,b<W.heap.size->e.heap[b]?=W.heap[b]?) :
  s.post enc P f c g d false W args v e:=
 ⟨ds,k,a,[],n,[],q,l _ _ _,i,j _,WD h1 o p _,λh=>by cases h⟩
end
end
section
variable [DB]
def iU{C:m8}{N:Tc}{Sg:Td}(k:C.P.follows .mixedOrders=true){g:TQ}{sg:H7}(l:Sg g=some sg){ls e:TG}{H H':Tu}(j:let _:En:=KnoC C N;aF C Sg g ls H e H'){xs ys:List S0}(h1:cJ xs sg.ps=true)(f:cV xs=ls)(h:cJ ys sg.rs=true)(i:cV ys=e) :
  en C g (ao xs) H (gM (ao ys)) H':=by
 let _:En:=KnoC C N
 obtain⟨m,p,q,a,b,c,d⟩:=j;rw[l]at a;cases a;obtain⟨n,_⟩:=dd b.1 h1 (b.2.1.trans f.symm);obtain⟨o,_⟩:=dd c.1 h (c.2.1.trans i.symm);rw[n,o]at d;exact xF k d
end
end Sx
end Go.Am
namespace Go.Am
open Sx Go.Proofs
abbrev C4:=Int×Int×Fin 4
def J8(a:C4):Cl:=(a.1,a.2.1,a.2.2.val)
def ya(a:C4):Tn:=bW (J8 a)
def Y_(a b:C4):Int:=J' (J8 a) (J8 b)
def lt4(a b:C4):Go.Proofs.ltOf Y_ a b=DX (J8 b) (J8 a):=by
 unfold Go.Proofs.ltOf Y_;rw[OP,E6];exact z4 _ _
def q5:Go.Sort.SWO (Go.Proofs.ltOf Y_) where
 irrefl x:=by rw[lt4];exact yo
 trans x y z h1 h2:=by
  rw[lt4]at *;exact QS h1 h2
 ntrans x y z h1 h2:=by
  rw[lt4]at *;rw[wq]at *;omega
def cmp4(a b:C4):en cc 47 [.agg ⟨ya a⟩,.agg ⟨ya b⟩] [] (.int .i64 (Y_ a b)) []:=by
 have c:=vL (a:=J8 a) (b:=J8 b) a.2.2.isLt b.2.2.isLt [];exact iU (N:=Jo) GT (Sg:=ac) (sg:=⟨[.agg [.i .i64,.i .i64,.i .u8],.agg [.i .i64,.i .i64,.i .u8]],[M]⟩) rfl c (xs:=[.agg [.i .i64 a.1,.i .i64 a.2.1,.i .u8 (ofNat a.2.2.val)],.agg [.i .i64 b.1,.i .i64 b.2.1,.i .u8 (ofNat b.2.2.val)]]) rfl rfl (ys:=[.leaf (.i .i64 (Y_ a b))]) rfl rfl
abbrev eA:Value:=.func (.func 47) ⟨[]⟩ ⟨[]⟩
def Ya{H:HL}{id cx:Nat}{J:List C4}(i':H[id]?=some (.o (.cells ((J.map J8).flatMap bW) 3 true)))(h0:0<J.length)(k:J.length<=100000) :
  ∃D:List C4,D.Perm J/\(D.Pairwise λx y=>DX (J8 x) (J8 y)=false)/\aF cc ac 46 [.v (.slice (some ⟨id,0,le 3⟩) J.length cx),.v eA] (h9 aa H) [] (h9 aa (oo H id 3 bW (D.map J8))):=by
 have i:∀L:List C4,(L.map J8).flatMap bW=L.flatMap ya:=λL=>by rw[ek];rfl
 refine⟨IZ Y_ J,By q5 J,?_,?_⟩
 .refine(Bw q5 J).imp λ{x y} h=>?_;rw[lt4]at h;exact h
 .have a:(h9 aa H)[id]?=some (.cells (J.flatMap ya) 3 true):=by
   rw[←i];unfold h9;rw[FM,i'];rfl
  have b:=re (C:=cc) qk layS (enc:=ya) (e:=3) (λw=>d_) (λw=>d_) (λ_=>rfl) (λx v j=>by
   simp only[ya,bW,EL,SE,or_false]at j;rcases j with rfl|rfl|rfl<;>rfl) q5 (g:=47) (λf w=>d_) cmp4 (cx:=cx) a rfl h0 a_
  have c:(h9 aa H).set id (.cells ((IZ Y_ J).flatMap ya) 3 true)=h9 aa (oo H id 3 bW ((IZ Y_ J).map J8)):=by
   unfold oo;rw[i,iP];rfl
  rw[c]at b;exact⟨⟨[lv,lv],[]⟩,[.leaf (.v (.slice (some ⟨id,0,le 3⟩) J.length cx)),.leaf (.v eA)],[],rfl,⟨rfl,rfl,λy d=>by
   simp only[EL,SE,or_false]at d;rcases d with rfl|rfl
   .exact aB (show aI (.slice (some ⟨id,0,le 3⟩) J.length cx)=true by simp[aI,nc,aT,bE,bj,aP,aD,le])
   .exact aB rfl⟩,⟨rfl,rfl,λy d=>by cases d⟩,⟨0,.inr ⟨.inl d_,b⟩⟩⟩
def gv{L:TM}(h:∀c∈L,c.2.2<4):∃J:List C4,J.map J8=L:=by
 refine⟨L.map λc=>(c.1,c.2.1,⟨c.2.2%4,KK _ a_⟩),?_⟩;rw[Pj]
 conv=>rhs;rw[←qdE L]
 refine ZP λc a=>?_;have:=h c a;show(c.1,c.2.1,c.2.2%4)=c
 grind
structure N1(h0 h4:HL)(b mp mw:Nat)(w v:Nat)(xv:Value)(r:Mv)(xa xu:Value)(IM:TM):Prop where
 hb:h4[b]?=some (.o (.cells (ah ⟨w,v,xv,r,xa,.slice none 0 0,.slice none 0 0,xu,mp,.slice none 0 0,.slice none 0 0,.slice none 0 0⟩ false) 15 true))
 bn:h0.length<=b
 mpn:h0.length<=mp
 mwn:h0.length<=mw
 mm:mw≠mp
 old:∀(j:Nat) o,h0[j]?=some o->h4[j]?=some o
 at_:hY h0.length h4 xa 3 bW (Em IM)
 us:hY h0.length h4 xu 1 B6 (replicate IM.length false)
 pr:h4[mp]?=some (.o (.map [] 0))
 wh:Ek Gb h4 mw ((Em IM).map λc=>(c,.int .i64 (ofNat 0)))
structure NW(h5 g:HL)(mw:Nat)(IM:TM)(n:Nat):Prop where
 m:∃ps:List (K3×Value),Ek Gb g mw ps/\ps.map Prod.fst=Em IM/\∀(i:Nat) k u,ps[i]?=some (k,u)->u = .int .i64 (ofNat (if (EB IM).idxOf k<n then(EB IM).idxOf k else 0))
 k:∀(j:Nat) o,h5[j]?=some o->j≠mw->g[j]?=some o
def l2{h0 y:HL}{b X t w v:Nat}{xv:TR}{r:Mv}{W xu:TR}{a:TM}(f:N1 h0 y b X t w v xv r W xu a)(a1:a.length<=36)(U:0<a.length)(hq:∀c∈a,c.2.2<4){xi:TR}{K:Te}(hK:∀g,N2 h0 g b X t w v xv r W xu a->np2 (hA P1) b xi t g K) :
  np1 (hA P1) b t xi y K:=by
 have a2:=ai f.hb;have ax:h0.length<=y.length:=by have:=f.bn;omega
 have a5:=ui a;unfold np1;simp only[ub];refine bz (ds:=[W]) f.hb (by simp[ah]) rfl ?_;refine e_ ?_;refine ab (hY.h_ (e:=3) (enc:=bW) cK f.at_) ?_;refine k_ ?_;obtain⟨J,hJ⟩:=gv (L:=Em a) λc x=>hq c (oT.1 x);have T:Em a≠[]:=λe=>by
  obtain⟨c,x⟩:=am U;have:=oT.2 (A9 x)
  simp_all
 obtain⟨id,cx,H,O,i',a4⟩:=kX f.at_ T;have Y:J.length=(Em a).length:=i_;rw[←hJ]at i';obtain⟨D,aE,a0,l⟩:=Ya (cx:=cx) i' i_ a_;have hD:D.map J8=EB a:=zv i_ i_;rw[hD]at l;rw[Y,←H]at l;refine ak l ?_;refine e_ ?_;obtain⟨z,e5⟩ : ∃z,z=oo y id 3 bW (EB a):=⟨_,rfl⟩;rw[←e5];have M:id≠b:=λe=>by
  rw[e,f.hb]at i'
  simp_all
 have k5:∀(j:Nat) o,y[j]?=some o->j≠id->z[j]?=some o:=λj o p an=>by
  rw[e5,cz an];exact p
 have l5:z.length=y.length:=by rw[e5,iw]
 have Z:(EB a).length=(Em a).length:=(jF a).length_eq;have s:hY h0.length z W 3 bW (EB a):=.inr ⟨id,cx,by rw[Z];exact H,O,by rw[e5];exact bL (ai i'),a_⟩;have ad:=k5 _ _ f.hb (Ej M);refine bz (ds:=[W]) ad (by simp[ah]) rfl ?_;refine e_ ?_;refine ab (hY.h_ (e:=3) (enc:=bW) cK s) ?_;refine k_ ?_;refine bw (hY.ls cK s) ?_;have E:∀ {j e:Nat} {l:Tn} {d:Bool} {g:HL} {G:List (K3×Value)},Ek Gb g t G->g[j]?=some (.o (.cells l e d))->j≠t:=λhm p q=>by
  subst q;obtain⟨es,c,I,_⟩:=hm
  simp_all
 have N:id≠t:=E f.wh i';have F:=f.wh.ka Gb λo ho=>k5 t o ho (Ej N);refine aH (m:=(EB a).length) (λm ls g=>∃n,ls=[.i (ofNat n)]/\m=(EB a).length - n/\n<=(EB a).length/\NW z g t a n) ⟨0,rfl,rfl,D6 _,⟨_,F,by rw[Pj];exact qdE _,λi k u hi=>?_⟩,λ_ _ h _=>h⟩ ?_
 .grind
 rintro m ls g ⟨n,rfl,rfl,hn,A⟩ ay C;refine Ei ?_;refine e_ ?_;by_cases B:n<(EB a).length
 case neg=>
  obtain rfl:n=(EB a).length:=a_;rw[aN (B8 _)];refine k_ ?_;obtain⟨G,m1,V,m3⟩:=A.m;have kg:∀ {j e:Nat} {l:Tn} {d:Bool},z[j]?=some (.o (.cells l e d))->g[j]?=some (.o (.cells l e d)):=λ{j e l d} p=>A.k j _ p (E F p);have kk:∀ {j e:Nat} {l:Tn} {d:Bool},y[j]?=some (.o (.cells l e d))->e≠3->g[j]?=some (.o (.cells l e d)):=λ{j e l d} p he=>kg (k5 j _ p λq=>by
   simp_all)
  refine hK g ⟨kk f.hb m_,f.bn,f.mpn,λj o p=>A.k j o (k5 j o (f.old j o p) i_) (by have:=ai p;have:=f.mwn;omega),s.C2 λj l _ h=>kg h,f.us.C2 λj l _ h=>kk h m_,A.k X _ (k5 X _ f.pr λq=>?_) (Ej f.mm),G,m1,λc=>by rw[V];exact oT,λi k u hi=>?_⟩
  .have I:=f.pr
   simp_all
  grind
 rw[aO B];refine e_ ?_;obtain⟨c,x⟩:=am B;refine aQ (hY.ls cK (s.C2 λj l _ h=>A.k j _ h (E F h))) rfl x ?_;rw[show bW c=[.int .i64 c.1,.int .i64 c.2.1,.int .u8 (ofNat c.2.2)]from rfl];refine e_ ?_;obtain⟨G,m1,V,m3⟩:=A.m;have ag:c∈Em a:=(jF a).mem_iff.1 (A9 x);have ap:∀k:K3,Instr.sameBits 10000 (.agg ⟨Gb k⟩) (.agg ⟨Gb k⟩)=true:=λk=>by simp[Gb,Instr.sameBits]
 refine r_muS Gb zN d_ d_ tV m1 c (by rw[V];exact ag) rfl (ap c) λo i0 al hm=>?_;refine k_ ?_;have a3:(EB a).idxOf c=n:=by
  have R:=A9 x;have Q:=qcD.2 R;have I:(EB a)[(EB a).idxOf c]?=some c:=j_;have S:=J2 (tu a)
  grind
 rw[aU a_];have av:i0<G.length:=by simpa using ai al
 refine C _ _ _ a_ ⟨n+1,rfl,rfl,B,⟨_,hm,?_,λi k u hi=>?_⟩,λj o2 p P=>de (A.k j o2 p P) (Ej P)⟩
 .rw[←V];refine Ib λi=>?_
  grind
 .by_cases e:i0=i
  .simp_all
  .rw[IA e]at hi;have T:(EB a).idxOf k≠n:=λq=>by
    have hk:k∈Em a:=by
     grind
    have Q:=qcD.2 ((jF a).mem_iff.2 hk);have I:(EB a)[(EB a).idxOf k]?=some k:=i_;rw[q,x]at I;have:=EI I;subst this;have S:(G.map Prod.fst).Nodup:=by rw[V];exact uj a
    rw[XT,KI]at S
    grind
   grind
def Of{a:TM}{n:Nat}{c:Cl}(h:a[n]?=some c):Em (a.take (n+1))=F4 (Em (a.take n)) c:=by
 rw[IB,h];exact QO
structure NF(h5 g:HL)(b mp mw:Nat)(w v:Nat)(xv:Value)(r:Mv)(xu:Value)(L:TM):Prop where
 x:∃xa,g[b]?=some (.o (.cells (ah ⟨w,v,xv,r,xa,.slice none 0 0,.slice none 0 0,xu,mp,.slice none 0 0,.slice none 0 0,.slice none 0 0⟩ false) 15 true))/\hY h5.length g xa 3 bW L
 m:Ek Gb g mw (L.map λc=>(c,.int .i64 (ofNat 0)))
 k:∀(j:Nat) o,h5[j]?=some o->j≠b->j≠mw->g[j]?=some o
 l:h5.length<=g.length
def cn{h h0:HL}{w v:Nat}{L:TR}{r:Mv}{xi:TR}{d:TM}(hg:aI L=true)(a5:w*v<=9)(Y:aF cc ac 45 [.i (ofNat w),.i (ofNat v),.v L,.i (ofNat r.1),.i r.2.1,.i r.2.2] (h9 aa h) [.v xi,.i 0] (h9 aa h0))(H:q9 h0 xi 3 bW d)(a1:d.length<=36)
  {K:Te} (hK:∀g b mp X P G,N1 h0 g b mp X w v L r P G d->np1 (hA P1) b X xi g K) :
  np0 (hA P1) [.i (ofNat w),.i (ofNat v),.v L,.i (ofNat r.1),.i r.2.1,.i r.2.2] h K:=by
 unfold np0;simp only[ub];refine e_ ?_;refine ak Y ?_;refine e_ ?_;rw[qF a_];rw[CX i_];refine e_ ?_;refine bw H ?_;refine ae (dF a_) ?_;refine k_ ?_;rw[show(ofNat d.length).toNat=d.length from rfl];have ay:=kq H;obtain⟨z,e1⟩ : ∃z,z=h0++[HO.o (.cells (aL [.bool false] d.length) 1 true)]:=⟨_,rfl⟩;rw[←e1];have l1:z.length=h0.length+1:=by rw[e1];simp
 refine ae (x:=()) (dg (zR ay) (dg (pV ⟨_,_,_,rfl⟩ λi V=>?_) fm)) ?_
 .have:i=h0.length:=(EI V).symm;omega
 refine k_ ?_;obtain⟨G,al⟩ : ∃G:Value,G = .slice (some ⟨h0.length,0,le 1⟩) d.length (d.length+1):=⟨_,rfl⟩;have Q:Value.slice (some ⟨h0.length,0,some 11⟩) d.length (d.length+1)=G:=al.symm;rw[Q];obtain⟨t,e2⟩ : ∃t,t=z++[HO.o (.map [] 0)]:=⟨_,rfl⟩;rw[←e2];have l2:t.length=h0.length+2:=by rw[e2];simp;omega
 obtain⟨A,e3⟩ : ∃A,A=t++[HO.o (.cells (ah ⟨w,v,L,r,.slice none 0 0,.slice none 0 0,.slice none 0 0,G,z.length,.slice none 0 0,.slice none 0 0,.slice none 0 0⟩ false) 15 true)]:=⟨_,rfl⟩;have ad:t++[HO.o (.cells [.int .i64 (ofNat w),.int .i64 (ofNat v),L,.int .u8 (ofNat r.1),.int .i64 r.2.1,.int .i64 r.2.2,.slice none 0 0,.slice none 0 0,.slice none 0 0,G,.map (some z.length),.slice none 0 0,.slice none 0 0,.slice none 0 0,.bool false] 15 true)]=A:=e3.symm;rw[ad];have l3:A.length=h0.length+3:=by rw[e3];simp;omega
 obtain⟨B,e4⟩ : ∃B,B=A++[HO.o (.map [] 0)]:=⟨_,rfl⟩;rw[←e4];have l4:B.length=h0.length+4:=by rw[e4];simp;omega
 have k1:∀(j:Nat) o,h0[j]?=some o->z[j]?=some o:=λj o s=>i_;have k2:∀(j:Nat) o,z[j]?=some o->t[j]?=some o:=λj o s=>i_;have k3:∀(j:Nat) o,t[j]?=some o->A[j]?=some o:=λj o s=>i_;have W:∀(j:Nat) o,A[j]?=some o->B[j]?=some o:=λj o s=>i_;have N:∀(j:Nat) o,h0[j]?=some o->B[j]?=some o:=λj o s=>W j o (k3 j o (k2 j o (k1 j o s)));have mu:B[h0.length]?=some (.o (.cells (aL [.bool false] d.length) 1 true)):=W _ _ (k3 _ _ (k2 _ _ (by rw[e1];exact aK)));have mp:B[z.length]?=some (.o (.map [] 0)):=W _ _ (k3 _ _ (by rw[e2];exact aK));have mb:B[t.length]?=some (.o (.cells (ah ⟨w,v,L,r,.slice none 0 0,.slice none 0 0,.slice none 0 0,G,z.length,.slice none 0 0,.slice none 0 0,.slice none 0 0⟩ false) 15 true)):=W _ _ (by rw[e3];exact aK);have X:B[A.length]?=some (.o (.map [] 0)):=by rw[e4];exact aK
 refine bw (H.ka λj o s _=>N j o s) ?_;have an:NF B B t.length z.length A.length w v L r G (Em (d.take 0)):=⟨⟨_,mb,.inl ⟨rfl,rfl⟩⟩,⟨[],0,X,rfl⟩,λ_ _ h _ _=>h,B8 _⟩;refine aH (m:=d.length) (λm ls g=>∃n,ls=[.i (ofNat n)]/\m=d.length - n/\n<=d.length/\NF B g t.length z.length A.length w v L r G (Em (d.take n))) ⟨0,rfl,rfl,D6 _,an⟩ ?_;rintro m ls g ⟨n,rfl,rfl,hn,C⟩ a0 F;refine Ei ?_;refine e_ ?_;obtain⟨P,U,ha⟩:=C.x;by_cases I:n<d.length
 case neg=>
  obtain rfl:n=d.length:=a_;rw[aN (B8 _)];refine k_ ?_;rw[XQ]at C ha;have z0:(aL [.bool false] d.length)=(replicate d.length false).flatMap B6:=by
   show aL (B6 false) d.length=_;rw[cO]
  refine hK g t.length z.length A.length P G ⟨U,a_,a_,a_,a_,λj o s=>C.k j o (N j o s) i_ i_,?_,?_,C.k _ _ mp a_ a_,C.m⟩
  .rcases ha with q|⟨id,cx,T,q2,q3⟩
   .exact .inl q
   .exact .inr ⟨id,cx,T,a_,q3⟩
  .refine .inr ⟨h0.length,d.length+1,j_,B8 _,?_,.inr j_⟩;rw[←z0];exact C.k _ _ mu a_ a_
 rw[aO I];refine e_ ?_;obtain⟨c,hc⟩:=am I;have E:=Of hc;refine aQ (H.ka λj o s _=>C.k j o (N j o s) i_ i_) rfl hc ?_;rw[show bW c=[.int .i64 c.1,.int .i64 c.2.1,.int .u8 (ofNat c.2.2)]from rfl];refine e_ ?_;refine r_luO Gb zN d_ d_ tV C.m c rfl (λy e=>by cases e) (λp hp y e=>?_) (λhn=>?_) λi u V=>?_
 .obtain⟨q,_,rfl⟩:=DJ.1 hp;cases e
 .have ap:c∉Em (d.take n):=λq=>hn (DJ.2 ⟨_,DJ.2 ⟨c,q,rfl⟩,rfl⟩);simp(disch:=omega)only[↓n9,FT];refine SI (u:=.int .i64 (ofNat 0)) Gb zN d_ d_ tV C.m c hn rfl λo hm=>?_;obtain⟨M,ag⟩ : ∃M,M=g.set A.length o:=⟨_,rfl⟩;rw[←ag]at hm ⊢;have a7:M.length=g.length:=j_;have a4:∀ {j e:Nat} {y:Tn} {f:Bool},g[j]?=some (.o (.cells y e f))->A.length≠j:=λ{j e y f} s q=>by
   subst q;obtain⟨es,c,t,_⟩:=C.m
   simp_all
  have J:∀ {j e:Nat} {y:Tn} {f:Bool},g[j]?=some (.o (.cells y e f))->M[j]?=some (.o (.cells y e f)):=λ{j e y f} s=>by
   grind
  refine k_ ?_;refine kw (ds:=[P]) (J U) (by simp[ah]) rfl ?_;refine e_ ?_;have D:hY B.length M P 3 bW (Em (d.take n)):=ha.C2 λj y _ h=>J h;refine ab (hY.h_ (e:=3) (enc:=bW) cK D) ?_;refine k_ ?_;have a3:(Em (d.take n)).length<=36:=by
   have:=ui (d.take n)
   grind
  refine D.Il (a:=c) cK (by have:=C.l;omega) rfl rfl rfl (by unfold bc;rw[EY a_,EY a_];rfl) ?_;intro aE g2 S gx O a6 b2;refine e_ ?_;refine ab gx ?_;refine k_ ?_;have ax:∀ {j e:Nat} {y:Tn} {f:Bool},M[j]?=some (.o (.cells y e f))->e≠3->g_ P≠some j:=λ{j e y f} s he q=>by
   obtain⟨Z,t⟩:=D.wid q
   simp_all
  have R:=O _ _ (J U) (ax (J U) m_);refine gH (b:=t.length) R (by simp[ah]) ?_;refine k_ ?_;refine ae (x:=()) (dg (bU ⟨_,_,_,rfl⟩ λi V=>?_) fm) ?_
  .have T:M.length=i:=by simpa[g_]using V
   grind
  refine k_ ?_;rw[aU a_];refine F _ _ _ a_ ⟨n+1,rfl,rfl,I,?_⟩;rw[E];unfold F4;rw[rv ap];refine⟨⟨aE,fZ R,S.C2 λj y _ h=>de h λe=>?_⟩,?_,λj S s T q2=>?_,?_⟩
  .grind
  .rw[IV];refine hm.ka Gb λo3 av=>de (O _ o3 av λq=>?_) ?_
   .obtain⟨Z,t⟩:=D.wid q;obtain⟨es,c',h5,_⟩:=hm
    simp_all
   .omega
  .have p1:=C.k j S s T q2;have p2:M[j]?=some S:=by
    grind
   refine de (O j S p2 λq=>?_) (Ej T);have p3:=(D.g_ q).1
   grind
  .rw[GZ];have:=C.l;omega
 .have a2:c∈Em (d.take n):=by
   grind
  have hu:u = .int .i64 (ofNat 0):=by
   grind
  subst hu;simp(disch:=omega)only[↓n9,EX];rw[aU a_];refine F _ _ _ a_ ⟨n+1,rfl,rfl,I,?_⟩;rw[E];unfold F4
  simp_all
structure Nz(w v:Nat)(l:TD)(G:TH):Prop where
 h3:S3 w v
 pat:Pd w v l
 lt:l.Pairwise λa b=>FX a b=true
 k0:∀c∈l,c.2.2≠0
 g:A2 w v l G
section
variable {w v:Nat} {l:TD} {G:TH} (pt:Nz w v l G) {r:Mv} (hr:DV 4000 r)
include pt hr
theorem Nz.Ik:Ik w G r (4*w*v):=λc e=>by
 have f:=pt.g.ok c e;have h:=ur pt.h3 pt.g hr e;constructor
 .have:=eS f hr;unfold O';rw[E6];obtain⟨_,a,b,c,d,_⟩:=this;omega
 .unfold K7
  grind
theorem Nz.nok:∀id e,id<4*w*v->e<3->K7 (ar (af (G id) r) (EO (pu w id) e))=true:=λid e i' a=>by
 have b:-(4000+15)<=(Ds w (qb G r) id).1/\(Ds w (qb G r) id).1<=4000+15/\-(4000+15)<=(Ds w (qb G r) id).2.1/\(Ds w (qb G r) id).2.1<=4000+15:=ur pt.h3 pt.g hr i';have d:=Jn (c:=Ds w (qb G r) id) (e:=eT (qb G r id).1 e) dR (mJ a);show K7 (D3 w (qb G r) id e)=true;rw[Ll pt.h3.sh i' a];unfold K7
 grind
theorem Nz.both{H:HL}{o:TR}(k:q9 H o 3 mi l):∃d ix h',BothC [.i (ofNat w),.i (ofNat v),.v o,.i (ofNat r.1),.i r.2.1,.i r.2.2] H d ix 0 h'/\q9 h' d 3 sd (EW w v G r)/\q9 h' ix 3 bW (z_ w v G r):=by
 obtain⟨y,h',c,x,u⟩:=P5 pt.h3.sh (sf pt.lt) pt.pat.len k (pt.pat.check k) (aZ hr (show(4000:Int)<=16384 by decide));rcases u with⟨_,a⟩|⟨e,s,h⟩
 .exact absurd ⟨G,pt.g.g,pt.g.z⟩ a
 have t:∀c,c<4*w*v->e c=G c:=λc b=>KO pt.h3.sh s pt.g b;rcases h with⟨_,a⟩|⟨d,ix,rfl,_,f,j⟩
 .refine absurd (λc b=>?_) a;have:=pt.Ik hr c b
  simp_all
 have p:EW w v e r=EW w v G r:=ZP λc b=>j_;have q:z_ w v e r=z_ w v G r:=ZP λc b=>j_;rw[p]at f;rw[q]at j;have m:=f.ls di;have n:=j.ls cK;exact⟨d,ix,h',⟨c,x,m.h_,n.h_⟩,m,n⟩
theorem tx{h:HL}{k:TR}(e:q9 h k 3 mi l):NpC h w v k r.1 r.2.1 r.2.2 (EB (z_ w v G r)) l (p_ (z_ w v G r)) (EF (Fa (p_ (z_ w v G r)))) (Da w v l G r (EF (Fa (p_ (z_ w v G r))))) (H6 (EF (Fa (p_ (z_ w v G r)))) (w_ w v l G r) (w_ w v l G r).1.length):=by
 intro E M;have hN:(z_ w v G r).length=4*w*v:=by simp[z_]
 have D:=pt.h3.n;obtain⟨T,xi,B,m,_,a⟩:=pt.both hr e;have s:=Q1 e.h_ m;have z:q9 B k 3 mi l:=e.ka λj o y _=>m.p.get y;have f:0<(z_ w v G r).length:=by
  have h1:0<w*v:=qdF pt.h3.1 pt.h3.2.2.1
  grind
 have A:=x24 (ls:=[.i (ofNat w),.i (ofNat v),.v k,.i (ofNat r.1),.i r.2.1,.i r.2.2]) (K:=λI g=>∃b,I=[.v (kb b),.i 0]/\Px B b w v k r (EB (z_ w v G r)) l (p_ (z_ w v G r)) (EF (Fa (p_ (z_ w v G r)))) (Da w v l G r (EF (Fa (p_ (z_ w v G r))))) (H6 (EF (Fa (p_ (z_ w v G r)))) (w_ w v l G r) (w_ w v l G r).1.length) g) (H:=h) (mc (mc (pP e.h_ (mc (mc (mc t0)))))) (by
  rw[j3];refine cn e.h_ a_ s a a_ λZ b mp mw xa xu U=>?_;refine l2 U a_ f (λc t=>?_) λg2 V=>?_
  .obtain⟨i,x⟩:=FK t;have:=ai x;rw[cv a_]at x;rw[←EI x];exact dR
  refine q4 V a_ a λg3 xd xl vs Q W=>?_;refine b8 W a_ a_ λg4 xp X=>?_;refine hz X pt.h3 pt.pat pt.k0 pt.g hr (pt.nok hr) z a (λH C=>?_) λg O=>⟨b,rfl,O⟩;obtain⟨S,ix,L,d,Y,_⟩:=pt.both hr C;exact⟨S,L,Sn C.h_ d,d.p,Y⟩)
 obtain⟨I,g,J,b,rfl,c,n,t,P,F,u,N⟩:=A;have R:=m.p.len;refine⟨b,c,n,g,J,t,λj q=>?_,λj o y=>P j o (m.p.get y),a_,λj q=>by have:=u j q;omega,N E λj q=>⟨i_,(M j q).2⟩⟩
 grind
end
inductive FRc(w v:Nat):Nat->TD->Mv->(Nat->Mv)->List Es->Prop
 |flat:FRc w v 0 [] CW (λ_=>CW) (wk w v)
 |fold {n:Nat} {l l':TD} {r:Mv} {G:TH} {L L':List Es} {ln:Ln} {s o:Bool} (h:FRc w v n l r G L) (hln:∃p∈D7 w v l G r (4*w*v),p.2.2=ln) (hp:l'.Perm (l++EV w v (λa=>af (G a) r) o ln (D7 w v l G r (4*w*v)))) (hs:Gx l') (hL:L'.Perm (Kk ln s o L)) (hS:L'.Pairwise λa b=>DX a.1 b.1=false):FRc w v (n+1) l' (gp ln s L r L.length) (QE w ln s G r) L'
def Xn{j7:Type}{n0 a e:Nat}{enc:j7->Tn}{L:List j7}{h:HL}{x:TR}(d:hY a h x e enc L)(g:n0<=a):hY n0 h x e enc L:=by
 rcases d with q|⟨id,b,c,f,e3⟩
 .exact .inl q
 .exact .inr ⟨id,b,c,a_,e3⟩
def Cb{w v n0:Nat}(u:S3 w v){h:HL}{j:Nat}(U:j<=4){z Q:TR}{r:Mv}{l:TD}{G:TH}{M:List Sk}(e:StH w v n0 h (kB j) z r Q l G M)(y:n0<=h.length)(hl:l.length<=108*j)(T:FRc w v j l r G (M.map G2)){ln:Ln}(K:∃p∈D7 w v l G r (4*w*v),p.2.2=ln)(s o:Bool) :
  ∃E r' k l' L g h',aF cc ac 23 ([.i (.ofNat w),.i (.ofNat v),.v z]++D5 r++[.v Q,.i (.ofNat ln.1),.i ln.2,.i (if s then 1 else 0),.b o]) (h9 aa h) [.i (.ofNat w),.i (.ofNat v),.v E,.i (ofNat r'.1),.i r'.2.1,.i r'.2.2,.v k] (h9 aa h')/\u_ h h'/\StH w v n0 h' (kB (j+1)) E r' k l' L g/\l'.length<=108*(j+1)/\FRc w v (j+1) l' r' L (g.map G2)/\hY n0 h' E 3 mi l':=by
 obtain⟨W,X,Y,Z⟩:=u.n;have J:=Zj (show j<=5 by omega);have O:=M2 U;obtain⟨P,t,f⟩:=K;have N:=Zl u e.st.co e.st.rk t;rw[f]at N;have C:=e.st.vk;obtain⟨rs,h',c,H⟩:=QM u e.cr (λc I=>(C c I).1) (λc I=>(C c I).k0) a_ (aZ e.st.rk a_) e.st.co (nx e.ss e.pc) (e.st.pos u) (by have:=e.st.lenL;omega) (λa F=>by have:=e.st.cell u F;omega) (λa F=>⟨e.st.st.ne a F,by have:=e.st.lenP F;omega⟩) N.1 a_ s o;obtain⟨E,k,l',g,rfl,V,x,d,B,D,A,m,q⟩:=H;have S:=e.st.fold u (s:=s) (o:=o) J.1 ⟨P,t,f⟩ d B m (H0.2 q);refine⟨E,_,k,l',_,g,h',c,V,⟨x.ls (λ_=>rfl),S,D,A.low y⟩,?_,T.fold ⟨P,t,f⟩ d B m (H0.2 q),Xn x y⟩;have R:=d.length_eq;rw[HY]at R;have h2:(EV w v (λa=>af (G a) r) o ln (D7 w v l G r (4*w*v))).length<=(D7 w v l G r (4*w*v)).length:=by
  unfold EV
  grind
 have h4:=lY (w:=w) (v:=v) (l:=l) (G:=G) (r:=r) (n:=4*w*v);omega
def w7(w v n:Nat)(H:HL)(c:TG)(h':HL):Prop:=
 ∃z r b l G a j,c=[.i (.ofNat w),.i (.ofNat v),.v z,.i (ofNat r.1),.i r.2.1,.i r.2.2,.v b]/\u_ H h'/\j<=5/\j<=n/\l.length<=108*j/\StH w v H.length h' (kB j) z r b l G a/\FRc w v j l r G (a.map G2)/\hY H.length h' z 3 mi l
def u0{a:Int}(h:0<=a/\a<=255):a%2=(if decide (a%2=1)then 1 else 0):=by
 grind
def X0{a:Int}{n:Nat}(h:0<=a)(b:0<n):a.toNat%n<n/\a%ofNat n=ofNat (a.toNat%n):=by
 refine⟨KK _ b,?_⟩
 grind
def X8{w8 v8:Int}(a5:0<=w8/\w8%4<=2/\w8<=255)(a4:0<=v8/\v8%4<=2/\v8<=255){H:HL}{xf:TR}{Fl:List U6}(X:q9 H xf 3 tM Fl)(Y:∀a∈Fl,OE a) :
  ∃w v rs h',(1+w8%4=ofNat w/\1+v8%4=ofNat v)/\S3 w v/\aF cc ac 9 [.i w8,.i v8,.v xf] (h9 aa H) rs (h9 aa h')/\w7 w v Fl.length H rs h':=by
 obtain⟨W,hW⟩ : ∃W:Nat,1+w8%4=ofNat W:=⟨(1+w8%4).toNat,i_⟩;obtain⟨V,hV⟩ : ∃V:Nat,1+v8%4=ofNat V:=⟨(1+v8%4).toNat,i_⟩;have D:S3 W V:=by
  have a1:1+w8%4=(W:Int):=hW;have a2:1+v8%4=(V:Int):=hV;exact⟨a_,a_,a_,a_⟩
 obtain⟨b1,b2,b3,b4⟩:=D.n;have hN:=Gp D.sh;refine⟨W,V,?_⟩;obtain⟨x0,F,E,c0,av,ay,N,m⟩:=Wq D (H:=H);have O:StH W V H.length F (kB 0) rA CW x0 [] (λ_=>CW) E:=⟨.nil _ _ _,by rw[m];exact QP D,ay,N⟩;have a6:=x9 (ls:=[.i w8,.i v8,.v xf]) (K:=w7 W V Fl.length H) (H:=H) (mc (mc (pP X.h_ t0))) (by
  unfold f9;simp only[ub];simp(disch:=omega)only[↓C3];rw[hW,hV];refine ak c0 ?_;simp(disch:=omega)only[↓C3];refine cI (w7 W V Fl.length H) ?_ ?_
  case refine_2=>
   intro jj al;refine bK (g9:=HL×Value×Mv×Value×List EJ×(Nat->Mv)×List Sk) 5 (λj t=>[.i (ofNat j),.i (.ofNat W),.i (.ofNat V),.v t.2.1,.i (ofNat t.2.2.1.1),.i t.2.2.1.2.1,.i t.2.2.1.2.2,.v t.2.2.2.1]) (λ_ t=>t.1)
    (λj t=>j<=Fl.length/\u_ H t.1/\t.2.2.2.2.1.length<=108*j/\StH W V H.length t.1 (kB j) t.2.1 t.2.2.1 t.2.2.2.1 t.2.2.2.2.1 t.2.2.2.2.2.1 t.2.2.2.2.2.2/\FRc W V j t.2.2.2.2.1 t.2.2.1 t.2.2.2.2.2.1 (t.2.2.2.2.2.2.map G2)/\hY H.length t.1 t.2.1 3 mi t.2.2.2.2.1)
    (j0:=0) (s0:=(F,rA,CW,x0,[],(λ_=>CW),E)) rfl rfl (D6 _) ⟨D6 _,av,c_,O,by simp only;rw[m];exact .flat,.inl ⟨rfl,rfl⟩⟩ ?_
   rintro j ⟨h,z,r,S,l,G,T⟩ hj ⟨u,p,d,b,I,Q⟩ a0 C;simp only at p d b I Q ⊢;have f:∀h',u_ h h'->jj [.i (.ofNat W),.i (.ofNat V),.v z,.i (ofNat r.1),.i r.2.1,.i r.2.2,.v S] h':=λh' B=>al _ _ ⟨z,r,S,l,G,T,j,rfl,p.trans B,hj,u,d,b.pre B,I,Q.ka λ_ _ q _=>B.get q⟩;refine e_ ?_;refine bw (X.pre p) ?_;by_cases x:j<Fl.length
   case neg=>
    rw[aN a_];refine e_ ?_;exact f h (.refl _)
   rw[aO x];refine e_ ?_;by_cases ag:j<5
   case neg=>
    rw[v_ (show(5:Int)<=ofNat j by grind)];refine e_ ?_;exact f h (.refl _)
   rw[ua (show ofNat j<5 by grind)];refine e_ ?_;have a3:=Zj (show j<=5 by omega);obtain⟨zl,h1,k,c1,g,A,ap,an⟩:=WH D b.cr (b.ss.h_) (λc hc=>(b.st.vk c hc).1) (λc hc=>(b.st.vk c hc).k0) a_ (aZ b.st.rk a_) b.st.co;simp only[D5,EQ,EG]at c1;refine ak c1 ?_;refine e_ ?_;refine bw A ?_;by_cases F:k.length=0
   .rw[t_ (show ofNat k.length=0 by rw[F];rfl)];refine e_ ?_;exact f h1 g
   rw[xk (show ¬ofNat k.length=0 from λe=>F (H4 e))];refine e_ ?_;obtain⟨a,R⟩:=am x;obtain⟨k1,k2,k3,k4,k5,k6⟩:=Y a (A9 R);have s:=(X.pre p).pre g;refine KL (o:=0) (cs:=[.int .u8 a.1]) s rfl R a_ rfl ?_;refine e_ ?_;refine bw A ?_;obtain⟨L,M⟩:=X0 k1 (show 0<k.length by omega);rw[Gj a_ (show(0:Int)<ofNat k.length by grind)];rw[M];refine k_ ?_;obtain⟨y,hy⟩:=am L;refine aQ A rfl hy ?_;rw[show tP y=[.int .u8 (ofNat y.1),.int .i64 y.2]from rfl];refine e_ ?_;refine KL (o:=1) (cs:=[.int .u8 a.2.1]) s rfl R a_ rfl ?_;refine e_ ?_;refine KL (o:=2) (cs:=[.int .u8 a.2.2]) s rfl R a_ rfl ?_;refine e_ ?_;rw[u0 ⟨k3,k4⟩];obtain⟨z',r',aE,l',G',U,h2,c2,ax,P,J,ad,Z⟩:=Cb D (j:=j) a_ (b.pre g) (by have:=(p.trans g).len;omega) d I (an y (A9 hy)) (decide (a.2.1%2=1)) (decide (a.2.2%2=1));simp only[D5,EQ,EG]at c2;refine KC λt ht=>?_;subst ht;refine ak c2 ?_;refine e_ ?_;rw[aU a_];exact C (h2,z',r',aE,l',G',U) ag ⟨x,(p.trans g).trans ax,J,P,ad,Z⟩
  rintro ls h ⟨z,r,S,l,G,T,j,rfl,p,hj,u,d,b,I,Q⟩;simp(disch:=omega)only[↓C3];exact⟨z,r,S,l,G,T,j,rfl,p,hj,u,d,b,I,Q⟩)
 simp_all
def Q5{l l':TD}(h:l'.map aS=l.map aS)(u e:Nat):Dy l' u e=Dy l u e:=by unfold Dy;rw[h]
def Qh{w v:Nat}{l l':TD}{G:TH}(h:l'.map aS=l.map aS)(g:A2 w v l G):A2 w v l' G:=by
 refine⟨λc e n a b d=>?_,g.z,g.ok⟩;have:=g.g c e n a b d;unfold E_ at this ⊢;rw[Q5 h];exact this
def WN{l l':TD}(h:l'.map aS=l.map aS)(d:l.Pairwise λa b=>FX a b=true):l'.Pairwise λa b=>FX a b=true:=by
 have c:∀m:List EJ,(m.Pairwise λa b=>FX a b=true)↔(m.map aS).Pairwise λa b=>(decide (a.1<b.1)||(decide (a.1=b.1)&&decide (a.2<b.2)))=true:=λm=>by
  rw[H0];rfl
 simp_all
def p6{w v:Nat}{l l':TD}(h:l'.map aS=l.map aS)(m:∀c∈l,VK w v c)(k:∀c∈l',1<=c.2.2/\c.2.2<=3):∀c∈l',VK w v c:=λc i=>by
 have f:aS c∈l.map aS:=i_;obtain⟨d,j,e⟩:=DJ.1 f;obtain⟨⟨u,b,n,o,p,a⟩,_⟩:=m d j;unfold aS at e;simp only[SC]at e;have g:=k c i;exact⟨⟨u,b,n,a_,a_,a.1,a.2.1,a.2.2.1,a.2.2.2.1,a_,a_⟩,g⟩
def ZG{w v:Nat}(f:S3 w v){l:TD}{G:TH}(i:∀c∈l,VK w v c)(d:l.Pairwise λa b=>FX a b=true)(j:l.length<=1000)(g:A2 w v l G):Nz w v l G:=by
 have k:=f.sh;refine⟨f,⟨k,λc h=>?_,j,Lr i d⟩,d,λc h=>(i c h).k0,g⟩;have:=u7 (i c h) (by have:=f.n;omega);obtain⟨⟨u,e,n,m,o,p,q,_,_,r,s⟩,_⟩:=i c h;have:=f.n;unfold Jw
 grind
def d9(w v:Nat)(H:HL)(a:TG)(h':HL):Prop:=
 ∃z l G,a=[.i (.ofNat w),.i (.ofNat v),.v z]/\u_ H h'/\l.length<=432/\hY H.length h' z 3 mi l/\Nz w v l G/\∀c∈l,VK w v c
def b3{w8 v8:Int}(a0:0<=w8/\w8<=255)(aE:0<=v8/\v8<=255){H:HL}{V W:TR}{Fl:List U6}{O:TE}(P:q9 H V 3 tM Fl)(ad:∀a∈Fl,OE a)(R:q9 H W 1 Gc O)(S:∀a∈O,0<=a/\a<=255) :
  ∃w v N h',S3 w v/\aF cc ac 4 [.i w8,.i v8,.v V,.v W] (h9 aa H) N (h9 aa h')/\d9 w v H N h':=by
 have a5:=x4 (ls:=[.i w8,.i v8,.v V,.v W]) (K:=λN h'=>∃w v,S3 w v/\d9 w v H N h') (H:=H) (mc (mc (pP P.h_ (pP R.h_ t0)))) (by
  unfold f4;simp only[ub];simp(disch:=omega)only[↓C3];refine bw P ?_;have step:∀K:Bool->Prop,K (decide (4<Fl.length))->P1.cmp .gtr (ofNat Fl.length) 4 (@i' _ ⟨K⟩):=λK Y=>by
   by_cases e:4<Fl.length
   .rw[DI (show(4:Int)<ofNat Fl.length by grind),←Gs e];exact Y
   .rw[CX (show ofNat Fl.length<=(4:Int)by grind),←GI e];exact Y
  refine step _ ?_;refine cI (λls h=>∃U q,ls=[.i (w8%3),.i (v8%3),.v U]/\h=H/\q9 H U 3 tM q/\q.length<=4/\∀a∈q,OE a) ?_ ?_
  case refine_2=>
   intro jj T;by_cases e:4<Fl.length
   .rw[Gs e];refine e_ ?_;obtain⟨xt,et,lt,gt,_⟩:=qY P (n:=4) a_;refine ae et (ab gt ?_)
    try grind
   .rw[GI e];refine e_ ?_
    grind
  rintro ls h ⟨U,q,rfl,rfl,Q,ax,C⟩;simp(disch:=omega)only[↓C3];obtain⟨w,v,a6,h1,_,X,c1,z,r,zs,l,G,Ms,j,rfl,hp,an,ap,ay,u,hR,hO⟩:=X8 (w8:=w8%3) (v8:=v8%3) a_ a_ Q C;refine ak c1 ?_;simp(disch:=omega)only[↓C3];refine cI (λls g=>ls=[]/\∃p,u_ h g/\hY h.length g z 3 mi p/\p.map aS=l.map aS/\∀c∈p,1<=c.2.2/\c.2.2<=3) ?_ ?_
  .rintro ls g ⟨rfl,p,f,m,b,s⟩;refine e_ ?_;have I:p.length=l.length:=by
    have:=congrArg List.length b;simpa using this
   have J:=p6 b u.st.vk s;exact⟨w,v,X,z,p,G,rfl,f,a_,m,ZG X J (WN b u.st.so) a_ (Qh b u.st.co),J⟩
  intro jj T;refine bK (g9:=HL×List EJ) 432 (λi _=>[.i (ofNat i)]) (λ_ t=>t.1) (λi t=>u_ h t.1/\hY h.length t.1 z 3 mi t.2/\t.2.map aS=l.map aS/\∀c∈t.2,1<=c.2.2/\c.2.2<=3) (j0:=0) (s0:=(h1,l)) rfl rfl (D6 _) ⟨hp,hO,rfl,λc D=>(u.st.vk c D).2⟩ ?_;rintro i ⟨g,p⟩ hi ⟨f,m,b,s⟩ M A;simp only at f m b s ⊢;have I:p.length=l.length:=by
   have:=congrArg List.length b;simpa using this
  refine e_ ?_;refine bw (R.pre f) ?_;by_cases E:i<O.length
  case neg=>
   rw[aN a_];refine e_ ?_
   grind
  rw[aO E];refine e_ ?_;refine bw (hY.ls (e:=3) (enc:=mi) (λ_=>rfl) m) ?_;by_cases F:i<p.length
  case neg=>
   rw[aN a_];refine e_ ?_
   grind
  rw[aO F];refine e_ ?_;obtain⟨k,Z⟩:=am E;obtain⟨k1,k2⟩:=S k (A9 Z);refine aQ (R.pre f) rfl Z ?_;rw[show Gc k=[.int .u8 k]from rfl];refine e_ ?_;have av:0<=k%8/\k%8<=7:=a_;have y:∀B L,u_ h B->hY h.length B z 3 mi L->L.map aS=l.map aS->(∀c∈L,1<=c.2.2/\c.2.2<=3)->M [.i (ofNat i+1)] B:=λB L a1 a2 a3 a4=>A (B,L) a_ ⟨a1,a2,a3,a4⟩;by_cases h0:0<k%8
  case neg=>
   rw[CX a_];refine e_ ?_;rw[aU a_]
   grind
  rw[DI h0];refine e_ ?_;by_cases h4:k%8<4
  case neg=>
   rw[v_ a_];refine e_ ?_;rw[aU a_]
   grind
  rw[ua h4];refine e_ ?_;obtain⟨c,D⟩:=am F;obtain⟨id,cx,ez,x,i',al⟩:=kX m (λe=>j_);rw[ez];refine yV (enc:=mi) (a:=c) (a':=(c.1,c.2.1,k%8)) (o:=2) (new:=[.int .u8 (k%8)]) (λ_=>rfl) i' rfl D rfl (B8 3) rfl ?_;refine k_ ?_;rw[aU a_];have ag:=s c (A9 D);refine y _ (p.set i (c.1,c.2.1,k%8)) (ju f x) (.inr ⟨id,cx,j_,x,bL (ai i'),j_⟩) ?_ λd hd=>?_
  .rw[←b,qc9];refine fi ?_;rw[FM,D];rfl
  grind)
 grind
def WJ:∀H,aF cc ac 8 [] H [.b true] H:=lO (n:=60) rfl d_ rfl d_
abbrev Kp(h h':HL):Prop:=∀(j:Nat) o,h[j]?=some o->h'[j]?=some o
def Zi:Cc 6 [] [.i 0,.i 0,.i 0]:=by
 refine q6 rfl ?_;unfold f6;simp only[ub]
 try simp(disch:=omega)only[↓n9]
 try trivial
section
variable {w v:Nat} {l:TD} {G:TH} (pt:Nz w v l G) {r:Mv} (hr:DV 4000 r)
def GW(w v:Nat)(l:TD)(G:TH)(r:Mv):List (List (TC)):=
 (CV (p_ (z_ w v G r))).filter (Er (EF (Fa (p_ (z_ w v G r)))) (Da w v l G r (EF (Fa (p_ (z_ w v G r))))) (H6 (EF (Fa (p_ (z_ w v G r)))) (w_ w v l G r) (w_ w v l G r).1.length))
include pt hr
theorem tI(a:Int){h:HL}{c:TR}(b:q9 h c 3 mi l):∃h',aF cc ac 5 [.i (ofNat w),.i (ofNat v),.v c,.i (ofNat r.1),.i r.2.1,.i r.2.2,.i a] (h9 aa h) [.i (if 1<=a/\a<=1000 then ofNat ((GW w v l G r).take a.toNat).length else 0),.i (if 1<=a/\a<=1000 then 0 else 1)] (h9 aa h')/\Kp h h':=
 VY a b.h_ (λj q=>Co b q) (tx pt hr (b.ka λj o d _=>ey d))
end
section
variable {w v:Nat} {l:TD} {G:TH} (pt:Nz w v l G) (hv:∀c∈l,VK w v c)
include pt hv
end
def lZ:∀ {IDS x:List (TC)},x∈CV IDS->∀l∈IDS,∃q∈x,q.Perm l
 | [],x,_,l,a=>by cases a
 |m :: IDS,x,b,l,a=>by
  unfold CV at b;obtain⟨p,c,b⟩:=GG.1 b;obtain⟨t,e,rfl⟩:=DJ.1 b;rcases EL.1 a with rfl|a
  .exact⟨p,c_,px rfl c⟩
  .obtain⟨q,f,d⟩:=lZ e l a
   grind
structure Geo where
 N:Nat
 nb:Nat->Nat->Option Nat
 im:Nat->Cl
 be:Nat->Nat->Cl
 kd:Nat->Nat->Int
 up:Nat->Bool
structure Geo.FO(g:Geo)(a b e:Nat):Prop where
 a0:a<g.N
 b0:b<g.N
 e0:e<3
 nb:g.nb a e=some b
 k0:g.kd a e=0
structure Geo.Loop(g:Geo)(a b e:Nat):Prop where
 a0:a<g.N
 b0:b<g.N
 e0:e<3
 nb:g.nb a e=some b
 k0:g.kd a e≠0
structure J0(g:Geo)(B:Nat->Nat->Bool):Prop where
 kd:∀a b e,g.Loop a b e->g.kd a e≠3->xr (B a b) (xr (decide (g.kd a e=2)) (g.up a))=true
 pp:∀a b e c d f,g.FO a b e->g.FO c d f->g.im a=g.im c->g.be a e=g.be c f->a≠c->B a c=B b d
 pl:∀a b e c d f,g.FO a b e->g.Loop c d f->g.im a=g.im c->g.be a e=g.be c f->B a c=B a d
 ll:∀a b e c d f,g.Loop a b e->g.Loop c d f->g.im a=g.im c->g.be a e=g.be c f->a≠c->a≠d->xr (xr (B a c) (B b c)) (xr (B a d) (B b d))=false
structure I5(g g':Geo)(j8 y8:TF)(s:Bool):Prop where
 lt:∀a,a<g.N->j8 a<g'.N
 inj:∀a b,a<g.N->b<g.N->j8 a=j8 b->a=b
 et:∀e,e<3->y8 e<3
 nb:∀a e b,a<g.N->e<3->g.nb a e=some b->g'.nb (j8 a) (y8 e)=some (j8 b)
 im:∀a b,a<g.N->b<g.N->(g'.im (j8 a)=g'.im (j8 b)↔g.im a=g.im b)
 be:∀a e b f,a<g.N->b<g.N->e<3->f<3->g.be a e=g.be b f->g'.be (j8 a) (y8 e)=g'.be (j8 b) (y8 f)
 k0:∀a e,a<g.N->e<3->(g'.kd (j8 a) (y8 e)=0↔g.kd a e=0)
 k3:∀a e,a<g.N->e<3->g.kd a e≠3->g'.kd (j8 a) (y8 e)≠3
 ku:∀a e,a<g.N->e<3->g.kd a e≠0->g.kd a e≠3->xr (decide (g'.kd (j8 a) (y8 e)=2)) (g'.up (j8 a))=xr s (xr (decide (g.kd a e=2)) (g.up a))
def J0.pull{g r:Geo}{j8 C:TF}{s:Bool}(m:I5 g r j8 C s){B B':Nat->Nat->Bool}(h:J0 r B')(l:∀a b,a<g.N->b<g.N->a≠b->g.im a=g.im b->B' (j8 a) (j8 b)=xr s (B a b))
  (v:∀a b e,g.Loop a b e->a≠b/\g.im a=g.im b) (G:∀a b e c d f,g.FO a b e->g.FO c d f->g.im a=g.im c->g.be a e=g.be c f->g.im b=g.im d/\(a≠c->b≠d)) (H:∀a b e c d f,g.FO a b e->g.Loop c d f->g.be a e=g.be c f->a≠c/\a≠d)
  (I:∀a b e c d f,g.Loop a b e->g.Loop c d f->g.im a=g.im c->g.be a e=g.be c f->a≠c->a≠d->b≠c/\b≠d):J0 g B:=by
 have A:∀ {a b e},g.FO a b e->r.FO (j8 a) (j8 b) (C e):=λ{a b e} q=>⟨m.lt _ q.a0,m.lt _ q.b0,m.et _ q.e0,m.nb _ _ _ q.a0 q.e0 q.nb,(m.k0 _ _ q.a0 q.e0).2 q.k0⟩;have w:∀ {a b e},g.Loop a b e->r.Loop (j8 a) (j8 b) (C e):=λ{a b e} q=>⟨m.lt _ q.a0,m.lt _ q.b0,m.et _ q.e0,m.nb _ _ _ q.a0 q.e0 q.nb,λz=>q.k0 ((m.k0 _ _ q.a0 q.e0).1 z)⟩;have y:∀ {a b},a<g.N->b<g.N->a≠b->j8 a≠j8 b:=λE F q z=>q (m.inj _ _ E F z);refine⟨λa b e q k=>?_,λa b e c d f q u i j n=>?_,λa b e c d f q u i j=>?_,λa b e c d f q u i j n x=>?_⟩
 .have:=h.kd _ _ _ (w q) (m.k3 _ _ q.a0 q.e0 k);obtain⟨o,p⟩:=v _ _ _ q;rw[l _ _ q.a0 q.b0 o p,m.ku _ _ q.a0 q.e0 q.k0 k]at this;revert this;cases s<;>cases B a b<;>cases decide (g.kd a e=2)<;>cases g.up a<;>decide
 .obtain⟨o,p⟩:=G _ _ _ _ _ _ q u i j;have:=h.pp _ _ _ _ _ _ (A q) (A u) ((m.im _ _ q.a0 u.a0).2 i) (m.be _ _ _ _ q.a0 u.a0 q.e0 u.e0 j) (y q.a0 u.a0 n);rw[l _ _ q.a0 u.a0 n i,l _ _ q.b0 u.b0 (p n) o]at this;revert this;cases s<;>cases B a c<;>cases B b d<;>decide
 .obtain⟨o,p⟩:=H _ _ _ _ _ _ q u j;obtain⟨_,t⟩:=v _ _ _ u;have:=h.pl _ _ _ _ _ _ (A q) (w u) ((m.im _ _ q.a0 u.a0).2 i) (m.be _ _ _ _ q.a0 u.a0 q.e0 u.e0 j);rw[l _ _ q.a0 u.a0 o i,l _ _ q.a0 u.b0 p (i.trans t)]at this;revert this;cases s<;>cases B a c<;>cases B a d<;>decide
 .obtain⟨o,p⟩:=I _ _ _ _ _ _ q u i j n x;obtain⟨_,D⟩:=v _ _ _ q;obtain⟨_,t⟩:=v _ _ _ u;have:=h.ll _ _ _ _ _ _ (w q) (w u) ((m.im _ _ q.a0 u.a0).2 i) (m.be _ _ _ _ q.a0 u.a0 q.e0 u.e0 j) (y q.a0 u.a0 n) (y q.a0 u.b0 x);rw[l _ _ q.a0 u.a0 n i,l _ _ q.b0 u.a0 o (D.symm.trans i),l _ _ q.a0 u.b0 x (i.trans t),l _ _ q.b0 u.b0 p (D.symm.trans (i.trans t))]at this;revert this;cases s<;>cases B a c<;>cases B b c<;>cases B a d<;>cases B b d<;>decide
section
variable {w v:Nat} (hs:Sh w v) {l:TD} {G:TH} (hG:A2 w v l G) {r:Mv} (hr:r.1<8) (hk0:∀c∈l,c.2.2≠0) {pn:Ti} {V:Tx}
def pz{k:K6}{t:Nat}{p:K2}(h:iO w v l (qb G r) (4*w*v) k t p):∃i:Nat,(w_ w v l G r).1[i]?=some k:=by
 obtain⟨id,e,n,i',b,_,_,a,_⟩:=h;refine G0.1 (((zh w v l (qb G r) (4*w*v)).ks k).2 ⟨F2 w v l (qb G r) id e,?_,a⟩);unfold GQ
 grind
include hs hG hr hk0
theorem MY:tl pn (w_ w v l G r) V (w_ w v l G r).1.length↔∀k,(∀p q,iO w v l (qb G r) (4*w*v) k 0 p->iO w v l (qb G r) (4*w*v) k 0 q->p≠q->Ha pn V p.1 q.1 p.2 q.2)/\
  (∀p o,iO w v l (qb G r) (4*w*v) k 0 p->iO w v l (qb G r) (4*w*v) k 1 o->Ha pn V p.1 o.1 p.1 o.2)/\(∀p o,iO w v l (qb G r) (4*w*v) k 0 p->iO w v l (qb G r) (4*w*v) k 2 o->Ha pn V p.2 o.1 p.2 o.2):=by
 constructor
 .intro h k;refine⟨λp q d s D=>?_,λp o d m=>?_,λp o d m=>?_⟩
  .obtain⟨i,c⟩:=pz d;obtain⟨a,g⟩:=G0.1 ((du c m_).2 d);obtain⟨b,A⟩:=G0.1 ((du c m_).2 s);obtain⟨e,x⟩:=uM hs hG hr hk0 d;obtain⟨f,y⟩:=uM hs hG hr hk0 s;have I:p.1≠q.1:=λz=>D (ph hs x y (.inl z)).1;have J:p.2≠q.2:=λz=>D (ph hs x y (.inr z)).1;have B:a≠b:=λz=>by
    simp_all
   rcases ZH B with q1|q1
   .exact(WI (Ej I) (Ej J)).1 ((h i (ai c) b (ai A) q A).1 a p q1 g)
   .exact(h i (ai c) a (ai g) p g).1 b q q1 A
  .obtain⟨i,c⟩:=pz d;obtain⟨a,g⟩:=G0.1 ((du c m_).2 d);exact(h i (ai c) a (ai g) p g).2.1 o ((du c m_).2 m)
  .obtain⟨i,c⟩:=pz d;obtain⟨a,g⟩:=G0.1 ((du c m_).2 d);exact(h i (ai c) a (ai g) p g).2.2 o ((du c m_).2 m)
 .intro h i c j K p d;obtain⟨k,u⟩:=am c;obtain⟨E,F,H⟩:=h k;have n:=(du u m_).1 (A9 d);refine⟨λb q A s=>E p q n ((du u m_).1 (A9 s)) λz=>?_,λo m=>F p o n ((du u m_).1 m),λo m=>H p o n ((du u m_).1 m)⟩;rw[←z]at s;have C:=xB (t:=0) hs u m_;have:=(qdi (ai d) C).1 (d.trans s.symm);omega
theorem LP:JZ (H6 pn (w_ w v l G r) (w_ w v l G r).1.length) V↔∀k t o u,(t=1∨t=2)->iO w v l (qb G r) (4*w*v) k t o->iO w v l (qb G r) (4*w*v) k t u->o≠u->UN V (four pn o u)=false:=by
 have J:∀o u:K2,o.1≠u.1->o.2≠u.1->o.1≠u.2->o.2≠u.2->UN V (four pn o u)=UN V (four pn u o):=λo u a b c d=>by
  unfold UN four;simp only;rw[gY a,gY b,gY c,gY d];unfold v7;simp only;cases V (DC pn o.1 u.1).1<;>cases V (DC pn o.2 u.1).1<;>cases V (DC pn o.1 u.2).1<;>cases V (DC pn o.2 u.2).1<;>cases (DC pn o.1 u.1).2<;>cases (DC pn o.2 u.1).2<;>cases (DC pn o.1 u.2).2<;>cases (DC pn o.2 u.2).2<;>rfl
 constructor
 .intro h k t o u s A E H;obtain⟨i,m⟩:=pz A;have n:t<3:=a_;obtain⟨a,g⟩:=G0.1 ((du m n).2 A);obtain⟨b,j⟩:=G0.1 ((du m n).2 E);have F:a≠b:=λz=>by
   simp_all
  have D:∀ {a b:Nat} {o u:K2},b<a->(EM (w_ w v l G r) i t)[a]?=some o->(EM (w_ w v l G r) i t)[b]?=some u->UN V (four pn o u)=false:=λ{a b o u} q g j=>by
   refine h _ (GG.2 ⟨i,CY.2 (ai m),?_⟩);rw[Fs];have:=yk (pn:=pn).2 ⟨a,b,o,u,q,g,j,rfl⟩
   grind
  obtain⟨e,B⟩:=uA hs hG hr hk0 s A;obtain⟨f,C⟩:=uA hs hG hr hk0 s E;have I:∀z:o.1=u.1∨o.1=u.2∨o.2=u.1∨o.2=u.2,False:=λz=>H (lP hs B C z).1
  grind
 .intro h f p;obtain⟨i,m,p⟩:=GG.1 p;obtain⟨k,x⟩:=am (CY.1 m);have D:∀t,(t=1∨t=2)->f∈GB pn (EM (w_ w v l G r) i t) (EM (w_ w v l G r) i t).length->UN V f=false:=λt s p=>by
   obtain⟨a,b,o,u,q,g,j,rfl⟩:=yk.1 p;refine h k t o u s ((du x a_).1 (A9 g)) ((du x a_).1 (A9 j)) λz=>?_;rw[←z]at j;have y:=xB (t:=t) hs x a_;have:=(qdi (ai g) y).1 (g.trans j.symm);omega
  grind
end
def q7(w v:Nat)(l:TD)(G:TH)(r:Mv):Geo where
 N:=4*w*v
 nb:=y0 w v
 im:=Ds w (qb G r)
 be:=D3 w (qb G r)
 kd:=λa e=>match y0 w v a e with
  |some b=>cP l (ofNat (min a b)) (ofNat e)
  |none=>0
 up:=λa=>decide ((qb G r a).1<4)
def kU{s t:Nat}(a:s<8)(b:t<8):decide (DE s t<4)=decide (decide (s<4)=decide (t<4)):=by
 obtain rfl|rfl|rfl|rfl|rfl|rfl|rfl|rfl:s=0∨s=1∨s=2∨s=3∨s=4∨s=5∨s=6∨s=7:=a_
 all_goals
  obtain rfl|rfl|rfl|rfl|rfl|rfl|rfl|rfl:t=0∨t=1∨t=2∨t=3∨t=4∨t=5∨t=6∨t=7:=a_
  all_goals rfl
def t9(l:Ln):decide ((Do l).1<4)=false:=by
 unfold Do;split<;>rfl
def P4{pn:Ti}{V:Tx}{k:Int}{x y:Nat}{a:Bool}:v7 V (HN pn k x y a)=xr (v7 V (DC pn x y)) (xr (decide (k=2)) a):=by
 unfold v7 HN;simp only;cases V (DC pn x y).1<;>cases (DC pn x y).2<;>cases decide (k=2)<;>cases a<;>rfl
section
variable {w v:Nat} (hs:Sh w v) {l:TD} {G:TH} (hG:A2 w v l G) {r:Mv} (hr:r.1<8) (hk0:∀c∈l,c.2.2≠0) {a b c d e f:Nat}
def iN(g:y0 w v a e=some b):(q7 w v l G r).kd a e=cP l (ofNat (min a b)) (ofNat e):=by
 show(match y0 w v a e with
  |some b=>cP l (ofNat (min a b)) (ofNat e)
  |none=>0)=_
 rw[g]
include hs hG hr hk0
theorem wm(q:(q7 w v l G r).Loop a b e):(q7 w v l G r).Loop b a e/\Ds w (qb G r) b=Ds w (qb G r) a/\D3 w (qb G r) b e=D3 w (qb G r) a e/\a≠b/\(q7 w v l G r).up b = !(q7 w v l G r).up a/\(q7 w v l G r).kd b e=(q7 w v l G r).kd a e:=by
 have j:y0 w v a e=some b:=q.nb;have p:=q.k0;rw[iN j]at p;obtain⟨z,k,y,x,m⟩:=cQ hs q.a0 q.e0 j;have i:=(ij hk0).1 p;obtain⟨s,t⟩:=xW hs hG hr q.a0 q.e0 j i;have o:(q7 w v l G r).kd b e=(q7 w v l G r).kd a e:=by rw[iN j,iN k,Nat.min_comm]
 refine⟨⟨q.b0,q.a0,q.e0,k,by rw[o];exact q.k0⟩,s,t,Ej m,?_,o⟩;have h:=hG.g a e b q.a0 q.e0 j;unfold E_ at h;rw[qs i]at h;show decide ((af (G b) r).1<4) = !decide ((af (G a) r).1<4);have u:(G b).1<8:=(hG.ok b q.b0).1;have n:(G a).1<8:=(hG.ok a q.a0).1;show decide (DE (G b).1 r.1<4) = !decide (DE (G a).1 r.1<4);rw[kU u hr,kU n hr];have:decide ((G b).1<4) = !decide ((G a).1<4):=by
  rw[h];show decide (DE (Do (q8 (pu w (min a b)) e)).1 (G a).1<4)=_;rw[kU (lW _) n,t9]
  grind
 grind
theorem wo(q:(q7 w v l G r).FO a b e):(q7 w v l G r).FO b a e/\Ds w (qb G r) b=D3 w (qb G r) a e/\D3 w (qb G r) b e=Ds w (qb G r) a/\a≠b:=by
 have j:y0 w v a e=some b:=q.nb;have m:=q.k0;rw[iN j]at m;obtain⟨t,g,s,p,k⟩:=cQ hs q.a0 q.e0 j;have i:Dy l (min a b) e=false:=by
  cases h:Dy l (min a b) e with
  |false=>rfl
  |true=>exact absurd m ((ij hk0).2 h)
 obtain⟨_,n,o⟩:=Qk hs hG hr q.a0 q.e0 j i;exact⟨⟨q.b0,q.a0,q.e0,g,by rw[iN g,Nat.min_comm];exact m⟩,n,o,Ej k⟩
omit hG hr hk0 in
theorem qm(g:a<4*w*v)(i:e<3)(j:f<3)(h:D3 w (qb G r) a e=D3 w (qb G r) a f):e=f:=P0 hs g i j h
theorem QR:(∀a b e,(q7 w v l G r).Loop a b e->a≠b/\(q7 w v l G r).im a=(q7 w v l G r).im b)/\
  (∀a b e c d f,(q7 w v l G r).FO a b e->(q7 w v l G r).FO c d f->(q7 w v l G r).im a=(q7 w v l G r).im c->(q7 w v l G r).be a e=(q7 w v l G r).be c f->(q7 w v l G r).im b=(q7 w v l G r).im d/\(a≠c->b≠d))/\
  (∀a b e c d f,(q7 w v l G r).FO a b e->(q7 w v l G r).Loop c d f->(q7 w v l G r).be a e=(q7 w v l G r).be c f->a≠c/\a≠d)/\
  (∀a b e c d f,(q7 w v l G r).Loop a b e->(q7 w v l G r).Loop c d f->(q7 w v l G r).im a=(q7 w v l G r).im c->(q7 w v l G r).be a e=(q7 w v l G r).be c f->a≠c->a≠d->b≠c/\b≠d):=by
 refine⟨λa b e q=>?_,λa b e c d f q u i j=>?_,λa b e c d f q u j=>?_,λa b e c d f q u i j n y=>?_⟩
 .obtain⟨_,t,_,x,_⟩:=wm hs hG hr hk0 q;exact⟨x,t.symm⟩
 .obtain⟨g,o,k,_⟩:=wo hs hG hr hk0 q;obtain⟨m,p,h,_⟩:=wo hs hG hr hk0 u;refine⟨o.trans (j.trans p.symm),λn z=>n ?_⟩;subst z;have:=qm hs g.a0 g.e0 m.e0 (k.trans (i.trans h.symm));subst this;exact EI (g.nb.symm.trans m.nb)
 .obtain⟨_,_,h,_,_,s⟩:=wm hs hG hr hk0 u;constructor
  .rintro rfl;have:=qm hs q.a0 q.e0 u.e0 j;subst this;exact u.k0 q.k0
  .rintro rfl;have:=qm hs q.a0 q.e0 u.e0 (j.trans h.symm);subst this;exact u.k0 (s.symm.trans q.k0)
 .obtain⟨g,_,k,_⟩:=wm hs hG hr hk0 q;obtain⟨m,_,h,_⟩:=wm hs hG hr hk0 u;constructor
  .rintro rfl;have:=qm hs q.b0 q.e0 u.e0 (k.trans j);subst this;exact y (EI (g.nb.symm.trans u.nb))
  .rintro rfl;have:=qm hs q.b0 q.e0 u.e0 (k.trans (j.trans h.symm));subst this;exact n (EI (g.nb.symm.trans m.nb))
theorem gS(q:(q7 w v l G r).FO a b e)(g:DX (Ds w (qb G r) a) (D3 w (qb G r) a e)=false):iO w v l (qb G r) (4*w*v) (Ds w (qb G r) a,D3 w (qb G r) a e) 0 (a,b):=by
 obtain⟨n,i,j,_⟩:=wo hs hG hr hk0 q;have m:=q.k0;rw[iN q.nb]at m;by_cases h:b<a
 .have k:DX (Ds w (qb G r) b) (D3 w (qb G r) b e)=true:=by
   rw[i,j];exact qn g (Ej (Lm hs q.a0 q.e0))
  refine⟨b,e,a,q.b0,q.e0,n.nb,a_,?_,.inl ⟨rfl,?_,?_⟩⟩
  .unfold r_;rw[qs k,i,j]
  .unfold x2
   grind
  .rw[qs k]
 .refine⟨a,e,b,q.a0,q.e0,q.nb,h,?_,.inl ⟨rfl,m,?_⟩⟩
  .unfold r_
   simp_all
  simp_all
omit hs hG hr hk0 in
theorem qC(q:(q7 w v l G r).Loop a b e)(h:a<b):iO w v l (qb G r) (4*w*v) (r_ (Ds w (qb G r) a) (D3 w (qb G r) a e)) (if DX (Ds w (qb G r) a) (D3 w (qb G r) a e)then 2 else 1) (a,b):=by
 have g:=q.k0;rw[iN q.nb]at g;exact⟨a,e,b,q.a0,q.e0,q.nb,a_,rfl,.inr ⟨rfl,g,rfl⟩⟩
theorem pg{k:K6}{p:K2}(h:iO w v l (qb G r) (4*w*v) k 0 p):∃e,Gv w v l G r k p e/\(q7 w v l G r).FO p.1 p.2 e/\D3 w (qb G r) p.1 e=k.2:=by
 obtain⟨e,q⟩:=uM hs hG hr hk0 h;have g:(q7 w v l G r).kd p.1 e=0:=by
  rw[iN q.nb];by_cases z:cP l (ofNat (min p.1 p.2)) (ofNat e)=0
  .exact z
  .have:=(ij hk0).1 z;rw[q.cr]at this;cases this
 have u:(q7 w v l G r).FO p.1 p.2 e:=⟨q.n1,q.n2,q.he,q.nb,g⟩;refine⟨e,q,u,?_⟩;rw[←(wo hs hG hr hk0 u).2.1];exact q.i2
theorem oY{k:K6}{t:Nat}{o:K2}(i:t=1∨t=2)(h:iO w v l (qb G r) (4*w*v) k t o):∃e,Gu w v l G r k t o e/\(q7 w v l G r).Loop o.1 o.2 e/\D3 w (qb G r) o.1 e=(if t=1 then k.2 else k.1):=by
 obtain⟨e,q⟩:=uA hs hG hr hk0 i h;have j:(q7 w v l G r).kd o.1 e≠0:=by
  rw[iN q.nb,XS (qdC q.lt)];exact(ij hk0).2 q.cr
 refine⟨e,q,⟨q.n1,q.n2,q.he,q.nb,j⟩,?_⟩;have g:=q.k1;unfold r_ at g;rcases i with rfl|rfl
 .rw[rv (by rw[q.gt];decide)]at g;rw[qs rfl,←g]
 .rw[qs (by rw[q.gt];decide)]at g
  grind
end
section
variable {w v:Nat} (hs:Sh w v) {l:TD} {G:TH} (hG:A2 w v l G) {r:Mv} (hr:r.1<8) (hk0:∀c∈l,c.2.2≠0) {pn:Ti} {V:Tx} {B:Nat->Nat->Bool}
 (hV:∀a b,a<4*w*v->b<4*w*v->a≠b->Ds w (qb G r) a=Ds w (qb G r) b->v7 V (DC pn a b)=B a b)
include hs hG hr hk0 hV
theorem VX(h1:∀i e,i<4*w*v->e<3->Fx pn w v l (qb G r) V i e)(H:tl pn (w_ w v l G r) V (w_ w v l G r).1.length)(Q:JZ (H6 pn (w_ w v l G r) (w_ w v l G r).1.length) V):J0 (q7 w v l G r) B:=by
 rw[MY hs hG hr hk0]at H;rw[LP hs hG hr hk0]at Q;obtain⟨C,o2,o3,S⟩:=QR hs hG hr hk0;refine⟨λa b e q k=>?_,λa b e c d f q u i j n=>?_,λa b e c d f q u i j=>?_,λa b e c d f q u i j n K=>?_⟩
 .have h:∀ {a b:Nat},(q7 w v l G r).Loop a b e->(q7 w v l G r).kd a e≠3->a<b->xr (B a b) (xr (decide ((q7 w v l G r).kd a e=2)) ((q7 w v l G r).up a))=true:=λ{a b} q k I=>by
   obtain⟨x,A⟩:=C _ _ _ q;have R:=q.k0;have:=h1 a e q.a0 q.e0 b q.nb a_ (by rw[iN q.nb]at R;exact R) (by rw[iN q.nb]at k;exact k);rw[P4,hV a b q.a0 q.b0 x A]at this;rw[iN q.nb];exact this
  obtain⟨o,_,_,s,W,X⟩:=wm hs hG hr hk0 q;rcases ZH s with z|z
  .exact h q k z
  .have:=h o a_ z;rw[W,X,←hV b a q.b0 q.a0 (Ej s) (C _ _ _ o).2,gY s]at this;rw[←hV a b q.a0 q.b0 s (C _ _ _ q).2];revert this;unfold v7;simp only;cases V (DC pn a b).1<;>cases (DC pn a b).2<;>cases decide ((q7 w v l G r).kd a e=2)<;>cases (q7 w v l G r).up a<;>decide
 .obtain⟨z1,z2⟩:=o2 _ _ _ _ _ _ q u i j;obtain⟨o,E,F,_⟩:=wo hs hG hr hk0 q;obtain⟨D,O,P,_⟩:=wo hs hG hr hk0 u;rw[←hV a c q.a0 u.a0 n i,←hV b d q.b0 u.b0 (z2 n) z1];change Ds w (qb G r) a=Ds w (qb G r) c at i;change D3 w (qb G r) a e=D3 w (qb G r) c f at j;cases g:DX (Ds w (qb G r) a) (D3 w (qb G r) a e)with
  |false=>
   have p:=gS hs hG hr hk0 q g;have m:=gS hs hG hr hk0 u j_;rw[←i,←j]at m;exact(H _).1 _ _ p m λz=>n (congrArg Prod.fst z)
  |true=>
   have p:=gS hs hG hr hk0 o (by rw[E,F];exact wp g);have m:=gS hs hG hr hk0 D (by rw[O,P,←i,←j];exact wp g);rw[E,F]at p;rw[O,P,←i,←j]at m;exact((H _).1 _ _ p m λz=>n (congrArg Prod.snd z)).symm
 .have h:∀ {c d:Nat},(q7 w v l G r).Loop c d f->Ds w (qb G r) a=Ds w (qb G r) c->D3 w (qb G r) a e=D3 w (qb G r) c f->c<d->B a c=B a d:=λ{c d} u i j t=>by
   obtain⟨o,E,F,_⟩:=wo hs hG hr hk0 q;obtain⟨Y,Z⟩:=o3 _ _ _ _ _ _ q u j;have J:=(C _ _ _ u).2;rw[←hV a c q.a0 u.a0 Y i,←hV a d q.a0 u.b0 Z (i.trans J)];have m:=qC u t;unfold r_ at m;rw[←i,←j]at m;cases g:DX (Ds w (qb G r) a) (D3 w (qb G r) a e)with
   |false=>
    rw[rv (by rw[g];decide),rv (by rw[g];decide)]at m;exact(H _).2.1 _ _ (gS hs hG hr hk0 q g) m
   |true=>
    rw[qs g,qs g]at m;have p:=gS hs hG hr hk0 o (by rw[E,F];exact wp g);rw[E,F]at p;exact(H _).2.2 _ _ p m
  obtain⟨D,x,A,s,_⟩:=wm hs hG hr hk0 u;rcases ZH s with z|z
  .exact h u i j z
  .exact(h D (i.trans x.symm) (j.trans A.symm) z).symm
 .have h:∀ {a b c d:Nat},(q7 w v l G r).Loop a b e->(q7 w v l G r).Loop c d f->Ds w (qb G r) a=Ds w (qb G r) c->D3 w (qb G r) a e=D3 w (qb G r) c f->a≠c->a≠d->a<b->c<d->xr (xr (B a c) (B b c)) (xr (B a d) (B b d))=false:=λ{a b c d} q u i j n K I t=>by
   obtain⟨L,M⟩:=S _ _ _ _ _ _ q u i j n K;have N:=(C _ _ _ q).2;have J:=(C _ _ _ u).2;change Ds w (qb G r) a=Ds w (qb G r) b at N;change Ds w (qb G r) c=Ds w (qb G r) d at J;rw[←hV a c q.a0 u.a0 n i,←hV b c q.b0 u.a0 L (N.symm.trans i),←hV a d q.a0 u.b0 K (i.trans J),←hV b d q.b0 u.b0 M (N.symm.trans (i.trans J))];have p:=qC q I;have m:=qC u t;rw[←i,←j]at m;exact Q _ _ _ _ j_ p m λz=>n (congrArg Prod.fst z)
  obtain⟨o,T,U,p3,_⟩:=wm hs hG hr hk0 q;obtain⟨D,x,A,s,_⟩:=wm hs hG hr hk0 u;obtain⟨L,M⟩:=S _ _ _ _ _ _ q u i j n K;change Ds w (qb G r) a=Ds w (qb G r) c at i;change D3 w (qb G r) a e=D3 w (qb G r) c f at j;rcases ZH p3 with y|y<;>rcases ZH s with z|z
  .simp_all
  .have:=h q D (i.trans x.symm) (j.trans A.symm) K n y z;revert this;cases B a c<;>cases B b c<;>cases B a d<;>cases B b d<;>decide
  .have:=h o u (T.trans i) (U.trans j) L M y z;revert this;cases B a c<;>cases B b c<;>cases B a d<;>cases B b d<;>decide
  .have:=h o D (T.trans (i.trans x.symm)) (U.trans (j.trans A.symm)) M L y z;revert this;cases B a c<;>cases B b c<;>cases B a d<;>cases B b d<;>decide
theorem VW(h:J0 (q7 w v l G r) B):(∀i e,i<4*w*v->e<3->Fx pn w v l (qb G r) V i e)/\tl pn (w_ w v l G r) V (w_ w v l G r).1.length/\JZ (H6 pn (w_ w v l G r) (w_ w v l G r).1.length) V:=by
 rw[MY hs hG hr hk0,LP hs hG hr hk0];obtain⟨U,W,o3,X⟩:=QR hs hG hr hk0;refine⟨λa e J K b s P S T=>?_,λk=>⟨λp q D Q s=>?_,λp o D C=>?_,λp o D C=>?_⟩,λk t o u L C R s=>?_⟩
 .have q:(q7 w v l G r).Loop a b e:=⟨J,(cQ hs J K s).1,K,s,by rw[iN s];exact S⟩;have:=h.kd a b e q (by rw[iN s];exact T);obtain⟨N,O⟩:=U _ _ _ q;rw[P4,hV a b q.a0 q.b0 N O];rw[iN s]at this;exact this
 .obtain⟨e,c,d,A⟩:=pg hs hG hr hk0 D;obtain⟨f,m,g,x⟩:=pg hs hG hr hk0 Q;have I:p.1≠q.1:=λz=>s (ph hs c m (.inl z)).1;have i:=c.i1.trans m.i1.symm;have j:=A.trans x.symm;obtain⟨Z,z2⟩:=W _ _ _ _ _ _ d g i j;unfold Ha;rw[hV _ _ d.a0 g.a0 I i,hV _ _ d.b0 g.b0 (z2 I) Z];exact h.pp _ _ _ _ _ _ d g i j I
 .obtain⟨e,c,d,A⟩:=pg hs hG hr hk0 D;obtain⟨f,m,g,x⟩:=oY hs hG hr hk0 (.inl rfl) C;rw[qs rfl]at x;have y:=m.im;rw[qs rfl]at y;obtain⟨E,F,_,_⟩:=wV hs c m;unfold Ha;rw[hV _ _ d.a0 g.a0 E (c.i1.trans y.1.symm),hV _ _ d.a0 g.b0 F (c.i1.trans y.2.symm)];exact h.pl _ _ _ _ _ _ d g (c.i1.trans y.1.symm) (A.trans x.symm)
 .obtain⟨e,c,d,A⟩:=pg hs hG hr hk0 D;obtain⟨f,m,g,x⟩:=oY hs hG hr hk0 (.inr rfl) C;rw[rv m_]at x;have y:=m.im;rw[rv m_]at y;obtain⟨_,_,E,F⟩:=wV hs c m;obtain⟨Y,a1,M,_⟩:=wo hs hG hr hk0 d;unfold Ha;rw[hV _ _ d.b0 g.a0 E (c.i2.trans y.1.symm),hV _ _ d.b0 g.b0 F (c.i2.trans y.2.symm)];exact h.pl _ _ _ _ _ _ Y g (c.i2.trans y.1.symm) (M.trans (c.i1.trans x.symm))
 .obtain⟨e,c,d,A⟩:=oY hs hG hr hk0 L C;obtain⟨f,m,g,x⟩:=oY hs hG hr hk0 L R;have i:=c.im.1.trans m.im.1.symm;have j:=A.trans x.symm;have n:o.1≠u.1:=λz=>s (lP hs c m (.inl z)).1;have H:o.1≠u.2:=λz=>s (lP hs c m (.inr (.inl z))).1;obtain⟨E,F⟩:=X _ _ _ _ _ _ d g i j n H;unfold UN four;simp only;rw[hV _ _ d.a0 g.a0 n i,hV _ _ d.b0 g.a0 E (c.im.2.trans m.im.1.symm),hV _ _ d.a0 g.b0 H (c.im.1.trans m.im.2.symm),hV _ _ d.b0 g.b0 F (c.im.2.trans m.im.2.symm)];exact h.ll _ _ _ _ _ _ d g i j n H
end
def JO(x:List (TC))(a b:Nat):Bool:=x.any λq=>decide (a∈q)&&(decide (b∈q)&&decide (q.idxOf a<q.idxOf b))
def eU:∀ {IDS x:List (TC)},x∈CV IDS↔x.length=IDS.length/\∀(i:Nat) l q,IDS[i]?=some l->x[i]?=some q->q.Perm l
 | [],x=>by
  unfold CV
  simp_all
 |l :: R,x=>by
  unfold CV;cases x with
  |nil=>simp
  |cons y x=>
   rw[GG];constructor
   .rintro⟨p,g,j⟩;obtain⟨t,h,e⟩:=DJ.1 j;cases e;obtain⟨d,a⟩:=eU.1 h;refine⟨by simp[d],λi f q b c=>?_⟩;cases i with
    |zero=>
     cases b;cases c;exact px rfl g
    |succ i=>exact a i f q b c
   .rintro⟨d,a⟩;refine⟨y,Mj rfl (a 0 l y rfl rfl),DJ.2 ⟨x,eU.2 ⟨by simpa using d,λi f q b c=>a (i+1) f q b c⟩,rfl⟩⟩
section
variable {IDS:List (TC)} {N:Nat} (g:Gl IDS N) {x:List (TC)} (hx:x∈CV IDS)
include g
theorem oH{i j:Nat}{l m:TC}{a:Nat}(d:IDS[i]?=some l)(e:IDS[j]?=some m)(b:a∈l)(c:a∈m):i=j:=by
 have h:=g.dj;rw[KI]at h
 grind
include hx
theorem Bi{q q':TC}{a:Nat}(o:q∈x)(b:q'∈x)(f:a∈q)(h:a∈q'):q=q':=by
 obtain⟨p,c⟩:=eU.1 hx;obtain⟨i,k⟩:=G0.1 o;obtain⟨j,n⟩:=G0.1 b;obtain⟨l,d⟩:=am (l:=IDS) (i:=i) i_;obtain⟨m,e⟩:=am (l:=IDS) (i:=j) i_;have:=oH g d e ((c i l q d k).mem_iff.1 f) ((c j m q' e n).mem_iff.1 h)
 simp_all
theorem MP{q:TC}(d:q∈x):q.Nodup:=by
 obtain⟨e,b⟩:=eU.1 hx;obtain⟨i,c⟩:=G0.1 d;obtain⟨l,a⟩:=am (l:=IDS) (i:=i) i_;exact(b i l q a c).symm.nodup (g.nd l (A9 a))
theorem rJ{q:TC}{a b:Nat}(e:q∈x)(c:a∈q)(f:b∈q):JO x a b=decide (q.idxOf a<q.idxOf b):=by
 unfold JO;rw[OP,p8];constructor
 .rintro⟨p,d,h⟩;rw[te,te,E6]at h;have:=Bi g hx d e h.1 c
  simp_all
 grind
theorem nU{q:TC}{i j a b:Nat}(c:q∈x)(d:q[i]?=some a)(e:q[j]?=some b):q.idxOf a<q.idxOf b↔i<j:=by
 have f:=MP g hx c
 grind
theorem Dl{q:TC}{a b:Nat}(c:q∈x)(d:a∈q)(e:b∈q)(k:a≠b):JO x b a = !JO x a b:=by
 rw[rJ g hx c d e,rJ g hx c e d];obtain⟨i,f⟩:=G0.1 d;obtain⟨j,h⟩:=G0.1 e;have l:i≠j:=λz=>by
  simp_all
 have m:=nU g hx c f h;have n:=nU g hx c h f
 grind
theorem Dc{pn:Ti}{V:Tx}{q:TC}(h:Pp pn V q){a b:Nat}(o:q∈x)(m:a∈q)(n:b∈q)(f:a≠b):v7 V (DC pn a b)=JO x a b:=by
 rw[rJ g hx o m n];obtain⟨i,c⟩:=G0.1 m;obtain⟨j,d⟩:=G0.1 n;unfold Pp at h;rw[KI]at h;have k:=Gm (ai c);have l:=Gm (ai d);rw[c]at k;rw[d]at l;have p:=nU g hx o c d;rcases qdk i j with q|q|q
 .simp_all
 .simp_all
 .have e:=h j i (ai d) (ai c) q;rw[←EI k,←EI l]at e;rw[GI λz=>a_];rw[gY f]at e;revert e;unfold v7;simp only;cases V (DC pn a b).1<;>cases (DC pn a b).2<;>decide
end
section
variable {L:TM} {x:List (TC)} (hx:x∈CV (p_ L))
def r0(L:TM)(x:List (TC))(i:Nat):Bool:=match (Fa (p_ L))[i]? with
 |some p=>JO x p.1 p.2
 |none=>false
include hx
theorem P2{a b:Nat}{c:Cl}(d:L[a]?=some c)(f:L[b]?=some c)(e:a≠b):v7 (r0 L x) (DC (EF (Fa (p_ L))) a b)=JO x a b:=by
 have g:∀ {a b:Nat},L[a]?=some c->L[b]?=some c->a<b->r0 L x (EF (Fa (p_ L)) a b)=JO x a b:=λ{a b} d f s=>by
  obtain⟨l,k,m,n⟩:=dW d f;have u:((a,b):K2)∈Fa (p_ L):=by
   obtain⟨j,r⟩:=G0.1 m;obtain⟨i,p⟩:=G0.1 n;refine uQ.2 ⟨l,k,j,i,?_,r,p⟩;have h:=Ak k;rw[KI]at h
   grind
  unfold r0 EF
  grind
 obtain⟨l,k,m,n⟩:=dW d f;obtain⟨q,t,o⟩:=lZ hx l k;unfold DC v7;rcases ZH e with z|z
 .rw[qs z];simp only;rw[g d f z];cases JO x a b<;>rfl
 .rw[rv a_];simp only;rw[g f d z,Dl (dt L) hx t (o.mem_iff.2 m) (o.mem_iff.2 n) e];cases JO x a b<;>rfl
theorem VF{q:TC}(a:q∈x):Pp (EF (Fa (p_ L))) (r0 L x) q:=by
 unfold Pp;rw[KI];intro i j r s f;have b:=Gm r;have c:=Gm s;obtain⟨v,p⟩:=eU.1 hx;obtain⟨k,t⟩:=G0.1 a;obtain⟨l,h⟩:=am (l:=p_ L) (i:=k) i_;have m:=p k l q h t;have n:=A9 b;have o:=A9 c;obtain⟨e,u⟩:=uq (A9 h) (m.mem_iff.1 n) (m.mem_iff.1 o);have d:q[i]≠q[j]:=λz=>by
  have:=AK (MP (dt L) hx a) b (c.trans (congrArg some z.symm));omega
 have g:L[q[i]]?=some L[q[i]]:=Gm u;rw[P2 hx g (e▸g) d,rJ (dt L) hx a n o,E6];exact(nU (dt L) hx a b c).2 f
end
def S5{w v:Nat}(u:Sh w v){l:TD}{G:TH}(s:A2 w v l G){r:Mv}(t:r.1<8)(f:∀c∈l,c.2.2≠0){x:List (TC)}(i:x∈CV (p_ (z_ w v G r))) :
  Er (EF (Fa (p_ (z_ w v G r)))) (Da w v l G r (EF (Fa (p_ (z_ w v G r))))) (H6 (EF (Fa (p_ (z_ w v G r)))) (w_ w v l G r) (w_ w v l G r).1.length) x=true↔J0 (q7 w v l G r) (JO x):=by
 rw[AN];constructor
 .rintro⟨V,⟨j,k⟩,n,y⟩;refine VX u s t f (λa b o p d e=>?_) j k n;obtain⟨q,g,A,B⟩ : ∃q∈x,a∈q/\b∈q:=by
   obtain⟨m,z,D,E⟩:=dW (cv (w:=w) (v:=v) (G:=G) (r:=r) o) ((cv p).trans (congrArg some e.symm));obtain⟨q,g,C⟩:=lZ i m z
   grind
  exact Dc (dt _) i (y q g) g A B d
 .intro h;obtain⟨j,k,n⟩:=VW u s t f (V:=r0 (z_ w v G r) x) (pn:=EF (Fa (p_ (z_ w v G r)))) (λa b o p d e=>P2 i (cv o) ((cv p).trans (congrArg some e.symm)) d) h;exact⟨_,⟨j,k⟩,n,λq g=>VF i g⟩
def Zt{j7:Type} [DecidableEq j7]:∀ {a b:List j7},a.Nodup->(∀x∈a,x∈b)->a.length<=b.length
 | [],_,_,_=>D6 _
 |x :: a,b,c,d=>by
  rw[w9]at c;have g:=d x c_;have:=Zt (b:=b.erase x) c.2 λy f=>(List.mem_erase_of_ne λe=>c.1 (by rw[←e];exact f)).2 (d y (by simp[f]))
  grind
def Sr:∀ {n:Nat} {l:TC},l.length=n->l.Nodup->(Iy n l).Nodup
 |0,l,_,_=>by simp[Iy]
 |n+1,l,h,d=>by
  unfold Iy;show List.Pairwise _ _;rw[qcp];constructor
  .intro a f;rw[H0];refine(Sr j_ (d.erase a)).imp λ{p q} c z=>c ?_;cases z;rfl
  .refine d.imp λ{a b} e p g q i z=>?_
   grind
def Bh:∀ {IDS:List (TC)},(∀l∈IDS,l.Nodup)->(CV IDS).Nodup
 | [],_=>by simp[CV]
 |l :: R,h=>by
  unfold CV;show List.Pairwise _ _;rw[qcp];constructor
  .intro p _;rw[H0];refine(Bh λm e=>h m (by simp[e])).imp λ{x y} c z=>c ?_;cases z;rfl
  .refine(Sr rfl (h l c_)).imp λ{a b} d p f q g z=>?_
   grind
def ZY(s:Bool)(q:TC):TC:=if s then q.reverse else q
def uY(s:Bool)(q:TC):(ZY s q).Perm q:=by
 cases s
 .exact UV _
 .exact List.reverse_perm q
def X3{s:Bool}{p q:TC}(h:ZY s p=ZY s q):p=q:=by
 cases s
 .exact h
 .exact List.reverse_inj.1 h
section
variable {IDS IDS':List (TC)} {N N':Nat} (g:Gl IDS N) (g':Gl IDS' N') {j8:TF} {s:Bool} (hi:∀a b,a<N->b<N->j8 a=j8 b->a=b)
 (h1:∀l∈IDS,∃l'∈IDS',(l.map j8).Perm l') (h2:∀l'∈IDS',∃l∈IDS,(l.map j8).Perm l')
def MK(j8:TF)(x:List (TC))(l':TC):TC:=(x.find? λq=>(q.map j8).isPerm l').getD []
def Iv(j8:TF)(s:Bool)(IDS':List (TC))(x:List (TC)):List (TC):=IDS'.map λl'=>ZY s ((MK j8 x l').map j8)
include g hi in
theorem uN{x:List (TC)}(u:x∈CV IDS){q l':TC}(h:q∈x)(t:(q.map j8).Perm l'):MK j8 x l'=q:=by
 unfold MK;cases o:x.find? λq=>(q.map j8).isPerm l' with
 |none=>exact absurd (List.isPerm_iff.2 t) j_
 |some p=>
  have r:=b2 o;have j:=hN (p:=λq:List Nat=>(q.map j8).isPerm l') o;have m:(p.map j8).Perm l':=List.isPerm_iff.1 j;obtain⟨y,n⟩:=eU.1 u;have v:∀ {q:TC},q∈x->∀a∈q,a<N:=λ{q} h a c=>by
   obtain⟨i,hi⟩:=G0.1 h;obtain⟨l,f⟩:=am (l:=IDS) (i:=i) i_;exact g.lt l (A9 f) a ((n i l q f hi).mem_iff.1 c)
  have k:q≠[]:=by
   obtain⟨i,hi⟩:=G0.1 h;obtain⟨l,f⟩:=am (l:=IDS) (i:=i) i_;rintro rfl;exact g.ne l (A9 f) (n i l [] f hi).symm.eq_nil
  obtain⟨a,c⟩:=qb9 q k;have w:j8 a∈p.map j8:=m.mem_iff.2 (t.mem_iff.1 (DJ.2 ⟨a,c,rfl⟩));obtain⟨b,d,e⟩:=DJ.1 w;have:=hi b a (v r b d) (v h a c) e;subst this;exact Bi g u r h d c
include g hi h1 h2
theorem RH{x:List (TC)}(f:x∈CV IDS):Iv j8 s IDS' x∈CV IDS':=by
 refine eU.2 ⟨by simp[Iv],λi l' q e b=>?_⟩;unfold Iv at b;rw[FM,e]at b;cases b;obtain⟨l,c,h⟩:=h2 l' (A9 e);obtain⟨q,b,d⟩:=lZ f l c;have a:(q.map j8).Perm l':=(d.map j8).trans h;show(ZY s ((MK j8 x l').map j8)).Perm l';rw[uN g hi f b a];exact(uY s _).trans a
omit h2 in
theorem n7{x q:List (TC)}{p:TC}(e:x∈CV IDS)(d:p∈x):ZY s (p.map j8)∈Iv j8 s IDS' x:=by
 obtain⟨j,f⟩:=eU.1 e;obtain⟨i,h⟩:=G0.1 d;obtain⟨l,c⟩:=am (l:=IDS) (i:=i) i_;obtain⟨l',a,b⟩:=h1 l (A9 c);refine DJ.2 ⟨l',a,?_⟩;rw[uN g hi e d (((f i l p c h).map j8).trans b)]
include g'
theorem W7{x:List (TC)}(e:x∈CV IDS){p:TC}(n:p∈x){a b:Nat}(h:a∈p)(k:b∈p)(t:a≠b):JO (Iv j8 s IDS' x) (j8 a) (j8 b)=xr s (JO x a b):=by
 have o:=RH (s:=s) g hi h1 h2 e;have m:=n7 (q:=x) (s:=s) g hi h1 e n;have v:j8 a∈ZY s (p.map j8):=(uY s _).mem_iff.2 (DJ.2 ⟨a,h,rfl⟩);have w:j8 b∈ZY s (p.map j8):=(uY s _).mem_iff.2 (DJ.2 ⟨b,k,rfl⟩);rw[rJ g' o m v w,rJ g e n h k];obtain⟨i,c⟩:=G0.1 h;obtain⟨j,d⟩:=G0.1 k;have u:i≠j:=λz=>by
  simp_all
 have r:=nU g e n c d;have y:(p.map j8)[i]?=some (j8 a):=j_;have A:(p.map j8)[j]?=some (j8 b):=j_;have B:=ai c;have C:=ai d;cases s with
 |false=>
  have f:=nU g' o m y A;rw[OP,E6,show xr false (decide (p.idxOf a<p.idxOf b))=decide (p.idxOf a<p.idxOf b)from by cases decide (p.idxOf a<p.idxOf b)<;>rfl,E6,r];exact f
 |true=>
  have f:=nU g' o m (i:=p.length - 1 - i) (j:=p.length - 1 - j) (a:=j8 a) (b:=j8 b) (by
   show(p.map j8).reverse[p.length - 1 - i]?=_
   grind) (by
   show(p.map j8).reverse[p.length - 1 - j]?=_
   grind)
  rw[OP,E6,show xr true (decide (p.idxOf a<p.idxOf b)) = !decide (p.idxOf a<p.idxOf b)from by cases decide (p.idxOf a<p.idxOf b)<;>rfl,ZI,decide_eq_false_iff_not,r,f];omega
omit g' in
theorem W4{x y:List (TC)}(u:x∈CV IDS)(v:y∈CV IDS)(h:Iv j8 s IDS' x=Iv j8 s IDS' y):x=y:=by
 obtain⟨F,B⟩:=eU.1 u;obtain⟨G,C⟩:=eU.1 v;refine Ib λi=>?_;cases d:IDS[i]? with
 |none=>
  simp_all
 |some l=>
  have E:=ai d;obtain⟨p,o⟩:=am (l:=x) (i:=i) a_;obtain⟨q,r⟩:=am (l:=y) (i:=i) a_;obtain⟨l',n,f⟩:=h1 l (A9 d);obtain⟨j,D⟩:=G0.1 n;have h:=congrArg (λz=>z[j]?) h;unfold Iv at h;simp only[FM,D,FJ]at h;have w:=B i l p d o;have A:=C i l q d r;rw[uN g hi u (A9 o) ((w.map j8).trans f),uN g hi v (A9 r) ((A.map j8).trans f)]at h;have h:=X3 (EI h);have:p=q:=by
   refine Ib λk=>?_;have c:=congrArg (λz=>z[k]?) h;simp only[FM]at c;cases t:p[k]? with
   |none=>
    grind
   |some a=>
    rw[t]at c;cases m:q[k]? with
    |none=>rw[m]at c;cases c
    |some b=>
     rw[m]at c;have e:=A9 d;exact congrArg some (hi a b (g.lt l e a (w.mem_iff.1 (A9 t))) (g.lt l e b (A.mem_iff.1 (A9 m))) (EI c))
  rw[o,r,this]
theorem z5{P e:List (TC)->Bool}(k:∀x∈CV IDS,∀y∈CV IDS',(∀p∈x,∀a∈p,∀b∈p,a≠b->JO y (j8 a) (j8 b)=xr s (JO x a b))->P x=true->e y=true):((CV IDS).filter P).length<=((CV IDS').filter e).length:=by
 have:=Zt (a:=((CV IDS).filter P).map (Iv j8 s IDS')) (b:=(CV IDS').filter e) ?_ ?_
 .simp_all
 .show List.Pairwise _ _;rw[H0];refine qcC ?_ ((Bh g.nd).filter P);intro x y c j i z;exact i (W4 g hi h1 h2 (GH.1 c).1 (GH.1 j).1 z)
 .intro y j;obtain⟨x,c,rfl⟩:=DJ.1 j;obtain⟨c,h⟩:=GH.1 c;have d:=RH (s:=s) g hi h1 h2 c;exact GH.2 ⟨d,k x c _ d (λp h a m b n f=>W7 g g' hi h1 h2 c h m n f) h⟩
end
def uo{L:TM}{l:TC}(e:l∈p_ L){a b:Nat}(d:a∈l):b∈l↔L[b]?=L[a]?:=by
 obtain⟨c,_,rfl⟩:=DJ.1 e;rw[eR.1 d];exact eR
section
variable {L L':TM} {j8:TF} (lt:∀a,a<L.length->j8 a<L'.length) (inj:∀a b,a<L.length->b<L.length->j8 a=j8 b->a=b) (onto:∀b,b<L'.length->∃a,a<L.length/\j8 a=b)
 (im:∀a b,a<L.length->b<L.length->(L'[j8 a]?=L'[j8 b]?↔L[a]?=L[b]?))
include lt inj onto im
theorem Q0{l:TC}(g:l∈p_ L){a:Nat}(e:a∈l){l':TC}(f:l'∈p_ L')(i:j8 a∈l'):(l.map j8).Perm l':=by
 have c:∀b∈l,b<L.length:=λb d=>(uq g d e).2;refine(List.perm_ext_iff_of_nodup ?_ ((dt L').nd l' f)).2 λy=>?_
 .show List.Pairwise _ _;rw[H0];exact qcC (λ{x y} m k j z=>j (inj x y (c x m) (c y k) z)) ((dt L).nd l g)
 .rw[uo f i];constructor
  .intro h;obtain⟨b,d,rfl⟩:=DJ.1 h;exact(im b a (c b d) (c a e)).2 ((uo g e).1 d)
  .intro h;have k:y<L'.length:=by
    grind
   obtain⟨b,d,rfl⟩:=onto y k;exact DJ.2 ⟨b,(uo g e).2 ((im b a d (c a e)).1 h),rfl⟩
theorem zP:∀l∈p_ L,∃l'∈p_ L',(l.map j8).Perm l':=λl c=>by
 obtain⟨a,d⟩:=qb9 l ((dt L).ne l c);have h:=Gm (lt a ((dt L).lt l c a d));obtain⟨l',b,e,_⟩:=dW h h;exact⟨l',b,Q0 lt inj onto im c d b e⟩
theorem gD:∀l'∈p_ L',∃l∈p_ L,(l.map j8).Perm l':=λl' b=>by
 obtain⟨y,d⟩:=qb9 l' ((dt L').ne l' b);obtain⟨a,f,rfl⟩:=onto y ((dt L').lt l' b y d);have h:=Gm f;obtain⟨l,c,e,_⟩:=dW h h;exact⟨l,c,Q0 lt inj onto im c e b d⟩
end
structure Fld(w v:Nat)(l:TD)(G:TH)(r:Mv):Prop where
 s:Sh w v
 g:A2 w v l G
 r8:r.1<8
 k0:∀c∈l,c.2.2≠0
section
variable {w v w' v':Nat} {l l':TD} {G G':TH} {r r':Mv} (F:Fld w v l G r) (F':Fld w' v' l' G' r') {j8 g9 y8 CU:TF} {s:Bool}
 (m:I5 (q7 w v l G r) (q7 w' v' l' G' r') j8 y8 s) (m':I5 (q7 w' v' l' G' r') (q7 w v l G r) g9 CU s) (k:∀a,a<4*w*v->g9 (j8 a)=a) (k':∀a,a<4*w'*v'->j8 (g9 a)=a)
def qt{w v:Nat}{G:TH}{r:Mv}:(z_ w v G r).length=4*w*v:=by simp[z_]
include F F' m m' k k' in
theorem Ai:(GW w v l G r).length<=(GW w' v' l' G' r').length:=by
 have I:∀a,a<(z_ w v G r).length->j8 a<(z_ w' v' G' r').length:=λa c=>by rw[qt]at c ⊢;exact m.lt a c
 have i:∀a b,a<(z_ w v G r).length->b<(z_ w v G r).length->j8 a=j8 b->a=b:=λa b c d=>by rw[qt]at c d;exact m.inj a b c d
 have f:∀b,b<(z_ w' v' G' r').length->∃a,a<(z_ w v G r).length/\j8 a=b:=λb d=>by
  rw[qt]at d;exact⟨g9 b,by rw[qt];exact m'.lt b d,k' b d⟩
 have H:∀a b,a<(z_ w v G r).length->b<(z_ w v G r).length->((z_ w' v' G' r')[j8 a]?=(z_ w' v' G' r')[j8 b]?↔(z_ w v G r)[a]?=(z_ w v G r)[b]?):=λa b c d=>by
  rw[qt]at c d;rw[cv c,cv d,cv (m.lt a c),cv (m.lt b d)];have:=m.im a b c d;constructor
  .intro h;exact congrArg some (this.1 (EI h))
  .intro h;exact congrArg some (this.2 (EI h))
 have g:=dt (z_ w v G r);have J:=dt (z_ w' v' G' r');have K:=zP I i f H;have L:=gD I i f H;unfold GW;refine z5 (s:=s) g J (λa b c d=>i a b c d) K L λx E y O d C=>?_;rw[S5 F.s F.g F.r8 F.k0 E]at C;rw[S5 F'.s F'.g F'.r8 F'.k0 O];obtain⟨R,S,o3,T⟩:=QR F'.s F'.g F'.r8 F'.k0;refine J0.pull m' C (λa b c e u B=>?_) R S o3 T;have j:=m'.lt a c;have A:=m'.lt b e;have n:g9 a≠g9 b:=λz=>u (m'.inj a b c e z);have o:(z_ w v G r)[g9 b]?=(z_ w v G r)[g9 a]?:=by
  rw[cv j,cv A];exact congrArg some ((m'.im a b c e).2 B).symm
 have D:=cv (w:=w) (v:=v) (G:=G) (r:=r) j;obtain⟨q,N,P,Q⟩:=dW D (o.trans D);obtain⟨p,M,t⟩:=lZ E q N;have:=d p M (g9 a) (t.mem_iff.2 P) (g9 b) (t.mem_iff.2 Q) n;rw[k' a c,k' b e]at this;rw[this];cases s<;>cases JO x (g9 a) (g9 b)<;>rfl
end
def wL{w v w' v':Nat}{l l':TD}{G b:TH}{r r':Mv}(F:Fld w v l G r)(c:Fld w' v' l' b r'){j8 g9 g f:TF}{s:Bool}
  (m:I5 (q7 w v l G r) (q7 w' v' l' b r') j8 g s) (e:I5 (q7 w' v' l' b r') (q7 w v l G r) g9 f s) (k:∀a,a<4*w*v->g9 (j8 a)=a) (d:∀a,a<4*w'*v'->j8 (g9 a)=a):(GW w v l G r).length=(GW w' v' l' b r').length:=
 Nat.le_antisymm (Ai F c m e k d) (Ai c F e m d k)
def yr{m:Mv}(h:m.1<8):(E4 m).1<8:=by
 show Hm m.1<8;rcases t8 h with q|q|q|q|q|q|q|q<;>rw[q]<;>decide
def fO{m:Mv}(d:m.1<8){c a:Cl}(b:c.2.2<4)(e:a.2.2<4)(h:ar m c=ar m a):c=a:=by
 have f:∀ {c:Cl},c.2.2<4->ar (E4 m) (ar m c)=c:=λ{c} b=>by
  rw[←eH d (yr d) b,wz d];exact uF b
 grind
def Bn{w v:Nat}{l:TD}{G:TH}{r r':Mv}(F:Fld w v l G r)(d:Fld w v l G r'):I5 (q7 w v l G r) (q7 w v l G r') id id (xr (decide (r.1<4)) (decide (r'.1<4))):=by
 have n:∀a,a<4*w*v->(G a).1<8:=λa c=>(F.g.ok a c).1;have k:∀ {r:Mv} {a},r.1<8->a<4*w*v->Ds w (qb G r) a=ar r (ar (G a) (pu w a)):=λ{r a} o c=>eH (n a c) o (ZS F.s c);have m:∀ {r:Mv} {a e},r.1<8->a<4*w*v->e<3->D3 w (qb G r) a e=ar r (ar (G a) (EO (pu w a) e)):=λ{r a e} o c j=>eH (n a c) o (Jn (ZS F.s c) j).1;refine⟨λ_ h=>h,λ_ _ _ _ h=>h,λ_ h=>h,λ_ _ _ _ _ h=>h,λa b c i=>?_,λa e b f c i j p h=>?_,λ_ _ _ _=>Iff.rfl,λ_ _ _ _ h=>h,λa e c j q t=>?_⟩
 .show Ds w (qb G r') a=Ds w (qb G r') b↔Ds w (qb G r) a=Ds w (qb G r) b;rw[k F.r8 c,k F.r8 i,k d.r8 c,k d.r8 i];exact⟨λh=>congrArg _ (fO d.r8 dR dR h),λh=>congrArg _ (fO F.r8 dR dR h)⟩
 .change D3 w (qb G r) a e=D3 w (qb G r) b f at h;show D3 w (qb G r') a e=D3 w (qb G r') b f;rw[m F.r8 c j,m F.r8 i p]at h;rw[m d.r8 c j,m d.r8 i p,fO F.r8 dR dR h]
 .show xr (decide ((q7 w v l G r').kd a e=2)) (decide (DE (G a).1 r'.1<4))=xr _ (xr (decide ((q7 w v l G r).kd a e=2)) (decide (DE (G a).1 r.1<4)));rw[kU (n a c) F.r8,kU (n a c) d.r8];show xr (decide ((q7 w v l G r).kd a e=2)) _=_;cases decide ((q7 w v l G r).kd a e=2)<;>cases decide ((G a).1<4)<;>cases decide (r.1<4)<;>cases decide (r'.1<4)<;>rfl
def sN{w v:Nat}{l:TD}{G:TH}{r r':Mv}(F:Fld w v l G r)(a:Fld w v l G r'):(GW w v l G r).length=(GW w v l G r').length:=by
 have b:=Bn a F;rw[show xr (decide (r'.1<4)) (decide (r.1<4))=xr (decide (r.1<4)) (decide (r'.1<4))from by cases decide (r'.1<4)<;>cases decide (r.1<4)<;>rfl]at b;exact wL F a (Bn F a) b (λ_ _=>rfl) λ_ _=>rfl
def Iw(k:Int):Int:=if k=1 then 2 else if k=2 then 1 else k
def W0(q:Nat):Nat:=[0,3,2,1].getD q 0
def CT(e:Nat):Nat:=[0,2,1].getD e 0
def n_(w u:Nat):Nat:=4*(u / 4 / w*w+(w - 1 - u / 4%w))+W0 (u%4)
abbrev Eb(w:Nat):Mv:=(4,ofNat w,0)
def Zp(w v:Nat):Bool:=(range (4*w*v)).all λc=>Nat.blt (n_ w c) (4*w*v)&&(Nat.beq (n_ w (n_ w c)) c&&(decide (pu w (n_ w c)=ar (Eb w) (pu w c))&&(range 3).all λe=>decide (y0 w v (n_ w c) (CT e)=(y0 w v c e).map (n_ w))))
def l7:∀w v:Nat,1<=w->w<=3->1<=v->v<=3->Zp w v=true:=by
 have a:((range 3).all λw=>(range 3).all λv=>Zp (w+1) (v+1))=true:=by decide +kernel
 intro w v c d e f;have b:=A_.1 a (w - 1) (CY.2 a_);have g:=A_.1 b (v - 1) (CY.2 a_)
 simp_all
def ge{e:Nat}(h:e<3):CT e<3:=by
 obtain rfl|rfl|rfl:e=0∨e=1∨e=2:=a_
 all_goals decide
def lS{e:Nat}(h:e<3):CT (CT e)=e:=by
 obtain rfl|rfl|rfl:e=0∨e=1∨e=2:=a_
 all_goals rfl
def eT_4{e:Nat}(h:e<3):eT 4 e=CT e:=by
 obtain rfl|rfl|rfl:e=0∨e=1∨e=2:=a_
 all_goals rfl
section
variable {w v:Nat} (h3:S3 w v) {c:Nat} (hc:c<4*w*v)
include h3 hc
theorem dx:n_ w c<4*w*v/\n_ w (n_ w c)=c/\pu w (n_ w c)=ar (Eb w) (pu w c)/\∀e,e<3->y0 w v (n_ w c) (CT e)=(y0 w v c e).map (n_ w):=by
 have h:=A_.1 (l7 w v h3.1 h3.2.1 h3.2.2.1 h3.2.2.2) c (CY.2 hc)
 simp_all
end
def RF(w:Nat):af (Eb w) (Eb w)=CW:=by
 unfold af CW Eb;simp[DE,mA,mB,mC,mD];omega
def Xf{w:Nat}{c:Cl}{e:Nat}(a:c.2.2<4)(b:e<3):Do (q8 (ar (Eb w) c) (CT e))=af (af (Eb w) (Do (q8 c e))) (Eb w):=by
 obtain⟨x,y,q⟩:=c;simp only at a;obtain rfl|rfl|rfl|rfl:=FE a
 all_goals
  obtain rfl|rfl|rfl:e=0∨e=1∨e=2:=a_
 all_goals simp[Do,q8,ar,CT,Eb,af,DE,qT,mA,mB,mC,mD]
 all_goals omega
def NU{w v:Nat}(f:S3 w v){l:TD}{G j:TH}(g:mz w v l G)(p:mz w v l j)(h0:G 0=j 0):∀(d c:Nat),c<4*w*v->dst w c=d->G c=j c:=by
 have r:=f.sh;intro d
 induction d using Nat.strongRecOn with
 |_ d s=>
  intro c o t;have k:=A_.1 (PC w v f.1 f.2.1 f.2.2.1 f.2.2.2) c (CY.2 o);unfold K0 at k;rw[te,GN]at k;rcases k.2 with z|q
  .simp_all
  .obtain⟨e,h,b⟩:=p8.1 q;have h:=CY.1 h;cases m:y0 w v c e with
   |none=>rw[m]at b;cases b
   |some n=>
    rw[m]at b;have b:=Ey b;obtain⟨a,i,_⟩:=cQ r o h m;rw[g n e c a h i,p n e c a h i,s (dst w n) a_ n a rfl]
section
variable {w v:Nat} (h3:S3 w v) {l l':TD} {G:TH} (hG:A2 w v l G) (hk0:∀c∈l,c.2.2≠0) (hk0':∀c∈l',c.2.2≠0)
 (hk:∀a e b,a<4*w*v->e<3->y0 w v a e=some b->cP l' (ofNat (min (n_ w a) (n_ w b))) (ofNat (CT e))=Iw (cP l (ofNat (min a b)) (ofNat e)))
def MD{k:Int}:Iw k=0↔k=0:=by unfold Iw;omega
def RU{k:Int}:Iw k=3↔k=3:=by unfold Iw;omega
def DO(w:Nat)(G:TH)(c:Nat):Mv:=af (af (Eb w) (G (n_ w c))) (Eb w)
include h3 hG hk0 hk0' hk
theorem Ox{c e n:Nat}(s:c<4*w*v)(d:e<3)(x:y0 w v c e=some n):DO w G n=E_ w l' (DO w G c) c n e:=by
 have q:=h3.sh;obtain⟨j,r,K,y⟩:=dx h3 s;obtain⟨p,F,E,D,H⟩:=cQ q s d x;obtain⟨M,z,N,_⟩:=dx h3 p;have f:y0 w v (n_ w c) (CT e)=some (n_ w n):=by rw[y e d,x];rfl
 have t:=hG.g _ _ _ j (ge d) f;have k:=hk _ _ _ j (ge d) f;rw[r,z,lS d]at k;obtain⟨_,_,u,_⟩:=cQ q j (ge d) f;have o:Dy l' (min c n) e=Dy l (min (n_ w c) (n_ w n)) (CT e):=by
  rw[OP,←ij hk0,←ij hk0',k,ne_eq,ne_eq,MD]
 unfold E_ at t ⊢;rw[o];unfold DO;rw[t];by_cases h:Dy l (min (n_ w c) (n_ w n)) (CT e)=true
 .rw[qs h,qs h];have B:q8 (pu w (min c n)) e=q8 (pu w c) e:=by
   grind
  have C:q8 (pu w (min (n_ w c) (n_ w n))) (CT e)=q8 (pu w (n_ w c)) (CT e):=by
   grind
  have I:=ZS q j;have e3:Do (q8 (pu w c) e)=af (af (Eb w) (Do (q8 (pu w (n_ w c)) (CT e)))) (Eb w):=by
   have:=Xf (w:=w) I (ge d);obtain⟨_,_,A,_⟩:=dx h3 j;rw[←A,r,lS d]at this;exact this
  rw[B,C,e3];have m:=(hG.ok _ j).1;have i:(Eb w).1<8:=by
   show 4<8;decide
  have J:=lW (q8 (pu w (n_ w c)) (CT e));generalize Do (q8 (pu w (n_ w c)) (CT e))=L at *;generalize G (n_ w c)=g at *;have t8:∀ {a b:Mv},(af a b).1<8:=bR;rw[aW t8 i t8,←aW i t8 i,←aW (a:=Eb w) i i m,RF,jH m,←aW (a:=af (Eb w) L) t8 m i,aW i J m]
 simp_all
theorem wN:mz w v l' (λc=>af (DO w G c) (E4 (DO w G 0))):=by
 intro c e n a b f;have d:=Ox h3 hG hk0 hk0' hk a b f;show af (DO w G n) _=E_ w l' (af (DO w G c) _) c n e;rw[d];unfold E_;split
 .exact aW (lW _) bR (yr bR)
 .rfl
theorem WZ{b:TH}(a:A2 w v l' b){c:Nat}(d:c<4*w*v):af (b c) (DO w G 0)=DO w G c:=by
 have h:=NU h3 a.g (wN h3 hG hk0 hk0' hk) (by
  show b 0=af (DO w G 0) (E4 (DO w G 0));rw[a.z,wz bR]) _ c d rfl
 rw[h];show af (af (DO w G c) (E4 (DO w G 0))) (DO w G 0)=_;rw[aW bR (yr bR) bR,L2 bR,iC bR]
end
section
variable {w v:Nat} (h3:S3 w v) {l l':TD} {G G':TH} (hG:A2 w v l G) (hG':A2 w v l' G') (hr:∀c∈l,1<=c.2.2/\c.2.2<=3) (hr':∀c∈l',1<=c.2.2/\c.2.2<=3)
 (hk:∀a e b,a<4*w*v->e<3->y0 w v a e=some b->cP l' (ofNat (min (n_ w a) (n_ w b))) (ofNat (CT e))=Iw (cP l (ofNat (min a b)) (ofNat e)))
def CF{l:TD}(hr:∀c∈l,1<=c.2.2/\c.2.2<=3):∀c∈l,c.2.2≠0:=λc a=>by
 have:=hr c a;omega
def Rd{l:TD}(hr:∀c∈l,1<=c.2.2/\c.2.2<=3)(u e:Int):cP l u e=0∨cP l u e=1∨cP l u e=2∨cP l u e=3:=by
 unfold cP
 grind
include h3 hG hG' hr hr' hk
theorem Lj{a:Nat}(d:a<4*w*v):qb G' (DO w G 0) (n_ w a)=af (af (Eb w) (G a)) (Eb w):=by
 obtain⟨b,c,_,_⟩:=dx h3 d;have:=WZ h3 hG (CF hr) (CF hr') hk hG' b;show af (G' (n_ w a)) (DO w G 0)=_;rw[this];unfold DO;rw[c]
theorem Li{a:Nat}(f:a<4*w*v){c:Cl}(g:c.2.2<4):ar (qb G' (DO w G 0) (n_ w a)) (ar (Eb w) c)=ar (Eb w) (ar (qb G CW a) c):=by
 have e:=(hG.ok a f).1;have d:(Eb w).1<8:=by
  show 4<8;decide
 have b:(ar (Eb w) c).2.2<4:=dR (t:=4) (q:=c.2.2);have t8:(af (Eb w) (G a)).1<8:=bR (s:=4) (t:=(G a).1);rw[Lj h3 hG hG' hr hr' hk f,eH t8 d b,eH d e b,←eH d d g,RF,uF g];show _=ar (Eb w) (ar (af (G a) CW) c);rw[iC e]
theorem tA{a:Nat}(b:a<4*w*v):Ds w (qb G' (DO w G 0)) (n_ w a)=ar (Eb w) (Ds w (qb G CW) a):=by
 obtain⟨_,_,c,_⟩:=dx h3 b;unfold Ds;rw[c];exact Li h3 hG hG' hr hr' hk b (ZS h3.sh b)
theorem tz{a e:Nat}(b:a<4*w*v)(c:e<3):D3 w (qb G' (DO w G 0)) (n_ w a) (CT e)=ar (Eb w) (D3 w (qb G CW) a e):=by
 obtain⟨_,_,g,_⟩:=dx h3 b;have f:=ZS h3.sh b;have h:(Eb w).1<8:=by
  show 4<8;decide
 have d:=io (m:=Eb w) h f c;rw[show(Eb w).1=4 from rfl,eT_4 c]at d;unfold D3;rw[g,←d];exact Li h3 hG hG' hr hr' hk b (Jn f c).1
theorem tB{a e:Nat}(f:a<4*w*v)(g:e<3):(q7 w v l' G' (DO w G 0)).kd (n_ w a) (CT e)=Iw ((q7 w v l G CW).kd a e):=by
 obtain⟨_,_,_,h⟩:=dx h3 f;have d:=h e g;cases c:y0 w v a e with
 |none=>
  rw[c]at d;show(match y0 w v (n_ w a) (CT e)with
   |some b=>cP l' (ofNat (min (n_ w a) b)) (ofNat (CT e))
   |none=>0)=Iw (match y0 w v a e with
   |some b=>cP l (ofNat (min a b)) (ofNat e)
   |none=>0)
  rw[d,c];rfl
 |some b=>
  rw[c]at d;rw[iN c,iN d];exact hk a e b f g c
theorem Lk{a:Nat}(c:a<4*w*v):(q7 w v l' G' (DO w G 0)).up (n_ w a)=(q7 w v l G CW).up a:=by
 have b:=(hG.ok a c).1;show decide ((qb G' (DO w G 0) (n_ w a)).1<4)=decide ((af (G a) CW).1<4);rw[Lj h3 hG hG' hr hr' hk c,iC b];show decide (DE (DE 4 (G a).1) 4<4)=_;have d:DE 4 (G a).1<8:=bR;rw[kU d m_,kU m_ b]
 simp_all
theorem Lh{k:Int}(h:k=0∨k=1∨k=2∨k=3)(h0:k≠0)(h3:k≠3)(u:Bool):xr (decide (Iw k=2)) u=xr true (xr (decide (k=2)) u):=by
 rcases h with rfl|rfl|rfl|rfl
 .omega
 .cases u<;>rfl
 .cases u<;>rfl
 omega
theorem Ra{a e:Nat}:(q7 w v l G CW).kd a e=0∨(q7 w v l G CW).kd a e=1∨(q7 w v l G CW).kd a e=2∨(q7 w v l G CW).kd a e=3:=by
 cases c:y0 w v a e with
 |none=>
  left;show(match y0 w v a e with
   |some b=>cP l (ofNat (min a b)) (ofNat e)
   |none=>0)=0
  rw[c]
 |some b=>
  rw[iN c];exact Rd hr _ _
theorem PZ:I5 (q7 w v l G CW) (q7 w v l' G' (DO w G 0)) (n_ w) CT true:=by
 have n:(Eb w).1<8:=by
  show 4<8;decide
 refine⟨λa c=>(dx h3 c).1,λa b c g h=>?_,λe d=>ge d,λa e b c d m=>?_,λa b c g=>?_,λa e b f c g d k h=>?_,λa e c d=>?_,λa e c d h=>?_,λa e c d j i=>?_⟩
 .rw[←(dx h3 c).2.1,h,(dx h3 g).2.1]
 .show y0 w v (n_ w a) (CT e)=some (n_ w b);rw[(dx h3 c).2.2.2 e d,show y0 w v a e=some b from m];rfl
 .show Ds w (qb G' (DO w G 0)) (n_ w a)=Ds w (qb G' (DO w G 0)) (n_ w b)↔Ds w (qb G CW) a=Ds w (qb G CW) b;rw[tA h3 hG hG' hr hr' hk c,tA h3 hG hG' hr hr' hk g];exact⟨λh=>fO n dR dR h,λh=>congrArg _ h⟩
 .show D3 w (qb G' (DO w G 0)) (n_ w a) (CT e)=D3 w (qb G' (DO w G 0)) (n_ w b) (CT f);rw[tz h3 hG hG' hr hr' hk c d,tz h3 hG hG' hr hr' hk g k];exact congrArg _ h
 .rw[tB h3 hG hG' hr hr' hk c d];exact MD
 .rw[tB h3 hG hG' hr hr' hk c d];exact λz=>h (RU.1 z)
 .rw[tB h3 hG hG' hr hr' hk c d,Lk h3 hG hG' hr hr' hk c];exact Lh h3 hG hG' hr hr' hk (Ra h3 hG hG' hr hr' hk) j i _
theorem PY:I5 (q7 w v l' G' (DO w G 0)) (q7 w v l G CW) (n_ w) CT true:=by
 have p:(Eb w).1<8:=by
  show 4<8;decide
 have N:=λ{a:Nat} (c:a<4*w*v)=>dx h3 c;have K:∀ {a e},a<4*w*v->e<3->(q7 w v l' G' (DO w G 0)).kd a e=Iw ((q7 w v l G CW).kd (n_ w a) (CT e)):=λ{a e} c d=>by
  have:=tB h3 hG hG' hr hr' hk (N c).1 (ge d);rw[(N c).2.1,lS d]at this;exact this
 refine⟨λa c=>(N c).1,λa b c g h=>?_,λe d=>ge d,λa e b c d q=>?_,λa b c g=>?_,λa e b f c g d o h=>?_,λa e c d=>?_,λa e c d h=>?_,λa e c d n k=>?_⟩
 .rw[←(N c).2.1,h,(N g).2.1]
 .show y0 w v (n_ w a) (CT e)=some (n_ w b);rw[(N c).2.2.2 e d,show y0 w v a e=some b from q];rfl
 .have i:=tA h3 hG hG' hr hr' hk (N c).1;have j:=tA h3 hG hG' hr hr' hk (N g).1;rw[(N c).2.1]at i;rw[(N g).2.1]at j;show Ds w (qb G CW) (n_ w a)=Ds w (qb G CW) (n_ w b)↔Ds w (qb G' (DO w G 0)) a=Ds w (qb G' (DO w G 0)) b;rw[i,j];exact⟨λh=>congrArg _ h,λh=>fO p dR dR h⟩
 .have i:=tz h3 hG hG' hr hr' hk (N c).1 (ge d);have j:=tz h3 hG hG' hr hr' hk (N g).1 (ge o);rw[(N c).2.1,lS d]at i;rw[(N g).2.1,lS o]at j;change D3 w (qb G' (DO w G 0)) a e=D3 w (qb G' (DO w G 0)) b f at h;rw[i,j]at h;exact fO p dR dR h
 .rw[K c d];exact MD.symm
 .rw[K c d]at h;exact λz=>h (RU.2 z)
 .rw[K c d]at n k ⊢;have m:=Lk h3 hG hG' hr hr' hk (N c).1;rw[(N c).2.1]at m;rw[m];have:=Lh h3 hG hG' hr hr' hk (Ra h3 hG hG' hr hr' hk (a:=n_ w a) (e:=CT e)) (λz=>n (MD.2 z)) (λz=>k (RU.2 z)) ((q7 w v l G CW).up (n_ w a));rw[this];cases decide ((q7 w v l G CW).kd (n_ w a) (CT e)=2)<;>cases (q7 w v l G CW).up (n_ w a)<;>rfl
theorem BP:(GW w v l G CW).length=(GW w v l' G' CW).length:=by
 have F:Fld w v l G CW:=⟨h3.sh,hG,m_,CF hr⟩;have c:Fld w v l' G' (DO w G 0):=⟨h3.sh,hG',bR,CF hr'⟩;rw[wL F c (PZ h3 hG hG' hr hr' hk) (PY h3 hG hG' hr hr' hk) (λa b=>(dx h3 b).2.1) λa b=>(dx h3 b).2.1];exact sN c ⟨h3.sh,hG',m_,CF hr'⟩
end
def Dz(c:EJ):EJ:=(c.1,c.2.1,Iw c.2.2)
def Kv(w v:Nat)(u:Nat×Nat):Nat×Nat:=match y0 w v (n_ w u.1) (CT u.2)with
 |some n=>(min (n_ w u.1) n,CT u.2)
 |none=>(0,0)
def EK(w v:Nat)(c:EJ):EJ:=(.ofNat (Kv w v (c.1.toNat,c.2.1.toNat)).1,.ofNat (Kv w v (c.1.toNat,c.2.1.toNat)).2,c.2.2)
def Aq{l:TD}(n:(l.map aS).Nodup){c:EJ}(f:c∈l):cP l c.1 c.2.1=c.2.2:=by
 unfold cP;cases a:l.find? (LF c.1 c.2.1)with
 |none=>
  have:=List.find?_eq_none.1 a c f;simp[LF]at this
 |some d=>
  have m:=b2 a;have b:=hN a;simp only[LF,te,E6]at b;obtain⟨i,h⟩:=G0.1 f;obtain⟨j,k⟩:=G0.1 m;have e:(l.map aS)[i]?=some (c.1,c.2.1):=by rw[FM,h];rfl
  have g:(l.map aS)[j]?=some (c.1,c.2.1):=by
   rw[FM,k];show some (d.1,d.2.1)=_;rw[b.1,b.2]
  have:=(qdi (ai e) n).1 (e.trans g.symm)
  simp_all
def wD{l:TD}{a b:Int}(h:∀c∈l,¬(c.1=a/\c.2.1=b)):cP l a b=0:=by
 unfold cP;cases e:l.find? (LF a b)with
 |none=>rfl
 |some d=>
  have g:=b2 e;have f:=hN e;simp only[LF,te,E6]at f
  grind
section
variable {w v:Nat} (h3:S3 w v) {l l':TD} (hv:∀c∈l,VK w v c) (hn:(l.map aS).Nodup) (hn':(l'.map aS).Nodup) (hm:∀c',c'∈l'↔∃c∈l,c'=EK w v (Dz c))
include h3 in
theorem mU{c:EJ}(j:VK w v c):∃u e n,c.1=ofNat u/\c.2.1=ofNat e/\u<4*w*v/\e<3/\y0 w v u e=some n/\u<n/\EK w v (Dz c)=(ofNat (min (n_ w u) (n_ w n)),ofNat (CT e),Iw c.2.2):=by
 obtain⟨⟨u,e,n,d,f,i,g,a,b,_⟩,_⟩:=j;refine⟨u,e,n,d,f,i,g,a,b,?_⟩;have h:=(dx h3 i).2.2.2 e g;rw[a]at h;unfold EK Dz;simp only;rw[d,f];unfold Kv
 simp_all
include h3 hv hn hn' hm
theorem NG{a e b:Nat}(F:a<4*w*v)(t:e<3)(p:y0 w v a e=some b):cP l' (ofNat (min (n_ w a) (n_ w b))) (ofNat (CT e))=Iw (cP l (ofNat (min a b)) (ofNat e)):=by
 have A:=h3.sh;obtain⟨M,G,_⟩:=cQ A F t p;have N:∀ {x y:Nat},x<4*w*v->y<4*w*v->n_ w x=n_ w y->x=y:=λ{x y} j K z=>by
  rw[←(dx h3 j).2.1,z,(dx h3 K).2.1]
 by_cases j:∃c∈l,c.1=ofNat (min a b)/\c.2.1=ofNat e
 .obtain⟨c,d,C,D⟩:=j;obtain⟨u,f,n,q,r,B,m,i,o,e3⟩:=mU h3 (hv c d);have g:f=e:=H4 (r.symm.trans D);subst g;have J:u=min a b:=H4 (q.symm.trans C);have h:min (n_ w u) (n_ w n)=min (n_ w a) (n_ w b):=by
   grind
  have s:=Aq hn' ((hm _).2 ⟨c,d,rfl⟩);rw[e3,h]at s;rw[s,←C,←D,Aq hn d]
 .rw[wD (l:=l) λc d z=>j ⟨c,d,z⟩];show _=0;refine wD λE k z=>j ?_;obtain⟨c,d,rfl⟩:=(hm E).1 k;obtain⟨u,f,n,q,r,B,m,i,o,e3⟩:=mU h3 (hv c d);obtain⟨H,I,_⟩:=cQ A B m i;rw[e3]at z;have O:min (n_ w u) (n_ w n)=min (n_ w a) (n_ w b):=H4 z.1;have L:CT f=CT e:=H4 z.2;have g:f=e:=by rw[←lS m,L,lS t]
  grind
end
def J3{k:TK}{a b:Int}{K:Tw}(c:0<b):P1.x6 .rem k a b (@i' _ ⟨K⟩)=K (a.tmod b):=by
 show(b≠0/\K (a.tmod b))=_
 grind
def VE{a:Int}{K:Tw}(h1:-100<=a)(b:a<=100):P1.x6 .quo .i64 a 2 (@i' _ ⟨K⟩)=K (a.tdiv 2):=by
 show((2:Int)≠0/\K (IntKind.wrap .i64 (a.tdiv 2)))=_;have:-100<=a.tdiv 2/\a.tdiv 2<=100:=by
  grind
 rw[db a_ a_];simp
def BF{a b:Int}(c:0<b):-b<a.tmod b/\a.tmod b<b:=by
 rcases qdu 0 a with h|h
 .rw[qc5 h];have:=qdt a (show b≠0 by omega);have:=Int.emod_lt_of_pos a c;omega
 .have d:=Int.neg_tmod a b;rw[qc5 (a:=-a) a_]at d;have:=qdt (-a) (show b≠0 by omega);have:=Int.emod_lt_of_pos (-a) c;omega
def ef:Prop:=∀ {w v:Nat} {l:TD} {G:TH},Nz w v l G->(∀c∈l,VK w v c)->∀ {H:HL} {f:Value},q9 H f 3 mi l->
 ∃(l':TD) (e:Value) (h':HL),aF cc ac 7 [.i (.ofNat w),.i (.ofNat v),.v f] (h9 aa H) [.i (.ofNat w),.i (.ofNat v),.v e,.i 0] (h9 aa h')/\Kp H h'/\q9 h' e 3 mi l'/\
  (l'.Pairwise λa b=>FX a b=true)/\(∀d,d∈l'↔∃c∈l,d=EK w v (Dz c))/\l'.length=l.length
def Rv{l:TD}(h:l.Pairwise λa b=>FX a b=true):(l.map aS).Nodup:=by
 show List.Pairwise _ _;rw[H0];refine h.imp λ{a b} c z=>?_;have d:a.1=b.1:=congrArg (λp:Ku=>p.1) z;have e:a.2.1=b.2.1:=congrArg (λp:Ku=>p.2) z;simp only[FX,GN,te,E6]at c;omega
def Mm{w v:Nat}(a:S3 w v){c:EJ}(g:VK w v c):VK w v (EK w v (Dz c)):=by
 obtain⟨u,e,n,_,_,h,b,j,i,e3⟩:=mU a g;have s:=g.2;have m:=a.sh;obtain⟨d,k,_⟩:=cQ m h b j;have o:=dx a h;have p:=dx a d;have q:y0 w v (n_ w u) (CT e)=some (n_ w n):=j_;have r:y0 w v (n_ w n) (CT e)=some (n_ w u):=j_;have f:n_ w u≠n_ w n:=λz=>by
  simp_all
 have l:1<=Iw c.2.2/\Iw c.2.2<=3:=by
  unfold Iw;omega
 rw[e3];refine⟨?_,l⟩;rcases ZH f with z|z
 .exact⟨n_ w u,CT e,n_ w n,i_,rfl,o.1,ge b,q,z,i_,i_⟩
 .exact⟨n_ w n,CT e,n_ w u,i_,rfl,p.1,ge b,r,z,i_,i_⟩
def O_{w v:Nat}{l l':TD}{G:TH}(p:Nz w v l G)(E:∀c∈l,VK w v c)(m:l'.Pairwise λa b=>FX a b=true)(J:∀z,z∈l'↔∃c∈l,z=EK w v (Dz c))(I:l'.length=l.length){H:HL}{x:TR}(F:q9 H x 3 mi l') :
  ∃h,Nz w v l' h/\(GW w v l' h CW).length=(GW w v l G CW).length:=by
 have i:=p.h3;have K:=i.sh;have N:=Rv p.lt;have s:=Rv m;have f:∀c∈l',VK w v c:=λz B=>by
  obtain⟨c,j,rfl⟩:=(J z).1 B;exact Mm i (E c j)
 have M:=λ{a e b:Nat} (A:a<4*w*v) (C:e<3) (o:y0 w v a e=some b)=>NG i E N s J A C o;have q:∀a e b,a<4*w*v->e<3->y0 w v a e=some b->cP l' (ofNat (min (n_ w a) (n_ w b))) (ofNat (CT e))=Iw (cP l (ofNat (min a b)) (ofNat e)):=λa e b A C o=>M A C o;have O:∀c∈l,1<=c.2.2/\c.2.2<=3:=λc j=>(E c j).2;have y:∀c∈l',1<=c.2.2/\c.2.2<=3:=λc j=>(f c j).2;have k:l'.length<=1000:=by
  have:=p.pat.len;omega
 have t:Pd w v l':=⟨K,λc j=>by
  obtain⟨⟨u,e,n,P,Q,R,S,_,_,T,U⟩,_⟩:=f c j;have:=i.n;unfold Jw
  grind,k,Lr f m⟩
 obtain⟨X,V,c,W,L⟩:=P5 K s k F (t.check F) (r:=CW) (by unfold DV;decide);have d:∃h,A2 w v l' h:=by
  rcases L with⟨_,D⟩|⟨h,d,_⟩
  .refine absurd ⟨_,wN i p.g p.k0 (CF y) q,?_⟩ D;show af (DO w G 0) (E4 (DO w G 0))=CW;exact wz bR
  .exact⟨h,d⟩
 obtain⟨h,d⟩:=d;exact⟨h,ZG i f m k d,(BP i p.g d O y q).symm⟩
def rB(hT:ef){w8 v8 t8 X Y:Int}(F:0<=w8/\w8<=255)(E:0<=v8/\v8<=255)(al:0<=t8/\t8<=255){H:HL}{J L:TR}{Fl:List U6}{M:TE}(P:q9 H J 3 tM Fl)(A:∀a∈Fl,OE a)(S:q9 H L 1 Gc M)(B:∀a∈M,0<=a/\a<=255) :
  ∃h',aF cc ac 3 [.i w8,.i v8,.v J,.v L,.i t8,.i X,.i Y] (h9 aa H) [.b true] (h9 aa h'):=by
 obtain⟨w,v,U,h1,h3,V,z,l,G,rfl,ag,ad,hO,c,t⟩:=b3 F E P A S B;have Q:DV 4000 CW:=by unfold DV;decide
 have hx:=BF (a:=X) (b:=51) m_;have hy:=BF (a:=Y) (b:=51) m_;have an:=x3 (ls:=[.i w8,.i v8,.v J,.v L,.i t8,.i X,.i Y]) (K:=λU g=>U=[.b true]) (H:=H) (mc (mc (pP P.h_ (pP S.h_ (mc (mc (mc t0))))))) (by
  unfold f3;simp only[ub];simp(disch:=omega)only[↓C3];rw[J3 m_]
  try simp(disch:=omega)only[↓C3]
  rw[J3 m_]
  try simp(disch:=omega)only[↓C3]
  rw[J3 m_]
  try simp(disch:=omega)only[↓C3]
  generalize X.tmod 51=x at *;generalize Y.tmod 51=y at *;have s:(x+y).tmod 2=0↔(x+y)%2=0:=by
   grind
  have Z:∀K:Bool->Prop,K (decide ((x+y)%2≠0))->P1.cmp .neq ((x+y).tmod 2) 0 (@i' _ ⟨K⟩):=λK R=>by
   by_cases e:(x+y)%2=0
   .rw[DZ (s.2 e),←GI (show ¬(x+y)%2≠0 from λz=>z e)];exact R
   .rw[D0 (λz=>e (s.1 z)),←Gs (show(x+y)%2≠0 from e)];exact R
  refine Z _ ?_;obtain⟨u,f⟩ : ∃u:Nat,ofNat u=t8%8/\u<8:=⟨(t8%8).toNat,i_,a_⟩;refine cI (λls g=>∃r:Mv,ls=[.i (ofNat r.1),.i r.2.1,.i r.2.2]/\DV 4000 r/\g=H) ?_ ?_
  case _=>
   rintro ls g ⟨r,rfl,T,rfl⟩;simp(disch:=omega)only[↓C3];refine ak V ?_;simp(disch:=omega)only[↓C3];refine aj Zi ?_;simp(disch:=omega)only[↓C3];have p:=hY.ls (e:=3) (enc:=mi) (λ_=>rfl) hO;obtain⟨g1,N,kA⟩:=tI c Q 40 p;rw[qs m_,qs m_,XP]at N;refine ak N ?_;simp(disch:=omega)only[↓C3];have h:=p.ka λj o k _=>kA j o k;obtain⟨g2,cB,kB⟩:=tI c T 40 h;rw[qs m_,qs m_,XP,←sN (r:=CW) ⟨c.h3.sh,c.g,m_,c.k0⟩ ⟨c.h3.sh,c.g,T.1,c.k0⟩]at cB;refine ak cB ?_;simp(disch:=omega)only[↓C3];have q:=h.ka λj o k _=>kB j o k;obtain⟨l',tx,g3,W,kT,m,D,hm,n⟩:=hT c t q;refine ak W ?_;simp(disch:=omega)only[↓C3];refine aj Zi ?_;simp(disch:=omega)only[↓C3];obtain⟨G',I,hc⟩:=O_ c t D hm n m;obtain⟨g4,O,kC⟩:=tI I Q 40 m;rw[qs m_,qs m_,XP,hc]at O;refine ak O ?_;simp(disch:=omega)only[↓C3];refine cI (λls _=>ls=[.b true]) ?_ ?_
   .rintro ls g5 rfl;simp(disch:=omega)only[↓C3]
   intro j2 C
   repeat (first|simp(disch:=omega)only[↓C3]|rw[t_ rfl])
   refine aj WJ ?_;simp(disch:=omega)only[↓C3];exact C _ _ rfl
  intro j k;by_cases e:(x+y)%2=0
  .rw[GI (show ¬(x+y)%2≠0 from λz=>z e)];simp(disch:=omega)only[↓C3];rw[←f.1];exact k _ _ ⟨(u,x,y),rfl,⟨f.2,by show -4000<=x;omega,by show x<=4000;omega,by show -4000<=y;omega,by show y<=4000;omega,e⟩,rfl⟩
  .rw[Gs (show(x+y)%2≠0 from e)];simp(disch:=omega)only[↓C3];rw[VE a_ a_]
   try simp(disch:=omega)only[↓C3]
   have hd:-50<=y.tdiv 2/\y.tdiv 2<=50:=by
    grind
   generalize y.tdiv 2=d at *;rw[Ht a_ a_]
   try simp(disch:=omega)only[↓C3]
   rw[←f.1];exact k _ _ ⟨(u,0,d*2),rfl,⟨f.2,j_,j_,i_,i_,j_⟩,rfl⟩)
 simp_all
end Go.Am
namespace Go.Am
open Sx Go.Proofs Go.Shelf Go.Lib Go.Sort
def renC:Ren:=⟨fun|6=>15|15=>34|14=>33|28=>67|29=>68|20=>59|21=>60|22=>61|23=>62|24=>63|25=>64|26=>65|27=>66|46=>95|47=>96|48=>97|49=>98|50=>99|57=>120|n=>n,
 fun|22=>32|24=>50|25=>68|39=>102|53=>156|55=>158|46=>150|45=>149|50=>129|66=>197|70=>201|76=>219|77=>220|n=>n,λn=>n⟩
def layC:SlLaysF0.n6 Tryz.prog renC:=by
 constructor
 all_goals first
  |kernel_rfl
  |exact zJ d_ d_
  |exact λ_=>d_
abbrev slV(id n c:Nat):Value:=.slice (some ⟨id,0,le 3⟩) n c
def ie:∀a:EJ,(mi a).length=3:=λ_=>rfl
def Si{k:Int}(h:1<=k/\k<=3):nm gl0 0 [(k,1)] 1=some [.int .u8 (Iw k)]:=by
 have:k=1∨k=2∨k=3:=a_;rcases this with rfl|rfl|rfl<;>rfl
def hu{w v:Nat}{l:TD}{G:TH}(t:Nz w v l G)(C:∀c∈l,VK w v c){H:HL}{n:TR}(f:q9 H n 3 mi l) :
  aF cc ac 11 [.i (.ofNat w),.i (.ofNat v),.v n] (h9 aa H) [.i (.ofNat w),.i (.ofNat v),.v (slV H.length l.length (l.length+1)),.i 0] (h9 aa (CZ H 3 mi (l.map Dz))):=by
 have r:=t.pat.len;obtain⟨u,p,A,rfl,rfl⟩:=x11 (ls:=[.i (.ofNat w),.i (.ofNat v),.v n]) (K:=λu p=>u=[.i (.ofNat w),.i (.ofNat v),.v (slV H.length l.length (l.length+1)),.i 0]/\p=CZ H 3 mi (l.map Dz)) (H:=H) (mc (mc (pP f.h_ t0))) (by
  unfold f11;simp only[ub];refine e_ ?_;refine ak (t.pat.check f) ?_;refine e_ ?_;refine bw f ?_;refine ae (dF a_) ?_;refine e_ ?_;show P1.heap _ (H++[HO.o (.cells (aL _ l.length) 3 true)]) _;rw[OA (v:=[.int .i64 0,.int .u8 0,.int .u8 0]) (enc:=mi) (z:=(0,0,0)) rfl];refine XW ie (f.pre (RL _ _ _ _)) j_ ?_;refine e_ ?_;refine ae (x:=ofNat l.length) rfl ?_;have b:∀j,j<=l.length->((l.take j).map Dz++l.drop j).length=l.length:=λj B=>by
   simp_all
  refine bK l.length (λj (_:Unit)=>[.i (ofNat j)]) (λj _=>CZ H 3 mi ((l.take j).map Dz++l.drop j)) (λ_ _=>True) (j0:=0) (s0:=()) rfl c_ (D6 _) trivial ?_;intro j _ B _ y m;refine e_ ?_;by_cases e:j<l.length
  .rw[aO e];refine e_ ?_;obtain⟨c,q⟩:=am e;have d:((l.take j).map Dz++l.drop j)[j]?=some c:=by
    simp_all
   have g:=(C c (A9 q)).2;refine dK (o:=2) (k:=1) (cs:=[.int .u8 c.2.2]) (qG (cx:=l.length+1) ie (b j a_).symm) rfl d rfl a_ ?_;refine e_ ?_;refine ae (Si g) ?_;refine e_ ?_;refine XX ie (a:=c) (a':=Dz c) (o:=2) rfl d (b j a_) c_ (by simp[mi,Dz]) ?_;rw[aU a_];have s:((l.take j).map Dz++l.drop j).set j (Dz c)=(l.take (j+1)).map Dz++l.drop (j+1):=by
    have h:((l.take j).map Dz).length=j:=j_;rw[g3 _ _ a_,h,SA,Pg e,qcI,IB,q,IV];simp
   simp_all
  .obtain rfl:j=l.length:=a_;rw[aN (B8 _)];refine e_ ?_;refine ae (x:=()) rfl ?_;exact⟨D',j_⟩)
 exact A
abbrev C5:=Fin 256×Fin 3×Fin 4
def F8(a:C5):EJ:=(ofNat a.1.val,ofNat a.2.1.val,ofNat a.2.2.val)
def yb(a:C5):Tn:=mi (F8 a)
def k5(a:C5):Int:=4*ofNat a.1.val+ofNat a.2.1.val
def Ka(a b:C5):∃d:Int,Cc 16 [.i (F8 a).1,.i (F8 a).2.1,.i (F8 a).2.2,.i (F8 b).1,.i (F8 b).2.1,.i (F8 b).2.2] [.i d]/\(d<0↔k5 a<k5 b):=by
 have k:=a.1.isLt;have l:=b.1.isLt;have f:=a.2.1.isLt;have g:=b.2.1.isLt;obtain⟨d,h,e,j⟩:=MB (c:=F8 a) (a:=(F8 b).1) (b:=(F8 b).2.1) (by unfold F8;grind);refine⟨d,?_,by rw[e,kR];unfold k5 F8;grind⟩;refine q16 rfl ?_;unfold f16;simp only[ub];refine e_ ?_;refine aj (sZ (F8 a)) ?_;refine e_ ?_;refine aj (sZ (F8 b)) ?_;refine e_ ?_;refine aj h ?_;simp(disch:=omega)only[↓n9]
def R'(a b:C5):Int:=Classical.choose (Ka a b)
def ltT(a b:C5):Go.Proofs.ltOf R' a b=decide (k5 a<k5 b):=by
 unfold Go.Proofs.ltOf;rw[decide_eq_decide];exact(Classical.choose_spec (Ka a b)).2
def fs:Go.Sort.SWO (Go.Proofs.ltOf R') where
 irrefl x:=by rw[ltT,GI];omega
 trans x y z h1 h2:=by
  rw[ltT,E6]at *;omega
 ntrans x y z h1 h2:=by
  rw[ltT,decide_eq_false_iff_not]at *;omega
def cmpT(a b:C5):en cc 16 [.agg ⟨yb a⟩,.agg ⟨yb b⟩] [] (.int .i64 (R' a b)) []:=by
 have c:=(Classical.choose_spec (Ka a b)).1 [];exact iU (N:=Jo) GT (Sg:=ac) (sg:=⟨[.agg [.i .i64,.i .u8,.i .u8],.agg [.i .i64,.i .u8,.i .u8]],[M]⟩) rfl c (xs:=[.agg [.i .i64 (ofNat a.1.val),.i .u8 (ofNat a.2.1.val),.i .u8 (ofNat a.2.2.val)],.agg [.i .i64 (ofNat b.1.val),.i .u8 (ofNat b.2.1.val),.i .u8 (ofNat b.2.2.val)]]) rfl rfl (ys:=[.leaf (.i .i64 (R' a b))]) rfl rfl
abbrev J_:Value:=.func (.func 16) ⟨[]⟩ ⟨[]⟩
def X'{H:HL}{id cx:Nat}{J:List C5}(i':H[id]?=some (.o (.cells ((J.map F8).flatMap mi) 3 true)))(h0:0<J.length)(k:J.length<=100000) :
  ∃D:List C5,D.Perm J/\(D.Pairwise λx y=>¬k5 y<k5 x)/\aF cc ac 15 [.v (.slice (some ⟨id,0,le 3⟩) J.length cx),.v J_] (h9 aa H) [] (h9 aa (oo H id 3 mi (D.map F8))):=by
 have i:∀L:List C5,(L.map F8).flatMap mi=L.flatMap yb:=λL=>by rw[ek];rfl
 refine⟨IZ R' J,By fs J,?_,?_⟩
 .refine(Bw fs J).imp λ{x y} h=>?_;rw[ltT,decide_eq_false_iff_not]at h;exact h
 .have a:(h9 aa H)[id]?=some (.cells (J.flatMap yb) 3 true):=by
   rw[←i];unfold h9;rw[FM,i'];rfl
  have b:=re (C:=cc) qk layC (enc:=yb) (e:=3) (λw=>d_) (λw=>d_) (λ_=>rfl) (λx v j=>by
   simp only[yb,mi,EL,SE,or_false]at j;rcases j with rfl|rfl|rfl<;>rfl) fs (g:=16) (λf w=>d_) cmpT (cx:=cx) a rfl h0 a_
  have c:(h9 aa H).set id (.cells ((IZ R' J).flatMap yb) 3 true)=h9 aa (oo H id 3 mi ((IZ R' J).map F8)):=by
   unfold oo;rw[i,iP];rfl
  rw[c]at b;exact⟨⟨[lv,lv],[]⟩,[.leaf (.v (.slice (some ⟨id,0,le 3⟩) J.length cx)),.leaf (.v J_)],[],rfl,⟨rfl,rfl,λy d=>by
   simp only[EL,SE,or_false]at d;rcases d with rfl|rfl
   .exact aB (show aI (.slice (some ⟨id,0,le 3⟩) J.length cx)=true by simp[aI,nc,aT,bE,bj,aP,aD,le])
   .exact aB rfl⟩,⟨rfl,rfl,λy d=>by cases d⟩,⟨0,.inr ⟨.inl d_,b⟩⟩⟩
def Zk{w v:Nat}(b:S3 w v):∀ {l:TD},(∀c∈l,VK w v c)->∃J:List C5,J.map F8=l
 | [],_=>⟨[],rfl⟩
 |c :: l,h=>by
  obtain⟨J,o⟩:=Zk b λa p=>h a (FZ _ p);obtain⟨⟨u,e,n,f,g,q,i,_⟩,j,m⟩:=h c KG;have:=b.n;obtain⟨k,d⟩:=eV (show 0<=c.2.2 by omega);rw[d]at j m;refine⟨(⟨u,a_⟩,⟨e,i⟩,⟨k,a_⟩) :: J,?_⟩;rw[EN,o]
  congr 1
  exact SF f.symm (SF g.symm d.symm)
end Go.Am
namespace Go.Am
open Sx Go.Proofs
def Zq(w v u e:Nat):Bool:=match y0 w v u e with
 |some n=>if u<n then jC 12 [.i (.ofNat w),.i (.ofNat v),.i (.ofNat u)] (vE w u) &&
  (jC 13 [.i (.ofNat w),.i (.ofNat v),.i (.ofNat w - 1 - .ofNat (u / 4%w)),.i (.ofNat (u / 4 / w)),.i (.ofNat (W0 (u%4)))] [.i (.ofNat (n_ w u)),.i 0] &&
  jC 14 [.i (.ofNat w),.i (.ofNat v),.i (.ofNat (n_ w u)),.i (.ofNat (CT e))] [.i (.ofNat (Kv w v (u,e)).1),.i (.ofNat (Kv w v (u,e)).2),.i 0])else true
 |none=>true
def Zo(w v:Nat):Bool:=(range (4*w*v)).all λu=>(range 3).all λe=>Zq w v u e
def RE:∀w v:Nat,1<=w->w<=3->1<=v->v<=3->Zo w v=true:=by
 have a:((range 3).all λw=>(range 3).all λv=>Zo (w+1) (v+1))=true:=d_;intro w v c d e f;have b:=A_.1 a (w - 1) (CY.2 a_);have g:=A_.1 b (v - 1) (CY.2 a_)
 simp_all
def WX{w v u e n:Nat}(a:S3 w v)(f:u<4*w*v)(c:e<3)(d:y0 w v u e=some n)(b:u<n) :
  Cc 12 [.i (.ofNat w),.i (.ofNat v),.i (.ofNat u)] (vE w u)/\
  Cc 13 [.i (.ofNat w),.i (.ofNat v),.i (.ofNat w - 1 - .ofNat (u / 4%w)),.i (.ofNat (u / 4 / w)),.i (.ofNat (W0 (u%4)))] [.i (.ofNat (n_ w u)),.i 0]/\
  Cc 14 [.i (.ofNat w),.i (.ofNat v),.i (.ofNat (n_ w u)),.i (.ofNat (CT e))] [.i (.ofNat (Kv w v (u,e)).1),.i (.ofNat (Kv w v (u,e)).2),.i 0]:=by
 have h:=A_.1 (A_.1 (RE w v a.1 a.2.1 a.2.2.1 a.2.2.2) u (CY.2 f)) e (CY.2 c);unfold Zq at h;rw[d]at h;simp only at h;rw[qs b,te,te]at h;exact⟨dN h.1 rfl d_ rfl,dN h.2.1 rfl d_ (by rfl),dN h.2.2 rfl d_ rfl⟩
def Oy{q:Nat}(h:q<4):ir [(.i 0),(.i 3),(.i 2),(.i 1)] 0 [(ofNat q,1)] 1=some [.i (.ofNat (W0 q))]:=by
 have:q=0∨q=1∨q=2∨q=3:=a_;rcases this with rfl|rfl|rfl|rfl<;>rfl
def Ow{e:Nat}(h:e<3):ir [(.i 0),(.i 2),(.i 1)] 0 [(ofNat e,1)] 1=some [.i (.ofNat (CT e))]:=by
 have:e=0∨e=1∨e=2:=a_;rcases this with rfl|rfl|rfl<;>rfl
def asc5{D:List C5}(h:D.Pairwise λx y=>¬k5 y<k5 x)(d:((D.map F8).map aS).Nodup):(D.map F8).Pairwise λa b=>FX a b=true:=by
 rw[Pj,List.Nodup,H0]at d;refine H0.2 ((h.and d).imp λ{x y} ⟨c,g⟩=>?_);have j:=x.2.1.isLt;have k:=y.2.1.isLt;have i:¬(x.1.val=y.1.val/\x.2.1.val=y.2.1.val):=λ⟨e,f⟩=>g (by
  show aS (F8 x)=aS (F8 y);unfold aS F8;rw[e,f])
 unfold k5 at c;simp only[Int.ofNat_eq_natCast]at c;unfold FX F8
 grind
def WY{w v:Nat}(d:S3 w v){l:TD}(C:∀c∈l,VK w v c)(i:l.Pairwise λa b=>FX a b=true):((l.map λc=>EK w v (Dz c)).map aS).Nodup:=by
 rw[Pj];show List.Pairwise _ _;rw[H0];refine qcC ?_ i;intro a b K L f z;obtain⟨u,e,n,E,F,P,q,M,r,G⟩:=mU d (C a K);obtain⟨D,o,S,H,I,k,g,j,s,J⟩:=mU d (C b L);change aS (EK w v (Dz a))=aS (EK w v (Dz b))at z;rw[G,J]at z;have V:min (n_ w u) (n_ w n)=min (n_ w D) (n_ w S):=H4 (congrArg (λp:Ku=>p.1) z);have T:CT e=CT o:=H4 (congrArg (λp:Ku=>p.2) z);have h:e=o:=by rw[←lS q,T,lS g]
 subst h;have B:=d.sh;obtain⟨N,O,_⟩:=cQ B P q M;obtain⟨t,A,_⟩:=cQ B k g j;have U:∀ {x y:Nat},x<4*w*v->y<4*w*v->n_ w x=n_ w y->x=y:=λ{x y} Q R z=>by
  rw[←(dx d Q).2.1,z,(dx d R).2.1]
 have m:u=D:=by
  grind
 simp only[FX,E,F,H,I,GN,te,E6]at f;rw[m]at f;omega
end Go.Am
namespace Go.Am
open Sx Go.Proofs Go.Shelf Go.Lib Go.Sort
def len0:Cc 34 [.i 0] [.i 0]:=dN d_ rfl d_ rfl
def X_{H:HL}{v:TR}(d:q9 H v 3 mi []):aF cc ac 15 [.v v,.v J_] (h9 aa H) [] (h9 aa H):=by
 obtain⟨b,a,j,g,h⟩:=x15 (ls:=[.v v,.v J_]) (K:=λb a=>b=[]/\a=H) (H:=H) (pP d.h_ (pP rfl t0)) (by
  unfold f15;simp only[ub];refine e_ ?_;refine bw d ?_;rw[show ofNat ([]:TD).length=0 from rfl];refine ME m_ m_ ?_;refine aj len0 ?_;refine e_ ?_;obtain⟨b,a,c,e,f⟩:=x33 (ls:=[.v v,.i 0,.i 0,.i 0,.v J_]) (K:=λb a=>b=[]/\a=H) (H:=H) (pP d.h_ (mc (mc (mc (pP rfl t0))))) (by
   unfold f33;simp only[ub];refine e_ ?_;refine⟨1,?_⟩;refine Ei ?_
   try rw[Hw a_ a_]
   refine k_ ?_;obtain⟨b,a,c,e,f⟩:=x59 (ls:=[.v v,.i 0,.i 0,.v J_]) (K:=λb a=>b=[]/\a=H) (H:=H) (pP d.h_ (mc (mc (pP rfl t0)))) (by
    unfold f59;simp only[ub];refine e_ ?_;refine⟨1,?_⟩;refine Ei ?_;refine e_ ?_
    simp_all)
   rw[e,f]at c;refine ak c ?_;refine e_ ?_
   simp_all)
  rw[e,f]at c;refine ak c ?_;refine e_ ?_
  simp_all)
 simp_all
def sortT{w v:Nat}{l:TD}{G:TH}(d:Nz w v l G)(k:∀c∈l,VK w v c){H:HL} :
  ∃l':List EJ,aF cc ac 15 [.v (slV H.length l.length (l.length+1)),.v J_] (h9 aa (CZ H 3 mi (l.map λc=>EK w v (Dz c)))) [] (h9 aa (CZ H 3 mi l'))/\
   (l'.Pairwise λa b=>FX a b=true)/\l'.Perm (l.map λc=>EK w v (Dz c)):=by
 have j:=d.pat.len;have i:∀c∈l.map (λc=>EK w v (Dz c)),VK w v c:=λs h=>by
  obtain⟨c,r,rfl⟩:=DJ.1 h;exact Mm d.h3 (k c r)
 obtain⟨J,f⟩:=Zk d.h3 i;have g:J.length=l.length:=by
  have:=congrArg List.length f
  grind
 by_cases q:l=[]
 .subst q;refine⟨[],?_,List.Pairwise.nil,UV _⟩;exact X_ (qG (cx:=0+1) ie (l:=([]:TD)) rfl)
 .have i':(CZ H 3 mi (l.map λc=>EK w v (Dz c)))[H.length]?=some (.o (.cells ((J.map F8).flatMap mi) 3 true)):=by
   rw[f];unfold CZ
   simp_all
  obtain⟨D,m,n,p⟩:=X' (cx:=l.length+1) i' i_ a_;rw[g]at p;refine⟨D.map F8,?_,asc5 n ?_,?_⟩
  .have e:oo (CZ H 3 mi (l.map λc=>EK w v (Dz c))) H.length 3 mi (D.map F8)=CZ H 3 mi (D.map F8):=by
    unfold oo CZ
    simp_all
   simp_all
  .exact(((m.map F8).map aS).nodup_iff).2 (by rw[f];exact WY d.h3 k d.lt)
  grind
def turC:ef:=by
 intro w v l G m z H Z J;have h:=hu m z J;have L:=m.pat.len;have k:=m.h3;obtain⟨A,P,U,V⟩:=sortT m z (H:=H);have g:A.length=l.length:=by rw[V.length_eq,GY]
 obtain⟨N,D,Q,rfl,rfl⟩:=x7 (ls:=[.i (.ofNat w),.i (.ofNat v),.v Z]) (K:=λN D=>N=[.i (.ofNat w),.i (.ofNat v),.v (slV H.length l.length (l.length+1)),.i 0]/\D=CZ H 3 mi A) (H:=H) (mc (mc (pP J.h_ t0))) (by
  unfold f7;simp only[ub];refine e_ ?_;refine ak h ?_;refine e_ ?_;refine ae (x:=ofNat l.length) rfl ?_;have b:∀j,j<=l.length->((l.take j).map (λc=>EK w v (Dz c))++(l.drop j).map Dz).length=l.length:=λj I=>by
   simp_all
  refine bK l.length (λj (_:Unit)=>[.i (ofNat j)]) (λj _=>CZ H 3 mi ((l.take j).map (λc=>EK w v (Dz c))++(l.drop j).map Dz)) (λ_ _=>True) (j0:=0) (s0:=()) rfl c_ (D6 _) trivial ?_;intro j _ I _ O t;refine e_ ?_;by_cases d:j<l.length
  .rw[aO d];refine e_ ?_;obtain⟨c,E⟩:=am d;have p:=A9 E;obtain⟨u,e,n,B,C,S,F,r,y,e3⟩:=mU k (z c p);obtain⟨W,X,Y⟩:=WX k S F r y;have q:((l.take j).map λc=>EK w v (Dz c)).length=j:=j_;have f:((l.take j).map (λc=>EK w v (Dz c))++(l.drop j).map Dz)[j]?=some (Dz c):=by
    simp_all
   refine aQ (qG (cx:=l.length+1) ie (b j a_).symm) rfl f ?_;rw[show mi (Dz c)=[.int .i64 c.1,.int .u8 c.2.1,.int .u8 (Iw c.2.2)]from rfl];refine e_ ?_;rw[B,C];refine aj W ?_;unfold vE;refine e_ ?_;have R:u / 4%w<w:=KK _ (by have:=k.1;omega);have T:=k.2.1;rw[Hw i_ i_,Hw i_ i_];have s:u%4<4:=KK _ a_;rw[MF (show 0<=ofNat (u%4)from G9 _) i_];refine ae (Oy s) ?_;refine e_ ?_;refine aj X ?_;refine e_ ?_;rw[MF (show 0<=ofNat e from G9 _) i_];refine ae (Ow F) ?_;refine e_ ?_;refine aj Y ?_;refine e_ ?_;refine hD ie (a:=EK w v (Dz c)) rfl j_ (b j a_) (by unfold EK Dz;rw[B,C];rfl) ?_;rw[aU a_];have M:((l.take j).map (λc=>EK w v (Dz c))++(l.drop j).map Dz).set j (EK w v (Dz c))=(l.take (j+1)).map (λc=>EK w v (Dz c))++(l.drop (j+1)).map Dz:=by
    rw[g3 _ _ a_,q,SA,Pg d,EN,qcI,IB,E,IV];simp
   simp_all
  .obtain rfl:j=l.length:=a_;rw[aN (B8 _)];refine e_ ?_;rw[XQ,List.drop_length,IY,HF];refine ak P ?_;refine e_ ?_;refine ae (x:=()) rfl ?_
   simp_all)
 refine⟨A,_,_,Q,?_,qG (cx:=l.length+1) ie g.symm,U,λc'=>?_,g⟩
 .exact λj o I=>by
   unfold CZ
   grind
 grind
end Go.Am
namespace Go.Am
namespace Sx
def vH{j7:Type}{ks:TJ}{enc:j7->Tn}{ok:j7->Prop}(d:∀cs,DR ks cs->∃a,enc a=cs/\ok a):∀(n:Nat) (c:Tn),c.length=n*ks.length->(∀i,i<n->DR ks ((c.drop (i*ks.length)).take ks.length))->∃l:List j7,l.length=n/\l.flatMap enc=c/\∀a∈l,ok a
 |0,c,g,_=>⟨[],rfl,by
   simp_all,λ_ h=>by cases h⟩
 |n+1,c,g,e=>by
  obtain⟨a,h1,j⟩:=d _ (by have:=e 0 a_;rw[ZR,XN]at this;exact this);obtain⟨l,f,k,m⟩:=vH d n (c.drop ks.length) i_ (λi p=>by
   have:=e (i+1) a_;rw[B0]
   grind)
  refine⟨a :: l,by simp[f],?_,λb o=>?_⟩
  .simp_all
  grind
def Zn{j7:Type}{ks:TJ}{enc:j7->Tn}{ok:j7->Prop}(c:∀a,(enc a).length=ks.length)(d:∀cs,DR ks cs->∃a,enc a=cs/\ok a){h:HL}{x:TR}{n:Nat}{b:Tn}(f:He h x ks.length n b)(k:∀i,i<n->DR ks ((b.drop (i*ks.length)).take ks.length)) :
  ∃l:List j7,q9 h x ks.length enc l/\l.length=n/\∀a∈l,ok a:=by
 obtain⟨l,e,g,j⟩:=vH d n b f.1 k;refine⟨l,⟨λa _=>c a,?_⟩,e,j⟩;rw[e,g];exact f
def bJ.i{h:HL}{k:TK}{ks:List FU}{ls:TG}(a:bJ h (.i k :: ks) ls):∃n r,ls = .i n :: r/\(Lit.int k n).wf=true/\bJ h ks r:=by
 match ls,a with
 | .i n :: r,a=>exact⟨n,r,rfl,a.1,a.2⟩
def bJ.s{h:HL}{b:TJ}{ks:List FU}{ls:TG}(c:bJ h (.s b :: ks) ls):∃x r n a,ls = .v x :: r/\He h x b.length n a/\n<=maxLen/\(∀i,i<n->DR b ((a.drop (i*b.length)).take b.length))/\bJ h ks r:=by
 match ls,c with
 | .v x :: r,⟨⟨n,a,d,e,f⟩,g⟩=>grind
def bJ.nil{h:HL}{ls:TG}(a:bJ h [] ls):ls=[]:=by
 match ls,a with
 | [],_=>rfl
def hp_at(a:List Ga):U5 (a.map λb=>HO.o b.1) 0 a:=λi b c=>by
 simp_all
def U7(T:Tv)(a:List Ga):h9 T (a.map λb=>HO.o b.1)=a.map (·.1):=by
 induction a with
 |nil=>rfl
 |cons b l c=>show F1 T (.o b.1) :: h9 T (l.map λb=>HO.o b.1)=_;rw[c];rfl
end Sx
end Go.Am
namespace Go.Am
open Sx Go.Proofs
def dec8(cs:Tn)(h:DR [.i .u8,.i .u8,.i .u8] cs):∃a:U6,tM a=cs/\OE a:=by
 obtain⟨d,e,f,rfl⟩ : ∃d e f,cs=[d,e,f]:=by
  have o:=DR.len h
  match cs,o with
  | [d,e,f],_=>simp_all
 obtain⟨⟨a,rfl,l⟩,⟨b,rfl,m⟩,⟨c,rfl,n⟩,_⟩:=h;have g:=zw l;have j:=zw m;have k:=zw n;exact⟨(a,b,c),rfl,g.1,g.2,j.1,j.2,k.1,k.2⟩
def dD(cs:Tn)(h:DR [.i .u8] cs):∃a:Int,Gc a=cs/\(0<=a/\a<=255):=by
 obtain⟨b,rfl⟩ : ∃b,cs=[b]:=by
  have d:=DR.len h
  match cs,d with
  | [b],_=>exact⟨b,rfl⟩
 obtain⟨⟨a,rfl,c⟩,_⟩:=h;exact⟨a,rfl,zw c⟩
def ni(ls:TG)(h:HL)(c:bJ h [.i .u8,.i .u8,.s [.i .u8,.i .u8,.i .u8],.s [.i .u8],.i .u8,.i .i64,.i .i64] ls):∃h',aF cc ac 3 ls (h9 aa h) [.b true] (h9 aa h'):=by
 obtain⟨w,ls,rfl,z,c⟩:=c.i;obtain⟨v,ls,rfl,u,c⟩:=c.i;obtain⟨s,ls,n,e,rfl,m,_,o,c⟩:=c.s;obtain⟨E,ls,D,d,rfl,f,_,g,c⟩:=c.s;obtain⟨t,ls,rfl,r,c⟩:=c.i;obtain⟨x,ls,rfl,A,c⟩:=c.i;obtain⟨y,ls,rfl,B,c⟩:=c.i;obtain rfl:=c.nil;obtain⟨l,q,_,p⟩:=Zn (enc:=tM) (ok:=OE) (λ_=>rfl) dec8 m o;obtain⟨C,k,_,j⟩:=Zn (enc:=Gc) (ok:=λa=>0<=a/\a<=255) (λ_=>rfl) dD f g;exact rB turC (zw z) (zw u) (zw r) q p k j
end Go.Am
namespace Go.Proofs.YtohglkignnpogaaGreatDoor
open Go Go.Am Go.Am.Sx
open Go.ChangeShapes Go.WideShapes Go.ChangeAt Go.WideMaps Go.WideElems Go.RowKit
abbrev Jk:List (String×DataW Unit):= [("crimp/moves.turns",Rows.laid_crimp_moves_turns), ("crimp/cells.quarters",Rows.laid_crimp_cells_quarters), ("crimp/patterns.others",Rows.laid_crimp_patterns_others)]
def f1 : Tryz.prog.globalNamed "crimp/moves.turns" = some 2:=d_
def o1 : Tryz.prog.globalNamed "crimp/cells.quarters" = some 1:=d_
def ce : Tryz.prog.globalNamed "crimp/patterns.others" = some 0:=d_
def Xg{W:TS}(h:laidMetH Tryz.prog Jk W):∃_:Unit,∀(g:Nat) (vs:Tn),cc.G g=some vs->
  Fz g<W.heap.size/\vs.all bg=true/\∃c e fr,W.heap[Fz g]?=some (.cells c e fr)/\cF (λ_=>none) vs c (GR g):=by
 rw[MakeChecks.laidMetH_plain _ _ _ d_]at h;obtain⟨d,h,_,_⟩:=h;refine⟨(),λg vs b=>?_⟩;have a:=Ww g vs b;unfold cc at b;simp only at b;split at b
 .cases b;exact ql d_ a d_ (mP h "crimp/moves.turns" Rows.laid_crimp_moves_turns KG 2 231 8 om f1 d_ d_)
 .cases b;exact ql d_ a d_ (mP h "crimp/cells.quarters" Rows.laid_crimp_cells_quarters (FZ _ KG) 1 196 8 p5 o1 d_ d_)
 .cases b;exact ql d_ a d_ (mP h "crimp/patterns.others" Rows.laid_crimp_patterns_others (FZ _ (FZ _ KG)) 0 94 8 gl0 ce d_ d_)
 .cases b
def own:ownKnob Tryz.prog.godebug=none:=d_
def Qr(os:Os)(args:Tl):laidMetH Tryz.prog Jk ((World.doorLaid Tryz.prog 400 os).forCall (λ_ _=>0) ⟨#[],args,[]⟩).memory:=
 laidMetH_of_parts3 (fuel:=8) (laidMet_of_run' 8 d_ d_) d_ d_
end Go.Proofs.YtohglkignnpogaaGreatDoor
end

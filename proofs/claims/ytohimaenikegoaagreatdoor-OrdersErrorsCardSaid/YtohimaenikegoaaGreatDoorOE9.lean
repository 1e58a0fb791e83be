import Derived.Test.YtohimaenikegoaaGreatDoorOE8
import Derived.SevenTiedAt
import Derived.Test.YtohimaenikegoaaGreatDoorCards
import Derived.Test.YtohimaenikegoaaGreatDoorTie
set_option linter.all false
noncomputable section
set_option maxRecDepth 100000
set_option maxHeartbeats 16000000
open Int(ofNat)
namespace Go.Am
open Sx Go.Proofs
def MM{a:TM}{n:Nat}{c:Cl}(h:a[n]?=some c):De (a.take (n+1))=EK (De (a.take n)) c:=by
 rw[Ii,h];exact Po
structure NF(h5 g:HL)(b mp mw:Nat)(w v:Nat)(xv:Value)(r:Mv)(xu:Value)(L:TM):Prop where
 x:∃xa,g[b]?=some (.o (.cells (ah ⟨w,v,xv,r,xa,.slice none 0 0,.slice none 0 0,xu,mp,.slice none 0 0,.slice none 0 0,.slice none 0 0⟩ false) 15 true))/\h_ h5.length g xa 3 bU L
 m:Dd EV g mw (L.map λc=>(c,.int .i64 (ofNat 0)))
 k:∀(j:Nat) o,h5[j]?=some o->j≠b->j≠mw->g[j]?=some o
 l:h5.length<=g.length
def sk{h h0:HL}{w v:Nat}{L:TR}{r:Mv}{xi:TR}{d:TM}(hg:aF L=true)(a5:w*v<=9)(Y:aA cc ac 68 [.i (ofNat w),.i (ofNat v),.v L,.i (ofNat r.1),.i r.2.1,.i r.2.2] (g_ aa h) [.v xi,.i 0] (g_ aa h0))(H:q9 h0 xi 3 bU d)(a1:d.length<=36)
  {K:Te} (hK:∀g b mp X P G,N1 h0 g b mp X w v L r P G d->q4 (hA P1) b X xi g K) :
  np0 (hA P1) [.i (ofNat w),.i (ofNat v),.v L,.i (ofNat r.1),.i r.2.1,.i r.2.2] h K:=by
 unfold np0;simp only[u5];refine e_ ?_;refine ak Y ?_;refine e_ ?_;rw[pU a_];rw[y_ jn];refine e_ ?_;refine bz H ?_;refine ae (dN a_) ?_;refine km ?_;rw[show(ofNat d.length).toNat=d.length from rfl];have ay:=jJ H;obtain⟨z,e1⟩ : ∃z,z=h0++[HO.o (.cells (aL [.bool false] d.length) 1 true)]:=⟨_,rfl⟩;rw[←e1];have l1:z.length=h0.length+1:=by rw[e1];simp
 refine ae (x:=()) (cZ (yJ ay) (cZ (pe ⟨_,_,_,rfl⟩ λi V=>?_) eR)) ?_
 .have:i=h0.length:=(D' V).symm;omega
 refine km ?_;obtain⟨G,al⟩ : ∃G:Value,G = .slice (some ⟨h0.length,0,le 1⟩) d.length (d.length+1):=⟨_,rfl⟩;have Q:Value.slice (some ⟨h0.length,0,some 11⟩) d.length (d.length+1)=G:=al.symm;rw[Q];obtain⟨t,e2⟩ : ∃t,t=z++[HO.o (.map [] 0)]:=⟨_,rfl⟩;rw[←e2];have l2:t.length=h0.length+2:=by rw[e2];simp;omega
 obtain⟨A,e3⟩ : ∃A,A=t++[HO.o (.cells (ah ⟨w,v,L,r,.slice none 0 0,.slice none 0 0,.slice none 0 0,G,z.length,.slice none 0 0,.slice none 0 0,.slice none 0 0⟩ false) 15 true)]:=⟨_,rfl⟩;have ad:t++[HO.o (.cells [.int .i64 (ofNat w),.int .i64 (ofNat v),L,.int .u8 (ofNat r.1),.int .i64 r.2.1,.int .i64 r.2.2,.slice none 0 0,.slice none 0 0,.slice none 0 0,G,.map (some z.length),.slice none 0 0,.slice none 0 0,.slice none 0 0,.bool false] 15 true)]=A:=e3.symm;rw[ad];have l3:A.length=h0.length+3:=by rw[e3];simp;omega
 obtain⟨B,e4⟩ : ∃B,B=A++[HO.o (.map [] 0)]:=⟨_,rfl⟩;rw[←e4];have l4:B.length=h0.length+4:=by rw[e4];simp;omega
 have k1:∀(j:Nat) o,h0[j]?=some o->z[j]?=some o:=λj o s=>jn;have k2:∀(j:Nat) o,z[j]?=some o->t[j]?=some o:=λj o s=>jn;have k3:∀(j:Nat) o,t[j]?=some o->A[j]?=some o:=λj o s=>jn;have W:∀(j:Nat) o,A[j]?=some o->B[j]?=some o:=λj o s=>jn;have N:∀(j:Nat) o,h0[j]?=some o->B[j]?=some o:=λj o s=>W j o (k3 j o (k2 j o (k1 j o s)));have mu:B[h0.length]?=some (.o (.cells (aL [.bool false] d.length) 1 true)):=W _ _ (k3 _ _ (k2 _ _ (by rw[e1];exact aD)));have mp:B[z.length]?=some (.o (.map [] 0)):=W _ _ (k3 _ _ (by rw[e2];exact aD));have mb:B[t.length]?=some (.o (.cells (ah ⟨w,v,L,r,.slice none 0 0,.slice none 0 0,.slice none 0 0,G,z.length,.slice none 0 0,.slice none 0 0,.slice none 0 0⟩ false) 15 true)):=W _ _ (by rw[e3];exact aD);have X:B[A.length]?=some (.o (.map [] 0)):=by rw[e4];exact aD
 refine bz (H.j9 λj o s _=>N j o s) ?_;have an:NF B B t.length z.length A.length w v L r G (De (d.take 0)):=⟨⟨_,mb,.inl ⟨rfl,rfl⟩⟩,⟨[],0,X,rfl⟩,λ_ _ h _ _=>h,A9 _⟩;refine aJ (m:=d.length) (λm ls g=>∃n,ls=[.i (ofNat n)]/\m=d.length - n/\n<=d.length/\NF B g t.length z.length A.length w v L r G (De (d.take n))) ⟨0,rfl,rfl,C6 _,an⟩ ?_;rintro m ls g ⟨n,rfl,rfl,hn,C⟩ a0 F;refine Di ?_;refine e_ ?_;obtain⟨P,U,ha⟩:=C.x;by_cases I:n<d.length
 case neg=>
  obtain rfl:n=d.length:=a_;rw[aM (A9 _)];refine km ?_;rw[YW]at C ha;have z0:(aL [.bool false] d.length)=(List.replicate d.length false).flatMap A7:=by
   show aL (A7 false) d.length=_;rw[cT]
  refine hK g t.length z.length A.length P G ⟨U,a_,a_,a_,a_,λj o s=>C.k j o (N j o s) jn jn,?_,?_,C.k _ _ mp a_ a_,C.m⟩
  .rcases ha with q|⟨id,cx,T,q2,q3⟩
   .exact .inl q
   .exact .inr ⟨id,cx,T,a_,q3⟩
  .refine .inr ⟨h0.length,d.length+1,kb,A9 _,?_,.inr kb⟩;rw[←z0];exact C.k _ _ mu a_ a_
 rw[aN I];refine e_ ?_;obtain⟨c,hc⟩:=aq I;have E:=MM hc;refine aP (H.j9 λj o s _=>C.k j o (N j o s) jn jn) rfl hc ?_;rw[show bU c=[.int .i64 c.1,.int .i64 c.2.1,.int .u8 (ofNat c.2.2)]from rfl];refine e_ ?_;refine lB EV yG d_ d_ sU C.m c rfl (λy e=>by cases e) (λp hp y e=>?_) (λhn=>?_) λi u V=>?_
 .obtain⟨q,_,rfl⟩:=CS.1 hp;cases e
 .have ap:c∉De (d.take n):=λq=>hn (CS.2 ⟨_,CS.2 ⟨c,q,rfl⟩,rfl⟩);simp(disch:=omega)only[↓nc,EB];refine Rc (u:=.int .i64 (ofNat 0)) EV yG d_ d_ sU C.m c hn rfl λo hm=>?_;obtain⟨M,ag⟩ : ∃M,M=g.set A.length o:=⟨_,rfl⟩;rw[←ag]at hm ⊢;have a7:M.length=g.length:=kb;have a4:∀ {j e:Nat} {y:Tn} {f:Bool},g[j]?=some (.o (.cells y e f))->A.length≠j:=λ{j e y f} s q=>by
   subst q;obtain⟨es,c,t,_⟩:=C.m
   simp_all
  have J:∀ {j e:Nat} {y:Tn} {f:Bool},g[j]?=some (.o (.cells y e f))->M[j]?=some (.o (.cells y e f)):=λ{j e y f} s=>by
   grind
  refine km ?_;refine jK (ds:=[P]) (J U) (by simp[ah]) rfl ?_;refine e_ ?_;have D:h_ B.length M P 3 bU (De (d.take n)):=ha.BK λj y _ h=>J h;refine ab (h_.i_ (e:=3) (enc:=bU) cG D) ?_;refine km ?_;have a3:(De (d.take n)).length<=36:=by
   have:=th (d.take n)
   grind
  refine D.G8 (a:=c) cG (by have:=C.l;omega) rfl rfl rfl (by unfold bc;rw[DQ a_,DQ a_];rfl) ?_;intro aE g2 S gx O a6 b2;refine e_ ?_;refine ab gx ?_;refine km ?_;have ax:∀ {j e:Nat} {y:Tn} {f:Bool},M[j]?=some (.o (.cells y e f))->e≠3->hY P≠some j:=λ{j e y f} s he q=>by
   obtain⟨Z,t⟩:=D.wid q
   simp_all
  have R:=O _ _ (J U) (ax (J U) oo);refine gh (b:=t.length) R (by simp[ah]) ?_;refine km ?_;refine ae (x:=()) (cZ (bR ⟨_,_,_,rfl⟩ λi V=>?_) eR) ?_
  .have T:M.length=i:=by simpa[hY]using V
   grind
  refine km ?_;rw[aY a_];refine F _ _ _ a_ ⟨n+1,rfl,rfl,I,?_⟩;rw[E];unfold EK;rw[te ap];refine⟨⟨aE,du R,S.BK λj y _ h=>cH h λe=>?_⟩,?_,λj S s T q2=>?_,?_⟩
  .grind
  .rw[Ij];refine hm.j9 EV λo3 av=>cH (O _ o3 av λq=>?_) ?_
   .obtain⟨Z,t⟩:=D.wid q;obtain⟨es,c',h5,_⟩:=hm
    simp_all
   .omega
  .have p1:=C.k j S s T q2;have p2:M[j]?=some S:=by
    grind
   refine cH (O j S p2 λq=>?_) (CY T);have p3:=(D.hY q).1
   grind
  .rw[FG];have:=C.l;omega
 .have a2:c∈De (d.take n):=by
   grind
  have hu:u = .int .i64 (ofNat 0):=by
   grind
  subst hu;simp(disch:=omega)only[↓nc,DP];rw[aY a_];refine F _ _ _ a_ ⟨n+1,rfl,rfl,I,?_⟩;rw[E];unfold EK
  simp_all
structure PtI(w v:Nat)(l:TD)(G:TH):Prop where
 h3:S3 w v
 pat:NH w v l
 lt:l.Pairwise λa b=>Gb a b=true
 k0:∀c∈l,c.2.2≠0
 g:Cz w v l G
section
variable {w v:Nat} {l:TD} {G:TH} (pt:PtI w v l G) {r:Mv} (hr:CM 4000 r)
include pt hr
theorem PtI.G7:G7 w G r (4*w*v):=λc e=>by
 have f:=pt.g.ok c e;have h:=tq pt.h3 pt.g hr e;constructor
 .have:=en f hr;unfold NB;rw[EP];obtain⟨_,a,b,c,d,_⟩:=this;omega
 .unfold JN
  grind
theorem PtI.nok:∀id e,id<4*w*v->e<3->JN (aB (af (G id) r) (DH (q8 w id) e))=true:=λid e i' a=>by
 have b:-(4000+15)<=(DG w (CI G r) id).1/\(DG w (CI G r) id).1<=4000+15/\-(4000+15)<=(DG w (CI G r) id).2.1/\(DG w (CI G r) id).2.1<=4000+15:=tq pt.h3 pt.g hr i';have d:=Qn (c:=DG w (CI G r) id) (e:=eT (CI G r id).1 e) iZ (lW a);show JN (EI w (CI G r) id e)=true;rw[J1 pt.h3.sh i' a];unfold JN
 grind
theorem PtI.both{H:HL}{o:TR}(k:q9 H o 3 n4 l):∃d ix h',BothC [.i (ofNat w),.i (ofNat v),.v o,.i (ofNat r.1),.i r.2.1,.i r.2.2] H d ix 0 h'/\q9 h' d 3 sd (DO w v G r)/\q9 h' ix 3 bU (Ck w v G r):=by
 obtain⟨y,h',c,x,u⟩:=Ow pt.h3.sh (rq pt.lt) pt.pat.len k (pt.pat.check k) (aZ hr (show(4000:Int)<=16384 by decide));rcases u with⟨_,a⟩|⟨e,s,h⟩
 .exact absurd ⟨G,pt.g.g,pt.g.z⟩ a
 have t:∀c,c<4*w*v->e c=G c:=λc b=>Jv pt.h3.sh s pt.g b;rcases h with⟨_,a⟩|⟨d,ix,rfl,_,f,j⟩
 .refine absurd (λc b=>?_) a;have:=pt.G7 hr c b
  simp_all
 have p:DO w v e r=DO w v G r:=WN λc b=>kb;have q:Ck w v e r=Ck w v G r:=WN λc b=>kb;rw[p]at f;rw[q]at j;have m:=f.ls db;have n:=j.ls cG;exact⟨d,ix,h',⟨c,x,m.i_,n.i_⟩,m,n⟩
theorem Jj{h:HL}{k:TR}(e:q9 h k 3 n4 l):b7 h w v k r.1 r.2.1 r.2.2 (Dq (Ck w v G r)) l (ts (Ck w v G r)) (D0 (EM (ts (Ck w v G r)))) (uc w v l G r (D0 (EM (ts (Ck w v G r))))) (Iz (D0 (EM (ts (Ck w v G r)))) (Cx w v l G r) (Cx w v l G r).1.length):=by
 intro E M;have hN:(Ck w v G r).length=4*w*v:=by simp[Ck]
 have D:=pt.h3.n;obtain⟨T,xi,B,m,_,a⟩:=pt.both hr e;have s:=PF e.i_ m;have z:q9 B k 3 n4 l:=e.j9 λj o y _=>m.p.get y;have f:0<(Ck w v G r).length:=by
  have h1:0<w*v:=r6 pt.h3.1 pt.h3.2.2.1
  grind
 have A:=x29 (ls:=[.i (ofNat w),.i (ofNat v),.v k,.i (ofNat r.1),.i r.2.1,.i r.2.2]) (K:=λI g=>∃b,I=[.v (ka b),.i 0]/\NZ B b w v k r (Dq (Ck w v G r)) l (ts (Ck w v G r)) (D0 (EM (ts (Ck w v G r)))) (uc w v l G r (D0 (EM (ts (Ck w v G r))))) (Iz (D0 (EM (ts (Ck w v G r)))) (Cx w v l G r) (Cx w v l G r).1.length) g) (H:=h) (k_ (k_ (q7 e.i_ (k_ (k_ (k_ t0)))))) (by
  rw[kG];refine sk e.i_ a_ s a a_ λZ b mp mw xa xu U=>?_;refine ih U a_ f (λc t=>?_) λg2 V=>?_
  .obtain⟨i,x⟩:=Ev t;have:=am x;rw[gm a_]at x;rw[←D' x];exact iZ
  refine el V a_ a λg3 xd xl vs Q W=>?_;refine y1 W a_ a_ λg4 xp X=>?_;refine o8 X pt.h3 pt.pat pt.k0 pt.g hr (pt.nok hr) z a (λH C=>?_) λg O=>⟨b,rfl,O⟩;obtain⟨S,ix,L,d,Y,_⟩:=pt.both hr C;exact⟨S,L,QV C.i_ d,d.p,Y⟩)
 obtain⟨I,g,J,b,rfl,c,n,t,P,F,u,N⟩:=A;have R:=m.p.len;refine⟨b,c,n,g,J,t,λj q=>?_,λj o y=>P j o (m.p.get y),a_,λj q=>by have:=u j q;omega,N E λj q=>⟨jn,(M j q).2⟩⟩
 grind
end
inductive FRc(w v:Nat):Nat->TD->Mv->(Nat->Mv)->List Dk->Prop
 |flat:FRc w v 0 [] CJ (λ_=>CJ) (vg w v)
 |fold {n:Nat} {l l':TD} {r:Mv} {G:TH} {L L':List Dk} {ln:Ln} {s o:Bool} (h:FRc w v n l r G L) (hln:∃p∈CV w v l G r (4*w*v),p.2.2=ln) (hp:l'.Perm (l++DN w v (λa=>af (G a) r) o ln (CV w v l G r (4*w*v)))) (hs:Fh l') (hL:L'.Perm (I5 ln s o L)) (hS:L'.Pairwise λa b=>CX a.1 b.1=false):FRc w v (n+1) l' (fT ln s L r L.length) (Pc w ln s G r) L'
def Wh{i7:Type}{n0 a e:Nat}{enc:i7->Tn}{L:List i7}{h:HL}{x:TR}(d:h_ a h x e enc L)(g:n0<=a):h_ n0 h x e enc L:=by
 rcases d with q|⟨id,b,c,f,e3⟩
 .exact .inl q
 .exact .inr ⟨id,b,c,a_,e3⟩
def AS{w v n0:Nat}(u:S3 w v){h:HL}{j:Nat}(U:j<=4){z Q:TR}{r:Mv}{l:TD}{G:TH}{M:List Sk}(e:StH w v n0 h (kB j) z r Q l G M)(y:n0<=h.length)(hl:l.length<=108*j)(T:FRc w v j l r G (M.map FL)){ln:Ln}(K:∃p∈CV w v l G r (4*w*v),p.2.2=ln)(s o:Bool) :
  ∃E r' k l' L g h',aA cc ac 46 ([.i (.ofNat w),.i (.ofNat v),.v z]++CT r++[.v Q,.i (.ofNat ln.1),.i ln.2,.i (if s then 1 else 0),.b o]) (g_ aa h) [.i (.ofNat w),.i (.ofNat v),.v E,.i (ofNat r'.1),.i r'.2.1,.i r'.2.2,.v k] (g_ aa h')/\v_ h h'/\StH w v n0 h' (kB (j+1)) E r' k l' L g/\l'.length<=108*(j+1)/\FRc w v (j+1) l' r' L (g.map FL)/\h_ n0 h' E 3 n4 l':=by
 obtain⟨W,X,Y,Z⟩:=u.n;have J:=Yy (show j<=5 by omega);have O:=B9 U;obtain⟨P,t,f⟩:=K;have N:=Yz u e.st.co e.st.rk t;rw[f]at N;have C:=e.st.vk;obtain⟨rs,h',c,H⟩:=Pm u e.cr (λc I=>(C c I).1) (λc I=>(C c I).k0) a_ (aZ e.st.rk a_) e.st.co (U8 e.ss e.pc) (e.st.pos u) (by have:=e.st.lenL;omega) (λa F=>by have:=e.st.cell u F;omega) (λa F=>⟨e.st.st.ne a F,by have:=e.st.lenP F;omega⟩) N.1 a_ s o;obtain⟨E,k,l',g,rfl,V,x,d,B,D,A,m,q⟩:=H;have S:=e.st.fold u (s:=s) (o:=o) J.1 ⟨P,t,f⟩ d B m (Nf.2 q);refine⟨E,_,k,l',_,g,h',c,V,⟨x.ls (λ_=>rfl),S,D,A.low y⟩,?_,T.fold ⟨P,t,f⟩ d B m (Nf.2 q),Wh x y⟩;have R:=d.length_eq;rw[Gv]at R;have h2:(DN w v (λa=>af (G a) r) o ln (CV w v l G r (4*w*v))).length<=(CV w v l G r (4*w*v)).length:=by
  unfold DN
  grind
 have h4:=lz (w:=w) (v:=v) (l:=l) (G:=G) (r:=r) (n:=4*w*v);omega
def Zl(w v n:Nat)(H:HL)(c:TG)(h':HL):Prop:=
 ∃z r b l G a j,c=[.i (.ofNat w),.i (.ofNat v),.v z,.i (ofNat r.1),.i r.2.1,.i r.2.2,.v b]/\v_ H h'/\j<=5/\j<=n/\l.length<=108*j/\StH w v H.length h' (kB j) z r b l G a/\FRc w v j l r G (a.map FL)/\h_ H.length h' z 3 n4 l
def ZI{a:Int}(h:0<=a/\a<=255):a%2=(if decide (a%2=1)then 1 else 0):=by
 grind
def WU{a:Int}{n:Nat}(h:0<=a)(b:0<n):a.toNat%n<n/\a%ofNat n=ofNat (a.toNat%n):=by
 refine⟨Nd _ b,?_⟩
 grind
def W1{w8 v8:Int}(a5:0<=w8/\w8%4<=2/\w8<=255)(a4:0<=v8/\v8%4<=2/\v8<=255){H:HL}{xf:TR}{Fl:List TX}(X:q9 H xf 3 sL Fl)(Y:∀a∈Fl,M5 a) :
  ∃w v rs h',(1+w8%4=ofNat w/\1+v8%4=ofNat v)/\S3 w v/\aA cc ac 18 [.i w8,.i v8,.v xf] (g_ aa H) rs (g_ aa h')/\Zl w v Fl.length H rs h':=by
 obtain⟨W,hW⟩ : ∃W:Nat,1+w8%4=ofNat W:=⟨(1+w8%4).toNat,jn⟩;obtain⟨V,hV⟩ : ∃V:Nat,1+v8%4=ofNat V:=⟨(1+v8%4).toNat,jn⟩;have D:S3 W V:=by
  have a1:1+w8%4=(W:Int):=hW;have a2:1+v8%4=(V:Int):=hV;exact⟨a_,a_,a_,a_⟩
 obtain⟨b1,b2,b3,b4⟩:=D.n;have hN:=E_ D.sh;refine⟨W,V,?_⟩;obtain⟨x0,F,E,c0,av,ay,N,m⟩:=Vp D (H:=H);have O:StH W V H.length F (kB 0) qH CJ x0 [] (λ_=>CJ) E:=⟨.nil _ _ _,by rw[m];exact Pp D,ay,N⟩;have a6:=x18 (ls:=[.i w8,.i v8,.v xf]) (K:=Zl W V Fl.length H) (H:=H) (k_ (k_ (q7 X.i_ t0))) (by
  unfold f18;simp only[u5];simp(disch:=omega)only[↓Ce];rw[hW,hV];refine ak c0 ?_;simp(disch:=omega)only[↓Ce];refine cP (Zl W V Fl.length H) ?_ ?_
  case refine_2=>
   intro jj al;refine bN (g9:=HL×Value×Mv×Value×List Eb×(Nat->Mv)×List Sk) 5 (λj t=>[.i (ofNat j),.i (.ofNat W),.i (.ofNat V),.v t.2.1,.i (ofNat t.2.2.1.1),.i t.2.2.1.2.1,.i t.2.2.1.2.2,.v t.2.2.2.1]) (λ_ t=>t.1)
    (λj t=>j<=Fl.length/\v_ H t.1/\t.2.2.2.2.1.length<=108*j/\StH W V H.length t.1 (kB j) t.2.1 t.2.2.1 t.2.2.2.1 t.2.2.2.2.1 t.2.2.2.2.2.1 t.2.2.2.2.2.2/\FRc W V j t.2.2.2.2.1 t.2.2.1 t.2.2.2.2.2.1 (t.2.2.2.2.2.2.map FL)/\h_ H.length t.1 t.2.1 3 n4 t.2.2.2.2.1)
    (j0:=0) (s0:=(F,qH,CJ,x0,[],(λ_=>CJ),E)) rfl rfl (C6 _) ⟨C6 _,av,c_,O,by simp only;rw[m];exact .flat,.inl ⟨rfl,rfl⟩⟩ ?_
   rintro j ⟨h,z,r,S,l,G,T⟩ hj ⟨u,p,d,b,I,Q⟩ a0 C;simp only at p d b I Q ⊢;have f:∀h',v_ h h'->jj [.i (.ofNat W),.i (.ofNat V),.v z,.i (ofNat r.1),.i r.2.1,.i r.2.2,.v S] h':=λh' B=>al _ _ ⟨z,r,S,l,G,T,j,rfl,p.trans B,hj,u,d,b.pre B,I,Q.j9 λ_ _ q _=>B.get q⟩;refine e_ ?_;refine bz (X.pre p) ?_;by_cases x:j<Fl.length
   case neg=>
    rw[aM a_];refine e_ ?_;exact f h (.refl _)
   rw[aN x];refine e_ ?_;by_cases ag:j<5
   case neg=>
    rw[vc (show(5:Int)<=ofNat j by grind)];refine e_ ?_;exact f h (.refl _)
   rw[ub (show ofNat j<5 by grind)];refine e_ ?_;have a3:=Yy (show j<=5 by omega);obtain⟨zl,h1,k,c1,g,A,ap,an⟩:=VJ D b.cr (b.ss.i_) (λc hc=>(b.st.vk c hc).1) (λc hc=>(b.st.vk c hc).k0) a_ (aZ b.st.rk a_) b.st.co;simp only[CT,DI,DA]at c1;refine ak c1 ?_;refine e_ ?_;refine bz A ?_;by_cases F:k.length=0
   .rw[ra (show ofNat k.length=0 by rw[F];rfl)];refine e_ ?_;exact f h1 g
   rw[wb (show ¬ofNat k.length=0 from λe=>F (Jr e))];refine e_ ?_;obtain⟨a,R⟩:=aq x;obtain⟨k1,k2,k3,k4,k5,k6⟩:=Y a (Cf R);have s:=(X.pre p).pre g;refine Jt (o:=0) (cs:=[.int .u8 a.1]) s rfl R a_ rfl ?_;refine e_ ?_;refine bz A ?_;obtain⟨L,M⟩:=WU k1 (show 0<k.length by omega);rw[E5 a_ (show(0:Int)<ofNat k.length by grind)];rw[M];refine km ?_;obtain⟨y,hy⟩:=aq L;refine aP A rfl hy ?_;rw[show sN y=[.int .u8 (ofNat y.1),.int .i64 y.2]from rfl];refine e_ ?_;refine Jt (o:=1) (cs:=[.int .u8 a.2.1]) s rfl R a_ rfl ?_;refine e_ ?_;refine Jt (o:=2) (cs:=[.int .u8 a.2.2]) s rfl R a_ rfl ?_;refine e_ ?_;rw[ZI ⟨k3,k4⟩];obtain⟨z',r',aE,l',G',U,h2,c2,ax,P,J,ad,Z⟩:=AS D (j:=j) a_ (b.pre g) (by have:=(p.trans g).len;omega) d I (an y (Cf hy)) (decide (a.2.1%2=1)) (decide (a.2.2%2=1));simp only[CT,DI,DA]at c2;refine rK λt ht=>?_;subst ht;refine ak c2 ?_;refine e_ ?_;rw[aY a_];exact C (h2,z',r',aE,l',G',U) ag ⟨x,(p.trans g).trans ax,J,P,ad,Z⟩
  rintro ls h ⟨z,r,S,l,G,T,j,rfl,p,hj,u,d,b,I,Q⟩;simp(disch:=omega)only[↓Ce];exact⟨z,r,S,l,G,T,j,rfl,p,hj,u,d,b,I,Q⟩)
 simp_all
def PL{l l':TD}(h:l'.map bo=l.map bo)(u e:Nat):CD l' u e=CD l u e:=by unfold CD;rw[h]
def OP{w v:Nat}{l l':TD}{G:TH}(h:l'.map bo=l.map bo)(g:Cz w v l G):Cz w v l' G:=by
 refine⟨λc e n a b d=>?_,g.z,g.ok⟩;have:=g.g c e n a b d;unfold Ej at this ⊢;rw[PL h];exact this
def VP{l l':TD}(h:l'.map bo=l.map bo)(d:l.Pairwise λa b=>Gb a b=true):l'.Pairwise λa b=>Gb a b=true:=by
 have c:∀m:List Eb,(m.Pairwise λa b=>Gb a b=true)↔(m.map bo).Pairwise λa b=>(decide (a.1<b.1)||(decide (a.1=b.1)&&decide (a.2<b.2)))=true:=λm=>by
  rw[Nf];rfl
 simp_all
def L2{w v:Nat}{l l':TD}(h:l'.map bo=l.map bo)(m:∀c∈l,VK w v c)(k:∀c∈l',1<=c.2.2/\c.2.2<=3):∀c∈l',VK w v c:=λc i=>by
 have f:bo c∈l.map bo:=jn;obtain⟨d,j,e⟩:=CS.1 f;obtain⟨⟨u,b,n,o,p,a⟩,_⟩:=m d j;unfold bo at e;simp only[Q7]at e;have g:=k c i;exact⟨⟨u,b,n,a_,a_,a.1,a.2.1,a.2.2.1,a.2.2.2.1,a_,a_⟩,g⟩
def j1{w v:Nat}(f:S3 w v){l:TD}{G:TH}(i:∀c∈l,VK w v c)(d:l.Pairwise λa b=>Gb a b=true)(j:l.length<=1000)(g:Cz w v l G):PtI w v l G:=by
 have k:=f.sh;refine⟨f,⟨k,λc h=>?_,j,J6 i d⟩,d,λc h=>(i c h).k0,g⟩;have:=F' (i c h) (by have:=f.n;omega);obtain⟨⟨u,e,n,m,o,p,q,_,_,r,s⟩,_⟩:=i c h;have:=f.n;unfold Im
 grind
def vb(w v:Nat)(H:HL)(a:TG)(h':HL):Prop:=
 ∃z l G,a=[.i (.ofNat w),.i (.ofNat v),.v z]/\v_ H h'/\l.length<=432/\h_ H.length h' z 3 n4 l/\PtI w v l G/\∀c∈l,VK w v c
def l5{w8 v8:Int}(a0:0<=w8/\w8<=255)(aE:0<=v8/\v8<=255){H:HL}{V W:TR}{Fl:List TX}{O:TE}(P:q9 H V 3 sL Fl)(ad:∀a∈Fl,M5 a)(R:q9 H W 1 EW O)(S:∀a∈O,0<=a/\a<=255) :
  ∃w v N h',S3 w v/\aA cc ac 8 [.i w8,.i v8,.v V,.v W] (g_ aa H) N (g_ aa h')/\vb w v H N h':=by
 have a5:=x8 (ls:=[.i w8,.i v8,.v V,.v W]) (K:=λN h'=>∃w v,S3 w v/\vb w v H N h') (H:=H) (k_ (k_ (q7 P.i_ (q7 R.i_ t0)))) (by
  unfold f8;simp only[u5];simp(disch:=omega)only[↓Ce];refine bz P ?_;have step:∀K:Bool->Prop,K (decide (4<Fl.length))->P1.cmp .gtr (ofNat Fl.length) 4 (@i' _ ⟨K⟩):=λK Y=>by
   by_cases e:4<Fl.length
   .rw[B3 (show(4:Int)<ofNat Fl.length by grind),←E8 e];exact Y
   .rw[y_ (show ofNat Fl.length<=(4:Int)by grind),←Fv e];exact Y
  refine step _ ?_;refine cP (λls h=>∃U q,ls=[.i (w8%3),.i (v8%3),.v U]/\h=H/\q9 H U 3 sL q/\q.length<=4/\∀a∈q,M5 a) ?_ ?_
  case refine_2=>
   intro jj T;by_cases e:4<Fl.length
   .rw[E8 e];refine e_ ?_;obtain⟨xt,et,lt,gt,_⟩:=qn P (n:=4) a_;refine ae et (ab gt ?_)
    try grind
   .rw[Fv e];refine e_ ?_
    grind
  rintro ls h ⟨U,q,rfl,rfl,Q,ax,C⟩;simp(disch:=omega)only[↓Ce];obtain⟨w,v,a6,h1,_,X,c1,z,r,zs,l,G,Ms,j,rfl,hp,an,ap,ay,u,hR,hO⟩:=W1 (w8:=w8%3) (v8:=v8%3) a_ a_ Q C;refine ak c1 ?_;simp(disch:=omega)only[↓Ce];refine cP (λls g=>ls=[]/\∃p,v_ h g/\h_ h.length g z 3 n4 p/\p.map bo=l.map bo/\∀c∈p,1<=c.2.2/\c.2.2<=3) ?_ ?_
  .rintro ls g ⟨rfl,p,f,m,b,s⟩;refine e_ ?_;have I:p.length=l.length:=by
    have:=congrArg List.length b;simpa using this
   have J:=L2 b u.st.vk s;exact⟨w,v,X,z,p,G,rfl,f,a_,m,j1 X J (VP b u.st.so) a_ (OP b u.st.co),J⟩
  intro jj T;refine bN (g9:=HL×List Eb) 432 (λi _=>[.i (ofNat i)]) (λ_ t=>t.1) (λi t=>v_ h t.1/\h_ h.length t.1 z 3 n4 t.2/\t.2.map bo=l.map bo/\∀c∈t.2,1<=c.2.2/\c.2.2<=3) (j0:=0) (s0:=(h1,l)) rfl rfl (C6 _) ⟨hp,hO,rfl,λc D=>(u.st.vk c D).2⟩ ?_;rintro i ⟨g,p⟩ hi ⟨f,m,b,s⟩ M A;simp only at f m b s ⊢;have I:p.length=l.length:=by
   have:=congrArg List.length b;simpa using this
  refine e_ ?_;refine bz (R.pre f) ?_;by_cases E:i<O.length
  case neg=>
   rw[aM a_];refine e_ ?_
   grind
  rw[aN E];refine e_ ?_;refine bz (h_.ls (e:=3) (enc:=n4) (λ_=>rfl) m) ?_;by_cases F:i<p.length
  case neg=>
   rw[aM a_];refine e_ ?_
   grind
  rw[aN F];refine e_ ?_;obtain⟨k,Z⟩:=aq E;obtain⟨k1,k2⟩:=S k (Cf Z);refine aP (R.pre f) rfl Z ?_;rw[show EW k=[.int .u8 k]from rfl];refine e_ ?_;have av:0<=k%8/\k%8<=7:=a_;have y:∀B L,v_ h B->h_ h.length B z 3 n4 L->L.map bo=l.map bo->(∀c∈L,1<=c.2.2/\c.2.2<=3)->M [.i (ofNat i+1)] B:=λB L a1 a2 a3 a4=>A (B,L) a_ ⟨a1,a2,a3,a4⟩;by_cases h0:0<k%8
  case neg=>
   rw[y_ a_];refine e_ ?_;rw[aY a_]
   grind
  rw[B3 h0];refine e_ ?_;by_cases h4:k%8<4
  case neg=>
   rw[vc a_];refine e_ ?_;rw[aY a_]
   grind
  rw[ub h4];refine e_ ?_;obtain⟨c,D⟩:=aq F;obtain⟨id,cx,ez,x,i',al⟩:=kj m (λe=>kb);rw[ez];refine xU (enc:=n4) (a:=c) (a':=(c.1,c.2.1,k%8)) (o:=2) (new:=[.int .u8 (k%8)]) (λ_=>rfl) i' rfl D rfl (A9 3) rfl ?_;refine km ?_;rw[aY a_];have ag:=s c (Cf D);refine y _ (p.set i (c.1,c.2.1,k%8)) (iW f x) (.inr ⟨id,cx,kb,x,bI (am i'),kb⟩) ?_ λd hd=>?_
  .rw[←b,l1];refine eN ?_;rw[Ew,D];rfl
  grind)
 grind
def WV(l:Lf):FJ id l=l:=by
 cases l with
 |v x=>
  show Lf.v (Hl id x)=_;unfold Hl;split<;>rfl
 |_=>rfl
def eM{g n:Nat}{ls:TG}(p:iQ ls=true)(d:Hg g=none)(r:∀l∈ls,Sx.G2 0 l){ck:TG->x_->Bool}(m:∀a h,ck a h=true->∀l∈a,Sx.G2 h.n l)
  (h:GM n (.f g) ls .empty (λa h=>ax (ck a h))=r9) (H:HL):∃a h',ck a h'=true/\∃G,aA cc ac g ls (g_ aa H) (a.map (FJ (qk 0 (g_ aa H).length id))) (g_ aa (H++G)):=by
 obtain⟨a,h',e,c⟩:=(tV n).f g ls .empty _ [] (fG p) h;have c:ck a h'=true:=T6 c;have i:g_ aa (CU x_.empty)=[]:=rfl;rw[i]at e;have b:=UB (N:=Hg) GE pH d (H:=g_ aa H) id e (λj o q=>by simp at q) r (λl s=>by
  rw[gI,gn];grind)
 have k:ls.map (FJ id)=ls:=by
  have:(FJ id:Lf->Lf)=id:=funext WV;rw[this,eA]
 rw[k,hu,WK]at b;refine⟨a,h',c,((g_ aa (CU h')).map AY).map .o,?_⟩;rw[N6,Zm];exact b
def PO(x:RT):Bool:=match x with
 |some []=>true
 |_=>false
def PP{x:RT}(h:PO x=true):x=r9:=by
 unfold PO at h
 grind
def OE{v:Int}{x:TR}(a:aF x=true)(H:HL):aA cc ac 16 [.i 0,.i v,.v x] (g_ aa H) [.i 1] (g_ aa H):=by
 exact xK x16 (k_ (k_ (q7 a t0))) (by
  unfold f16;simp only[u5]
  repeat (first|simp(disch:=omega)only[↓nc]|refine ai (BB (w:=0) (v:=v) (by unfold E';omega)) ?_)
  simp_all)
section
variable {w v t a b e:Int} {x:Value} {H H1:HL} (hx:aF x=true)
include hx
theorem Uz(c:aA cc ac 16 [.i w,.i v,.v x] (g_ aa H) [.i e] (g_ aa H))(d:e≠0):aA cc ac 101 [.i w,.i v,.v x,.i t,.i a,.i b] (g_ aa H) [.v (.slice none 0 0),.v (.slice none 0 0),.i e] (g_ aa H):=by
 exact xK x101 (k_ (k_ (q7 hx (k_ (k_ (k_ t0)))))) (by
  unfold Sq;simp only[u5];refine e_ ?_;refine ak c ?_;simp(disch:=omega)only[↓nc]
  try simp_all)
theorem YE(d:aA cc ac 101 [.i w,.i v,.v x,.i t,.i a,.i b] (g_ aa H) [.v (.slice none 0 0),.v (.slice none 0 0),.i e] (g_ aa H1))(f:e≠0):aA cc ac 29 [.i w,.i v,.v x,.i t,.i a,.i b] (g_ aa H) [.v (.pointer none),.i e] (g_ aa H1):=by
 have c:aA cc ac 68 [.i w,.i v,.v x,.i t,.i a,.i b] (g_ aa H) [.v (.slice none 0 0),.i e] (g_ aa H1):=xK x68 (k_ (k_ (q7 hx (k_ (k_ (k_ t0)))))) (by
  unfold f68;simp only[u5];refine e_ ?_;refine ak d ?_;refine e_ ?_
  simp_all)
 exact xK x29 (k_ (k_ (q7 hx (k_ (k_ (k_ t0)))))) (by
  unfold f29;simp only[u5];refine e_ ?_;refine ak c ?_;simp(disch:=omega)only[↓nc]
  try simp_all)
abbrev Kp(h h':HL):Prop:=∀(j:Nat) o,h[j]?=some o->h'[j]?=some o
def NE(w v:Int)(x:Value)(t a b e:Int)(H:HL):Prop:=∀g,Kp H g->∃c,aA cc ac 29 [.i w,.i v,.v x,.i t,.i a,.i b] (g_ aa g) [.v (.pointer none),.i e] (g_ aa c)/\Kp g c
omit hx in
theorem Ja{h:HL}{a:HO}:Kp h (h++[a]):=λ_ _ c=>cX c
theorem RC(l:NE w v x t a b e H)(y:e≠0):∃n,aA cc ac 14 [.i w,.i v,.v x,.i t,.i a,.i b] (g_ aa H) [.i 0,.i 0,.v (.slice none 0 0),.i 0,.i 0,.i 0,.v (.slice none 0 0),.i e] (g_ aa n)/\Kp H n:=by
 have B:=x14 (ls:=[.i w,.i v,.v x,.i t,.i a,.i b]) (K:=λE g=>E=[.i 0,.i 0,.v (.slice none 0 0),.i 0,.i 0,.i 0,.v (.slice none 0 0),.i e]/\Kp H g) (H:=H) (k_ (k_ (q7 hx (k_ (k_ (k_ t0)))))) (by
  unfold f14;simp only[u5];refine e_ ?_;obtain⟨c,f⟩ : ∃c,c=H++[HO.o (.cells z7 7 true)]:=⟨_,rfl⟩;have h:H++[HO.o (.cells [.int .i64 0,.int .i64 0,.slice none 0 0,.int .u8 0,.int .i64 0,.int .i64 0,.slice none 0 0] 7 true)]=c:=f.symm;rw[h];have F:c.length=H.length+1:=by rw[f];simp
  obtain⟨d,k⟩ : ∃d,d=c++[HO.o (.cells [.int .i64 0] 1 true)]:=⟨_,rfl⟩;rw[←k];have A:Kp H c:=by rw[f];exact Ja
  have q:Kp c d:=by rw[k];exact Ja
  have r:d[H.length]?=some (.o (.cells z7 7 true)):=q _ _ (by rw[f];exact aD);have C:d[c.length]?=some (.o (.cells [.int .i64 0] 1 true)):=by rw[k];exact aD
  obtain⟨p,u,m⟩:=l d λj o z=>q j o (A j o z);refine ak u ?_;simp(disch:=omega)only[↓nc]
  try rw[CA y]
  refine km ?_;refine lH (m _ _ r) rfl ?_;refine km ?_;have s:(p.set H.length (.o (.cells z7 7 true)))[c.length]?=some (.o (.cells [.int .i64 0] 1 true)):=cH (m _ _ C) a_;refine lH s rfl ?_;refine km ?_;have D:((p.set H.length (.o (.cells z7 7 true))).set c.length (.o (.cells [.int .i64 e] 1 true)))[H.length]?=some (.o (.cells z7 7 true)):=cH (du (m _ _ r)) a_;refine bT ((ba D).ld rfl) ?_;simp only[z7];refine e_ ?_;refine ab rfl ?_;refine km ?_;refine ab rfl ?_;refine km ?_;refine ae (x:=()) rfl ?_;refine km ?_;refine ae (x:=()) rfl ?_;refine km ?_;refine bT ((ba (du s)).ld rfl) ?_;refine e_ ?_
  grind)
 grind
theorem N8(c:Int)(d:NE w v x t a b e H)(m:e≠0):∃f,aA cc ac 11 [.i w,.i v,.v x,.i t,.i a,.i b,.i c] (g_ aa H) [.v (.slice none 0 0),.i e] (g_ aa f)/\Kp H f:=by
 have j:=x11 (ls:=[.i w,.i v,.v x,.i t,.i a,.i b,.i c]) (K:=λk g=>k=[.v (.slice none 0 0),.i e]/\Kp H g) (H:=H) (k_ (k_ (q7 hx (k_ (k_ (k_ (k_ t0))))))) (by
  unfold f11;simp only[u5];refine e_ ?_;obtain⟨l,h,n⟩:=d (H++[HO.o (.cells [.int .i64 c] 1 true)]) (Ja);refine ak h ?_;simp(disch:=omega)only[↓nc]
  try grind)
 grind
theorem OR(c:Int)(f:NE w v x t a b e H)(h:e≠0):∃d,aA cc ac 13 [.i w,.i v,.v x,.i t,.i a,.i b,.i c] (g_ aa H) [.i 0,.i e] (g_ aa d)/\Kp H d:=by
 obtain⟨d,g,k⟩:=N8 hx c f h;refine⟨d,?_,k⟩;exact xK x13 (k_ (k_ (q7 hx (k_ (k_ (k_ (k_ t0))))))) (by
  unfold f13;simp only[u5];refine e_ ?_;refine ak g ?_;refine e_ ?_;refine ae (x:=(0:Int)) rfl ?_
  try simp_all)
end
def R2{w v:Nat}(h:S3 w v):Cv w v 0 1=some 1/\Cv w v 0 2=some 3/\Cv w v 3 1=some 2/\Cv w v 2 2=some 1/\q8 w 0=(0,0,0):=by
 refine⟨rfl,rfl,rfl,rfl,?_⟩;unfold q8;simp
abbrev ym:TD:=[(0,1,2)]
def Xj{w v:Nat}(h:S3 w v){G:TH}(c:oL w v ym G)(h0:G 0=CJ):False:=by
 obtain⟨g,i,j,k,f⟩:=R2 h;have l:3<4*w*v:=by
  have:0<w*v:=r6 h.1 h.2.2.1
  grind
 have b:=c 0 1 1 a_ a_ g;have e:=c 0 2 3 a_ a_ i;have d:=c 3 1 2 a_ a_ j;have a:=c 2 2 1 a_ a_ k;unfold Ej at b e d a;rw[te oo]at e d a;rw[rv oo]at b;rw[a,d,e,h0]at b;rw[show min 0 1=0 from rfl,f]at b;have:=congrArg Prod.fst b;revert this;decide
def Xk{w v:Nat}(h:S3 w v):∀c∈ym,VK w v c:=λc a=>by
 rw[Fc]at a;subst a;have b:0<4*w*v:=by
  have:0<w*v:=r6 h.1 h.2.2.1
  grind
 exact⟨⟨0,1,1,rfl,rfl,b,a_,rfl,a_,oo,oo⟩,oo,oo⟩
def nop1{w v:Nat}(d:S3 w v){H:HL}{x:TR}(p:q9 H x 3 n4 ym):NE (ofNat w) (ofNat v) x 0 0 0 11 H:=by
 intro g n;have a:q9 g x 3 n4 ym:=p.j9 λj o e _=>n j o e;have f:=Xk d;have b:NH w v ym:=⟨d.sh,λc h=>by rw[Fc]at h;subst h;unfold Im;decide,oo,J6 f c_⟩;obtain⟨s,k,c,q,m⟩:=Ow d.sh (l:=ym) oo oo a (b.check a) (r:=CJ) (by unfold CM;decide);rcases m with⟨rfl,_⟩|⟨G,i,_⟩
 .exact⟨k,YE a.i_ c oo,λj o e=>q.get e⟩
 .exact(Xj d i.g i.z).elim
def nop0{v:Int}{x:TR}(a:aF x=true)(H:HL):NE 0 v x 0 0 0 1 H:=λg _=>⟨g,YE a (Uz a (OE a g) oo) oo,λ_ _ h=>h⟩
def g5(a:TG):Bool:=match a with
 | [.v (.pointer none),.i n]=>decide (n=3)
 |_=>false
def OH{a:TG}(h:g5 a=true):a=[.v (.pointer none),.i 3]:=by
 unfold g5 at h
 grind
def c8:PO (GM 60 (.f 29) [.i 17,.i 1,.v (.slice none 0 0),.i 0,.i 0,.i 0] .empty λa _=>ax (g5 a))=true:=d_
def nop2(H:HL):NE 17 1 (.slice none 0 0) 0 0 0 3 H:=by
 intro g _;obtain⟨b,k,d,G,c⟩:=eM (ck:=λb _=>g5 b) (n:=60) (g:=29) (ls:=[.i 17,.i 1,.v (.slice none 0 0),.i 0,.i 0,.i 0]) rfl d_ (λl a=>by
  simp only[DB,Ng,or_false]at a;rcases a with rfl|rfl|rfl|rfl|rfl|rfl<;>first|trivial|exact .inl ⟨rfl,λ_=>rfl⟩) (λb h e l a=>by
  rw[OH e]at a;simp only[DB,Ng,or_false]at a;rcases a with rfl|rfl<;>first|trivial|exact .inl ⟨rfl,λ_=>rfl⟩) (PP c8) g
 rw[OH d]at c;exact⟨g++G,c,λj o f=>v_.get ⟨_,rfl⟩ f⟩
def jW:∀H,aA cc ac 10 [] H [.b true] H:=lh (n:=60) rfl d_ rfl d_
def NE.mono{w v t a b e:Int}{x:TR}{H H':HL}(h:NE w v x t a b e H)(f:Kp H H'):NE w v x t a b e H':=λg c=>h g λj o d=>c j o (f j o d)
def Pz:Cc 12 [] [.i 0,.i 0,.i 0]:=by
 refine q12 rfl ?_;unfold f12;simp only[u5]
 try simp(disch:=omega)only[↓nc]
 try trivial
section
variable {w v:Nat} {l:TD} {G:TH} (pt:PtI w v l G) {r:Mv} (hr:CM 4000 r)
def VS(w v:Nat)(l:TD)(G:TH)(r:Mv):List (List (TC)):=
 (Dj (ts (Ck w v G r))).filter (Db (D0 (EM (ts (Ck w v G r)))) (uc w v l G r (D0 (EM (ts (Ck w v G r))))) (Iz (D0 (EM (ts (Ck w v G r)))) (Cx w v l G r) (Cx w v l G r).1.length))
include pt hr
theorem RD{h:HL}{c:TR}(a:q9 h c 3 n4 l):∃b h',aA cc ac 14 [.i (ofNat w),.i (ofNat v),.v c,.i (ofNat r.1),.i r.2.1,.i r.2.2] (g_ aa h) b (g_ aa h')/\hm w v r.1 r.2.1 r.2.2 (Dq (Ck w v G r)) l h' (VS w v l G r).head? b/\Kp h h':=
 W4 a.i_ (λj q=>vE a q) (Jj pt hr (a.j9 λj o d _=>cX (cX d)))
theorem Zp(a:Int){h:HL}{d:TR}(b:q9 h d 3 n4 l):∃c h',aA cc ac 11 [.i (ofNat w),.i (ofNat v),.v d,.i (ofNat r.1),.i r.2.1,.i r.2.2,.i a] (g_ aa h) c (g_ aa h')/\((a<1∨1000<a)->c=[.v (.slice none 0 0),.i 1])/\(1<=a/\a<=1000->e1 w v r.1 r.2.1 r.2.2 (Dq (Ck w v G r)) l h' ((VS w v l G r).take a.toNat) c)/\Kp h h':=
 XA a b.i_ (λj q=>vE b q) (Jj pt hr (b.j9 λj o e _=>cX e))
theorem OS(a:Int){h:HL}{c:TR}(b:q9 h c 3 n4 l):∃h',aA cc ac 13 [.i (ofNat w),.i (ofNat v),.v c,.i (ofNat r.1),.i r.2.1,.i r.2.2,.i a] (g_ aa h) [.i (if 1<=a/\a<=1000 then ofNat ((VS w v l G r).take a.toNat).length else 0),.i (if 1<=a/\a<=1000 then 0 else 1)] (g_ aa h')/\Kp h h':=
 UO a b.i_ (λj q=>vE b q) (Jj pt hr (b.j9 λj o d _=>cX d))
end
def nK{w8 v8 M f:Int}(a8:0<=w8/\w8<=255)(aE:0<=v8/\v8<=255)(bm:0<=M/\M<=255){H:HL}{xf xk:TR}{Fl:List TX}{Ks:TE}(hF:q9 H xf 3 sL Fl)(ap:∀a∈Fl,M5 a)(hS:q9 H xk 1 EW Ks)(ax:∀a∈Ks,0<=a/\a<=255) :
  ∃h',aA cc ac 5 [.i w8,.i v8,.v xf,.v xk,.i M,.i f] (g_ aa H) [.b true] (g_ aa h'):=by
 obtain⟨w,v,X,O,h3,c1,z,l,G,rfl,bk,bd,hO,pt,bl⟩:=l5 a8 aE hF ap hS ax;have W:=h_.ls (e:=3) (enc:=n4) (λ_=>rfl) hO;have i':CM 4000 CJ:=by unfold CM;decide
 have bn:=x5 (ls:=[.i w8,.i v8,.v xf,.v xk,.i M,.i f]) (K:=λX g=>X=[.b true]) (H:=H) (k_ (k_ (q7 hF.i_ (q7 hS.i_ (k_ (k_ t0)))))) (by
  unfold f5;simp only[u5];simp(disch:=omega)only[↓Ce];refine ak c1 ?_;simp(disch:=omega)only[↓Ce];refine rK λt p=>?_;refine cP (λls g=>∃d A y s,ls=[.i d,.i A,.i y,.v s]/\aF s=true/\((d≠0/\NE A y s 0 0 0 d g)∨(d=0/\A=ofNat w/\y=ofNat v/\q9 g s 3 n4 l))) ?_ ?_
  case refine_2=>
   intro jj B;by_cases q0:M%4=0
   .rw[E8 q0]at p;subst p;simp(disch:=omega)only[↓Ce];refine ak (OE W.i_ O) ?_;simp(disch:=omega)only[↓Ce];exact B _ _ ⟨1,0,ofNat v,z,rfl,W.i_,.inl ⟨oo,nop0 W.i_ O⟩⟩
   rw[Fv q0]at p;subst p;simp(disch:=omega)only[↓Ce];refine rK λt p=>?_;refine e_ ?_;by_cases I:M%4=1
   .rw[E8 I]at p;subst p;refine e_ ?_;have D:q9 (O++[HO.o (.cells [.int .i64 0,.int .u8 1,.int .u8 2] 3 true)]) (.slice (some ⟨O.length,0,some 13⟩) 1 2) 3 n4 ym:=h_.ls (n0:=0) (e:=3) (enc:=n4) (λ_=>rfl) (.inr ⟨O.length,2,rfl,C6 _,aD,.inr rfl⟩);exact B _ _ ⟨11,ofNat w,ofNat v,_,rfl,D.i_,.inl ⟨oo,nop1 h3 D⟩⟩
   rw[Fv I]at p;subst p;refine e_ ?_;refine rK λt p=>?_;refine e_ ?_;by_cases J:M%4=2
   .rw[E8 J]at p;subst p;refine e_ ?_;exact B _ _ ⟨3,17,1,_,rfl,rfl,.inl ⟨oo,nop2 O⟩⟩
   rw[Fv J]at p;subst p;refine e_ ?_;exact B _ _ ⟨0,ofNat w,ofNat v,z,rfl,W.i_,.inr ⟨rfl,rfl,rfl,W⟩⟩
  rintro ls g ⟨d,A,y,s,rfl,gz,x⟩;simp(disch:=omega)only[↓Ce];refine ai Pz ?_;simp(disch:=omega)only[↓Ce];obtain⟨L,eL⟩ : ∃L,L=VS w v l G CJ:=⟨_,rfl⟩;obtain⟨a1,a2,Z,a4,a5,a6,a7,Q,E,cS,k1,a9,bb,av,u⟩ : ∃a1 a2 Z a4 a5 a6 a7 Q E,aA cc ac 14 [.i A,.i y,.v s,.i 0,.i 0,.i 0] (g_ aa g) [.i a1,.i a2,.v Z,.i a4,.i a5,.i a6,.v a7,.i Q] (g_ aa E)/\Kp g E/\aF Z=true/\aF a7=true/\(d≠0->Q=d)/\(d=0->(Q=0/\0<L.length)∨(Q=15/\L.length=0)):=by
   rcases x with⟨h,D⟩|⟨rfl,rfl,rfl,S⟩
   .obtain⟨r,c,k⟩:=RC gz D h;exact⟨_,_,_,_,_,_,_,_,r,c,k,rfl,rfl,λ_=>rfl,λe=>absurd e h⟩
   .obtain⟨X,r,c,F,k⟩:=RD pt i' S;rw[←eL]at F;cases hh:L with
    |nil=>
     rw[hh]at F;have F:X=_:=F;subst F;exact⟨_,_,_,_,_,_,_,_,r,c,k,rfl,rfl,λe=>absurd rfl e,λ_=>.inr ⟨rfl,rfl⟩⟩
    |cons q L'=>
     rw[hh]at F;obtain⟨xc,sv,rfl,ho⟩:=F;refine⟨_,_,_,_,_,_,_,_,r,c,k,h_.i_ (e:=3) (enc:=n4) (λ_=>rfl) ho.xo,?_,λe=>absurd rfl e,λ_=>.inl ⟨rfl,c_⟩⟩;obtain⟨L2,ad,_⟩:=ho.st;exact ad.i_ gO
  refine ak cS ?_;simp(disch:=omega)only[↓Ce];refine ai Pz ?_;simp(disch:=omega)only[↓Ce];have V:(d≠0/\NE A y s 0 0 0 d E)∨(d=0/\A=ofNat w/\y=ofNat v/\q9 E s 3 n4 l):=x.imp (λq=>⟨q.1,q.2.mono k1⟩) λq=>⟨q.1,q.2.1,q.2.2.1,q.2.2.2.j9 λj o hj _=>k1 j o hj⟩;obtain⟨n2,Y,N,cC,k2,an,n⟩ : ∃n2 Y N,aA cc ac 13 [.i A,.i y,.v s,.i 0,.i 0,.i 0,.i f] (g_ aa E) [.i n2,.i Y] (g_ aa N)/\Kp E N/\(d≠0->Y=d)/\(d=0->Y=if 1<=f/\f<=1000 then 0 else 1):=by
   rcases V with⟨h,D⟩|⟨rfl,rfl,rfl,S⟩
   .obtain⟨r,c,k⟩:=OR gz f D h
    grind
   .obtain⟨r,c,k⟩:=OS pt i' f S;exact⟨_,_,r,c,k,λe=>absurd rfl e,λ_=>rfl⟩
  refine ak cC ?_;simp(disch:=omega)only[↓Ce];refine ai Pz ?_;simp(disch:=omega)only[↓Ce];have a0:(d≠0/\NE A y s 0 0 0 d N)∨(d=0/\A=ofNat w/\y=ofNat v/\q9 N s 3 n4 l):=V.imp (λq=>⟨q.1,q.2.mono k2⟩) λq=>⟨q.1,q.2.1,q.2.2.1,q.2.2.2.j9 λj o hj _=>k2 j o hj⟩;obtain⟨P,e3,g3,m,cA,gx,U,ag,R,al⟩ : ∃P e3 g3 m,aA cc ac 11 [.i A,.i y,.v s,.i 0,.i 0,.i 0,.i f] (g_ aa N) [.v P,.i e3] (g_ aa g3)/\aF P=true/\GF P=some (ofNat m)/\(d≠0->e3=d/\m=0)/\(d=0->(f<1∨1000<f)->e3=1)/\(d=0->1<=f/\f<=1000->e3=0/\m=(L.take f.toNat).length):=by
   rcases a0 with⟨h,D⟩|⟨rfl,rfl,rfl,S⟩
   .obtain⟨r,c,k⟩:=N8 gz f D h;exact⟨_,_,r,0,c,rfl,rfl,λ_=>⟨rfl,rfl⟩,λe=>absurd e h,λe=>absurd e h⟩
   .obtain⟨X,r,c,I,J,k⟩:=Zp pt i' f S;by_cases C:1<=f/\f<=1000
    .obtain⟨P,L2,rfl,o1,_,o3,_⟩:=J C;have T:=h_.ls (e:=7) (enc:=HU w v CJ.1 CJ.2.1 CJ.2.2) (λ_=>rfl) o1;refine⟨P,0,r,L2.length,c,T.i_,T.len,λe=>absurd rfl e,λ_ q=>a_,λ_ _=>⟨rfl,?_⟩⟩
     grind
    .have:=I a_;subst this;exact⟨_,_,r,0,c,rfl,rfl,λe=>absurd rfl e,λ_ _=>rfl,λ_ q=>absurd q C⟩
  refine ak cA ?_;simp(disch:=omega)only[↓Ce];by_cases h:d=0
  case neg=>
   obtain rfl:=av h;obtain rfl:=an h;obtain⟨rfl,rfl⟩:=ag h;rw[CA h];simp(disch:=omega)only[↓nc]
   try rw[ra rfl]
   try simp(disch:=omega)only[↓nc]
   try rw[ra rfl]
   try simp(disch:=omega)only[↓nc]
   try rw[ra rfl]
   refine km ?_;refine ae U ?_;rw[ra (show ofNat 0=0 from rfl)];refine e_ ?_;refine ai jW ?_;simp(disch:=omega)only[↓nc]
  rw[CN h];simp(disch:=omega)only[↓Ce];have u:=u h;have n:=n h;by_cases I:f<1
  .rw[ub I];refine e_ ?_;rw[te a_]at n;obtain rfl:=R h (.inl I);subst n
   try rw[ra rfl]
   try simp(disch:=omega)only[↓nc]
   rcases u with⟨rfl,_⟩|⟨rfl,_⟩
   .simp(disch:=omega)only[↓nc];refine ai jW ?_;simp(disch:=omega)only[↓nc]
   .simp(disch:=omega)only[↓nc];refine ai jW ?_;simp(disch:=omega)only[↓nc]
  rw[vc a_];simp(disch:=omega)only[↓Ce];by_cases J:1000<f
  .rw[B3 J];refine e_ ?_;rw[te a_]at n;obtain rfl:=R h (.inr J);subst n
   try rw[ra rfl]
   try simp(disch:=omega)only[↓nc]
   rcases u with⟨rfl,_⟩|⟨rfl,_⟩
   .simp(disch:=omega)only[↓nc];refine ai jW ?_;simp(disch:=omega)only[↓nc]
   .simp(disch:=omega)only[↓nc];refine ai jW ?_;simp(disch:=omega)only[↓nc]
  rw[y_ a_];refine e_ ?_;rw[rv a_]at n;obtain⟨rfl,ay⟩:=al h a_;subst n;rw[C1]at ay
  try simp(disch:=omega)only[↓nc]
  rcases u with⟨rfl,hL⟩|⟨rfl,hL⟩
  .rw[ra rfl];refine km ?_;refine ae U ?_;rw[B3 (show(0:Int)<ofNat m by grind)];rw[py]
   try simp only[decide_true]
   refine km ?_;refine ae U ?_;rw[Hh (show ofNat m<=f by grind)];refine e_ ?_;refine ai jW ?_;simp(disch:=omega)only[↓nc]
  .rw[wb oo];refine km ?_;refine ae U ?_;rw[y_ (show ofNat m<=(0:Int)by grind)];rw[py]
   try simp only[decide_true]
   refine km ?_;refine ae U ?_;rw[Hh (show ofNat m<=f by grind)];refine e_ ?_;refine ai jW ?_;simp(disch:=omega)only[↓nc])
 simp_all
end Go.Am
namespace Go.Am
namespace Sx
def uF{i7:Type}{ks:TJ}{enc:i7->Tn}{ok:i7->Prop}(d:∀cs,CC ks cs->∃a,enc a=cs/\ok a):∀(n:Nat) (c:Tn),c.length=n*ks.length->(∀i,i<n->CC ks ((c.drop (i*ks.length)).take ks.length))->∃l:List i7,l.length=n/\l.flatMap enc=c/\∀a∈l,ok a
 |0,c,g,_=>⟨[],rfl,by
   simp_all,λ_ h=>by cases h⟩
 |n+1,c,g,e=>by
  obtain⟨a,h1,j⟩:=d _ (by have:=e 0 a_;rw[Y2,WK]at this;exact this);obtain⟨l,f,k,m⟩:=uF d n (c.drop ks.length) jn (λi p=>by
   have:=e (i+1) a_;rw[n5]
   grind)
  refine⟨a :: l,by simp[f],?_,λb o=>?_⟩
  .simp_all
  grind
def YB{i7:Type}{ks:TJ}{enc:i7->Tn}{ok:i7->Prop}(c:∀a,(enc a).length=ks.length)(d:∀cs,CC ks cs->∃a,enc a=cs/\ok a){h:HL}{x:TR}{n:Nat}{b:Tn}(f:F1 h x ks.length n b)(k:∀i,i<n->CC ks ((b.drop (i*ks.length)).take ks.length)) :
  ∃l:List i7,q9 h x ks.length enc l/\l.length=n/\∀a∈l,ok a:=by
 obtain⟨l,e,g,j⟩:=uF d n b f.1 k;refine⟨l,⟨λa _=>c a,?_⟩,e,j⟩;rw[e,g];exact f
def bE.i{h:HL}{k:TL}{ks:List ED}{ls:TG}(a:bE h (.i k :: ks) ls):∃n r,ls = .i n :: r/\(Lit.int k n).wf=true/\bE h ks r:=by
 match ls,a with
 | .i n :: r,a=>exact⟨n,r,rfl,a.1,a.2⟩
def bE.s{h:HL}{b:TJ}{ks:List ED}{ls:TG}(c:bE h (.s b :: ks) ls):∃x r n a,ls = .v x :: r/\F1 h x b.length n a/\n<=maxLen/\(∀i,i<n->CC b ((a.drop (i*b.length)).take b.length))/\bE h ks r:=by
 match ls,c with
 | .v x :: r,⟨⟨n,a,d,e,f⟩,g⟩=>grind
def bE.nil{h:HL}{ls:TG}(a:bE h [] ls):ls=[]:=by
 match ls,a with
 | [],_=>rfl
def hp_at(a:List ET):TW (a.map λb=>HO.o b.1) 0 a:=λi b c=>by
 simp_all
def TY(T:Tv)(a:List ET):g_ T (a.map λb=>HO.o b.1)=a.map (·.1):=by
 induction a with
 |nil=>rfl
 |cons b l c=>show EA T (.o b.1) :: g_ T (l.map λb=>HO.o b.1)=_;rw[c];rfl
end Sx
end Go.Am
namespace Go.Am
open Sx Go.Proofs
def dec8(cs:Tn)(h:CC [.i .u8,.i .u8,.i .u8] cs):∃a:TX,sL a=cs/\M5 a:=by
 obtain⟨d,e,f,rfl⟩ : ∃d e f,cs=[d,e,f]:=by
  have o:=CC.len h
  match cs,o with
  | [d,e,f],_=>simp_all
 obtain⟨⟨a,rfl,l⟩,⟨b,rfl,m⟩,⟨c,rfl,n⟩,_⟩:=h;have g:=yp l;have j:=yp m;have k:=yp n;exact⟨(a,b,c),rfl,g.1,g.2,j.1,j.2,k.1,k.2⟩
def ga(cs:Tn)(h:CC [.i .u8] cs):∃a:Int,EW a=cs/\(0<=a/\a<=255):=by
 obtain⟨b,rfl⟩ : ∃b,cs=[b]:=by
  have d:=CC.len h
  match cs,d with
  | [b],_=>exact⟨b,rfl⟩
 obtain⟨⟨a,rfl,c⟩,_⟩:=h;exact⟨a,rfl,yp c⟩
def kf(ls:TG)(h:HL)(c:bE h [.i .u8,.i .u8,.s [.i .u8,.i .u8,.i .u8],.s [.i .u8],.i .u8,.i .i64] ls):∃h',aA cc ac 5 ls (g_ aa h) [.b true] (g_ aa h'):=by
 obtain⟨w,ls,rfl,x,c⟩:=c.i;obtain⟨v,ls,rfl,u,c⟩:=c.i;obtain⟨s,ls,n,e,rfl,p,_,q,c⟩:=c.s;obtain⟨B,ls,A,d,rfl,f,_,g,c⟩:=c.s;obtain⟨C,ls,rfl,m,c⟩:=c.i;obtain⟨y,ls,rfl,o,c⟩:=c.i;obtain rfl:=c.nil;obtain⟨l,t,_,r⟩:=YB (enc:=sL) (ok:=M5) (λ_=>rfl) dec8 p q;obtain⟨z,k,_,j⟩:=YB (enc:=EW) (ok:=λa=>0<=a/\a<=255) (λ_=>rfl) ga f g;exact nK (yp x) (yp u) (yp m) t r k j
end Go.Am
namespace Go.Proofs.YtohimaenikegoaaGreatDoor
open Go Go.Am Go.Am.Sx
open Go.ChangeShapes Go.WideShapes Go.ChangeAt Go.WideMaps Go.WideElems Go.RowKit
abbrev H6:List (String×DataW Unit):= [("crimp/moves.turns",Rows.laid_crimp_moves_turns), ("crimp/cells.quarters",Rows.laid_crimp_cells_quarters)]
def x0 : Tryz.prog.globalNamed "crimp/moves.turns" = some 2:=d_
def o5 : Tryz.prog.globalNamed "crimp/cells.quarters" = some 1:=d_
def V'{W:TS}(h:laidMetH Tryz.prog H6 W):∃_:Unit,∀(g:Nat) (vs:Tn),cc.G g=some vs->
  Eo g<W.heap.size/\vs.all bh=true/\∃c e fr,W.heap[Eo g]?=some (.cells c e fr)/\cD (λ_=>none) vs c (Fz g):=by
 rw[MakeChecks.laidMetH_plain _ _ _ d_]at h;obtain⟨d,h,_,_⟩:=h;refine⟨(),λg vs b=>?_⟩;have a:=Vw g vs b;unfold cc at b;simp only at b;split at b
 .cases b;exact vj d_ a d_ (rr h "crimp/moves.turns" Rows.laid_crimp_moves_turns Lk 2 258 8 BP x0 d_ d_)
 .cases b;exact vj d_ a d_ (rr h "crimp/cells.quarters" Rows.laid_crimp_cells_quarters (E7 _ Lk) 1 237 8 w7 o5 d_ d_)
 .cases b
def own:ownKnob Tryz.prog.godebug=none:=d_
def O1(os:Os)(args:Tl):laidMetH Tryz.prog H6 ((World.doorLaid Tryz.prog 400 os).forCall (λ_ _=>0) ⟨#[],args,[]⟩).memory:=
 laidMetH_of_parts3 (fuel:=8) (laidMet_of_run' 8 d_ d_) d_ d_
end Go.Proofs.YtohimaenikegoaaGreatDoor
end

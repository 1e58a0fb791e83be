import Derived.Test.YtohimaenikegoaaGreatDoorOY5
set_option linter.all false
noncomputable section
set_option maxRecDepth 100000
set_option maxHeartbeats 16000000
open Int(ofNat)
open List(range replicate)
namespace Go.Am
open Sx Go.Proofs
section
variable {b:Nat} {c:XC} {U:List Lit} {F:List x_} {pn:Ti} {AT:List K3} {IDS:List (TC)} {CR:TD} {k1:Nat} {mu:Tz} {P:HL->Prop} (R:Ro b c U F pn AT IDS CR k1 mu P)
include R
theorem Q1{h:HL}(M:P h){W:TE}{us:Ty}{J:List (TC)}{lv:Tn}(l:Mt h c k1 W us J lv){st id:Nat}{p:TC}(hp:J[st]?=some (p++[id]))(bm:p.length<=1000000)(S:id<us.length)
  {x:TR} {T:TC} (L:po h x 1 j_ T) (bn:∀j,d_ x=some j->k1<=j/\∀v∈lv,d_ v≠some j) (a9:T.length<=1000000) (a2:∀i∈T,i<W.length) :
  ∃v' h',aI cc ac 76 [.v (i' b),.i (ofNat st),.v x] (f_ aa h) [] (f_ aa h')/\P h'/\Mt h' c k1 (Ii T W) (us.set id false) (J.set st p) (lv.set st v')/\(∀v,lv[st]?=some v->d_ v'=d_ v)/\
   (∀(j:Nat) o,h[j]?=some o->d_ c.va≠some j->d_ c.us≠some j->d_ c.lay≠some j->h'[j]?=some o)/\h'.length=h.length:=by
 have u:=ai hp;have z:st<lv.length:=by rw[l.ln];exact u
 obtain⟨n,d⟩:=aq z;have a7:=Cb d;have bs:=x76 (ls:=[.v (i' b),.i (ofNat st),.v x]) (K:=λrs h'=>rs=[]/\∃v',P h'/\Mt h' c k1 (Ii T W) (us.set id false) (J.set st p) (lv.set st v')/\(∀v,lv[st]?=some v->d_ v'=d_ v)/\
   (∀(j:Nat) o,h[j]?=some o->d_ c.va≠some j->d_ c.us≠some j->d_ c.lay≠some j->h'[j]?=some o)/\h'.length=h.length) (H:=h) (pu (au _) (km (pu L.g_ u_))) (by
  unfold f76;simp only[u7];refine b_ ?_;have r:=l.tr st n _ d hp;have X:(p++[id]).length=p.length+1:=by simp
  refine br (ds:=[c.lay]) (R.hb h M) (by simp[ah]) rfl ?_;refine b_ ?_;refine ab (l.ly.g_ be) ?_;refine j8 ?_;refine aP (l.ly.ls be) rfl d ?_;rw[show CG n=[n]from rfl];refine b_ ?_;refine ab r.g_ ?_;refine j8 ?_;refine bu r.ls ?_;rw[X];have Z:∀K:Int->Prop,K (ofNat p.length)->P1.w7 .sub .i64 (ofNat (p.length+1)) 1 (@hY _ ⟨K⟩):=λK hK=>by
   rw[K0 (by simp_all) (by grind)]
   simp_all
  refine Z _ ?_;refine j8 ?_;refine br (ds:=[c.us]) (R.hb h M) (by simp[ah]) rfl ?_;refine b_ ?_;refine ab (l.us.g_ cM) ?_;refine j8 ?_;refine br (ds:=[c.lay]) (R.hb h M) (by simp[ah]) rfl ?_;refine b_ ?_;refine ab (l.ly.g_ be) ?_;refine j8 ?_;refine aP (l.ly.ls be) rfl d ?_;rw[show CG n=[n]from rfl];refine b_ ?_;refine ab r.g_ ?_;refine j8 ?_;refine aP (a:=id) r.ls rfl (by simp) ?_;rw[show j_ id=[.int .i64 (ofNat id)]from rfl];refine b_ ?_;refine l.us.Jq cM rfl S (a:=false) rfl ?_;intro g1 ax D bd;refine j8 ?_;have N:P g1:=R.keepU M λj o f hb _=>D j o f hb;have k:=l.setU R.s ax D;refine br (ds:=[c.lay]) (R.hb g1 N) (by simp[ah]) rfl ?_;refine b_ ?_;refine ab (k.ly.g_ be) ?_;refine j8 ?_;refine br (ds:=[c.lay]) (R.hb g1 N) (by simp[ah]) rfl ?_;refine b_ ?_;refine ab (k.ly.g_ be) ?_;refine j8 ?_;refine aP (k.ly.ls be) rfl d ?_;rw[show CG n=[n]from rfl];refine b_ ?_;have Q:=k.tr st n _ d hp;refine ab Q.g_ ?_;refine j8 ?_;refine Q.DP rfl ?_;intro v' a0 an ad;refine ab an ?_;refine j8 ?_;refine k.ly.Jq be rfl z (a:=v') rfl ?_;intro A ay E bk;refine j8 ?_
  have a3:=R.s.s3;have Y:∀j,d_ n=some j->k1<=j:=λj f=>l.nb st n j d f;have al:∀(j:Nat) o,h[j]?=some o->d_ c.us≠some j->d_ c.lay≠some j->A[j]?=some o:=λj o f q b2=>E j o (D j o f q) b2;have aE:P A:=R.kp h A M λj o j1 j2 f=>al j o f (λe=>j2 (R.m1 j (.inr (.inl e)))) (λe=>j2 (R.m1 j (.inr (.inr e))));have ap:Mt A c k1 W (us.set id false) (J.set st p) (lv.set st v'):=by
   refine k.H8 R.s u ay (a0.i_ λj o f hb=>E j o f λe=>?_) (λx L=>Y x (by rw[←ad];exact L)) (λj w x a4 hw L a5=>a4 (l.dj j st w n x hw d a5 (by rw[←ad];exact L))) λj o f q _=>E j o f q
   grind
  have ag:po A x 1 j_ T:=L.i_ λj o f hb=>al j o f (λe=>by
   have a1:=(R.s.s2 j e).1
   grind) λe=>by
   grind
  refine bu ag ?_;refine aG (m:=T.length) (λm ls g=>∃j,ls=[.i (ofNat j)]/\m=T.length - j/\j<=T.length/\P g/\Mt g c k1 (Ii (T.take j) W) (us.set id false) (J.set st p) (lv.set st v')/\(∀(i:Nat) o,A[i]?=some o->d_ c.va≠some i->g[i]?=some o)/\g.length=A.length) ⟨0,rfl,rfl,CM _,aE,ap,λi o t _=>t,rfl⟩ ?_;rintro m ls g ⟨j,rfl,rfl,f,O,B,V,bl⟩ a8 I;refine Da ?_;refine b_ ?_;by_cases G:j<T.length
  case neg=>
   obtain rfl:j=T.length:=by omega
   rw[aK (x5 _)];refine b_ ?_
   grind
  rw[aL G];refine b_ ?_;obtain⟨y,hy⟩:=aq G;have a6:po g x 1 j_ T:=ag.i_ λi o t hb=>V i o t λe=>by
   have a1:=(R.s.s1 i e).1
   grind
  refine aP a6 rfl hy ?_;rw[show j_ y=[.int .i64 (ofNat y)]from rfl];refine b_ ?_;refine br (ds:=[c.va]) (R.hb g O) (by simp[ah]) rfl ?_;refine b_ ?_;refine ab (B.va.g_ dZ) ?_;refine j8 ?_;refine B.va.Jq dZ rfl (by rw[LY];exact a2 y (Cb hy)) (a:=0) rfl ?_;intro g' av C bb;refine j8 ?_;rw[aT (by omega)];refine I _ _ _ ?_ ⟨j+1,rfl,rfl,G,R.keepV O λi o t q _=>C i o t q,B.setV R.s ?_ λi o t q _=>C i o t q,λi o t q=>C i o (V i o t q) q,by omega⟩
  .omega
  .rw[H5,hy,show(some y).toList=[y]from rfl,WY];exact av)
 grind
end
def Jr{e id n o cx:Nat}:Et e (.slice (some ⟨id,o,le e⟩) n cx) none (some (ofNat n)) (some (ofNat n))=some (.slice (some ⟨id,o,le e⟩) n (n+1)):=by
 unfold Et;simp only;rw[qs (by simp),n_ (by simp[bT])];simp[ew,bL]
def KG{i6:Type}{h:HL}{e:Nat}{enc:i6->Tn}{l:List i6}(b:po h (.slice none 0 0) e enc l):l=[]:=by
 rcases b.2.2 with⟨_,g⟩|⟨id,c,f,i,d,a,_,_⟩
 .simp_all
 .cases a
def i0{h:HL}{x:TR}{l:TD}(k:po h x 3 my l)(N:l.length<=1000000) :
  ∃b r h',aI cc ac 112 [.v x] (f_ aa h) [.v b] (f_ aa h')/\(∀g:HL,aI cc ac 111 [.v b] (f_ aa g) [.v r] (f_ aa g))/\e_ h.length h' r 3 my l/\aJ b=true/\(∀(j:Nat) o,h[j]?=some o->h'[j]?=some o)/\h.length<=h'.length:=by
 have m:∃b h',aI cc ac 112 [.v x] (f_ aa h) [.v b] (f_ aa h')/\e_ h.length h' b 3 my l/\(∀(j:Nat) o,h[j]?=some o->h'[j]?=some o)/\h.length<=h'.length:=by
  by_cases f:x = .slice none 0 0
  .subst f;refine⟨.slice none 0 0,h,?_,.inl ⟨rfl,KG k⟩,λj o i=>i,x5 _⟩;exact xK x112 (pu rfl u_) (by
    unfold R6;simp only[u7]
    repeat (first|simp(disch:=omega)only[↓mc]|refine ae (x:=true) rfl ?_)
    simp_all)
  .have B:∃a n c,x = .slice (some a) n c:=by
    rcases k.2.2 with⟨C,_⟩|⟨id,D,y,Q,I,rfl,_,_⟩
    .exact absurd C f
    simp_all
   have O:=x112 (ls:=[.v x]) (K:=λG h'=>∃b,G=[.v b]/\e_ h.length h' b 3 my l/\(∀(j:Nat) o,h[j]?=some o->h'[j]?=some o)/\h.length<=h'.length) (H:=h) (pu k.g_ u_) (by
    unfold R6;simp only[u7];refine b_ ?_;obtain⟨a,n,c,rfl⟩:=B;refine ae (x:=false) rfl ?_;refine b_ ?_;have z:e_ h.length (h++[HO.o (.cells [] 3 true)]) (.slice (some ⟨h.length,0,le 3⟩) 0 1) 3 my []:=e_.emp aH (x5 _);refine z.NB (λ_=>rfl) (by simp) (k.pre ⟨_,rfl⟩) (by simp;omega) (by simp;omega) ?_;intro J h' s t u w _;refine b_ ?_;refine ab t ?_;refine j8 ?_;refine⟨J,by trivial,by simpa using s,λj o i=>u j o (dt i) λe=>?_,by simp at w;omega⟩;have L:=ai i;have M:h.length=j:=by simpa[d_]using e
    omega)
   grind
 obtain⟨b,h',p,A,q,d⟩:=m;rcases A with⟨rfl,rfl⟩|⟨id,y,rfl,E,F,P⟩
 .refine⟨.slice none 0 0,.slice none 0 0,h',p,λg=>?_,.inl ⟨rfl,rfl⟩,rfl,q,d⟩;exact xK RZ (pu rfl u_) (by
   unfold R5;simp only[u7]
   repeat (first|simp(disch:=omega)only[↓mc]|refine ae (x:=(0:Int)) rfl ?_|refine ae (x:=Value.slice none 0 0) rfl ?_|refine ab rfl ?_)
   simp_all)
 .refine⟨_,.slice (some ⟨id,0,le 3⟩) l.length (l.length+1),h',p,λg=>?_,.inr ⟨id,_,rfl,E,F,.inr rfl⟩,cT,q,d⟩;exact xK RZ (pu cT u_) (by
   unfold R5;simp only[u7];refine b_ ?_;refine ae (x:=ofNat l.length) rfl ?_;refine ae (x:=ofNat l.length) rfl ?_;refine ae Jr ?_;refine ab cT ?_
   simp_all)
def t2{h:HL}{x:TR}{l:TC}(k:po h x 1 j_ l)(N:l.length<=1000000) :
  ∃b r h',aI cc ac 114 [.v x] (f_ aa h) [.v b] (f_ aa h')/\(∀g:HL,aI cc ac 113 [.v b] (f_ aa g) [.v r] (f_ aa g))/\e_ h.length h' r 1 j_ l/\aJ b=true/\(∀(j:Nat) o,h[j]?=some o->h'[j]?=some o)/\h.length<=h'.length:=by
 have m:∃b h',aI cc ac 114 [.v x] (f_ aa h) [.v b] (f_ aa h')/\e_ h.length h' b 1 j_ l/\(∀(j:Nat) o,h[j]?=some o->h'[j]?=some o)/\h.length<=h'.length:=by
  by_cases f:x = .slice none 0 0
  .subst f;refine⟨.slice none 0 0,h,?_,.inl ⟨rfl,KG k⟩,λj o i=>i,x5 _⟩;exact xK x114 (pu rfl u_) (by
    unfold R8;simp only[u7]
    repeat (first|simp(disch:=omega)only[↓mc]|refine ae (x:=true) rfl ?_)
    simp_all)
  .have B:∃a n c,x = .slice (some a) n c:=by
    rcases k.2.2 with⟨C,_⟩|⟨id,D,y,Q,I,rfl,_,_⟩
    .exact absurd C f
    simp_all
   have O:=x114 (ls:=[.v x]) (K:=λG h'=>∃b,G=[.v b]/\e_ h.length h' b 1 j_ l/\(∀(j:Nat) o,h[j]?=some o->h'[j]?=some o)/\h.length<=h'.length) (H:=h) (pu k.g_ u_) (by
    unfold R8;simp only[u7];refine b_ ?_;obtain⟨a,n,c,rfl⟩:=B;refine ae (x:=false) rfl ?_;refine b_ ?_;have z:e_ h.length (h++[HO.o (.cells [] 1 true)]) (.slice (some ⟨h.length,0,le 1⟩) 0 1) 1 j_ []:=e_.emp aH (x5 _);refine z.NB (λ_=>rfl) (by simp) (k.pre ⟨_,rfl⟩) (by simp;omega) (by simp;omega) ?_;intro J h' s t u w _;refine b_ ?_;refine ab t ?_;refine j8 ?_;refine⟨J,by trivial,by simpa using s,λj o i=>u j o (dt i) λe=>?_,by simp at w;omega⟩;have L:=ai i;have M:h.length=j:=by simpa[d_]using e
    omega)
   grind
 obtain⟨b,h',p,A,q,d⟩:=m;rcases A with⟨rfl,rfl⟩|⟨id,y,rfl,E,F,P⟩
 .refine⟨.slice none 0 0,.slice none 0 0,h',p,λg=>?_,.inl ⟨rfl,rfl⟩,rfl,q,d⟩;exact xK R0 (pu rfl u_) (by
   unfold R7;simp only[u7]
   repeat (first|simp(disch:=omega)only[↓mc]|refine ae (x:=(0:Int)) rfl ?_|refine ae (x:=Value.slice none 0 0) rfl ?_|refine ab rfl ?_)
   simp_all)
 .refine⟨_,.slice (some ⟨id,0,le 1⟩) l.length (l.length+1),h',p,λg=>?_,.inr ⟨id,_,rfl,E,F,.inr rfl⟩,cT,q,d⟩;exact xK R0 (pu cT u_) (by
   unfold R7;simp only[u7];refine b_ ?_;refine ae (x:=ofNat l.length) rfl ?_;refine ae (x:=ofNat l.length) rfl ?_;refine ae Jr ?_;refine ab cT ?_
   simp_all)
abbrev YS:=K3×Value×List Nat
def HH(s:YS):Tn:=EP s.1++[s.2.1]
def sF(s:YS):(HH s).length=4:=rfl
def StO(n0:Nat)(h:HL)(v:Value)(l:List (K3×List Nat)):Prop:=∃L:List YS,e_ n0 h v 4 HH L/\(∀s∈L,e_ n0 h s.2.1 1 j_ s.2.2)/\L.map (λs=>(s.1,s.2.2))=l
section
variable {b:Nat} {c:XC} {U:List Lit} {F:List x_} {pn:Ti} {AT:List K3} {IDS:List (TC)} {CR:TD} {k1:Nat} {mu:Tz} {P:HL->Prop} (R:Ro b c U F pn AT IDS CR k1 mu P)
include R
theorem WJ{h:HL}(J:P h){W:TE}{us:Ty}{n:List (TC)}{lv:Tn}(hM:Mt h c k1 W us n lv)(ad:n.length=AT.length)(ag:∀l∈n,l.length<=1000000) :
  ∃xc X h',aI cc ac 74 [.v (i' b)] (f_ aa h) [.i (ofNat c.w),.i (ofNat c.v),.v xc,.i (ofNat c.r.1),.i c.r.2.1,.i c.r.2.2,.v X] (f_ aa h')/\
   e_ h.length h' xc 3 my CR/\StO h.length h' X (AT.zip n)/\(∀(j:Nat) o,h[j]?=some o->h'[j]?=some o)/\h.length<=h'.length:=by
 have bb:=x74 (ls:=[.v (i' b)]) (K:=λrs h'=>∃xc X,rs=[.i (ofNat c.w),.i (ofNat c.v),.v xc,.i (ofNat c.r.1),.i c.r.2.1,.i c.r.2.2,.v X]/\
   e_ h.length h' xc 3 my CR/\StO h.length h' X (AT.zip n)/\(∀(j:Nat) o,h[j]?=some o->h'[j]?=some o)/\h.length<=h'.length) (H:=h) (pu (au _) u_) (by
  unfold f74;simp only[u7];refine b_ ?_;refine br (ds:=[.int .i64 (ofNat c.w),.int .i64 (ofNat c.v),c.xc]) (R.hb h J) (by simp[ah]) rfl ?_;refine b_ ?_;have hC:=R.xc h J;refine ab hC.g_ ?_;refine j8 ?_;obtain⟨x1,xc,f,c1,c2,o1,a4,T,aE⟩:=i0 hC R.cl;refine am c1 ?_;refine b_ ?_;refine am (c2 f) ?_;refine b_ ?_;have q:P f:=R.kp h f J λj o _ _ Q=>T j o Q;refine jK (ds:=[.int .u8 (ofNat c.r.1),.int .i64 c.r.2.1,.int .i64 c.r.2.2]) (R.hb f q) (by simp[ah]) rfl ?_;refine b_ ?_;refine br (ds:=[c.at_]) (R.hb f q) (by simp[ah]) rfl ?_;refine b_ ?_;have E:=R.ia f q;refine ab E.g_ ?_;refine j8 ?_;refine bu E ?_;refine ae (dM (by have:=R.al;omega)) ?_;refine j8 ?_;have a1:=R.lt h J;have a6:=R.bk;refine ae (x:=()) (cY (bS ⟨_,_,_,rfl⟩ λi d=>?_) eR) ?_
  .have:f.length=i:=by simpa[d_]using d
   omega
  have ay:(ofNat AT.length).toNat=AT.length:=rfl;rw[ay];have z0:HO.o (.cells (aN [.int .i64 0,.int .i64 0,.int .u8 0,.slice none 0 0] AT.length) 4 true)=HO.o (.cells ((replicate AT.length (((0,0,0),.slice none 0 0,[]):YS)).flatMap HH) 4 true):=by
   rw[←cS];rfl
  rw[z0];obtain⟨k,e2⟩ : ∃k,k=f++[HO.o (.cells ((replicate AT.length (((0,0,0),.slice none 0 0,[]):YS)).flatMap HH) 4 true)]:=⟨_,rfl⟩;rw[←e2];have av:k[f.length]?=some (.o (.cells ((replicate AT.length (((0,0,0),.slice none 0 0,[]):YS)).flatMap HH) 4 true)):=by rw[e2];exact aH
  have D:∀(j:Nat) o,f[j]?=some o->k[j]?=some o:=λj o Q=>by grind
  have bd:k.length=f.length+1:=by rw[e2];simp
  have M:P k:=R.kp f k q λj o _ _ Q=>D j o Q;refine j8 ?_;refine br (ds:=[c.at_]) (R.hb k M) (by simp[ah]) rfl ?_;refine b_ ?_;have G:=R.ia k M;refine ab G.g_ ?_;refine j8 ?_;refine bu G ?_;have a2:(AT.zip n).length=AT.length:=by simp_all
  refine aG (m:=AT.length) (λm ls g=>∃j L,ls=[.i (ofNat j)]/\m=AT.length - j/\j<=AT.length/\L.length=AT.length/\e_ h.length g (.slice (some ⟨f.length,0,le 4⟩) AT.length (AT.length+1)) 4 HH L/\(∀s∈L,e_ h.length g s.2.1 1 j_ s.2.2/\d_ s.2.1≠some f.length)/\(L.take j).map (λs=>(s.1,s.2.2))=(AT.zip n).take j/\
   (∀(i:Nat) o,k[i]?=some o->i≠f.length->g[i]?=some o)/\k.length<=g.length) ⟨0,replicate AT.length ((0,0,0),.slice none 0 0,[]),rfl,rfl,CM _,qcJ ..,.inr ⟨f.length,_,by rw[qcJ],aE,av,.inr (by simp_all)⟩,λs A=>by
    rw[qdc A];exact⟨.inl ⟨rfl,rfl⟩,λe=>by cases e⟩,rfl,λi o d _=>d,x5 _⟩ ?_
  rintro m ls g ⟨j,L,rfl,rfl,Q,a0,I,O,ax,z,a9⟩ a3 B;refine Da ?_;have C:∀(i:Nat) o,h[i]?=some o->g[i]?=some o:=λi o d=>z i o (D i o (T i o d)) (by grind);have N:P g:=R.kp h g J λi o _ _ d=>C i o d;have u:Mt g c k1 W us n lv:=hM.i_ λi o d _=>C i o d;refine b_ ?_;by_cases t:j<AT.length
  case neg=>
   obtain rfl:j=AT.length:=by omega
   rw[aK (x5 _)];refine b_ ?_;refine⟨xc,_,rfl,o1.i_ λi o d Y=>z i o (D i o d) (by grind),⟨L,I,λs A=>(O s A).1,?_⟩,λi o d=>C i o d,by omega⟩
   grind
  rw[aL t];refine b_ ?_;obtain⟨a,ha⟩:=aq t;refine aP (R.ia g N) rfl ha ?_;rw[show EP a=[.int .i64 a.1,.int .i64 a.2.1,.int .u8 (ofNat a.2.2)]from rfl];refine b_ ?_;refine br (ds:=[c.lay]) (R.hb g N) (by simp[ah]) rfl ?_;refine b_ ?_;refine ab (u.ly.g_ be) ?_;refine j8 ?_;obtain⟨v,hv⟩:=aq (l:=lv) (i:=j) (by rw[hM.ln,ad];exact t);obtain⟨p,hp⟩:=aq (l:=n) (i:=j) (by omega);refine aP (u.ly.ls be) rfl hv ?_;rw[show CG v=[v]from rfl];refine b_ ?_;have hT:=(u.tr j v p hv hp).ls;refine ab hT.g_ ?_;refine j8 ?_;obtain⟨y1,Z,g',c3,c4,o3,a5,k3,l3⟩:=t2 hT (ag p (Cb hp));refine am c3 ?_;refine b_ ?_;refine am (c4 g') ?_;refine b_ ?_;have an:e_ h.length g' (.slice (some ⟨f.length,0,le 4⟩) AT.length (AT.length+1)) 4 HH L:=I.i_ λi o d _=>k3 i o d;refine an.Jq sF rfl (by omega) (a:=(a,Z,p)) rfl ?_;intro g4 ap y a8;refine j8 ?_;rw[aT (by have:=R.al;omega)];have a7:f.length<g.length:=by omega
  refine B _ _ _ ?_ ⟨j+1,L.set j (a,Z,p),rfl,rfl,t,by grind,ap,λs A=>?_,?_,λi o d S=>y i o (k3 i o (z i o d S)) λe=>S (by cases e;rfl),by omega⟩
  .omega
  .rcases t3 A with A|rfl
   .obtain⟨q1,V⟩:=O s A;refine⟨q1.i_ λi o d Y=>y i o (k3 i o d) λe=>V ?_,V⟩;rw[Y,←e];rfl
   .have V:d_ Z≠some f.length:=λe=>by
     have:=(o3.d_ e).1;omega
    refine⟨?_,V⟩;have o5:e_ g.length g4 Z 1 j_ p:=o3.i_ λi o d Y=>y i o d λe=>V (by rw[Y,←e];rfl);rcases o5 with h0|⟨id,cx,r1,r2,r3⟩
    .exact .inl h0
    .exact .inr ⟨id,cx,r1,by omega,r3⟩
  .rw[H5,H5,Iu,List.take_set_of_le (by omega),ax]
   grind)
 grind
end
end Go.Am
namespace Go.Am
open Sx
structure Gl(IDS:List (TC))(N:Nat):Prop where
 ne:∀l∈IDS,l≠[]
 lt:∀l∈IDS,∀x∈l,x<N
 nd:∀l∈IDS,l.Nodup
 dj:IDS.Pairwise λa b=>∀x∈a,x∉b
structure Ny(U:List Lit)(pn:Ti)(S:(Nat->Bool)->Prop)(F:List x_)(N:Nat)(W:TE)(us:Ty)(I0:List (TC))(D:List (TC))(p ids:TC)(Q:List (TC)):Prop where
 nod:L0 U pn S W D p (Cx us ids)
 ul:us.length=N
 dl:D.length=I0.length
 pm:(p++Cx us ids).Perm ids
 dm:∀(i:Nat) d l,D[i]?=some d->I0[i]?=some l->d.Perm l
 fr:∀l∈Q,∀x∈l,us.getD x false=false
 ev:(p≠[]∨D≠[])->Hv U W F
section
variable {U:List Lit} {pn:Ti} {S:(Nat->Bool)->Prop} {F:List x_} {N:Nat} {W:TE} {us:Ty} {I0 D:List (TC)} {p ids:TC} {Q:List (TC)} (g:Gl (I0++ids :: Q) N) (hn:Ny U pn S F N W us I0 D p ids Q)
include g hn
theorem Ny.child{id:Nat}(hY:id∈Cx us ids){c:TE}(h1:L0 U pn S c D (p++[id]) ((Cx us ids).erase id))(i:Hv U c F):Ny U pn S F N c (us.set id true) I0 D (p++[id]) ids Q:=by
 have f:ids∈I0++ids :: Q:=by simp
 obtain⟨d,m⟩:=pH.1 hY;have b:=tt (us:=us) (g.nd ids f) (id:=id) (by rw[hn.ul];exact g.lt ids f id d);refine⟨by rw[b];exact h1,by rw[Fy];exact hn.ul,hn.dl,?_,hn.dm,λl b x h=>?_,λ_=>i⟩
 .rw[b,EC];refine List.Perm.trans ?_ hn.pm
  grind
 .have a:=g.dj;rw[hR]at a;have j:=(Je.1 a.2.1).1 l b id d;have k:id≠x:=λe=>j (by rw[e];exact h);have:=hn.fr l b x h
  simp_all
theorem Ny.pne(h0:Cx us ids=[]):p≠[]:=λe=>by
 have:=hn.pm;rw[h0,e]at this;exact g.ne ids (by simp) this.symm.eq_nil
theorem Ny.next{l:TC}{h:List (TC)}(h0:Cx us ids=[])(j:Q=l :: h):Ny U pn S F N W us (I0++[ids]) (D++[p]) [] l h:=by
 subst j;have k:Cx us l=l:=by
  unfold Cx;rw[qcU];intro x m;rw[hn.fr l (by simp) x m];rfl
 have b:=hn.nod;rw[h0]at b;refine⟨by rw[k];exact b.next,hn.ul,by simp[hn.dl],by simp_all,λi d f c a=>?_,λf a=>hn.fr f (by simp[a]),λ_=>hn.ev (.inl (Ny.pne g hn h0))⟩;rw[n3]at c a;by_cases e:i<D.length
 .rw[n_ e]at c;rw[n_ (by rw[←hn.dl];exact e)]at a;exact hn.dm i d f c a
 .rw[qs e]at c;rw[qs (by rw[←hn.dl];exact e),←hn.dl]at a;have:i - D.length=0:=by
   grind
  rw[this]at c a;cases c;cases a;have:=hn.pm
  simp_all
theorem Ny.leaf{r:TF}(m:Hn U r)(h0:Cx us ids=[])(n:Q=[])(t:∀f∈F,∀l∈[f.1,f.2.1,f.2.2.1,f.2.2.2],∃q∈I0++ids :: Q,∃a∈q,∃b∈q,a≠b/\l=CO pn a b):Db pn S F (D++[p])=true:=by
 subst n;have c:=hn.nod;rw[h0]at c;refine c.leaf m (hn.ev (.inl (Ny.pne g hn h0))) λf j l u=>?_;obtain⟨q,h,a,w,b,x,o,e⟩:=t f j l u;rcases Ed.1 h with h|h
 .obtain⟨i,k⟩:=DZ h;obtain⟨d,s⟩:=aq (l:=D) (i:=i) (by rw[hn.dl];exact ai k);have v:=hn.dm i d q s k
  grind
 .rw[Fm]at h;subst h;have v:=hn.pm
  grind
end
section
variable {g9:Type} (f:List (TC)->g9->g9×Bool) (ok:List (TC)->Bool)
def So(D:List (TC))(p r:TC)(Q:List (TC))(l:TC):List (List (TC)):=l.flatMap λa=>Fh D (p++[a]) (r.erase a) Q
def Kv{D:List (TC)}{p r:TC}{Q:List (TC)}(a:r≠[]):So D p r Q r=Fh D p r Q:=(zj a).symm
def wX{D:List (TC)}{p r:TC}{Q:List (TC)}{l m:TC}:(So D p r Q (l++m)).filter ok=(So D p r Q l).filter ok++(So D p r Q m).filter ok:=by
 unfold So
 simp_all
def Kw{D:List (TC)}{p r:TC}{Q:List (TC)}{a:Nat}:So D p r Q [a]=Fh D (p++[a]) (r.erase a) Q:=by
 unfold So;simp
end
end Go.Am
namespace Go.Am
open Sx Go.Proofs
def Mq(l:Nat):IP (.func (.yield l) #[] #[]) (.func (.yield l) #[] #[])=some ():=by
 unfold IP
 simp_all
abbrev stY(c:XC)(xc a:Value):List S0:=[.agg [.i .i64 (ofNat c.w),.i .i64 (ofNat c.v),.v xc,.i .u8 (ofNat c.r.1),.i .i64 c.r.2.1,.i .i64 c.r.2.2,.v a]]
structure Yl{g9:Type}(l:Nat)(c:XC)(AT:List K3)(CR:TD)(k1:Nat)(mu:Tz)(f:List (TC)->g9->g9×Bool)(X:List (List (TC)))(live:g9->Prop)(J:g9->(Nat->Prop)->HL->Prop):Prop where
 kp:∀s B h h',J s B h->(∀(j:Nat) o,B j->h[j]?=some o->h'[j]?=some o)->J s B h'
 lt:∀s B h,J s B h->∀j,B j->j<h.length
 sp:∀s B h,J s B h->∀j,B j->(mu j∨k1<=j)/\d_ c.va≠some j/\d_ c.us≠some j/\d_ c.lay≠some j
 y:∀s B h,J s B h->live s->∀x∈X,∀n0 xc sv,(∀j,B j->j<n0)->n0<=h.length->e_ n0 h xc 3 my CR->StO n0 h sv (AT.zip x)->
  ∃h' B',io cc l (ak (stY c xc sv)) (f_ aa h) (.bool (f x s).2) (f_ aa h')/\J (f x s).1 B' h'/\(∀(j:Nat) o,h[j]?=some o->¬B j->j<n0->h'[j]?=some o)/\h.length<=h'.length/\(∀j,B' j->B j∨n0<=j)/\((f x s).2=true->live (f x s).1)
def ID(q1 q2 q3:Nat):Value:=.func (.func 73) ⟨[]⟩ ⟨[i' q1,i' q2,i' q3]⟩
structure Qc(h:HL)(b l q1 q2 q3:Nat):Prop where
 c1:h[q1]?=some (.o (.cells [i' b] 1 true))
 c2:h[q2]?=some (.o (.cells [.func (.yield l) #[] #[]] 1 true))
 c3:h[q3]?=some (.o (.cells [ID q1 q2 q3] 1 true))
def Qc.i_{h h':HL}{b l q1 q2 q3:Nat}(c:Qc h b l q1 q2 q3)(a:∀(j:Nat) o,h[j]?=some o->j=q1∨j=q2∨j=q3->h'[j]?=some o):Qc h' b l q1 q2 q3:=
 ⟨a _ _ c.c1 (.inl rfl),a _ _ c.c2 (.inr (.inl rfl)),a _ _ c.c3 (.inr (.inr rfl))⟩
section
variable {b:Nat} {c:XC} {U:List Lit} {F:List x_} {pn:Ti} {AT:List K3} {IDS:List (TC)} {CR:TD} {k1:Nat} {mu:Tz} {P:HL->Prop} (R:Ro b c U F pn AT IDS CR k1 mu P)
 {g9:Type} {l:Nat} {f:List (TC)->g9->g9×Bool} {X:List (List (TC))} {live:g9->Prop} {J:g9->(Nat->Prop)->HL->Prop} (Y:Yl l c AT CR k1 mu f X live J)
include R Y
theorem Z_{h:HL}(p:P h){W:TE}{us:Ty}{a:List (TC)}{lv:Tn}(z:Mt h c k1 W us a lv)(m:a.length=AT.length)(n:∀l∈a,l.length<=1000000){q1 q2 q3:Nat}(e:Qc h b l q1 q2 q3){s:g9}{B:Tz}(u:J s B h)(r:live s)(A:a∈X) :
  ∃h' B',aI cc ac 73 [.i (ofNat AT.length),.v (i' q1),.v (i' q2),.v (i' q3)] (f_ aa h) [.b (f a s).2] (f_ aa h')/\J (f a s).1 B' h'/\(∀(j:Nat) o,h[j]?=some o->¬B j->h'[j]?=some o)/\h.length<=h'.length/\(∀j,B' j->B j∨h.length<=j)/\((f a s).2=true->live (f a s).1):=by
 have D:=x73 (ls:=[.i (ofNat AT.length),.v (i' q1),.v (i' q2),.v (i' q3)]) (K:=λL h'=>L=[.b (f a s).2]/\∃B',J (f a s).1 B' h'/\(∀(j:Nat) o,h[j]?=some o->¬B j->h'[j]?=some o)/\h.length<=h'.length/\(∀j,B' j->B j∨h.length<=j)/\((f a s).2=true->live (f a s).1)) (H:=h) (km (pu (au _) (pu (au _) (pu (au _) u_)))) (by
  unfold f73;simp only[u7];refine b_ ?_;refine cU (bz e.c1) rfl ?_;refine b_ ?_;refine ab (au _) ?_;refine j8 ?_;refine br (ds:=[c.at_]) (R.hb h p) (by simp[ah]) rfl ?_;refine b_ ?_;have hA:=R.ia h p;refine ab hA.g_ ?_;refine j8 ?_;refine bu hA ?_;rw[s_ rfl];refine b_ ?_;refine cU (bz e.c2) rfl ?_;refine b_ ?_;refine ab rfl ?_;refine j8 ?_;refine cU (bz e.c1) rfl ?_;refine b_ ?_;refine ab (au _) ?_;refine j8 ?_;obtain⟨xc,w,g,x,G,I,d,E⟩:=WJ R p z m n;refine am x ?_;refine b_ ?_;have k:J s B g:=Y.kp s B h g u λj o _ q=>d j o q;obtain⟨h',B',C,M,N,O,Q,S⟩:=Y.y s B g k r a A h.length xc w (λj q=>Y.lt s B h u j q) E G I;have t:=d _ _ e.c2;refine cU (bz t) rfl ?_;refine b_ ?_;refine ab rfl ?_;refine j8 ?_;refine ae (Mq l) ?_;refine j8 ?_;refine V0 (ys:=stY c xc w) C ?_;refine b_ ?_
  grind)
 grind
end
def Bf{i6:Type}{h:HL}{v:TR}{e:Nat}{enc:i6->Tn}{l:List i6}(c:po h v e enc l){j:Nat}(a:d_ v=some j):j<h.length:=by
 rcases c.2.2 with⟨rfl,_⟩|⟨id,d,g,i,f,rfl,b,_⟩
 .cases a
 .cases a;exact ai b
def kJ(q1 q2 q3:Nat):aJ (ID q1 q2 q3)=true:=by simp[ID,aJ,l_,aV,bF,bo,aR,aD]
def KL{i6:Type}{a:i6}:∀ {D Z:List i6} {x:i6},(D++x :: Z).set D.length a=D++a :: Z
 | [],_,_=>rfl
 |d :: D,Z,x=>by
  simp_all
def zr{i6:Type}{D Z:List i6}{x:i6}:(D++x :: Z)[D.length]?=some x:=by
 simp_all
structure Sep(lv:Tn)(B:Tz)(k1 q1 q2 q3:Nat):Prop where
 lb:∀v∈lv,∀j,d_ v=some j->¬B j
 q:∀j,j=q1∨j=q2∨j=q3->k1<=j/\¬B j/\∀v∈lv,d_ v≠some j
section
variable {b:Nat} {c:XC} {U:List Lit} {F:List x_} {pn:Ti} {AT:List K3} {IDS:List (TC)} {CR:TD} {k1:Nat} {mu:Tz} {P:HL->Prop} (R:Ro b c U F pn AT IDS CR k1 mu P)
 {g9:Type} {l:Nat} {f:List (TC)->g9->g9×Bool} {X:List (List (TC))} {live:g9->Prop} {J:g9->(Nat->Prop)->HL->Prop} (Y:Yl l c AT CR k1 mu f X live J)
 {r:TF} (hF:Hn U r) {N:Nat} (hG:Gl IDS N) (hf0:∀f∈F,∀l∈[f.1,f.2.1,f.2.2.1,f.2.2.2],∃q∈IDS,∃a∈q,∃b∈q,a≠b/\l=CO pn a b) {S:(Nat->Bool)->Prop} {q1 q2 q3:Nat}
include R Y hF hG hf0
theorem Ca:∀(m:Nat) (I0 D:List (TC)) (p d:TC) (Q:List (TC)) (W:TE) (us:Ty) (lv:Tn) (h:HL) (s:g9) (B:Tz),m=(Q.map λl=>l.length+1).sum+(Cx us d).length->IDS=I0++d :: Q->Ny U pn S F N W us I0 D p d Q->(∀x∈Fh D p (Cx us d) Q,x∈X)->P h->Mt h c k1 W us (D++p :: Q.map λ_=>[]) lv->
  Qc h b l q1 q2 q3->Sep lv B k1 q1 q2 q3->J s B h->live s->
  ∃h' B' ad,aI cc ac 73 [.i (ofNat D.length),.v (i' q1),.v (i' q2),.v (i' q3)] (f_ aa h) [.b (Gi f ((Fh D p (Cx us d) Q).filter (Db pn S F)) s).2] (f_ aa h')/\P h'/\Mt h' c k1 W us (D++p :: Q.map λ_=>[]) ad/\
   J (Gi f ((Fh D p (Cx us d) Q).filter (Db pn S F)) s).1 B' h'/\((Gi f ((Fh D p (Cx us d) Q).filter (Db pn S F)) s).2=true->live (Gi f ((Fh D p (Cx us d) Q).filter (Db pn S F)) s).1)/\
   (∀v∈ad,∀j,d_ v=some j->((∃w∈lv,d_ w=some j)∨h.length<=j)/\¬B' j)/\(∀j,B' j->B j∨h.length<=j)/\(∀(j:Nat) o,k1<=j->h[j]?=some o->(∀v∈lv,d_ v≠some j)->¬B j->h'[j]?=some o)/\h.length<=h'.length:=by
 intro m
 induction m using Nat.strongRecOn with
 |_ m ih=>
 intro I0 D p d Q W us lv h s B hm hI hN hX hP hM hq hs hJ M;have eu:D.length=I0.length:=hN.dl;have dC:IDS.length=I0.length+(Q.length+1):=by rw[hI];simp
 have em:=R.il;have ag:IDS[D.length]?=some d:=by grind
 have bx:(D++p :: Q.map λ_=>([]:TC))[D.length]?=some p:=zr;have av:(D++p :: Q.map λ_=>([]:TC)).length=AT.length:=by
  simp;omega
 have ay:d∈IDS:=Cb ag;obtain⟨d9,eA,eC⟩:=R.ib d ay;have eD:p.length+(Cx us d).length=d.length:=by
  have:=hN.pm.length_eq
  grind
 obtain⟨v0,dj⟩:=aq (l:=lv) (i:=D.length) (by rw[hM.ln,av];omega);have cs:=hM.tr D.length v0 p dj bx;obtain⟨vs,i2,i4⟩:=R.ids;obtain⟨i1,i3⟩:=i4 h hP;obtain⟨vi,a8⟩:=aq (l:=vs) (i:=D.length) (by omega);have a5:=i3 D.length vi d a8 ag;have et:D.length<=1000000:=by have:=R.al;omega
 obtain⟨V,eV⟩ : ∃V,V=Gi f ((Fh D p (Cx us d) Q).filter (Db pn S F)) s:=⟨_,rfl⟩;rw[←eV];have eM:=x73 (ls:=[.i (ofNat D.length),.v (i' q1),.v (i' q2),.v (i' q3)]) (K:=λrs h'=>rs=[.b V.2]/\∃B' ad,P h'/\Mt h' c k1 W us (D++p :: Q.map λ_=>[]) ad/\J V.1 B' h'/\(V.2=true->live V.1)/\
   (∀v∈ad,∀j,d_ v=some j->((∃w∈lv,d_ w=some j)∨h.length<=j)/\¬B' j)/\(∀j,B' j->B j∨h.length<=j)/\(∀(j:Nat) o,k1<=j->h[j]?=some o->(∀v∈lv,d_ v≠some j)->¬B j->h'[j]?=some o)/\h.length<=h'.length) (H:=h) (km (pu (au _) (pu (au _) (pu (au _) u_)))) (by
  unfold f73;simp only[u7];refine b_ ?_;refine cU (bz hq.c1) rfl ?_;refine b_ ?_;refine ab (au _) ?_;refine j8 ?_;refine br (ds:=[c.at_]) (R.hb h hP) (by simp[ah]) rfl ?_;refine b_ ?_;have hA:=R.ia h hP;refine ab hA.g_ ?_;refine j8 ?_;refine bu hA ?_;rw[ua (λe=>by grind)];refine b_ ?_;refine cU (bz hq.c1) rfl ?_;refine b_ ?_;refine ab (au _) ?_;refine j8 ?_;refine br (ds:=[c.lay]) (R.hb h hP) (by simp[ah]) rfl ?_;refine b_ ?_;refine ab (hM.ly.g_ be) ?_;refine j8 ?_;refine aP (hM.ly.ls be) rfl dj ?_;rw[show CG v0=[v0]from rfl];refine b_ ?_;refine ab cs.g_ ?_;refine j8 ?_;refine bu cs.ls ?_;refine cU (bz hq.c1) rfl ?_;refine b_ ?_;refine ab (au _) ?_;refine j8 ?_;refine br (ds:=[c.ids]) (R.hb h hP) (by simp[ah]) rfl ?_;refine b_ ?_;refine ab i1.g_ ?_;refine j8 ?_;refine aP i1 rfl a8 ?_;rw[show CG vi=[vi]from rfl];refine b_ ?_;refine ab a5.g_ ?_;refine j8 ?_;refine bu a5 ?_;by_cases hr:Cx us d=[]
  · -- a stack is done
   have eb:(Cx us d).length=0:=by rw[hr];rfl
   rw[s_ (congrArg ofNat (by omega))];refine b_ ?_;refine cU (bz hq.c3) rfl ?_;refine b_ ?_;refine ab (kJ q1 q2 q3) ?_;refine j8 ?_;rw[aT (by omega),show ofNat D.length+1=ofNat (D.length+1)from rfl];cases hQ:Q with
   |nil=>
    subst hQ;have b0:=hN.leaf (hI▸hG) hF hr rfl (λf hf l hl=>by
     have:=hf0 f hf l hl
     rwa [hI]at this)
    have d2:D++[p]∈X:=hX _ (by rw[hr,zh];simp);have bC:V=((f (D++[p]) s).1,(f (D++[p]) s).2):=by
     rw[eV,hr,zh,qdm,b0,n_ rfl,List.filter_nil,oD];cases ev:(f (D++[p]) s).2 with
     |true=>rfl
     |false=>rfl
    have dA:D.length+1=AT.length:=by simp at dC;omega
    rw[dA];obtain⟨h',B',cf,j1,j2,j3,j4,j5⟩:=Z_ R Y hP hM av (λl hl=>by
     obtain⟨i,n⟩:=DZ hl;rcases Ed.1 hl with hl|hl
     .obtain⟨i,n⟩:=DZ hl;obtain⟨l2,aE⟩:=aq (l:=I0) (i:=i) (by grind);rw[(hN.dm i l l2 n aE).length_eq];exact(R.ib l2 (by grind)).2.1
     grind) hq hJ M d2
    refine iT (iz cf rfl [.leaf (.i .i64 (ofNat AT.length)),.leaf (.v (i' q1)),.leaf (.v (i' q2)),.leaf (.v (i' q3))] rfl rfl rfl) ?_;refine b_ ?_;rw[bC];refine⟨by trivial,B',lv,R.kp h h' hP λj o jk jm hj=>j2 j o hj λhB=>?_,hM.i_ λj o hj hb=>j2 j o hj λhB=>?_,j1,j5,λv z j hj=>⟨.inl ⟨v,z,hj⟩,λhB=>?_⟩,j4,λj o _ hj _ hB=>j2 j o hj hB,j3⟩
    .rcases(Y.sp s B h hJ j hB).1 with e|e
     .exact jm e
     .omega
    .obtain⟨_,a1,a2,a3⟩:=Y.sp s B h hJ j hB;rcases hb with hb|hb|hb|⟨v,z,hb⟩
     .exact a1 hb
     .exact a2 hb
     .exact a3 hb
     .exact hs.lb v z j hb hB
    .rcases j4 j hB with e|e
     .exact hs.lb v z j hj e
     .obtain⟨i,n⟩:=DZ z;obtain⟨l2,aE⟩:=aq (l:=D++p :: ([]:List (TC)).map λ_=>([]:TC)) (i:=i) (by rw[←hM.ln];exact ai n);have:=(hM.tr i v l2 n aE).lt hj;omega
   |cons l0 Q'=>
    subst hQ;have c4:Cx us l0=l0:=by
     unfold Cx;rw[qcU];intro x hx;rw[hN.fr l0 (by simp) x hx];rfl
    have dT:=hN.next (hI▸hG) hr rfl
    have cl:D++p :: (l0 :: Q').map (λ_=>([]:TC))=(D++[p])++[] :: Q'.map λ_=>[]:=by simp
    have bC:V=Gi f ((Fh (D++[p]) [] (Cx us l0) Q').filter (Db pn S F)) s:=by rw[eV,hr,zi,c4]
    obtain⟨h',B',ad,cf,r1,r2,r3,r4,r5,r6,r7,r8⟩:=ih ((Q'.map λl=>l.length+1).sum+(Cx us l0).length) (by grind) (I0++[d]) (D++[p]) [] l0 Q' W us lv h s B rfl (by rw[hI];simp) dT (λx hx=>hX x (by rw[hr,zi];rwa [c4]at hx)) hP (by rw[←cl];exact hM) hq hs hJ M;rw[←bC]at cf r3 r4;rw[show(D++[p]).length=D.length+1 from by simp]at cf;refine iT (iz cf rfl [.leaf (.i .i64 (ofNat (D.length+1))),.leaf (.v (i' q1)),.leaf (.v (i' q2)),.leaf (.v (i' q3))] rfl rfl rfl) ?_;refine b_ ?_;rw[←cl]at r2;exact⟨by trivial,B',ad,r1,r2,r3,r4,r5,r6,r7,r8⟩
  · -- something is left
   have eb:=kE.2 hr;rw[ua (λe=>by grind)];refine b_ ?_;refine cU (bz hq.c1) rfl ?_;refine b_ ?_;refine ab (au _) ?_;refine j8 ?_;refine br (ds:=[c.ids]) (R.hb h hP) (by simp[ah]) rfl ?_;refine b_ ?_;refine ab i1.g_ ?_;refine j8 ?_;refine aP i1 rfl a8 ?_;rw[show CG vi=[vi]from rfl];refine b_ ?_;refine ab a5.g_ ?_;refine j8 ?_;refine bu a5 ?_;have eg:Mt h c k1 W us (D++p :: Q.map λ_=>[]) lv:=hM;have d8:∀ {g:HL} {u:Tn} {W2:TE} {dr:Ty} {bt:List (TC)},Mt g c k1 W2 dr bt u->∀v∈u,∀i,d_ v=some i->i<g.length:=λ{g u W2 dr bt} cm v z i n=>by
    obtain⟨k,hk⟩:=DZ z;obtain⟨l2,aE⟩:=aq (l:=bt) (i:=k) (by rw[←cm.ln];exact ai hk);exact(cm.tr k v l2 hk aE).lt n
   refine aG (m:=d.length) (λm ls g=>∃j u I s2,ls=[.i (ofNat j)]/\m=d.length - j/\j<=d.length/\P g/\Mt g c k1 W us (D++p :: Q.map λ_=>[]) u/\Gi f ((So D p (Cx us d) Q (Cx us (d.take j))).filter (Db pn S F)) s=(s2,true)/\J s2 I g/\live s2/\
    (∀v∈u,∀i,d_ v=some i->((∃w∈lv,d_ w=some i)∨h.length<=i)/\¬I i)/\(∀i,I i->B i∨h.length<=i)/\(∀(i:Nat) o,k1<=i->h[i]?=some o->(∀v∈lv,d_ v≠some i)->¬B i->g[i]?=some o)/\h.length<=g.length)
    ⟨0,lv,B,s,rfl,rfl,CM _,hP,hM,rfl,hJ,M,λv z i n=>⟨.inl ⟨v,z,n⟩,hs.lb v z i n⟩,λi n=>.inl n,λi o _ n _ _=>n,x5 _⟩ ?_
   rintro m ls g ⟨j,u,I,s2,rfl,rfl,hj,a6,ax,b7,ck,c5,bP,es,cA,ei⟩ el b6;refine Da ?_;have c7:∀i,i=q1∨i=q2∨i=q3->i<h.length:=λi n=>by
    rcases n with rfl|rfl|rfl
    .exact ai hq.c1
    .exact ai hq.c2
    .exact ai hq.c3
   have b5:Qc g b l q1 q2 q3:=hq.i_ λi o n hb=>cA i o (hs.q i hb).1 n (hs.q i hb).2.2 (hs.q i hb).2.1;have an:∀i,i=q1∨i=q2∨i=q3->k1<=i/\¬I i/\∀v∈u,d_ v≠some i:=λi n=>by
    obtain⟨a1,a2,a3⟩:=hs.q i n;have a4:=c7 i n
    grind
   refine b_ ?_;by_cases b3:j<d.length
   case neg=>
    obtain rfl:j=d.length:=by omega
    rw[aK (x5 _)];refine b_ ?_;rw[Yt,Kv hr,←eV]at b7
    grind
   rw[aL b3];simp(disch:=omega)only[↓A9];obtain⟨y,hy⟩:=aq b3;have b8:=Cb hy;have dn:y<us.length:=by rw[hN.ul];exact hG.lt d ay y b8
   have dB:po g vi 1 j_ d:=(i4 g a6).2 D.length vi d a8 ag;have bd:∀ {t:Bool},us.getD y false=t->Cx us (d.take (j+1))=Cx us (d.take j)++if t=true then []else [y]:=λ{t} ht=>by
    rw[H5,hy];unfold Cx
    grind
   refine cO (λls g'=>ls=[]/\∃A E s3,P g'/\Mt g' c k1 W us (D++p :: Q.map λ_=>[]) A/\Gi f ((So D p (Cx us d) Q (Cx us (d.take (j+1)))).filter (Db pn S F)) s=(s3,true)/\J s3 E g'/\live s3/\
    (∀v∈A,∀i,d_ v=some i->((∃w∈lv,d_ w=some i)∨h.length<=i)/\¬E i)/\(∀i,E i->B i∨h.length<=i)/\(∀(i:Nat) o,k1<=i->h[i]?=some o->(∀v∈lv,d_ v≠some i)->¬B i->g'[i]?=some o)/\h.length<=g'.length) ?_ ?_
   case refine_1=>
    rintro ls g' ⟨rfl,A,E,s3,z1,z2,z3,z4,z5,z6,z7,z8,z9⟩;refine b_ ?_;rw[aT (by omega)];exact b6 _ _ _ (by omega) ⟨j+1,A,E,s3,rfl,rfl,b3,z1,z2,z3,z4,z5,z6,z7,z8,z9⟩
   intro jj d6;refine aP dB rfl hy ?_;rw[show j_ y=[.int .i64 (ofNat y)]from rfl];simp(disch:=omega)only[↓A9];refine cU (bz b5.c1) rfl ?_;simp(disch:=omega)only[↓A9];refine ab (au _) ?_
   try simp(disch:=omega)only[↓A9]
   refine br (ds:=[c.us]) (R.hb g a6) (by simp[ah]) rfl ?_;simp(disch:=omega)only[↓A9];refine ab (ax.us.g_ cM) ?_
   try simp(disch:=omega)only[↓A9]
   obtain⟨t,ef⟩:=aq dn;have a0:us.getD y false=t:=by grind
   refine aP (ax.us.ls cM) rfl ef ?_;rw[show y0 t=[.bool t]from rfl];simp(disch:=omega)only[↓A9];cases t with
   |true=>
    simp(disch:=omega)only[↓A9]
    grind
   |false=>
    simp(disch:=omega)only[↓A9];obtain⟨Z,eZ⟩ : ∃Z,Z=Q.map λ_=>([]:TC):=⟨_,rfl⟩;rw[←eZ]at ax bx av;have ee:y∈Cx us d:=pH.2 ⟨b8,a0⟩;obtain⟨L,ca⟩ : ∃L,L=g++[HO.o (.cells [.slice none 0 0] 1 true)]:=⟨_,rfl⟩;rw[←ca];have ap:∀(i:Nat) o,g[i]?=some o->L[i]?=some o:=λi o n=>by grind
    have eP:L.length=g.length+1:=by rw[ca];simp
    have cw:L[g.length]?=some (.o (.cells [.slice none 0 0] 1 true)):=by grind
    have c0:=R.lt g a6;have bs:∀j,d_ c.va=some j->j<k1:=λj e=>(R.s.s1 j e).1;have bn:∀j,d_ c.us=some j->j<k1:=λj e=>(R.s.s2 j e).1;have bk:=R.s.s3;refine cO (λls G=>∃t W2 T x2 A E s3,ls=[.b t]/\P G/\Mt G c k1 W2 (us.set y true) (D++(p++[y]) :: Z) A/\W2.length=U.length/\G[g.length]?=some (.o (.cells [x2] 1 true))/\po G x2 1 j_ T/\T.length<=1000000/\(∀i∈T,i<U.length)/\Ii T W2=W/\
     (∀i,d_ x2=some i->k1<=i/\∀v∈A,d_ v≠some i)/\Gi f ((Fh D (p++[y]) ((Cx us d).erase y) Q).filter (Db pn S F)) s2=(s3,t)/\J s3 E G/\(t=true->live s3)/\(∀v∈A,∀i,d_ v=some i->((∃w∈u,d_ w=some i)∨g.length<=i)/\¬E i)/\(∀i,E i->I i∨g.length<=i)/\
     (∀(i:Nat) o,k1<=i->g[i]?=some o->(∀v∈u,d_ v≠some i)->¬I i->G[i]?=some o)/\g.length<=G.length) ?_ ?_
    case refine_1=>
     rintro ls G ⟨t,W2,T,x2,A,E,s3,rfl,z1,z2,z3,z4,z5,z6,z7,z8,z9,y1,y2,y3,y4,y5,y6,y7⟩;simp(disch:=omega)only[↓A9];have a7:Qc G b l q1 q2 q3:=b5.i_ λi o n hb=>y6 i o (an i hb).1 n (an i hb).2.2 (an i hb).2.1;refine cU (bz a7.c1) rfl ?_;simp(disch:=omega)only[↓A9];refine ab (au _) ?_
     try simp(disch:=omega)only[↓A9]
     refine cU (bz z4) rfl ?_;simp(disch:=omega)only[↓A9];refine ab z5.g_ ?_
     try simp(disch:=omega)only[↓A9]
     obtain⟨v4,g3,cr,cq,cn,eE,d7,eB⟩:=Q1 R z1 z2 (st:=D.length) (id:=y) (p:=p) zr (by omega) (by grind) z5 z9 z6 (λi n=>by rw[z3];exact z7 i n);refine am cr ?_;simp(disch:=omega)only[↓A9];rw[z8,WV a0,KL]at cn;have co:Mt g3 c k1 W us (D++p :: Q.map λ_=>[]) (A.set D.length v4):=by rw[←eZ];exact cn
     have c9:D.length<A.length:=by rw[z2.ln];simp
     have bl:∀v∈A.set D.length v4,∀i,d_ v=some i->((∃w∈lv,d_ w=some i)∨h.length<=i)/\¬E i:=λv z i n=>by
      obtain⟨v5,dk,e5⟩ : ∃v5∈A,d_ v5=some i:=by
       rcases t3 z with z|rfl
       .exact⟨v,z,n⟩
       .obtain⟨v5,dk⟩:=aq c9
        grind
      obtain⟨a1,a2⟩:=y4 v5 dk i e5;refine⟨?_,a2⟩;rcases a1 with⟨w,hw,e⟩|e
      .exact(bP w hw i e).1
      omega
     have cb:∀i,E i->B i∨h.length<=i:=λi n=>by
      grind
     have cx:∀(i:Nat) o,k1<=i->h[i]?=some o->(∀v∈lv,d_ v≠some i)->¬B i->g3[i]?=some o:=λi o C n b1 b2=>by
      have ez:=ai n;refine d7 i o (y6 i o C (cA i o C n b1 b2) (λv z e=>?_) λe=>?_) (λe=>by have:=bs i e;omega) (λe=>by have:=bn i e;omega) λe=>by have:=bk i e;omega
      .rcases(bP v z i e).1 with⟨w,hw,e2⟩|e2
       .exact b1 w hw e2
       .omega
      grind
     have ci:J s3 E g3:=Y.kp s3 E G g3 y2 λi o n ho=>by
      obtain⟨_,a1,a2,a3⟩:=Y.sp s3 E G y2 i n
      grind
     cases t with
     |true=>
      simp(disch:=omega)only[↓A9,DJ];refine d6 _ _ ⟨rfl,A.set D.length v4,E,s3,cq,co,?_,ci,y3 rfl,bl,cb,cx,by omega⟩;rw[bd a0,qs (by decide),wX,uk,b7,n_ rfl,Kw];exact y1
     |false=>
      simp(disch:=omega)only[↓A9,Ex];have hV:V=(s3,false):=by
       have ec:Cx us d=(Cx us (d.take j)++[y])++Cx us (d.drop (j+1)):=by
        have e1:=bd a0;rw[qs (by decide)]at e1;rw[←e1];unfold Cx;rw[←r0,Wp]
       have e2:=congrArg (So D p (Cx us d) Q) ec;rw[Kv hr]at e2;rw[eV,e2,wX,wX,EC,uk,b7,n_ rfl,Kw,uk,y1];rfl
      rw[hV];exact⟨by trivial,E,A.set D.length v4,cq,co,ci,λe=>(by cases e),bl,cb,cx,by omega⟩
    intro eL bb;have d1:P L:=R.kp g L a6 λi o _ _ n=>ap i o n;have dD:Mt L c k1 W us (D++p :: Z) u:=ax.i_ λi o n _=>ap i o n;have bm:Qc L b l q1 q2 q3:=b5.i_ λi o n _=>ap i o n;have cd:J s2 I L:=Y.kp s2 I g L ck λi o _ n=>ap i o n;have ej:D.length<u.length:=by rw[ax.ln];simp
    refine cU (bz bm.c1) rfl ?_;simp(disch:=omega)only[↓A9];refine ab (au _) ?_
    try simp(disch:=omega)only[↓A9]
    obtain⟨ok,W2,T,x2,v',G,cp,p1,p2,p3,p4,p5,p6,p7,p8,p9,o1,o2,o3,o4⟩:=V_ R hF d1 dD hN.nod ag bx b8 a0 (λx hx=>by rw[hN.ul];exact hG.lt d ay x hx) (by omega) cw c0 (λv z e=>by
     grind)
    rw[KL]at p2;obtain⟨vb,eF,ek⟩:=p9;refine am cp ?_;simp(disch:=omega)only[↓A9];have c6:∀v∈u.set D.length v',v∈u∨v=v':=λv z=>t3 z;have a9:∀i,I i->i<g.length:=λi n=>Y.lt s2 I g ck i n;have b9:∀(i:Nat) o,k1<=i->L[i]?=some o->i≠g.length->(∀v∈u,d_ v≠some i)->G[i]?=some o:=λi o C n ea b1=>o3 i o n ea (λe=>by have:=bs i e;omega) (λe=>by have:=bn i e;omega) (λe=>by have:=bk i e;omega) λv z=>b1 v (Cb z);have ce:J s2 I G:=Y.kp s2 I L G cd λi o n ho=>by
     obtain⟨_,a1,a2,a3⟩:=Y.sp s2 I L cd i n;exact o3 i o ho (by grind) a1 a2 a3 λv z e=>(bP v (Cb z) i e).2 n
    have O:∀i,d_ x2=some i->k1<=i/\L.length<=i/\i<G.length/\∀v∈u.set D.length v',d_ v≠some i:=λi n=>by
     obtain⟨a1,a2⟩:=p7 i n;exact⟨by omega,a1,Bf p5 n,a2⟩
    have b4:∀v∈u.set D.length v',∀i,d_ v=some i->((∃w∈u,d_ w=some i)∨L.length<=i)/\¬I i:=λv z i n=>by
     rcases c6 v z with z|rfl
     .grind
     grind
    have ct:T.length<=1000000:=by omega
    cases ok with
    |false=>
     simp(disch:=omega)only[↓A9,Ex];refine bb _ _ ⟨true,W2,T,x2,u.set D.length v',I,s2,rfl,p1,p2,p3.1,p4,p5,ct,p6.2,p8,λi n=>⟨(O i n).1,(O i n).2.2.2⟩,?_,ce,λ_=>c5,λv z i n=>?_,λi n=>.inl n,λi o C n b1 b2=>b9 i o C (ap i o n) (by grind) b1,by omega⟩
     .rw[o2 rfl Q];rfl
     grind
    |true=>
     simp(disch:=omega)only[↓A9,DJ];have a7:Qc G b l q1 q2 q3:=bm.i_ λi o n hb=>b9 i o (an i hb).1 n (by
      grind) (an i hb).2.2
     refine cU (bz a7.c3) rfl ?_;simp(disch:=omega)only[↓A9];refine ab (kJ q1 q2 q3) ?_
     try simp(disch:=omega)only[↓A9]
     obtain⟨d3,d4⟩:=o1 rfl;have d0:=hN.child (hI▸hG) ee d3 d4;have d5:(Cx us d).erase y=Cx (us.set y true) d:=(tt d9 dn).symm;have c8:Sep (u.set D.length v') I k1 q1 q2 q3:=⟨λv z i n=>(b4 v z i n).2,λi n=>by
      obtain⟨a1,a2,a3⟩:=an i n
      grind⟩
     obtain⟨g3,E,A,cf,r1,r2,r3,r4,r5,r6,r7,r8⟩:=ih ((Q.map λl=>l.length+1).sum+(Cx (us.set y true) d).length) (by grind) I0 D (p++[y]) d Q W2 (us.set y true) (u.set D.length v') G s2 I rfl hI d0 (λx hx=>hX x (by
      rw[zj hr]
      grind)) p1 (by rw[←eZ];exact p2) a7 c8 ce c5
     rw[←d5]at cf r3 r4;rw[←eZ]at r2;refine iT (iz cf rfl [.leaf (.i .i64 (ofNat D.length)),.leaf (.v (i' q1)),.leaf (.v (i' q2)),.leaf (.v (i' q3))] rfl rfl rfl) ?_;simp(disch:=omega)only[↓A9];have cy:∀i,k1<=i->L.length<=i->∀o,G[i]?=some o->(∀v∈u.set D.length v',d_ v≠some i)->g3[i]?=some o:=λi C n o ho b1=>r7 i o C ho b1 λe=>by have:=a9 i e;omega
     refine bb _ _ ⟨_,W2,T,x2,A,E,_,rfl,r1,r2,p3.1,?_,p5.i_ λi o n hb=>cy i (O i hb).1 (O i hb).2.1 o n (O i hb).2.2.2,ct,p6.2,p8,λi n=>⟨(O i n).1,λv z e=>?_⟩,rfl,r3,r4,λv z i n=>?_,λi n=>?_,λi o C n b1 b2=>?_,by omega⟩
     .refine r7 g.length _ c0 p4 (λv z e=>?_) λe=>by have:=a9 _ e;omega
      grind
     .obtain⟨_,_,a3,a4⟩:=O i n;rcases(r5 v z i e).1 with⟨w,hw,e2⟩|e2
      .exact a4 w hw e2
      .omega
     .obtain⟨a1,a2⟩:=r5 v z i n;refine⟨?_,a2⟩;rcases a1 with⟨w,hw,e⟩|e
      .grind
      omega
     .grind
     .have ex:=ai n;refine r7 i o C (b9 i o C (ap i o n) (by omega) b1) (λv z e=>?_) b2
      grind)
 grind
end
def r7{l a:Nat}{st:LoopState}{b:Tm}{vs:Tn}{h:HL}{j:Code}{K:HL->Prop}(d:h[l]?=some (.lp a st b vs))(c:K (h.set l (.lp a .done (some j) vs))):P1.Gw l (some j) h (@hY _ ⟨K⟩):=
 ⟨{ Em (aa a) a vs with state:=st,pending:=b },h.set l (.lp a .done (some j) vs),vp d,kz,c⟩
def e_.A1{i6:Type}{n0 e:Nat}{enc:i6->Tn}{l:List i6}{h h':HL}{v:TR}(i:e_ n0 h v e enc l)(g:∀(j:Nat) cs,Sx.d_ v=some j->h[j]?=some (.o (.cells cs e true))->h'[j]?=some (.o (.cells cs e true))):e_ n0 h' v e enc l:=by
 rcases i with b|⟨id,a,rfl,c,d,f⟩
 .exact .inl b
 .exact .inr ⟨id,a,rfl,c,g _ _ rfl d,f⟩
def e_.n0{i6:Type}{n0 e:Nat}{enc:i6->Tn}{l:List i6}{h:HL}{v:TR}(f:e_ n0 h v e enc l):e_ 0 h v e enc l:=by
 rcases f with b|⟨id,a,rfl,g,c,d⟩
 .exact .inl b
 .exact .inr ⟨id,a,rfl,CM _,c,d⟩
def e_.wid{i6:Type}{n0 e:Nat}{enc:i6->Tn}{l:List i6}{h:HL}{v:TR}(c:e_ n0 h v e enc l){j:Nat}(a:Sx.d_ v=some j):∃cs,h[j]?=some (.o (.cells cs e true)):=by
 rcases c with⟨rfl,_⟩|⟨id,d,rfl,f,b,g⟩
 .cases a
 .cases a;exact⟨_,b⟩
section
variable {b:Nat} {c:XC} {U:List Lit} {F:List x_} {pn:Ti} {AT:List K3} {IDS:List (TC)} {CR:TD} {k1:Nat} {mu:Tz} {P:HL->Prop} (R:Ro b c U F pn AT IDS CR k1 mu P)
 {g9:Type} {l:Nat} {f:List (TC)->g9->g9×Bool} {X:List (List (TC))} {live:g9->Prop} {J:g9->(Nat->Prop)->HL->Prop} (Y:Yl l c AT CR k1 mu f X live J)
 {r:TF} (hF:Hn U r) {N:Nat} (hG:Gl IDS N) (hf0:∀f∈F,∀l∈[f.1,f.2.1,f.2.2.1,f.2.2.2],∃q∈IDS,∃a∈q,∃b∈q,a≠b/\l=CO pn a b) {S:(Nat->Bool)->Prop} {q0:Nat}
include R Y hF hG hf0
theorem Z1{d:TC}{Q:List (TC)}{W:TE}{us:Ty}{lv:Tn}{h:HL}{s:g9}{B:Tz}(hI:IDS=d :: Q)(hN:Ny U pn S F N W us [] [] [] d Q)(hX:∀x∈Dk (Cx us d :: Q),x∈X)(hP:P h)(G:Mt h c k1 W us ([] :: Q.map λ_=>[]) lv)
  (h0:h[q0]?=some (.o (.cells [i' b] 1 true))) (al:k1<=q0) (ag:¬B q0) (an:∀v∈lv,d_ v≠some q0) (T:∀v∈lv,∀j,d_ v=some j->¬B j) (D:J s B h) (t:live s) :
  ∃h' B',aI cc ac 72 [.v (.func (.yield l) #[] #[]),.v (i' q0)] (f_ aa h) [] (f_ aa h')/\J (Gi f ((Dk (Cx us d :: Q)).filter (Db pn S F)) s).1 B' h'/\P h':=by
 have y:Fh [] [] (Cx us d) Q=Dk (Cx us d :: Q):=by
  unfold Fh;rw[show Dk (Cx us d :: Q)=(M7 (Cx us d).length (Cx us d)).flatMap λp=>(Dk Q).map (p :: ·)from rfl];simp
 have av:=x72 (ls:=[.v (.func (.yield l) #[] #[]),.v (i' q0)]) (K:=λrs h'=>rs=[]/\∃B',J (Gi f ((Dk (Cx us d :: Q)).filter (Db pn S F)) s).1 B' h'/\P h') (H:=h) (pu rfl (pu (au _) u_)) (by
  unfold f72;simp only[u7];refine b_ ?_;have M:=R.lt h hP;obtain⟨g,e1⟩ : ∃g,g=h++[HO.o (.cells [.func (.yield l) #[] #[]] 1 true)]:=⟨_,rfl⟩;rw[←e1];have l1:g.length=h.length+1:=by rw[e1];simp
  obtain⟨u,A⟩ : ∃u,u=g++[HO.o (.cells [.nilFunc] 1 true)]:=⟨_,rfl⟩;rw[←A];have l2:u.length=h.length+2:=by rw[A];simp;omega
  have ad:Value.func (.func 73) ⟨[]⟩ ⟨[i' q0,i' h.length,i' g.length]⟩=ID q0 h.length g.length:=rfl;refine ab (kJ q0 h.length g.length) ?_;refine j8 ?_;have L:u[g.length]?=some (.o (.cells [.nilFunc] 1 true)):=by rw[A];exact aH
  refine xP L rfl ?_;obtain⟨m,e3⟩ : ∃m,m=u.set g.length (.o (.cells [ID q0 h.length g.length] 1 true)):=⟨_,rfl⟩;have C:u.set g.length (.o (.cells [.func (.func 73) ⟨[]⟩ ⟨[i' q0,i' h.length,i' g.length]⟩] 1 true))=m:=e3.symm
  try rw[C]
  have z:∀(i:Nat) o,h[i]?=some o->m[i]?=some o:=λi o n=>by
   grind
  have l3:m.length=h.length+2:=by grind
  have Z:m[g.length]?=some (.o (.cells [ID q0 h.length g.length] 1 true)):=by grind
  have c2:m[h.length]?=some (.o (.cells [.func (.yield l) #[] #[]] 1 true)):=by
   grind
  have w:P m:=R.kp h m hP λi o _ _ n=>z i o n;have I:Mt m c k1 W us ([] :: Q.map λ_=>[]) lv:=G.i_ λi o n _=>z i o n;have E:J s B m:=Y.kp s B h m D λi o _ n=>z i o n;refine j8 ?_;refine cU (bz (z _ _ h0)) rfl ?_;refine b_ ?_;refine ab (au _) ?_;refine j8 ?_;refine br (ds:=[.bool false]) (R.hb m w) (by simp[ah]) rfl ?_;simp(disch:=omega)only[↓mc,Ex];refine cU (bz Z) rfl ?_;refine b_ ?_;refine ab (kJ q0 h.length g.length) ?_;refine j8 ?_;have hq:Qc m b l q0 h.length g.length:=⟨z _ _ h0,c2,Z⟩;have ap:∀v∈lv,∀i,d_ v=some i->i<h.length:=λv V i n=>by
   obtain⟨k,hk⟩:=DZ V;obtain⟨l2,O⟩:=aq (l:=[] :: Q.map λ_=>([]:TC)) (i:=k) (by rw[←G.ln];exact ai hk);exact(G.tr k v l2 hk O).lt n
  have hs:Sep lv B k1 q0 h.length g.length:=⟨T,λi n=>by
   rcases n with rfl|rfl|rfl
   .grind
   .exact⟨M,λe=>by have:=Y.lt s B h D _ e;omega,λv V e=>by grind⟩
   .exact⟨by omega,λe=>by have:=Y.lt s B h D _ e;omega,λv V e=>by grind⟩⟩
  obtain⟨h',B',ax,cf,r1,r2,r3,_⟩:=Ca R Y hF hG hf0 (S:=S) (q1:=q0) (q2:=h.length) (q3:=g.length) _ [] [] [] d Q W us lv m s B rfl hI hN (λx hx=>hX x (by rw[←y];exact hx)) w I hq hs E t;rw[y]at cf r3;refine iT (iz cf rfl [.leaf (.i .i64 (ofNat 0)),.leaf (.v (i' q0)),.leaf (.v (i' h.length)),.leaf (.v (i' g.length))] rfl rfl rfl) ?_;refine b_ ?_
  grind)
 grind
end
def stC(c:XC)(xc a:Value):Tn:=[.int .i64 (ofNat c.w),.int .i64 (ofNat c.v),xc,.int .u8 (ofNat c.r.1),.int .i64 c.r.2.1,.int .i64 c.r.2.2,a]
def z7:Tn:=[.int .i64 0,.int .i64 0,.slice none 0 0,.int .u8 0,.int .i64 0,.int .i64 0,.slice none 0 0]
structure Hz(CR:TD)(AT:List K3)(C:Tz)(h:HL)(xc sv:Value)(x:List (TC)):Prop where
 xo:e_ 0 h xc 3 my CR
 xb:∀j,d_ xc=some j->C j
 st:∃L:List YS,e_ 0 h sv 4 HH L/\(∀j,d_ sv=some j->C j)/\(∀s∈L,e_ 0 h s.2.1 1 j_ s.2.2/\∀j,d_ s.2.1=some j->C j)/\L.map (λs=>(s.1,s.2.2))=AT.zip x
def Hz.i_{CR:TD}{AT:List K3}{C k:Tz}{h h':HL}{xc n:TR}{x:List (TC)}(t:Hz CR AT C h xc n x)(f:∀j,C j->k j)(g:∀(j:Nat) b e,C j->e≠7->h[j]?=some (.o (.cells b e true))->h'[j]?=some (.o (.cells b e true))):Hz CR AT k h' xc n x:=by
 obtain⟨p,l,L,q,m,d,r⟩:=t;exact⟨p.A1 λj b c a=>g j b 3 (l j c) (by decide) a,λj a=>f j (l j a),L,q.A1 λj b c a=>g j b 4 (m j c) (by decide) a,λj a=>f j (m j a),λs i=>⟨(d s i).1.A1 λj b c a=>g j b 1 ((d s i).2 j c) (by decide) a,λj a=>f j ((d s i).2 j a)⟩,r⟩
def Qh{CR:TD}{AT:List K3}{h:HL}{n0:Nat}{xc f:TR}{x:List (TC)}(e:e_ n0 h xc 3 my CR)(i:StO n0 h f (AT.zip x)):Hz CR AT (λj=>n0<=j/\j<h.length) h xc f x:=by
 obtain⟨L,b,c,g⟩:=i;exact⟨e.n0,λj a=>e.d_ a,L,b.n0,λj a=>b.d_ a,λs d=>⟨(c s d).n0,λj a=>(c s d).d_ a⟩,g⟩
def Bnd(c:XC)(k1:Nat)(mu:Tz)(B:Tz)(h:HL):Prop:=∀j,B j->j<h.length/\(mu j∨k1<=j)/\d_ c.va≠some j/\d_ c.us≠some j/\d_ c.lay≠some j
structure JSv(c:XC)(AT:List K3)(CR:TD)(k1:Nat)(mu:Tz)(l a1 a2:Nat)(s:Option (List (TC)))(B:Tz)(h:HL):Prop where
 bs:B l/\B a1/\B a2
 bd:Bnd c k1 mu B h
 ne:l≠a1/\l≠a2/\a1≠a2
 m2:h[a2]?=some (.o (.cells [.int .i64 0] 1 true))
 st:match s with
  |none=>h[l]?=some (.lp 224 .ready none [i' a1,i' a2])/\h[a1]?=some (.o (.cells z7 7 true))
  |some x=>h[l]?=some (.lp 224 .done (some .ret) [i' a1,i' a2])/\∃xc sv,h[a1]?=some (.o (.cells (stC c xc sv) 7 true))/\Hz CR AT (λj=>B j/\j≠l/\j≠a1/\j≠a2) h xc sv x
section
variable {c:XC} {AT:List K3} {CR:TD} {k1:Nat} {mu:Tz} {l a1 a2:Nat} (s3:S3x c k1)
include s3
theorem Uf{B:Tz}{h h':HL}{n0:Nat}(g:Bnd c k1 mu B h)(k:k1<=n0)(i:h.length<=h'.length):Bnd c k1 mu (λj=>B j∨(n0<=j/\j<h'.length)) h':=by
 intro j d;rcases d with d|⟨d,f⟩
 .obtain⟨a,b⟩:=g j d;exact⟨by omega,b⟩
 .exact⟨f,.inr (by omega),λe=>by have:=(s3.s1 j e).1;omega,λe=>by have:=(s3.s2 j e).1;omega,λe=>by have:=s3.s3 j e;omega⟩
end
abbrev T7:=Value×Value×List (TC)
def II(c:XC)(t:T7):Tn:=stC c t.1 t.2.1
def nT(c:XC)(t:T7):(II c t).length=7:=rfl
def fA(a:Nat)(x:List (TC))(s:List (List (TC))):List (List (TC))×Bool:=(s++[x],!decide (s.length+1=a))
structure JA(c:XC)(AT:List K3)(CR:TD)(k1:Nat)(mu:Tz)(lim l a1 a2:Nat)(s:List (List (TC)))(B:Tz)(h:HL):Prop where
 bs:B l/\B a1/\B a2
 bd:Bnd c k1 mu B h
 ne:l≠a1/\l≠a2/\a1≠a2
 m1:h[a1]?=some (.o (.cells [.int .i64 (ofNat lim)] 1 true))
 lp:h[l]?=some (if s.length<lim then .lp 176 .ready none [i' a1,i' a2]else .lp 176 .done (some (.exit 0)) [i' a1,i' a2])
 out:∃(xo:Value) (L:List T7),h[a2]?=some (.o (.cells [xo] 1 true))/\e_ 0 h xo 7 (II c) L/\(∀j,d_ xo=some j->B j)/\L.map (λt=>t.2.2)=s/\∀t∈L,Hz CR AT (λj=>B j/\j≠l/\j≠a1/\j≠a2) h t.1 t.2.1 t.2.2
section
variable {c:XC} {AT:List K3} {CR:TD} {k1:Nat} {mu:Tz} {l a1 a2:Nat} (s3:S3x c k1)
include s3
theorem yl_A{f:Nat}(bk:f<=1000)(hl:k1<=l)(X:List (List (TC))):Yl l c AT CR k1 mu (fA f) X (λs=>s.length<f) (JA c AT CR k1 mu f l a1 a2):=by
 refine⟨λs B h M O hk=>?_,λs B h O j d=>(O.bd j d).1,λs B h O j d=>(O.bd j d).2,λs B h O a4 x hx n0 xc A N hn o1 o2=>?_⟩
 .obtain⟨k,hd,g,Q,p,J,L,R,C,E,ad,hL⟩:=O;refine⟨k,λj d=>?_,g,hk _ _ k.2.1 Q,hk _ _ k.1 p,J,L,hk _ _ k.2.2 R,C.i_ λj o d m=>hk j o (E j m) d,E,ad,λt I=>(hL t I).i_ (λj d=>d) λj V e d _ C=>hk j _ d.1 C⟩;obtain⟨q1,q2⟩:=hd j d
  grind
 .obtain⟨k,hd,g,Q,p,J,L,R,C,E,ad,hL⟩:=O;rw[n_ a4]at p;have bm:=N l k.1;have a8:=N a1 k.2.1;have a9:=N a2 k.2.2;have aE:L.length=s.length:=by grind
  obtain⟨bb,M,hu,hK⟩:=c9 (K:=λrs M=>rs=[.b (fA f x s).2]/\JA c AT CR k1 mu f l a1 a2 (s++[x]) (λj=>B j∨(n0<=j/\j<M.length)) M/\(∀(j:Nat) o,h[j]?=some o->¬B j->j<n0->M[j]?=some o)/\h.length<=M.length) (ys:=stY c xc A) (ls:=[.i (ofNat c.w),.i (ofNat c.v),.v xc,.i (ofNat c.r.1),.i c.r.2.1,.i c.r.2.2,.v A]) p ⟨rfl,rfl,by
   intro y hy z hz;simp only[Dy,Wl,or_false]at hy;subst hy;simp only[S0.cells,Dy,Wl,or_false]at hz;have g1:aJ xc=true:=e_.g_ (e:=3) (enc:=my) (λ_=>rfl) o1;have g2:aJ A=true:=by
    obtain⟨L,h3,_⟩:=o2;exact h3.g_ sF
   rcases hz with rfl|rfl|rfl|rfl|rfl|rfl|rfl
   all_goals first|trivial|exact g1|exact g2⟩ (by
   have g1:aJ xc=true:=e_.g_ (e:=3) (enc:=my) (λ_=>rfl) o1;have g2:aJ A=true:=by
    obtain⟨L,h3,_⟩:=o2;exact h3.g_ sF
   unfold y176;simp only[u7];refine b_ ?_;refine ab (au _) ?_;refine j8 ?_;refine ab (au _) ?_;refine j8 ?_;have hm:(h++[HO.o (.cells z7 7 true)])[h.length]?=some (.o (.cells z7 7 true)):=aH;refine xP hm rfl ?_;obtain⟨G,eA⟩ : ∃G,G=(h++[HO.o (.cells z7 7 true)]).set h.length (.o (.cells (stC c xc A) 7 true)):=⟨_,rfl⟩;have ax:(h++[HO.o (.cells [.int .i64 0,.int .i64 0,.slice none 0 0,.int .u8 0,.int .i64 0,.int .i64 0,.slice none 0 0] 7 true)]).set h.length (.o (.cells [.int .i64 (ofNat c.w),.int .i64 (ofNat c.v),xc,.int .u8 (ofNat c.r.1),.int .i64 c.r.2.1,.int .i64 c.r.2.2,A] 7 true))=G:=eA.symm;rw[ax];have kA:∀(i:Nat) o,h[i]?=some o->G[i]?=some o:=λi o T=>by
    grind
   have lA:G.length=h.length+1:=by simp_all
   have mA:G[h.length]?=some (.o (.cells (stC c xc A) 7 true)):=by simp_all
   refine j8 ?_;refine xt (kA _ _ p) ?_;obtain⟨gB,eB⟩ : ∃gB,gB=G.set l (.lp 176 .busy none [i' a1,i' a2]):=⟨_,rfl⟩;rw[←eB];have kB:∀(i:Nat) o,i≠l->G[i]?=some o->gB[i]?=some o:=λi o g T=>by
    grind
   have lB:gB.length=h.length+1:=by simp_all
   have pB:gB[l]?=some (.lp 176 .busy none [i' a1,i' a2]):=by grind
   have H:=kB _ _ (De g.2.1) (kA _ _ R);have av:d_ J≠some l:=λe=>by
    obtain⟨V,P⟩:=C.wid e
    simp_all
   have a5:e_ 0 gB J 7 (II c) L:=C.i_ λj o d m=>kB j o (λe=>av (by rw[m,e])) (kA j o d);refine j8 ?_;refine cU (bz H) rfl ?_;refine b_ ?_;refine ab (C.g_ (nT c)) ?_;refine j8 ?_;refine cU (bz (kB _ _ (by omega) mA)) rfl ?_;simp only[stC];refine b_ ?_;refine ab g1 ?_;refine j8 ?_;refine ab g2 ?_;refine j8 ?_;refine a5.GX (a:=((xc,A,x):T7)) (nT c) (CM _) rfl rfl rfl (by unfold ba;rw[DK (by omega),DK (by omega)];rfl) ?_;intro U Y hC gv kC lC bC;have F:∀(j:Nat) o,gB[j]?=some o->d_ J≠some j->Y[j]?=some o:=λj o d k=>kC j o d k;have bt:gB.length<=Y.length:=lC;refine b_ ?_;refine ab gv ?_;refine j8 ?_;have ap:d_ J≠some a2:=λe=>by
    obtain⟨V,P⟩:=C.wid e
    simp_all
   have an:d_ J≠some a1:=λe=>by
    obtain⟨V,P⟩:=C.wid e
    simp_all
   have Z:=F _ _ H ap;refine xP Z rfl ?_;obtain⟨n,eD⟩ : ∃n,n=Y.set a2 (.o (.cells [U] 1 true)):=⟨_,rfl⟩;rw[←eD];have kD:∀(i:Nat) o,i≠a2->Y[i]?=some o->n[i]?=some o:=λi o g T=>by
    grind
   have lD:n.length=Y.length:=by simp_all
   have mD:n[a2]?=some (.o (.cells [U] 1 true)):=by grind
   have a6:d_ U≠some a2:=λe=>by
    grind
   have al:e_ 0 n U 7 (II c) (L++[(xc,A,x)]):=hC.i_ λj o d m=>kD j o (λe=>a6 (by rw[m,e])) d;refine j8 ?_;refine cU (bz mD) rfl ?_;refine b_ ?_;refine ab gv ?_;refine j8 ?_;refine bu (al.ls (nT c)) ?_;have nD:n[a1]?=some (.o (.cells [.int .i64 (ofNat f)] 1 true)):=kD _ _ g.2.2 (F _ _ (kB _ _ (De g.1) (kA _ _ Q)) an);refine cU (bz nD) rfl ?_;refine b_ ?_;have pD:n[l]?=some (.lp 176 .busy none [i' a1,i' a2]):=kD _ _ g.2.1 (F _ _ pB av);have ag:(L++[((xc,A,x):T7)]).length=s.length+1:=by simp[aE]
   rw[ag];have a7:d_ U≠some l:=λe=>by
    grind
   have W:∀(o:HO),o=(if s.length+1<f then HO.lp 176 .ready none [i' a1,i' a2]else .lp 176 .done (some (.exit 0)) [i' a1,i' a2])->∀D,D=n.set l o->JA c AT CR k1 mu f l a1 a2 (s++[x]) (λj=>B j∨(n0<=j/\j<D.length)) D/\(∀(j:Nat) o,h[j]?=some o->¬B j->j<n0->D[j]?=some o)/\h.length<=D.length:=by
    intro o bs D eE;have kE:∀(i:Nat) o,i≠l->n[i]?=some o->D[i]?=some o:=λi o g T=>by
     grind
    have lE:D.length=n.length:=by simp_all
    have u:∀(i:Nat) o,i≠l->i≠a2->d_ J≠some i->h[i]?=some o->D[i]?=some o:=λi o q1 q2 q3 T=>kE i o q1 (kD i o q2 (F i o (kB i o q1 (kA i o T)) q3));have bn:(s++[x]).length=s.length+1:=by simp
    refine⟨⟨⟨.inl k.1,.inl k.2.1,.inl k.2.2⟩,Uf s3 hd (by omega) (by omega),g,kE _ _ (De g.1) nD,?_,U,L++[(xc,A,x)],kE _ _ (De g.2.1) mD,al.i_ λj o d m=>kE j o (λe=>a7 (by rw[m,e])) d,λj d=>?_,by simp_all,λt I=>?_⟩,λj o d hB _=>u j o (λe=>hB (by rw[e];exact k.1)) (λe=>hB (by rw[e];exact k.2.2)) (λe=>hB (E j e)) d,by omega⟩
    .grind
    .rcases bC with e|⟨i,e,T⟩
     .simp_all
     .rw[e]at d;cases d;have:=(hC.d_ e).2;omega
    .rcases Ed.1 I with I|I
     .refine(hL t I).i_ (λj d=>⟨.inl d.1,d.2⟩) λj V e d he S=>u j _ d.2.1 d.2.2.2 (λe2=>?_) S;obtain⟨bl,P⟩:=C.wid e2
      grind
     .rw[Fm]at I;subst I;refine(Qh o1 o2).i_ (λj d=>⟨.inr ⟨d.1,by omega⟩,by omega,by omega,by omega⟩) λj V e d _ S=>u j _ (by omega) (by omega) (λe2=>by
       grind) S
   by_cases he:s.length+1=f
   .rw[s_ (congrArg ofNat he)];refine b_ ?_;refine r7 pD ?_;refine j8 ?_;obtain⟨w1,w2,w3⟩:=W _ (by rw[qs (by omega)]) _ rfl;refine⟨?_,w1,w2,w3⟩;simp[fA,he]
   .rw[ua (λe=>he (Jg e))];refine b_ ?_;refine eX pD ?_;refine j8 ?_;obtain⟨w1,w2,w3⟩:=W _ (by rw[n_ (by omega)]) _ rfl;refine⟨?_,w1,w2,w3⟩;simp[fA,he])
  obtain⟨e1,ay,a0,a3⟩:=hK;have e2:bb=(fA f x s).2:=by
   simp_all
  subst e2;refine⟨M,_,hu,ay,a0,a3,λj d=>d.imp id λq=>q.1,λe=>?_⟩;show(s++[x]).length<f;have:s.length+1≠f:=by simpa[fA]using e
  simp;omega
end
def YM{a:Nat}:∀(L s:List (List (TC))),s.length<a->(Gi (fA a) L s).1=s++L.take (a - s.length)
 | [],s,_=>by simp[Gi]
 |x :: L,s,h=>by
  rw[oD];by_cases e:s.length+1=a
  .have:(fA a x s).2=false:=by simp[fA,e]
   rw[this,qs (by decide),show a - s.length=1 by omega];rfl
  .have:(fA a x s).2=true:=by simp[fA,e]
   rw[this,n_ rfl];show(Gi (fA a) L (s++[x])).1=_;rw[YM L (s++[x]) (by simp;omega)];rw[show a - s.length=(a - (s++[x]).length)+1 by simp;omega,ih,EC];rfl
def AgP(h1:HL)(mu:Tz)(g:HL):Prop:=h1.length<=g.length/\∀(j:Nat) o,j<h1.length->¬mu j->h1[j]?=some o->g[j]?=some o
structure NpR(b:Nat)(c:XC)(n:Bool)(h1:HL)(mu:Tz)(AT:List K3)(CR:TD)(IDS:List (TC))(pn:Ti)(S:(Nat->Bool)->Prop)(F:List x_):Prop where
 hb:h1[b]?=some (.o (.cells (ah c n) 15 true))
 s:S3x c h1.length
 mb:¬mu b
 no:n=true->∀x,Db pn S F x=false
 run:n=false->∃U W us lv r N ids Q,Ro b c U F pn AT IDS CR h1.length mu (AgP h1 mu)/\Hn U r/\Gl IDS N/\(∀f∈F,∀l∈[f.1,f.2.1,f.2.2.1,f.2.2.2],∃q∈IDS,∃a∈q,∃b∈q,a≠b/\l=CO pn a b)/\IDS=ids :: Q/\Ny U pn S F N W us [] [] [] ids Q/\Cx us ids=ids/\Mt h1 c h1.length W us ([] :: Q.map λ_=>[]) lv/\∀v∈lv,d_ v=none
def p2(h:HL)(w v:Nat)(a:Value)(t:Nat)(x y:Int)(AT:List K3)(CR:TD)(IDS:List (TC))(pn:Ti)(S:(Nat->Bool)->Prop)(F:List x_):Prop:=
 ∀E:Nat->Prop,(∀j,E j->j<h.length/\d_ a≠some j)->∃b c n h1,aI cc ac 29 [.i (ofNat w),.i (ofNat v),.v a,.i (ofNat t),.i x,.i y] (f_ aa h) [.v (i' b),.i 0] (f_ aa h1)/\
  (c.w=w/\c.v=v/\c.r=(t,x,y))/\(∀j,E j->d_ c.va≠some j/\d_ c.us≠some j/\d_ c.lay≠some j)/\(∀(j:Nat) o,h[j]?=some o->h1[j]?=some o)/\h.length<=h1.length/\(∀j,d_ c.va=some j∨d_ c.us=some j∨d_ c.lay=some j->h.length<=j)/\
  NpR b c n h1 (λj=>E j∨d_ c.va=some j∨d_ c.us=some j∨d_ c.lay=some j) AT CR IDS pn S F
section
variable {b:Nat} {c:XC} {n:Bool} {h1:HL} {mu:Tz} {AT:List K3} {CR:TD} {IDS:List (TC)} {pn:Ti} {S:(Nat->Bool)->Prop} {F:List x_} (hn:NpR b c n h1 mu AT CR IDS pn S F)
include hn
theorem BS{g9:Type}{l:Nat}{f:List (TC)->g9->g9×Bool}{d:g9->Prop}{J:g9->(Nat->Prop)->HL->Prop}(Y:Yl l c AT CR h1.length mu f (Dk IDS) d J){g:HL}(D:AgP h1 mu g)(ad:∀j,d_ c.va=some j∨d_ c.us=some j∨d_ c.lay=some j->∀o,h1[j]?=some o->g[j]?=some o)
  {e:Nat} (h0:g[e]?=some (.o (.cells [i' b] 1 true))) (G:h1.length<=e) {s:g9} {B:Tz} (y:¬B e) (V:J s B g) (h:d s) :
  ∃h' B',aI cc ac 72 [.v (.func (.yield l) #[] #[]),.v (i' e)] (f_ aa g) [] (f_ aa h')/\J (Gi f ((Dk IDS).filter (Db pn S F)) s).1 B' h'/\AgP h1 mu h':=by
 cases n with
 |true=>
  have he:(Dk IDS).filter (Db pn S F)=[]:=List.filter_eq_nil_iff.2 λx _=>by rw[hn.no rfl x];decide
  rw[he];have E:g[b]?=some (.o (.cells (ah c true) 15 true)):=D.2 b _ (ai hn.hb) hn.mb hn.hb;have M:=x72 (ls:=[.v (.func (.yield l) #[] #[]),.v (i' e)]) (K:=λrs h'=>rs=[]/\∃B',J s B' h'/\AgP h1 mu h') (H:=g) (pu rfl (pu (au _) u_)) (by
   unfold f72;simp only[u7];refine b_ ?_;obtain⟨a,O⟩ : ∃a,a=g++[HO.o (.cells [.func (.yield l) #[] #[]] 1 true)]:=⟨_,rfl⟩;rw[←O];have l1:a.length=g.length+1:=by rw[O];simp
   obtain⟨k,P⟩ : ∃k,k=a++[HO.o (.cells [.nilFunc] 1 true)]:=⟨_,rfl⟩;rw[←P];refine ab (kJ e g.length a.length) ?_;refine j8 ?_;have A:k[a.length]?=some (.o (.cells [.nilFunc] 1 true)):=by rw[P];exact aH
   refine xP A rfl ?_;obtain⟨m,e3⟩ : ∃m,m=k.set a.length (.o (.cells [ID e g.length a.length] 1 true)):=⟨_,rfl⟩;have u:k.set a.length (.o (.cells [.func (.func 73) ⟨[]⟩ ⟨[i' e,i' g.length,i' a.length]⟩] 1 true))=m:=e3.symm
   try rw[u]
   have t:∀(i:Nat) o,g[i]?=some o->m[i]?=some o:=λi o X=>by
    grind
   refine j8 ?_;refine cU (bz (t _ _ h0)) rfl ?_;refine b_ ?_;refine ab (au _) ?_;refine j8 ?_;refine br (ds:=[.bool true]) (t _ _ E) (by simp[ah]) rfl ?_;simp(disch:=omega)only[↓mc,DJ];refine⟨by trivial,B,Y.kp s B g m V λi o _ X=>t i o X,?_,λj o h1 w h3=>t j o (D.2 j o h1 w h3)⟩
   grind)
  obtain⟨rs,h',w,rfl,B',q⟩:=M;exact⟨h',B',w,q⟩
 |false=>
  obtain⟨U,W,us,lv,r,N,L,Q,R,hF,hG,C,T,hN,I,hM,p⟩:=hn.run rfl;have z:Mt g c h1.length W us ([] :: Q.map λ_=>[]) lv:=hM.i_ λj o hj hb=>by
   grind
  have hX:∀x∈Dk (Cx us L :: Q),x∈Dk IDS:=λx hx=>by rwa [I,←T]at hx
  obtain⟨h',B',cf,j1,j2⟩:=Z1 R Y hF hG C (S:=S) T hN hX D z h0 G y (λv Z=>by rw[p v Z];simp) (λv Z j hj=>by grind) V h
  grind
end
def V6{a c:Prop}{ks:List (Nat×Prop)}(b:a):P1.D4 none (@hY _ ⟨a⟩) c ks:=b
def zE{g:HL}{b:Nat}:aI cc ac 30 [.v (i' b)] (f_ aa g) [.v (.func (.func 72) ⟨[]⟩ ⟨[i' g.length]⟩)] (f_ aa (g++[.o (.cells [i' b] 1 true)])):=by
 exact xK x30 (pu (au _) u_) (by
  unfold f30;simp only[u7];refine b_ ?_;refine ab (by simp[aJ,l_,aV,bF,bo,aR,aD]) ?_
  try simp_all)
section
variable {h:HL} {w v:Nat} {xv:Value} {t:Nat} {x y:Int} {AT:List K3} {CR:TD} {IDS:List (TC)} {pn:Ti} {S:(Nat->Bool)->Prop} {F:List x_}
end
def Un{i6:Type}{n0:Nat}{enc:i6->Tn}{h:HL}{v:TR}{l:List i6}(a:e_ n0 h v 7 enc l):∃v',aI cc ac 31 [.v v] (f_ aa h) [.v v'] (f_ aa h)/\e_ n0 h v' 7 enc l/\Oq v'=some (ofNat l.length):=by
 rcases a with⟨rfl,rfl⟩|⟨id,d,rfl,b,c,e⟩
 .refine⟨.slice none 0 0,?_,.inl ⟨rfl,rfl⟩,rfl⟩;exact xK x31 (pu rfl u_) (by
   unfold f31;simp only[u7]
   repeat (first|simp(disch:=omega)only[↓mc]|refine ae (x:=(0:Int)) rfl ?_|refine ae (x:=Value.slice none 0 0) rfl ?_|refine ab rfl ?_)
   simp_all)
 .refine⟨.slice (some ⟨id,0,le 7⟩) l.length (l.length+1),?_,.inr ⟨id,_,rfl,b,c,.inr rfl⟩,rfl⟩;exact xK x31 (pu cT u_) (by
   unfold f31;simp only[u7];refine b_ ?_;refine ae (x:=ofNat l.length) rfl ?_;refine ae (x:=ofNat l.length) rfl ?_;refine ae Jr ?_;refine ab cT ?_
   simp_all)
section
variable {h:HL} {w v:Nat} {xv:Value} {t:Nat} {x y:Int} {AT:List K3} {CR:TD} {IDS:List (TC)} {pn:Ti} {S:(Nat->Bool)->Prop} {F:List x_}
def J0(w v t:Nat)(x y:Int)(s:T7):Tn:=[.int .i64 (ofNat w),.int .i64 (ofNat v),s.1,.int .u8 (ofNat t),.int .i64 x,.int .i64 y,s.2.1]
def AlR(w v:Nat)(t:Nat)(x y:Int)(AT:List K3)(CR:TD)(h':HL)(o:List (List (TC)))(b:TG):Prop:=
 ∃(a:Value) (L:List T7),b=[.v a,.i 0]/\e_ 0 h' a 7 (J0 w v t x y) L/\Oq a=some (ofNat L.length)/\L.map (λt=>t.2.2)=o/\∀t∈L,Hz CR AT (λ_=>True) h' t.1 t.2.1 t.2.2
def zz(a:Int)(an:aJ xv=true)(a9:∀j,d_ xv=some j->j<h.length)(G:p2 (h++[.o (.cells [.int .i64 a] 1 true)]) w v xv t x y AT CR IDS pn S F) :
  ∃z h',aI cc ac 11 [.i (ofNat w),.i (ofNat v),.v xv,.i (ofNat t),.i x,.i y,.i a] (f_ aa h) z (f_ aa h')/\(a<1∨1000<a->z=[.v (.slice none 0 0),.i 1])/\(1<=a/\a<=1000->AlR w v t x y AT CR h' (((Dk IDS).filter (Db pn S F)).take a.toNat) z)/\∀(j:Nat) o,h[j]?=some o->h'[j]?=some o:=by
 have bb:=x11 (ls:=[.i (ofNat w),.i (ofNat v),.v xv,.i (ofNat t),.i x,.i y,.i a]) (K:=λz h'=>(a<1∨1000<a->z=[.v (.slice none 0 0),.i 1])/\(1<=a/\a<=1000->AlR w v t x y AT CR h' (((Dk IDS).filter (Db pn S F)).take a.toNat) z)/\∀(j:Nat) o,h[j]?=some o->h'[j]?=some o) (H:=h) (km (km (pu an (km (km (km (km u_))))))) (by
  unfold f11;simp only[u7];simp(disch:=omega)only[↓A9];obtain⟨A,I⟩ : ∃A,A=h++[HO.o (.cells [.int .i64 a] 1 true)]:=⟨_,rfl⟩;rw[←I]at G;rw[←I];have l2:A.length=h.length+1:=by rw[I];simp
  have m1:A[h.length]?=some (.o (.cells [.int .i64 a] 1 true)):=by rw[I];exact aH
  have k2:∀(i:Nat) o,h[i]?=some o->A[i]?=some o:=λi o V=>by grind
  obtain⟨b,c,n,f,cn,⟨hw,hv,hr⟩,hE,C,a7,a6,hn⟩:=G (λj=>j=h.length) (λj d=>by
   grind)
  refine am cn ?_;simp(disch:=omega)only[↓A9];have u:=C _ _ m1;refine cU (bz u) rfl ?_;simp(disch:=omega)only[↓A9];by_cases X:a<1
  .rw[td X];refine b_ ?_
   grind
  rw[tf (by omega)];simp(disch:=omega)only[↓A9];refine cU (bz u) rfl ?_;simp(disch:=omega)only[↓A9];by_cases Z:1000<a
  .rw[Co Z];refine b_ ?_
   grind
  rw[z_ (by omega)];simp(disch:=omega)only[↓A9];obtain⟨m,rfl⟩ : ∃m:Nat,a=ofNat m:=⟨a.toNat,by grind⟩;have a8:1<=m:=by grind
  have ag:m<=1000:=by grind
  obtain⟨p,e3⟩ : ∃p,p=f++[HO.o (.cells [.slice none 0 0] 1 true)]:=⟨_,rfl⟩;rw[←e3];have l3:p.length=f.length+1:=by rw[e3];simp
  have k3:∀(i:Nat) o,f[i]?=some o->p[i]?=some o:=λi o V=>by grind
  have m3:p[f.length]?=some (.o (.cells [.slice none 0 0] 1 true)):=by rw[e3];exact aH
  refine am zE ?_;simp(disch:=omega)only[↓A9];obtain⟨k,O⟩ : ∃k,k=p++[HO.o (.cells [i' b] 1 true)]:=⟨_,rfl⟩;rw[←O];have lA:k.length=f.length+2:=by rw[O];simp;omega
  have J:∀(i:Nat) o,p[i]?=some o->k[i]?=some o:=λi o V=>by grind
  obtain⟨gB,P⟩ : ∃gB,gB=k++[HO.lp 176 .ready none [i' h.length,i' f.length]]:=⟨_,rfl⟩;have lB:gB.length=f.length+3:=by rw[P];simp;omega
  have kB:∀(i:Nat) o,k[i]?=some o->gB[i]?=some o:=λi o V=>by grind
  have pB:gB[k.length]?=some (.lp 176 .ready none [i' h.length,i' f.length]):=by rw[P];exact aH
  have qB:gB[p.length]?=some (.o (.cells [i' b] 1 true)):=kB _ _ (by rw[O];exact aH);have M:=hn.s;have Y:=yl_A (c:=c) (AT:=AT) (CR:=CR) (k1:=f.length) (mu:=λj=>j=h.length∨d_ c.va=some j∨d_ c.us=some j∨d_ c.lay=some j) (l:=k.length) (a1:=h.length) (a2:=f.length) M ag (by omega) (Dk IDS);have ax:∀j,f.length<=j->d_ c.va≠some j/\d_ c.us≠some j/\d_ c.lay≠some j:=λj d=>⟨λe=>by have:=(M.s1 _ e).1;omega,λe=>by have:=(M.s2 _ e).1;omega,λe=>by have:=M.s3 _ e;omega⟩;have hJ:JA c AT CR f.length (λj=>j=h.length∨d_ c.va=some j∨d_ c.us=some j∨d_ c.lay=some j) m k.length h.length f.length [] (λj=>j=k.length∨j=h.length∨j=f.length) gB:=by
   refine⟨⟨.inl rfl,.inr (.inl rfl),.inr (.inr rfl)⟩,λj d=>?_,⟨by omega,by omega,by omega⟩,kB _ _ (J _ _ (k3 _ _ u)),?_,.slice none 0 0,[],kB _ _ (J _ _ m3),.inl ⟨rfl,rfl⟩,λj d=>(by cases d),rfl,λt ht=>by cases ht⟩
   .grind
   grind
  obtain⟨hF,B',N,B,Q⟩:=BS hn Y (g:=gB) ⟨by omega,λj o _ _ d=>kB _ _ (J _ _ (k3 _ _ d))⟩ (λj _ o d=>kB _ _ (J _ _ (k3 _ _ d))) qB (by omega) (λe=>by omega) hJ (by simp;omega);rw[YM _ _ (by simp;omega),Ds,cp,Nat.sub_zero]at B;rw[P]at N;obtain⟨a3,a5,E,ad,q,xo,L,D,ho,aE,T,hL⟩:=B;have ay:∀(j:Nat) o,h[j]?=some o->hF[j]?=some o:=λj o d=>by
   have:=ai d;refine Q.2 j o (by omega) (λe=>?_) (C _ _ (k2 _ _ d))
   grind
  refine cO (λls h'=>ls=[]/\h'[f.length]?=some (.o (.cells [xo] 1 true))/\e_ 0 h' xo 7 (II c) L/\(∀t∈L,Hz CR AT (λ_=>True) h' t.1 t.2.1 t.2.2)/\∀(j:Nat) o,h[j]?=some o->h'[j]?=some o) ?_ ?_
  case refine_1=>
   rintro ls h' ⟨rfl,w1,w2,w3,w4⟩;refine b_ ?_;refine cU (bz w1) rfl ?_;refine b_ ?_;refine ab (w2.g_ (nT c)) ?_;refine j8 ?_;obtain⟨av,cx,o2,o3⟩:=Un w2;refine am cx ?_;refine b_ ?_;refine⟨λhc=>by omega,λ_=>⟨av,L,rfl,?_,o3,T,w3⟩,w4⟩;have e7:II c=J0 w v t x y:=by
    funext s
    unfold II stC J0;rw[hw,hv,hr]
   simp_all
  intro jj W;have a0:∀R:HL,(∀(i:Nat) o,i≠k.length->hF[i]?=some o->R[i]?=some o)->jj [] R:=λR kG=>by
   have ap:d_ xo≠some k.length:=λe=>by
    obtain⟨cs,a4⟩:=ho.wid e
    grind
   exact W _ _ ⟨rfl,kG _ _ (De E.2.1) D,ho.i_ λj o d U=>kG j o (λe=>ap (by rw[U,e])) d,λt ht=>(hL t ht).i_ (λ_ _=>trivial) λj cs e d _ al=>kG j _ d.2.1 al,λj o d=>by
    grind⟩
  by_cases r:(((Dk IDS).filter (Db pn S F)).take m).length<m
  .rw[n_ r]at q;refine Qu (sg:=⟨[lv,lv],[]⟩) (xs:=[.leaf (.v (.func (.yield k.length) #[] #[])),.leaf (.v (i' p.length))]) N rfl rfl rfl rfl q (by simp) ?_;refine V6 ?_
   try grind
  .rw[qs r]at q;refine Qu (sg:=⟨[lv,lv],[]⟩) (xs:=[.leaf (.v (.func (.yield k.length) #[] #[])),.leaf (.v (i' p.length))]) N rfl rfl rfl rfl q (by simp) ?_;refine⟨_,Fm.2 rfl,?_⟩
   try grind)
 omega
def Ut(a:Int)(b:aJ xv=true)(k:∀j,d_ xv=some j->j<h.length)(f:p2 (h++[.o (.cells [.int .i64 a] 1 true)]) w v xv t x y AT CR IDS pn S F) :
  ∃h',aI cc ac 13 [.i (ofNat w),.i (ofNat v),.v xv,.i (ofNat t),.i x,.i y,.i a] (f_ aa h) [.i (if 1<=a/\a<=1000 then ofNat (((Dk IDS).filter (Db pn S F)).take a.toNat).length else 0),.i (if 1<=a/\a<=1000 then 0 else 1)] (f_ aa h')/\∀(j:Nat) o,h[j]?=some o->h'[j]?=some o:=by
 obtain⟨d,h',m,n,p,q⟩:=zz a b k f;refine⟨h',?_,q⟩;by_cases c:1<=a/\a<=1000
 .rw[n_ c,n_ c];obtain⟨u,L,rfl,r,s,o3,_⟩:=p c;rw[←o3,FM];have l:=x13 (ls:=[.i (ofNat w),.i (ofNat v),.v xv,.i (ofNat t),.i x,.i y,.i a]) (K:=λd g=>d=[.i (ofNat L.length),.i 0]/\g=h') (H:=h) (km (km (pu b (km (km (km (km u_))))))) (by
   unfold f13;simp only[u7];refine b_ ?_;refine am m ?_;refine b_ ?_;refine bu (e_.ls (e:=7) (enc:=J0 w v t x y) (λ_=>rfl) r) ?_
   try simp_all)
  simp_all
 .rw[qs c,qs c];have:=n (by omega);subst this;have l:=x13 (ls:=[.i (ofNat w),.i (ofNat v),.v xv,.i (ofNat t),.i x,.i y,.i a]) (K:=λd g=>d=[.i 0,.i 1]/\g=h') (H:=h) (km (km (pu b (km (km (km (km u_))))))) (by
   unfold f13;simp only[u7];refine b_ ?_;refine am m ?_;refine b_ ?_;refine ae (x:=(0:Int)) rfl ?_
   try simp_all)
  simp_all
end
def qg{i6:Type}{h:HL}{v:TR}{e:Nat}{enc:i6->Tn}{l:List i6}(q:po h v e enc l){n:Nat}(y:n<=l.length):∃v',Et e v none (some (ofNat n)) none=some v'/\po h v' e enc (l.take n)/\aJ v'=true/\d_ v'=d_ v:=by
 have C:=aS (l:=l) q.1;have m:=aS (l:=l.take n) λa i=>q.1 a (ND i);have c:(l.take n).length=n:=by simp_all
 obtain⟨w,B,⟨rfl,g⟩|⟨id,b,d,A,r,rfl,g,x⟩⟩:=q
 .have p:n=0:=by omega
  have j:l=[]:=NE.1 g;subst p j;exact⟨.slice none 0 0,rfl,po.nil _ _ _,rfl,rfl⟩
 .have z:Et e (.slice (some ⟨id,b,le e⟩) l.length d) none (some (ofNat n)) none=some (.slice (some ⟨id,b,le e⟩) n d):=by
   unfold Et;have s:¬(le e≠some 1/\le e≠le e):=by simp
   simp only[qs s];have u:(0:Int)<=(none:Tt).getD 0/\(none:Tt).getD 0<=(some (ofNat n)).getD ((l.length:Nat):Int)/\bT l.length d (some (ofNat n)) none:=by
    refine⟨by simp,by simp,?_⟩;unfold bT
    simp_all
   rw[n_ u,ew,ew,ew];simp[bL]
  have f:po h (.slice (some ⟨id,b,le e⟩) n d) e enc (l.take n):=by
   refine⟨λa i=>w a (ND i),by rw[m],.inr ⟨id,b,d,A,r,by rw[c],g,?_⟩⟩;have t:=lQ x (o:=0) (k:=n*e) (by
    rw[EM];exact QS e y)
   rw[u2,Yr]at t;rw[c,t]
   congr 1
   have s:l.flatMap enc=(l.take n).flatMap enc++(l.drop n).flatMap enc:=by rw[←Yx,Wp]
   simp_all
  exact⟨_,z,f,f.g_,rfl⟩
structure Pi(h:HL)(b:Nat)(c:XC)(n:Bool)(U:List Lit)(W:TE)(pn:Ti)(F:List x_):Prop where
 hb:h[b]?=some (.o (.cells (ah c n) 15 true))
 up:e_ 0 h c.up 2 C' U
 va:e_ 0 h c.va 1 Cg W
 fo:e_ 0 h c.fo 8 IJ F
 pr:NA h c.pr pn
 fr:∃r,Hn U r
 ok:F7 U W
def S1(h:HL)(b:Nat)(c:XC)(N:Nat)(W:TE)(pn:Ti)(F:List x_)(C:(Nat->Bool)->Prop)(g:HL):Prop:=
 ∃n U,Pi g b c n U W pn F/\U.length=N/\(∀V,(n=false/\Rs U W V)↔C V)/\(∀(j:Nat) o,h[j]?=some o->j≠b->d_ c.up≠some j->g[j]?=some o)/\g.length=h.length
def S1.congr{h g:HL}{b:Nat}{c:XC}{N:Nat}{W:TE}{pn:Ti}{F:List x_}{C a:(Nat->Bool)->Prop}(k:S1 h b c N W pn F C g)(e:∀V,C V↔a V):S1 h b c N W pn F a g:=by
 obtain⟨n,U,d,f,i,j⟩:=k;exact⟨n,U,d,f,λV=>(i V).trans (e V),j⟩
def JG(pn:Ti)(V:Tx)(x y x' y':Nat):Prop:=ub V (CO pn x y)=ub V (CO pn x' y')
def rn{g:HL}{b e:Nat}{id:Nat}{pn:Ti}{cs:Tn}(d:NA g id pn)(i:g[b]?=some (.o (.cells cs e true))):id≠b:=λc=>by
 subst c;obtain⟨k,a,_⟩:=d;obtain⟨f,j,h,_⟩:=a
 simp_all
section
variable {h g:HL} {b:Nat} {c:XC} {N:Nat} {W:TE} {pn:Ti} {F:List x_} {C:(Nat->Bool)->Prop} (hs:S1 h b c N W pn F C g)
include hs
theorem S1.below(x y:Nat):aI cc ac 110 [.v (i' b),.i (ofNat x),.i (ofNat y)] (f_ aa g) [.i (ofNat (CO pn x y).1),.b (CO pn x y).2] (f_ aa g):=by
 obtain⟨n,U,a,_⟩:=hs;exact jR a.hb a.pr x y
theorem S1.equal{x y x' y':Nat}(h1:(CO pn x y).1<N)(k:(CO pn x' y').1<N):∃m,aI cc ac 109 [.v (i' b),.i (ofNat (CO pn x y).1),.b (CO pn x y).2,.i (ofNat (CO pn x' y').1),.b (CO pn x' y').2] (f_ aa g) [] (f_ aa m)/\S1 h b c N W pn F (λV=>C V/\JG pn V x y x' y') m:=by
 obtain⟨n,U,a,P,B,E,G⟩:=hs;obtain⟨r,u⟩:=a.fr;obtain⟨Q,lb,m,M,O,w,J,K,s,L⟩:=UP a.hb a.up u a.ok a.va (p:=CO pn x y) (q:=CO pn x' y') (by omega) (by omega);obtain⟨z,A,e3⟩:=ZD u a.ok n M O;have I:∀j e d,d_ c.up=some j->g[j]?=some (.o (.cells d e true))->e=2:=λj e d l f=>by
  obtain⟨t,k⟩:=a.up.wid l
  simp_all
 have D:∀j e d,j=b->g[j]?=some (.o (.cells d e true))->e=15:=λj e d l f=>by
  subst l;rw[a.hb]at f;exact(Uj f).symm
 refine⟨m,w,_,_,⟨J,K,a.va.A1 λj d _ f=>s j _ f (λe=>by grind) (λe=>by grind),a.fo.A1 λj d _ f=>s j _ f (λe=>by grind) (λe=>by grind),a.pr.i_ λo H=>s _ o H (rn a.pr a.hb) (λe=>?_),z,A⟩,?_,λV=>?_,λj o l h1 k=>s j o (E j o l h1 k) h1 k,by rw[L,G]⟩
 .obtain⟨t,k⟩:=a.up.wid e;exact rn a.pr k rfl
 .unfold D'
  grind
 .rw[e3 V];show _↔C V/\_;rw[←B V,and_assoc];rfl
end
def Mo(a:Option Addr):IL a a=true:=by
 rcases a with _|⟨b,o,s⟩
 .rfl
 .unfold IL;simp only[b9];rcases s with _|s
  .rfl
  .exact b9 s
def Mu{v:TR}(h:∃a n c,v = .slice a n c):OY v v=some ():=by
 obtain⟨a,n,c,rfl⟩:=h;show(match IL a a,Nat.beq n n,Nat.beq c c with
  |true,true,true=>some ()
  |_,_,_=>none)=_
 rw[Mo,b9,b9]
def vC{i6:Type}{h:HL}{v:TR}{e:Nat}{enc:i6->Tn}{l:List i6}(d:po h v e enc l){j:Nat}(b:d_ v=some j):∃cs a,h[j]?=some (.o (.cells cs e a)):=by
 rcases d.2.2 with⟨rfl,_⟩|⟨id,f,g,i,a,rfl,c,_⟩
 .cases b
 .cases b;exact⟨_,_,c⟩
def Gq(pn:Ti)(a b c:List K2)(V:Tx)(i:Nat):Prop:=∀p,a[i]?=some p->(∀(j:Nat) q,j<i->a[j]?=some q->JG pn V p.1 q.1 p.2 q.2)/\(∀o∈b,JG pn V p.1 o.1 p.1 o.2)/\(∀o∈c,JG pn V p.2 o.1 p.2 o.2)
def four(pn:Ti)(o u:K2):x_:=(CO pn o.1 u.1,CO pn o.2 u.1,CO pn o.1 u.2,CO pn o.2 u.2)
def Sq(pn:Ti)(L:List K2)(i:Nat):List x_:=match L[i]? with
 |some o=>(L.take i).map (four pn o)
 |none=>[]
def Fi(pn:Ti)(L:List K2)(n:Nat):List x_:=(range n).flatMap (Sq pn L)
def sU{pn:Ti}{L:List K2}{n:Nat}:Fi pn L (n+1)=Fi pn L n++Sq pn L n:=by
 unfold Fi;rw[Lb,Yx];simp
def wO{pn:Ti}{L:List K2}(a:L.length<=1000):∀n,n<=1000->(Fi pn L n).length<=n*1000
 |0,_=>by simp[Fi]
 |n+1,h=>by
  have b:=wO (pn:=pn) a n (by omega);rw[sU,GA];have:(Sq pn L n).length<=1000:=by
   unfold Sq
   grind
  omega
def S2(h:HL)(b:Nat)(c:XC)(N:Nat)(W:TE)(pn:Ti)(F:List x_)(C:(Nat->Bool)->Prop)(g:HL):Prop:=
 ∃fo n U,Pi g b { c with fo:=fo } n U W pn F/\U.length=N/\(∀V,(n=false/\Rs U W V)↔C V)/\(d_ fo=d_ c.fo∨∃j,d_ fo=some j/\h.length<=j)/\(∀(j:Nat) o,h[j]?=some o->j≠b->d_ c.up≠some j->d_ c.fo≠some j->g[j]?=some o)/\h.length<=g.length
def S1.two{h g:HL}{b:Nat}{c:XC}{N:Nat}{W:TE}{pn:Ti}{F:List x_}{C:(Nat->Bool)->Prop}(l:S1 h b c N W pn F C g):S2 h b c N W pn F C g:=by
 obtain⟨n,U,d,e,f,i,m⟩:=l;exact⟨c.fo,n,U,d,e,f,.inl rfl,λj o k a b _=>i j o k a b,by omega⟩
def QA{x y:TR}{s:Nat}(a:s<2):jZ [(.v x:Lf),.v y] 0 [(ofNat s,1)] 1=some [.v (if s=0 then x else y)]:=by
 obtain rfl|rfl:s=0∨s=1:=by omega
 .rfl
 .rfl
def Qz{x y:Int}{s:Nat}(a:s<2):jZ [(.i x:Lf),.i y] 0 [(ofNat s,1)] 1=some [.i (if s=0 then x else y)]:=by
 obtain rfl|rfl:s=0∨s=1:=by omega
 .rfl
 .rfl
def Vh{s:Nat}(a:s<2):EU 2 (ofNat s)=some ():=by
 obtain rfl|rfl:s=0∨s=1:=by omega
 .rfl
 .rfl
def S2.four{h g:HL}{b:Nat}{c:XC}{N:Nat}{W:TE}{pn:Ti}{F:List x_}{C:(Nat->Bool)->Prop}{fo:TR}{n:Bool}{U:List Lit}(a:Pi g b { c with fo:=fo } n U W pn F)(y:U.length=N)(x:∀V,(n=false/\Rs U W V)↔C V)(I:d_ fo=d_ c.fo∨∃j,d_ fo=some j/\h.length<=j)(B:∀(j:Nat) o,h[j]?=some o->j≠b->d_ c.up≠some j->d_ c.fo≠some j->g[j]?=some o)(J:h.length<=g.length)
  {f:x_} {v':TR} {m:HL} (z:e_ 0 m v' 8 IJ (F++[f])) (l:∀(j:Nat) o,g[j]?=some o->d_ fo≠some j->m[j]?=some o) (D:g.length<=m.length) (A:d_ v'=d_ fo∨∃j,d_ v'=some j/\g.length<=j) :
  S2 h b c N W pn (F++[f]) C (m.set b (.o (.cells (ah { c with fo:=v' } n) 15 true))):=by
 have q:∀j e d,d_ fo=some j->g[j]?=some (.o (.cells d e true))->e=8:=λj e d s i=>by
  obtain⟨p,u⟩:=a.fo.wid s
  simp_all
 have r:m[b]?=some (.o (.cells (ah { c with fo:=fo } n) 15 true)):=l b _ a.hb λe=>by have:=q b _ _ e a.hb;omega
 have k:∀(j:Nat) d e,e≠15->e≠8->g[j]?=some (.o (.cells d e true))->(m.set b (.o (.cells (ah { c with fo:=v' } n) 15 true)))[j]?=some (.o (.cells d e true)):=λj d e G H i=>by
  grind
 refine⟨v',n,U,⟨fG r,a.up.A1 λj d _ i=>k j d 2 (by decide) (by decide) i,a.va.A1 λj d _ i=>k j d 1 (by decide) (by decide) i,z.A1 λj d _ i=>cW i λe=>?_,a.pr.i_ λo E=>cW (l _ o E λe=>?_) (De (rn a.pr a.hb)),a.fr,a.ok⟩,y,x,?_,λj o s t v w=>cW (l j o (B j o s t v w) λe=>?_) (De t),by grind⟩
 .simp_all
 .obtain⟨p,u⟩:=a.fo.wid e;exact rn a.pr u rfl
 .grind
 grind
def Ww{h:HL}{b:Nat}{c:XC}{N:Nat}{W:TE}{pn:Ti}{F:List x_}{C:(Nat->Bool)->Prop}(hs:S1 h b c N W pn F C h){sb:Nat}{xp x0 x1:TR}{r t z:List K2}(S:h[sb]?=some (.o (.cells [xp,x0,x1] 3 true)))(R:po h xp 2 D8 r)(bd:po h x0 2 D8 t)(bk:po h x1 2 D8 z)
  (bn:∀j,d_ c.up=some j->d_ xp≠some j/\d_ x0≠some j/\d_ x1≠some j) (an:r.length<=1000/\t.length<=1000/\z.length<=1000) (cq:F.length<=1000000000) (Y:2<=r.length+t.length+z.length->∀x y,(CO pn x y).1<N) :
  ∃g,aI cc ac 71 [.v (i' b),.v (i' sb)] (f_ aa h) [] (f_ aa g)/\S2 h b c N W pn (F++Fi pn t t.length++Fi pn z z.length) (λV=>C V/\∀i,i<r.length->Gq pn r t z V i) g:=by
 have bP:∀ {j e X G},h[j]?=some (.o (.cells X e G))->e≠15->j≠b:=λ{j e X G} T he e2=>by
  obtain⟨n,U,w,_⟩:=hs;subst e2;rw[w.hb]at T
  simp_all
 have cd:∀ {j e X G},h[j]?=some (.o (.cells X e G))->e≠2->d_ c.up≠some j:=λ{j e X G} T he e2=>by
  obtain⟨n,U,w,_⟩:=hs;obtain⟨a8,h2⟩:=w.up.wid e2
  simp_all
 have b6:∀ {j e X G},h[j]?=some (.o (.cells X e G))->e≠8->d_ c.fo≠some j:=λ{j e X G} T he e2=>by
  obtain⟨n,U,w,_⟩:=hs;obtain⟨a8,h2⟩:=w.fo.wid e2
  simp_all
 have J:∀ {g:HL} {v:TR} {l:List K2},po h v 2 D8 l->(∀j,d_ c.up=some j->d_ v≠some j)->(∀(j:Nat) o,h[j]?=some o->j≠b->d_ c.up≠some j->d_ c.fo≠some j->g[j]?=some o)->po g v 2 D8 l:=λ{g v l} hl hv L=>hl.i_ λj o T hb=>by
  obtain⟨X,G,h2⟩:=vC hl hb
  grind
 have ax:∀ {g:HL},(∀(j:Nat) o,h[j]?=some o->j≠b->d_ c.up≠some j->d_ c.fo≠some j->g[j]?=some o)->g[sb]?=some (.o (.cells [xp,x0,x1] 3 true)):=λ{g} L=>L sb _ S (bP S (by decide)) (cd S (by decide)) (b6 S (by decide));have f1:∀ {C:(Nat->Bool)->Prop} {g:HL},S1 h b c N W pn F C g->∀(j:Nat) o,h[j]?=some o->j≠b->d_ c.up≠some j->d_ c.fo≠some j->g[j]?=some o:=λ{C g} q j o T b1 b2 _=>by
  obtain⟨_,_,_,_,_,L,_⟩:=q;exact L j o T b1 b2
 have ct:=x71 (ls:=[.v (i' b),.v (i' sb)]) (K:=λrs g=>rs=[]/\S2 h b c N W pn (F++Fi pn t t.length++Fi pn z z.length) (λV=>C V/\∀i,i<r.length->Gq pn r t z V i) g) (H:=h) (pu (au _) (pu (au _) u_)) (by
  unfold f71;simp only[u7];refine b_ ?_;refine br (ds:=[xp]) S (by simp) rfl ?_;refine b_ ?_;refine ab R.g_ ?_;refine j8 ?_;refine bu R ?_;refine aG (m:=r.length) (λm ls g=>∃i,ls=[.i (ofNat i)]/\m=r.length - i/\i<=r.length/\S1 h b c N W pn F (λV=>C V/\∀k,k<i->Gq pn r t z V k) g) ⟨0,rfl,rfl,CM _,hs.congr λV=>⟨λq=>⟨q,λk L=>by omega⟩,λq=>q.1⟩⟩ ?_;rintro m ls g ⟨i,rfl,rfl,hi,hg⟩ cp aE;refine Da ?_;refine b_ ?_;by_cases ay:i<r.length
  case pos=>
   rw[aL ay];refine b_ ?_;obtain⟨p,w⟩:=aq ay;refine aP (J R (λj e=>(bn j e).1) (f1 hg)) rfl w ?_;rw[show D8 p=[.int .i64 (ofNat p.1),.int .i64 (ofNat p.2)]from rfl];refine b_ ?_;refine br (ds:=[xp]) (ax (f1 hg)) (by simp) rfl ?_;refine b_ ?_;have bs:=J R (λj e=>(bn j e).1) (f1 hg);refine ab bs.g_ ?_;refine j8 ?_;obtain⟨xt,et,lt,gt,bt⟩:=qg R hi;refine ae et (ab gt ?_);refine j8 ?_;have a0:(r.take i).length=i:=by simp_all
   refine bu lt ?_;rw[a0];refine aG (m:=i) (λm ls g=>∃j,ls=[.i (ofNat j)]/\m=i - j/\j<=i/\S1 h b c N W pn F (λV=>(C V/\∀k,k<i->Gq pn r t z V k)/\∀(k:Nat) q,k<j->r[k]?=some q->JG pn V p.1 q.1 p.2 q.2) g) ⟨0,rfl,rfl,CM _,hg.congr λV=>⟨λq=>⟨q,λk _ L=>by omega⟩,λq=>q.1⟩⟩ ?_;rintro m2 cw g2 ⟨j,rfl,rfl,T,O⟩ ck ad;refine Da ?_;refine b_ ?_;by_cases ap:j<i
   case pos=>
    rw[aL ap];refine b_ ?_;obtain⟨q,hq⟩:=aq (l:=r) (i:=j) (by omega);have ca:(r.take i)[j]?=some q:=by grind
    refine aP (J lt (λj e=>by grind) (f1 O)) rfl ca ?_;rw[show D8 q=[.int .i64 (ofNat q.1),.int .i64 (ofNat q.2)]from rfl];refine b_ ?_;refine am (O.below p.1 q.1) ?_;refine b_ ?_;refine am (O.below p.2 q.2) ?_;refine b_ ?_;obtain⟨g3,ce,B⟩:=O.equal (x:=p.1) (y:=q.1) (x':=p.2) (y':=q.2) (Y (by omega) _ _) (Y (by omega) _ _);refine am ce ?_;refine b_ ?_;rw[aT (by omega)];refine ad _ _ _ (by omega) ⟨j+1,rfl,rfl,ap,B.congr λV=>?_⟩
    grind
   obtain rfl:j=i:=by omega
   rw[aK (x5 _)];refine b_ ?_;refine br (ds:=[x0,x1]) (ax (f1 O)) (by simp) rfl ?_;refine b_ ?_;refine ab bd.g_ ?_;refine j8 ?_;refine ab bk.g_ ?_;refine j8 ?_;refine aG (m:=2) (λm ls g=>∃s,ls=[.i (ofNat s)]/\m=2 - s/\s<=2/\S1 h b c N W pn F (λV=>((C V/\∀k,k<j->Gq pn r t z V k)/\∀(k:Nat) q,k<j->r[k]?=some q->JG pn V p.1 q.1 p.2 q.2)/\(1<=s->∀o∈t,JG pn V p.1 o.1 p.1 o.2)/\(2<=s->∀o∈z,JG pn V p.2 o.1 p.2 o.2)) g) ⟨0,rfl,rfl,by decide,O.congr λV=>⟨λq=>⟨q,λL=>by omega,λL=>by omega⟩,λq=>q.1⟩⟩ ?_;rintro m3 cf g3 ⟨s,rfl,rfl,cb,B⟩ a6 D;refine Da ?_;refine b_ ?_;by_cases d:s<2
   case pos=>
    rw[td (by grind)];refine b_ ?_;refine ae (Vh d) ?_;refine ae (QA d) ?_;refine j8 ?_;obtain⟨f,eL⟩ : ∃f,f=if s=0 then t else z:=⟨_,rfl⟩
    obtain⟨xs,eX⟩ : ∃xs,xs=if s=0 then x0 else x1:=⟨_,rfl⟩
    obtain⟨Q,eP⟩ : ∃Q,Q=if s=0 then p.1 else p.2:=⟨_,rfl⟩
    rw[←eX];have M:po h xs 2 D8 f:=by
     grind
    have P:∀j,d_ c.up=some j->d_ xs≠some j:=λj e=>by
     grind
    have bm:f.length<=1000:=by
     grind
    refine bu (J M P (f1 B)) ?_;refine aG (m:=f.length) (λm ls g=>∃k,ls=[.i (ofNat k)]/\m=f.length - k/\k<=f.length/\S1 h b c N W pn F (λV=>(((C V/\∀k,k<j->Gq pn r t z V k)/\∀(k:Nat) q,k<j->r[k]?=some q->JG pn V p.1 q.1 p.2 q.2)/\(1<=s->∀o∈t,JG pn V p.1 o.1 p.1 o.2)/\(2<=s->∀o∈z,JG pn V p.2 o.1 p.2 o.2))/\∀(i:Nat) o,i<k->f[i]?=some o->JG pn V Q o.1 Q o.2) g) ⟨0,rfl,rfl,CM _,B.congr λV=>⟨λq=>⟨q,λk _ L=>by omega⟩,λq=>q.1⟩⟩ ?_;rintro m4 ci g4 ⟨k,rfl,rfl,L,I⟩ a7 E;refine Da ?_;refine b_ ?_;by_cases A:k<f.length
    case pos=>
     rw[aL A];refine b_ ?_;obtain⟨o,ho⟩:=aq A;refine aP (J M P (f1 I)) rfl ho ?_;rw[show D8 o=[.int .i64 (ofNat o.1),.int .i64 (ofNat o.2)]from rfl];refine b_ ?_;have a9:(if s=0 then(ofNat p.1:Int)else ofNat p.2)=ofNat Q:=by
      grind
     refine ae (Vh d) ?_;refine ae (Qz d) ?_;rw[a9];refine j8 ?_;have bl:2<=r.length+t.length+z.length:=by
      grind
     refine am (I.below Q o.1) ?_;refine b_ ?_;refine ae (Vh d) ?_;refine ae (Qz d) ?_;rw[a9];refine j8 ?_;refine am (I.below Q o.2) ?_;refine b_ ?_;obtain⟨g5,ce,Z⟩:=I.equal (x:=Q) (y:=o.1) (x':=Q) (y':=o.2) (Y bl _ _) (Y bl _ _);refine am ce ?_;refine b_ ?_;rw[aT (by omega)];refine E _ _ _ (by omega) ⟨k+1,rfl,rfl,A,Z.congr λV=>?_⟩
     grind
    obtain rfl:k=f.length:=by omega
    rw[aK (x5 _)];refine b_ ?_;rw[aT (by omega)];refine D _ _ _ (by omega) ⟨s+1,rfl,rfl,d,I.congr λV=>?_⟩;have co:(∀(i:Nat) o,i<f.length->f[i]?=some o->JG pn V Q o.1 Q o.2)↔∀o∈f,JG pn V Q o.1 Q o.2:=by
     constructor
     .intro q o ho;obtain⟨i,hi⟩:=DZ ho
      grind
     grind
    grind
   obtain rfl:s=2:=by omega
   rw[tf (by decide)];refine b_ ?_;rw[aT (by omega)];refine aE _ _ _ (by omega) ⟨j+1,rfl,rfl,ay,B.congr λV=>?_⟩;constructor
   .rintro⟨⟨⟨a1,a2⟩,a3⟩,a4,a5⟩;refine⟨a1,λk L=>?_⟩;by_cases e:k=j
    .subst e;intro p' cr
     grind
    grind
   .rintro⟨a1,a2⟩;obtain⟨b1,b2,b3⟩:=a2 j (by omega) p w
    grind
  obtain rfl:i=r.length:=by omega
  rw[aK (x5 _)];refine b_ ?_;refine br (ds:=[x0,x1]) (ax (f1 hg)) (by simp) rfl ?_;refine b_ ?_;refine ab bd.g_ ?_;refine j8 ?_;refine ab bk.g_ ?_;refine j8 ?_;have f2:∀ {F':List x_} {C:(Nat->Bool)->Prop} {g:HL},S2 h b c N W pn F' C g->∀(j:Nat) o,h[j]?=some o->j≠b->d_ c.up≠some j->d_ c.fo≠some j->g[j]?=some o:=λ{F' C g} q=>by
   obtain⟨_,_,_,_,_,_,_,L,_⟩:=q;exact L
  refine aG (m:=2) (λm ls g=>∃s,ls=[.i (ofNat s)]/\m=2 - s/\s<=2/\S2 h b c N W pn (F++(if 1<=s then Fi pn t t.length else [])++(if 2<=s then Fi pn z z.length else [])) (λV=>C V/\∀i,i<r.length->Gq pn r t z V i) g) ⟨0,rfl,rfl,by decide,by simpa using hg.two⟩ ?_;rintro m3 cf g3 ⟨s,rfl,rfl,cb,B⟩ a6 D;refine Da ?_;refine b_ ?_;by_cases d:s<2
  case neg=>
   obtain rfl:s=2:=by omega
   rw[tf (by decide)];refine b_ ?_
   grind
  rw[td (by grind)];refine b_ ?_;refine ae (Vh d) ?_;refine ae (QA d) ?_;refine j8 ?_;obtain⟨f,eL⟩ : ∃f,f=if s=0 then t else z:=⟨_,rfl⟩
  obtain⟨xs,eX⟩ : ∃xs,xs=if s=0 then x0 else x1:=⟨_,rfl⟩
  obtain⟨FF,eF⟩ : ∃FF,FF=F++(if 1<=s then Fi pn t t.length else [])++(if 2<=s then Fi pn z z.length else []):=⟨_,rfl⟩;rw[←eX];rw[←eF]at B;have cm:FF.length<=1001000000:=by
   have q0:=wO (pn:=pn) an.2.1 t.length an.2.1
   grind
  have M:po h xs 2 D8 f:=by
   grind
  have P:∀j,d_ c.up=some j->d_ xs≠some j:=λj e=>by
   grind
  have bm:f.length<=1000:=by
   grind
  refine bu (J M P (f2 B)) ?_;refine aG (m:=f.length) (λm ls g=>∃k,ls=[.i (ofNat k)]/\m=f.length - k/\k<=f.length/\S2 h b c N W pn (FF++Fi pn f k) (λV=>C V/\∀i,i<r.length->Gq pn r t z V i) g) ⟨0,rfl,rfl,CM _,by simpa[Fi]using B⟩ ?_;rintro m4 ci g4 ⟨k,rfl,rfl,L,I⟩ a7 E;refine Da ?_;refine b_ ?_;by_cases A:k<f.length
  case neg=>
   obtain rfl:k=f.length:=by omega
   rw[aK (x5 _)];refine b_ ?_;rw[aT (by omega)];refine D _ _ _ (by omega) ⟨s+1,rfl,rfl,d,?_⟩
   grind
  rw[aL A];refine b_ ?_;obtain⟨o,ho⟩:=aq A;refine aP (J M P (f2 I)) rfl ho ?_;rw[show D8 o=[.int .i64 (ofNat o.1),.int .i64 (ofNat o.2)]from rfl];refine b_ ?_;obtain⟨xt,et,lt,gt,bt⟩:=qg M L;refine ae et (ab gt ?_);refine j8 ?_;have a0:(f.take k).length=k:=by grind
  refine bu lt ?_;rw[a0];refine aG (m:=k) (λm ls g=>∃j,ls=[.i (ofNat j)]/\m=k - j/\j<=k/\S2 h b c N W pn (FF++Fi pn f k++((f.take k).take j).map (four pn o)) (λV=>C V/\∀i,i<r.length->Gq pn r t z V i) g) ⟨0,rfl,rfl,CM _,by simpa using I⟩ ?_;rintro m5 cx g5 ⟨j,rfl,rfl,T,Z⟩ cl ag;refine Da ?_;refine b_ ?_;by_cases av:j<k
  case neg=>
   obtain rfl:j=k:=by omega
   rw[aK (x5 _)];refine b_ ?_;rw[aT (by omega)];refine E _ _ _ (by omega) ⟨j+1,rfl,rfl,A,?_⟩;rw[sU,←EC];have:Sq pn f j=((f.take j).take j).map (four pn o):=by
    unfold Sq
    grind
   grind
  rw[aL av];refine b_ ?_;obtain⟨u,hu⟩:=aq (l:=f.take k) (i:=j) (by omega);refine aP (J lt (λj e=>by rw[bt];exact P j e) (f2 Z)) rfl hu ?_;rw[show D8 u=[.int .i64 (ofNat u.1),.int .i64 (ofNat u.2)]from rfl];refine b_ ?_;obtain⟨fo,n,U,w,hN,hC,b0,b4,b5⟩:=Z;refine jK (ds:=[fo]) w.hb (by simp[ah]) rfl ?_;refine b_ ?_;have bb:=w.fo.g_ sE;refine ab bb ?_;refine j8 ?_;refine am (jR w.hb w.pr o.1 u.1) ?_;refine b_ ?_;refine am (jR w.hb w.pr o.2 u.1) ?_;refine b_ ?_;refine am (jR w.hb w.pr o.1 u.2) ?_;refine b_ ?_;refine am (jR w.hb w.pr o.2 u.2) ?_;refine b_ ?_;have cn:(FF++Fi pn f k++((f.take k).take j).map (four pn o)).length<=1100000000:=by
   have q1:=wO (pn:=pn) bm k (by omega)
   grind
  refine w.fo.GX (a:=four pn o u) sE (CM _) rfl rfl rfl (by unfold ba;rw[DK (by omega),DK (by omega)];rfl) ?_;intro v' g6 hO gv b8 b9 bC;have al:∀(j:Nat) o,g5[j]?=some o->d_ fo≠some j->g6[j]?=some o:=λj o T hb=>b8 j o T hb;refine b_ ?_;refine ab gv ?_;refine j8 ?_;have b7:g6[b]?=some (.o (.cells (ah { c with fo:=fo } n) 15 true)):=al b _ w.hb λe=>by
   obtain⟨a8,h2⟩:=w.fo.wid e;rw[w.hb]at h2
   grind
  refine gf (b:=b) b7 (by simp[ah]) ?_;refine j8 ?_;have bx:Gp (g5++[HO.o (.cells (IJ (four pn o u)) 8 true)]) (.pointer (some ⟨b,13,none⟩)) [fo]:=⟨b,13,_,15,true,rfl,dt w.hb,fY.2 ⟨by simp[ah],rfl⟩⟩;refine dq (bx.lg rfl) ?_;refine b_ ?_;refine ab bb ?_;refine j8 ?_;refine ae (Mu (jJ (w.fo.ls sE))) ?_;refine j8 ?_;rw[aT (by omega)];refine ag _ _ _ (by omega) ⟨j+1,rfl,rfl,av,?_⟩;rw[H5,hu,Iu,←EC];exact S2.four w hN hC b0 b4 b5 hO al b9 bC)
 grind
structure Sm(n1:Nat)(h:HL)(mm:Nat)(kv:Value)(ks:List K6)(is:TC)(vs:Tn)(ls:List (List K2)):Prop where
 mp:C6 JW h mm (ks.zip (is.map i'))
 kl:e_ n1 h kv 1 CG (is.map i')
 nd:ks.Nodup
 il:is.length=ks.length
 idn:is.Nodup
 vl:vs.length=3*ks.length
 ll:ls.length=vs.length
 bl:∀(i:Nat) id,is[i]?=some id->n1<=id/\∃x y z,vs[3*i]?=some x/\vs[3*i+1]?=some y/\vs[3*i+2]?=some z/\h[id]?=some (.o (.cells [x,y,z] 3 true))
 ow:∀(j:Nat) v l,vs[j]?=some v->ls[j]?=some l->e_ n1 h v 2 D8 l
 dj:∀(i j:Nat) v w x,vs[i]?=some v->vs[j]?=some w->d_ v=some x->d_ w=some x->i=j
def Sm.i_{f:Nat}{h h':HL}{e:Nat}{kv:TR}{ks:List K6}{is:TC}{vs:Tn}{ls:List (List K2)}(a:Sm f h e kv ks is vs ls)(d:∀(j:Nat) o,f<=j∨j=e->h[j]?=some o->h'[j]?=some o):Sm f h' e kv ks is vs ls:=
 ⟨a.mp.i_ _ λo n=>d _ o (.inr rfl) n,a.kl.i_ λj o m b=>d j o (.inl (a.kl.d_ b).1) m,a.nd,a.il,a.idn,a.vl,a.ll,λi id c=>by
  obtain⟨p,x,y,z,q,r,s,t⟩:=a.bl i id c
  simp_all,λj v l g k=>(a.ow j v l g k).i_ λi o c b=>d i o (.inl ((a.ow j v l g k).d_ b).1) c,a.dj⟩
def Rh{d:Nat}{h:HL}{b:Nat}(h0:h[b]?=some (.o (.map [] 0))):Sm d h b (.slice none 0 0) [] [] [] []:=
 ⟨⟨[],0,h0,rfl⟩,.inl ⟨rfl,rfl⟩,kH,rfl,kH,rfl,rfl,λi id c=>(by cases c),λj v l a=>(by cases a),λi j v w x a=>(by cases a)⟩
section
variable {n1:Nat} {h h':HL} {mm:Nat} {kv:Value} {ks:List K6} {is:TC} {vs:Tn} {ls:List (List K2)} (hs:Sm n1 h mm kv ks is vs ls)
include hs
theorem Sm.Gy{j e:Nat}{cs:Tn}{a:Bool}(f:h[j]?=some (.o (.cells cs e a))):j≠mm:=λb=>by
 subst b;obtain⟨c,g,d,_⟩:=hs.mp
 simp_all
theorem Sm.new{k:K6}(U:k∉ks){id:Nat}{kv':TR}(hY:h.length<=id)(N:n1<=h.length)(V:h'[id]?=some (.o (.cells [.slice none 0 0,.slice none 0 0,.slice none 0 0] 3 true)))(M:C6 JW h' mm (ks.zip (is.map i')++[(k,i' id)]))(D:e_ n1 h' kv' 1 CG ((is++[id]).map i'))
  (d:∀(j:Nat) o,h[j]?=some o->n1<=j->j≠mm->d_ kv≠some j->h'[j]?=some o):Sm n1 h' mm kv' (ks++[k]) (is++[id]) (vs++[.slice none 0 0,.slice none 0 0,.slice none 0 0]) (ls++[[],[],[]]):=by
 have q:∀ {j e:Nat} {s:Tn} {r:Bool},h[j]?=some (.o (.cells s e r))->e≠1->d_ kv≠some j:=λ{j e s r} G T K=>by
  obtain⟨J,m⟩:=hs.kl.wid K
  simp_all
 have B:∀x∈is,x<h.length:=λx O=>by
  obtain⟨i,c⟩:=DZ O;obtain⟨_,_,_,_,_,_,_,p⟩:=hs.bl i x c;exact ai p
 have H:∀(j:Nat) v,([.slice none 0 0,.slice none 0 0,.slice none 0 0]:Tn)[j]?=some v->v = .slice none 0 0:=λj v G=>by
  grind
 have g:∀(j:Nat) v,(vs++[.slice none 0 0,.slice none 0 0,.slice none 0 0])[j]?=some v->(j<vs.length/\vs[j]?=some v)∨(vs.length<=j/\v = .slice none 0 0):=λj v G=>by
  grind
 refine⟨?_,D,?_,by simp[hs.il],?_,by simp[hs.vl];omega,by simp[hs.ll],λi x c=>?_,λj v l n m=>?_,λi j v w x n m t F=>?_⟩
 .rw[Iu,List.zip_append (by rw[FM,hs.il])];exact M
 .rw[kG];exact⟨hs.nd,by simp,λa L b u e=>by
   simp_all⟩
 .rw[kG];exact⟨hs.idn,by simp,λa L b u e=>by
   grind⟩
 .rw[n3]at c;split at c
  next f=>
   obtain⟨E,P,y,z,Q,R,S,p⟩:=hs.bl i x c;refine⟨E,P,y,z,?_,?_,?_,d x _ p E (hs.Gy p) (q p (by decide))⟩
   .grind
   .grind
   grind
  next f=>
   have A:=ai c;simp only[qcK]at A;have C:i=is.length:=by omega
   subst C;rw[Wj]at c;cases c;have t:3*is.length=vs.length:=by rw[hs.vl,hs.il]
   grind
 .rcases g j v n with⟨f,n⟩|⟨f,rfl⟩
  .rw[GD (by rw[hs.ll];exact f)]at m;have I:=hs.ow j v l n m;exact I.A1 λi s u c=>d i _ c (I.d_ u).1 (hs.Gy c) (q c (by decide))
  .rw[Hb (by rw[hs.ll];exact f)]at m;have:l=[]:=by
    grind
   rw[this];exact .inl ⟨rfl,rfl⟩
 .rcases g i v n with⟨_,n⟩|⟨_,rfl⟩
  .rcases g j w m with⟨_,m⟩|⟨_,rfl⟩
   .exact hs.dj i j v w x n m t F
   .cases F
  .cases t
theorem Sm.put{i s id:Nat}{v:TR}{l l':List K2}(X:is[i]?=some id)(ag:s<3)(F:vs[3*i+s]?=some v)(Y:ls[3*i+s]?=some l){g:HL}{v':TR}(S:e_ n1 g v' 2 D8 l')(N:∀(j:Nat) o,h[j]?=some o->d_ v≠some j->g[j]?=some o)(hb:d_ v'=d_ v∨∃j,d_ v'=some j/\h.length<=j)
  {cs p:Tn} (A:h[id]?=some (.o (.cells cs 3 true))) (U:p=cs.set s v'):Sm n1 (g.set id (.o (.cells p 3 true))) mm kv ks is (vs.set (3*i+s) v') (ls.set (3*i+s) l'):=by
 have O:=hs.ow _ v l F Y;have G:∀ {j e:Nat} {cs:Tn} {d:Bool},h[j]?=some (.o (.cells cs e d))->e≠2->d_ v≠some j:=λ{j e cs d} b V k=>by
  obtain⟨a,f⟩:=O.wid k
  simp_all
 have M:g[id]?=some (.o (.cells cs 3 true)):=N id _ A (G A (by decide));have hw:∀ {j e:Nat} {a:Tn} {d:Bool},g[j]?=some (.o (.cells a e d))->e≠3->j≠id:=λ{j e a d} b V k=>by
  simp_all
 have C:3*i+s<vs.length:=ai F;have c:∀(j:Nat) w,(vs.set (3*i+s) v')[j]?=some w->(j=3*i+s/\w=v')∨(j≠3*i+s/\vs[j]?=some w):=λj w b=>by
  grind
 have Q:∀j w,j≠3*i+s->vs[j]?=some w->(vs.set (3*i+s) v')[j]?=some w:=λj w e b=>by grind
 have P:∀(j:Nat) w x,j≠3*i+s->vs[j]?=some w->d_ w=some x->x<h.length/\d_ v≠some x:=λj w x e b H=>by
  obtain⟨I,B⟩:=aq (l:=ls) (i:=j) (by rw[hs.ll];exact ai b);exact⟨((hs.ow j w I b B).d_ H).2,λk=>e (hs.dj j _ w v x b F H k)⟩
 refine⟨hs.mp.i_ _ λo D=>cW (N mm o D λe=>?_) (De (hs.Gy A).symm),hs.kl.A1 λj a T b=>?_,hs.nd,hs.il,hs.idn,by rw[Fy];exact hs.vl,by rw[Fy,Fy];exact hs.ll,λr t m=>?_,λj w I q f=>?_,λr n u w x q f K L=>?_⟩
 .obtain⟨a,f⟩:=O.wid e;exact hs.Gy f rfl
 .grind
 .obtain⟨R,x,y,z,a2,a3,a4,J⟩:=hs.bl r t m;by_cases e:r=i
  .subst e;rw[X]at m;cases m;rw[A]at J;cases J;refine⟨R,?_⟩;obtain rfl|rfl|rfl:s=0∨s=1∨s=2:=by omega
   .grind
   .grind
   grind
  .have ad:t≠id:=λk=>by
    subst k;have Z:=hs.idn;rw[SA,M8]at Z
    grind
   grind
 .rcases c j w q with⟨rfl,rfl⟩|⟨e,q⟩
  .rw[GL (by rw[hs.ll];exact C)]at f;cases f;exact S.A1 λj a _ b=>cW b (De (hw b (by decide)))
  .rw[Ha (De e)]at f;have E:=hs.ow j w I q f;refine E.A1 λx a H b=>?_
   grind
 .have W:∀n w x,n≠3*i+s->vs[n]?=some w->d_ w=some x->d_ v'≠some x:=λn w x e f L K=>by
   grind
  rcases c r u q with⟨rfl,rfl⟩|⟨e1,p1⟩
  .grind
  .rcases c n w f with⟨rfl,rfl⟩|⟨k,p2⟩
   .grind
   .exact hs.dj r n u w x p1 p2 K L
end
abbrev _root_.TH:=Nat->Mv
def qn(w v:Nat)(l:TD)(G:TH):Prop:=∀c e n,c<4*w*v->e<3->Cn w v c e=some n->G n=Eg w l (G c) c n e
def DF:Ty->Nat
 | []=>0
 |b :: l=>(if b then 1 else 0)+DF l
def iG:∀l:List Bool,DF l<=l.length
 | []=>x5 _
 |b :: l=>by
  have:=iG l;simp only[DF,Wk];split<;>omega
def gK:∀ {l:Ty} {n:Nat},l[n]?=some false->DF (l.set n true)=DF l+1
 | [],n,h=>by simp at h
 |b :: l,0,h=>by
  simp only[hB,FL]at h;subst h;simp[DF];omega
 |b :: l,n+1,h=>by
  simp only[q6]at h;have:=gK h;simp only[e6,DF,this];omega
structure JS(w v:Nat)(l:TD)(A:TO)(B:Ty)(q:TC)(D:Nat->Nat->Prop):Prop where
 a0:A[0]?=some CJ
 b0:B[0]?=some true
 q1:∀c∈q,B[c]?=some true
 dn:∀c e n,D c e->c<4*w*v->e<3->Cn w v c e=some n->B[c]?=some true->c∉q->B[n]?=some true/\∃a,A[c]?=some a/\A[n]?=some (Eg w l a c n e)
 bd:∀(c:Nat) a,B[c]?=some true->A[c]?=some a->CD (20*(DF B:Int)) a
 un:∀G,qn w v l G->G 0=CJ->∀(c:Nat) a,B[c]?=some true->A[c]?=some a->a=G c
structure FQ(w v:Nat)(l:TD)(A:TO):Prop where
 len:A.length=4*w*v
 a0:A[0]?=some CJ
 ok:∀a∈A,CD 2000 a
 cons:∀c e n a,c<4*w*v->e<3->Cn w v c e=some n->A[c]?=some a->A[n]?=some (Eg w l a c n e)
section
variable {w v:Nat} {l:TD} {A:TO} {B:Ty} {q:TC}
def JS.start(f:Sh w v):JS w v l (replicate (4*w*v) CJ) ((replicate (4*w*v) false).set 0 true) [0] λ_ _=>True:=by
 have i:0<4*w*v:=by
  have g:=f.1;have h:=f.2.2.1;have:0<w*v:=q4 g h
  grind
 have j:∀c,((replicate (4*w*v) false).set 0 true)[c]?=some true->c=0:=by
  grind
 refine⟨by simp_all,by simp_all,λc o=>?_,λc e n _ _ _ _ d p=>?_,λc a d b=>?_,λG m k c a d b=>?_⟩
 .simp_all
 .simp_all
 .have:=j c d;subst this;rw[Yu,n_ i]at b;cases b;exact zC (by omega)
 simp_all
def JS.pop{c0:Nat}(h:JS w v l A B (c0 :: q) λ_ _=>True):JS w v l A B q λc e=>c=c0->e<0:=by
 refine⟨h.a0,h.b0,λc a=>h.q1 c (E2 _ a),λc e n i a f g b k=>?_,h.bd,h.un⟩;by_cases d:c=c0
 .omega
 .exact h.dn c e n trivial a f g b λj=>by
   simp_all
def JS.skip{c0 j:Nat}(h:JS w v l A B q λc e=>c=c0->e<j)(m:Cn w v c0 j=none):JS w v l A B q λc e=>c=c0->e<j+1:=by
 refine⟨h.a0,h.b0,h.q1,λc e n k d g a b i=>?_,h.bd,h.un⟩;refine h.dn c e n (λf=>?_) d g a b i
 grind
def JS.seen{c0 j n:Nat}{a:Mv}(h:JS w v l A B q λc e=>c=c0->e<j)(u:Cn w v c0 j=some n)(r:B[n]?=some true)(p:A[c0]?=some a)(t:A[n]?=some (Eg w l a c0 n j)):JS w v l A B q λc e=>c=c0->e<j+1:=by
 refine⟨h.a0,h.b0,h.q1,λc e o s f k d b m=>?_,h.bd,h.un⟩;by_cases i:c=c0/\e=j
 .simp_all
 .exact h.dn c e o (λg=>by omega) f k d b m
def JS.fresh(F:Sh w v){c0 j n:Nat}{a:Mv}(h:JS w v l A B q λc e=>c=c0->e<j)(M:A.length=4*w*v)(N:B.length=4*w*v)(i:c0<4*w*v)(x:j<3)(y:Cn w v c0 j=some n)(p:B[c0]?=some true)(I:B[n]?=some false)(D:A[c0]?=some a) :
  JS w v l (A.set n (Eg w l a c0 n j)) (B.set n true) (q++[n]) λc e=>c=c0->e<j+1:=by
 obtain⟨U,_,_,_,V⟩:=du F i x y;have H:(B.set n true)[n]?=some true:=GL (by omega);have m:(A.set n (Eg w l a c0 n j))[n]?=some (Eg w l a c0 n j):=GL (by omega);have r:∀c,c≠n->(B.set n true)[c]?=B[c]?:=λc g=>Ha (De g);have hA:∀c,c≠n->(A.set n (Eg w l a c0 n j))[c]?=A[c]?:=λc g=>Ha (De g);have k:(0:Nat)≠n:=λe=>by have:=h.b0;simp_all
 have C:CD (20*(DF B:Int)) a:=h.bd c0 a p D;refine⟨by rw[hA 0 k];exact h.a0,by rw[r 0 k];exact h.b0,λc g=>?_,λc e P W g L z f E=>?_,λc s f d=>?_,λG t o c s f d=>?_⟩
 .rcases Ed.1 g with g|g
  .have:=h.q1 c g
   grind
  simp_all
 .have b:c≠n:=λe=>E (by rw[e];simp);have u:c∉q:=λO=>E (Jf _ O);rw[r c b]at f;by_cases K:c=c0/\e=j
  .simp_all
  .obtain⟨R,Q,S,T⟩:=h.dn c e P (λJ=>by omega) g L z f u
   grind
 .rw[gK I];by_cases b:c=n
  .rw[b,m]at d;cases d;exact aY (yv F i x y C (by omega)) (by omega)
  .rw[r c b]at f;rw[hA c b]at d;exact aY (h.bd c s f d) (by omega)
 .by_cases b:c=n
  .rw[b,m]at d;cases d;rw[b,t c0 j n i x y,←h.un G t o c0 a p D]
  .rw[r c b]at f;rw[hA c b]at d;exact h.un G t o c s f d
def JS.done{c0:Nat}(h:JS w v l A B q λc e=>c=c0->e<3):JS w v l A B q λ_ _=>True:=
 ⟨h.a0,h.b0,h.q1,λc e n _ d a f b g=>h.dn c e n (λ_=>a) d a f b g,h.bd,h.un⟩
def E4(a:Sh w v):0<4*w*v/\4*w*v<=100:=by
 have b:1*1<=w*v:=m0 a.1 a.2.2.1;have c:w*v<=5*5:=m0 a.2.1 a.2.2.2
 grind
def JS.g_(o:Sh w v)(h:JS w v l A B [] λ_ _=>True)(g:A.length=4*w*v)(r:B.length=4*w*v):FQ w v l A:=by
 have b:∀n,n<4*w*v->B[n]?=some true:=xw o h.b0 λc e n d f j p=>(h.dn c e n trivial d f j p (by simp)).1;have y:=E4 o;have k:=iG B;refine⟨g,h.a0,λa s=>?_,λc e n a d f j z=>?_⟩
 .obtain⟨i,m⟩:=DZ s;have:=ai m;exact aY (h.bd i a (b i (by omega)) m) (by omega)
 .obtain⟨_,t,u,x⟩:=h.dn c e n trivial d f j (b c d) (by simp)
  simp_all
def JS.tear(r:Sh w v){c0 j n:Nat}{a b:Mv}{D:Nat->Nat->Prop}(h:JS w v l A B q D)(g:c0<4*w*v)(o:j<3)(p:Cn w v c0 j=some n)(e:B[c0]?=some true)(m:B[n]?=some true)(k:A[c0]?=some a)(f:A[n]?=some b)(i:b≠Eg w l a c0 n j):¬ ∃G,qn w v l G/\G 0=CJ:=by
 rintro⟨G,d,c⟩;refine i ?_;rw[h.un G d c n b m f,d c0 j n g o p,←h.un G d c c0 a e k]
end
def left(B:Ty)(q:TC):Nat:=q.length+(B.length - DF B)
def j':Bool:=(range 5).all λw=>(range 5).all λv=>lK 151 [.i (.ofNat (w+1)),.i (.ofNat (v+1))] [.i (.ofNat (4*(w+1)*(v+1)))]
def Ur:j'=true:=by kernel_rfl
def f0{w v:Nat}(h:Sh w v):Cc 151 [.i (.ofNat w),.i (.ofNat v)] [.i (.ofNat (4*w*v))]:=by
 have b:=A5.1 Ur (w - 1) (Cd.2 (by have:=h.2.1;omega));have a:=A5.1 b (v - 1) (Cd.2 (by have:=h.2.2.1;have:=h.2.2.2;omega));rw[show w - 1+1=w by have:=h.1;omega,show v - 1+1=v by have:=h.2.2.1;omega]at a;exact fT a rfl (by kernel_rfl) rfl
def ZE{a b:Mv}{K:Tp}:P1.eqs [(.i (ofNat a.1),.i (ofNat b.1)),(.i a.2.1,.i b.2.1),(.i a.2.2,.i b.2.2)] (@hY _ ⟨K⟩)=K (decide (a=b)):=by
 show K (ch _)=_;have e:ch [(.i (ofNat a.1),.i (ofNat b.1)),(.i a.2.1,.i b.2.1),(.i a.2.2,.i b.2.2)]=decide (a=b):=by
  rw[Wm];simp[ch,iq,f5];omega
 rw[e]
def W5(w v:Nat)(l:TD)(H:HL)(a:TG)(h':HL):Prop:=
 tx H h'/\((∃A id,a=[.v (.slice (some ⟨id,0,le 3⟩) (4*w*v) (4*w*v+1)),.i 0]/\H.length<=id/\h'[id]?=some (.o (.cells (A.flatMap q7) 3 true))/\FQ w v l A)∨
  (a=[.v (.slice none 0 0),.i 11]/\¬ ∃G,qn w v l G/\G 0=CJ))
def Br{w v:Nat}(F:Sh w v){l:TD}(hk:(l.map aO).Nodup)(a8:l.length<=1000){H:HL}{x:TR}(hl:po H x 3 my l) :
  ∃rs h',aI cc ac 130 [.i (.ofNat w),.i (.ofNat v),.v x] (f_ aa H) rs (f_ aa h')/\W5 w v l H rs h':=by
 have hN:=E4 F;obtain⟨rs,h',h1,T⟩:=x130 (K:=λrs h'=>W5 w v l H rs h') (H:=H) (km (km (pu hl.g_ u_))) (by
  unfold UX;simp only[u7]
  repeat (first|simp(disch:=omega)only[↓mc]|refine cU (bz aH) rfl ?_|refine ab hl.g_ ?_)
  obtain⟨M,V,U⟩:=Mi (w:=.ofNat w) (v:=.ofNat v) (hl.pre (h':=H++[HO.o (.cells [.int .i64 (.ofNat w),.int .i64 (.ofNat v),x] 3 true)]) ⟨_,rfl⟩) hk a8;rw[show(H++[HO.o (.cells [.int .i64 (.ofNat w),.int .i64 (.ofNat v),x] 3 true)]).length=H.length+1 by simp]at V U;have k0:(H++[HO.o (.cells [.int .i64 (.ofNat w),.int .i64 (.ofNat v),x] 3 true)]++[M]).length=H.length+2:=by simp
  have kp:(H++[HO.o (.cells [.int .i64 (.ofNat w),.int .i64 (.ofNat v),x] 3 true)]++[M])[H.length]?=some (HO.o (.cells [.int .i64 (.ofNat w),.int .i64 (.ofNat v),x] 3 true)):=by simp
  have kH:tx H (H++[HO.o (.cells [.int .i64 (.ofNat w),.int .i64 (.ofNat v),x] 3 true)]++[M]):=⟨_,EC ..⟩;refine am V ?_;clear V;generalize H++[HO.o (.cells [.int .i64 (.ofNat w),.int .i64 (.ofNat v),x] 3 true)]++[M]=T at *;refine b_ ?_;refine xP aH rfl ?_;rw[oA];have m0:(T++[HO.o (.cells [.map (some (H.length+1))] 1 true)]).length=H.length+3:=by simp[k0]
  have mp:=kp |> (tx.get (b:=T++[HO.o (.cells [.map (some (H.length+1))] 1 true)]) ⟨_,rfl⟩)
  have mv:(T++[HO.o (.cells [.map (some (H.length+1))] 1 true)])[H.length+2]?=some (HO.o (.cells [.map (some (H.length+1))] 1 true)):=by simp_all
  have mH:tx H (T++[HO.o (.cells [.map (some (H.length+1))] 1 true)]):=kH.E6 _;have mS:HA (T++[HO.o (.cells [.map (some (H.length+1))] 1 true)]) (H.length+1) l:=by
   obtain⟨S,c,I,J⟩:=U;exact⟨S,c,tx.get ⟨_,rfl⟩ I,J⟩
  rw[k0];generalize T++[HO.o (.cells [.map (some (H.length+1))] 1 true)]=h3 at *;clear kp kH U k0
  repeat (first|simp(disch:=omega)only[↓mc]|refine rC (p:=i' H.length) (cs:=[.int .i64 (.ofNat w),.int .i64 (.ofNat v),x]) (ds:=[.int .i64 (.ofNat w),.int .i64 (.ofNat v)]) (bz mp) (by simp) rfl ?_|refine aj (f0 F) ?_|refine ae (dM (by omega)) ?_)
  rw[show(ofNat (4*w*v)).toNat=4*w*v from rfl];have z0:HO.o (.cells (aN [.int .u8 0,.int .i64 0,.int .i64 0] (4*w*v)) 3 true)=HO.o (.cells ((replicate (4*w*v) CJ).flatMap q7) 3 true):=by
   rw[←cS (enc:=q7) (z:=CJ) (n:=4*w*v)];rfl
  rw[z0,m0];have n0:(h3++[HO.o (.cells ((replicate (4*w*v) CJ).flatMap q7) 3 true)]).length=H.length+4:=by simp[m0]
  have np:=mp |> (tx.get (b:=h3++[HO.o (.cells ((replicate (4*w*v) CJ).flatMap q7) 3 true)]) ⟨_,rfl⟩)
  have nv:=mv |> (tx.get (b:=h3++[HO.o (.cells ((replicate (4*w*v) CJ).flatMap q7) 3 true)]) ⟨_,rfl⟩)
  have na:(h3++[HO.o (.cells ((replicate (4*w*v) CJ).flatMap q7) 3 true)])[H.length+3]?=some (HO.o (.cells ((replicate (4*w*v) CJ).flatMap q7) 3 true)):=by simp_all
  have nH:tx H (h3++[HO.o (.cells ((replicate (4*w*v) CJ).flatMap q7) 3 true)]):=mH.E6 _;have nS:HA (h3++[HO.o (.cells ((replicate (4*w*v) CJ).flatMap q7) 3 true)]) (H.length+1) l:=by
   obtain⟨S,c,I,J⟩:=mS;exact⟨S,c,tx.get ⟨_,rfl⟩ I,J⟩
  generalize h3++[HO.o (.cells ((replicate (4*w*v) CJ).flatMap q7) 3 true)]=h4 at *;clear mp mv mH mS m0;refine xP aH rfl ?_;rw[oA];refine j8 ?_;refine cU (bz aH) rfl ?_;refine b_ ?_;refine ab (by simp[aJ,l_,aV,bF,bo,aR,aD]) ?_;refine b_ ?_;refine ae (x:=ofNat (4*w*v)) rfl ?_;refine ae (dM (by omega)) ?_;refine b_ ?_;rw[n0,show(ofNat (4*w*v)).toNat=4*w*v from rfl];refine ab (by simp[aJ,l_,aV,bF,bo,aR,aD]) ?_;have o0:(h4++[HO.o (.cells [.slice (some ⟨H.length+3,0,some 13⟩) (4*w*v) (4*w*v+1)] 1 true)]).length=H.length+5:=by simp[n0]
  have op:=np |> (tx.get (b:=h4++[HO.o (.cells [.slice (some ⟨H.length+3,0,some 13⟩) (4*w*v) (4*w*v+1)] 1 true)]) ⟨_,rfl⟩)
  have om:=nv |> (tx.get (b:=h4++[HO.o (.cells [.slice (some ⟨H.length+3,0,some 13⟩) (4*w*v) (4*w*v+1)] 1 true)]) ⟨_,rfl⟩)
  have oa:=na |> (tx.get (b:=h4++[HO.o (.cells [.slice (some ⟨H.length+3,0,some 13⟩) (4*w*v) (4*w*v+1)] 1 true)]) ⟨_,rfl⟩)
  have ov:(h4++[HO.o (.cells [.slice (some ⟨H.length+3,0,some 13⟩) (4*w*v) (4*w*v+1)] 1 true)])[H.length+4]?=some (HO.o (.cells [.slice (some ⟨H.length+3,0,some 13⟩) (4*w*v) (4*w*v+1)] 1 true)):=by simp_all
  have oH:tx H (h4++[HO.o (.cells [.slice (some ⟨H.length+3,0,some 13⟩) (4*w*v) (4*w*v+1)] 1 true)]):=nH.E6 _;have oS:HA (h4++[HO.o (.cells [.slice (some ⟨H.length+3,0,some 13⟩) (4*w*v) (4*w*v+1)] 1 true)]) (H.length+1) l:=by
   obtain⟨S,c,I,J⟩:=nS;exact⟨S,c,tx.get ⟨_,rfl⟩ I,J⟩
  generalize h4++[HO.o (.cells [.slice (some ⟨H.length+3,0,some 13⟩) (4*w*v) (4*w*v+1)] 1 true)]=h5 at *;clear np nv na nH nS n0;have z1:HO.o (.cells (aN [.bool false] (4*w*v)) 1 true)=HO.o (.cells ((replicate (4*w*v) false).flatMap y0) 1 true):=by
   rw[←cS (enc:=y0) (z:=false) (n:=4*w*v)];rfl
  rw[z1,o0];have r0:RS H (h5++[HO.o (.cells ((replicate (4*w*v) false).flatMap y0) 1 true)]) w v x l (replicate (4*w*v) CJ) (replicate (4*w*v) false):=by
   obtain⟨S,c,I,J⟩:=oS;exact⟨oH.E6 _,by simp[o0],tx.get ⟨_,rfl⟩ op,⟨S,c,tx.get ⟨_,rfl⟩ I,J⟩,tx.get ⟨_,rfl⟩ om,tx.get ⟨_,rfl⟩ oa,tx.get ⟨_,rfl⟩ ov,by simp_all,by simp,by simp⟩
  generalize h5++[HO.o (.cells ((replicate (4*w*v) false).flatMap y0) 1 true)]=h6 at *;clear op om oa ov oH oS o0;refine dg (enc:=y0) (l:=replicate (4*w*v) false) (i:=0) (a:=true) cM r0.kn rfl (by simpa using hN.1) (by simp) rfl ?_;have r1:=r0.putB (B':=(replicate (4*w*v) false).set 0 true) (by simp);generalize m' h6 (H.length+5) 1 y0 ((replicate (4*w*v) false).set 0 true)=h7 at *;refine j8 ?_;have r2:RS H (h7++[HO.o (.cells [.int .i64 0] 1 true)]) w v x l (replicate (4*w*v) CJ) ((replicate (4*w*v) false).set 0 true):=r1.i_ (λj o _ ho=>tx.get ⟨_,rfl⟩ ho) (by simp);have ax:WQ (H.length+6) (h7++[HO.o (.cells [.int .i64 0] 1 true)]) (.slice (some ⟨h7.length,0,some 11⟩) 1 2) [0]:=⟨h7.length,0,2,_,rfl,r1.len,aH,Sx.t_ rfl,.inr rfl⟩;have al:=JS.start (l:=l) F;have ag:[0].length<=DF ((replicate (4*w*v) false).set 0 true):=by
   rw[gK (by simp_all)];simp
  generalize h7++[HO.o (.cells [.int .i64 0] 1 true)]=h8 at *;generalize Value.slice (some ⟨h7.length,0,some 11⟩) 1 2=v8 at *;generalize replicate (4*w*v) CJ=A0 at *;generalize (replicate (4*w*v) false).set 0 true=B0 at *;clear r0 r1;refine aG (m:=left B0 [0]) (λm ls h'=>∃A B q vv,ls=[.v vv]/\RS H h' w v x l A B/\WQ (H.length+6) h' vv q/\JS w v l A B q (λ_ _=>True)/\q.length<=DF B/\m=left B q) ⟨A0,B0,[0],v8,rfl,r2,ax,al,ag,rfl⟩ ?_;clear r2 ax al ag;rintro m ls h' ⟨A,B,q,vv,rfl,d,G,D,b2,rfl⟩ bx X;refine Da ?_;refine b_ ?_;refine bu G.ls ?_;cases q with
  |nil=>
   rw[z_ (by simp_all)]
   repeat (first|simp(disch:=omega)only[↓mc]|refine cU (bz d.ov) rfl ?_|refine ab d.lsA.g_ ?_)
   exact⟨d.pre,.inl ⟨A,H.length+3,rfl,by omega,d.ol,D.g_ F d.la d.lb⟩⟩
  |cons C q=>
   rw[Co (by simp_all)];refine b_ ?_;refine aP G.ls (i:=0) rfl rfl ?_;unfold j_;refine b_ ?_;refine iX G ?_;intro v1 ay av;refine ab av ?_;have g:B[C]?=some true:=D.q1 C M9;have r:C<4*w*v:=by have:=ai g;have:=d.lb;omega
   have bP:=iG B;refine bE (g9:=Value×HL×List Mv×List Bool×List Nat) 3 (λj s=>[.v s.1,.i (ofNat j)]) (λ_ s=>s.2.1) (λj s=>RS H s.2.1 w v x l s.2.2.1 s.2.2.2.1/\WQ (H.length+6) s.2.1 s.1 s.2.2.2.2/\JS w v l s.2.2.1 s.2.2.2.1 s.2.2.2.2 (λc e=>c=C->e<j)/\s.2.2.2.2.length<=DF s.2.2.2.1/\left s.2.2.2.1 s.2.2.2.2=left B q/\s.2.2.2.1[C]?=some true) (j0:=0) (s0:=(v1,h',A,B,q)) rfl rfl (by omega) ⟨d,ay,D.pop,by grind,rfl,g⟩ ?_;clear d G D ay av g;rintro j ⟨v2,ad,Q,P,q2⟩ b0 ⟨d,G,D,N,f,g⟩ Y y;simp only at d G D N f g y;refine b_ ?_;by_cases u:j<3
   case neg=>
    obtain rfl:j=3:=by omega
    rw[tf (by simp_all)];refine b_ ?_;refine X (left B q) _ _ ?_ ⟨Q,P,q2,v2,rfl,d,G,D.done,N,f.symm⟩;unfold left
    simp_all
   rw[td (by grind)];refine b_ ?_;have next:∀(v3:TR) (k:HL) (A3:TO) (R:Ty) (q3:TC),RS H k w v x l A3 R->WQ (H.length+6) k v3 q3->JS w v l A3 R q3 (λc e=>c=C->e<j+1)->q3.length<=DF R->left R q3=left B q->R[C]?=some true->Y [.v v3,.i (ofNat j+1)] k:=λv3 k A3 R q3 I J a3 a4 a5 a6=>y (v3,k,A3,R,q3) u ⟨I,J,a3,a4,a5,a6⟩
   have E:∀K:Int->Prop,P1.w7 .add .u8 (ofNat j) 1 (@hY _ ⟨K⟩)=K (ofNat j+1):=λK=>Ja (by grind) (by grind);refine rC (p:=i' H.length) (cs:=[.int .i64 (.ofNat w),.int .i64 (.ofNat v),x]) (ds:=[.int .i64 (.ofNat w),.int .i64 (.ofNat v)]) (bz d.p) (by simp) rfl ?_;refine b_ ?_;refine aj (kg F r u) ?_;have bs:=iG P;have bt:=d.lb;cases h:Cn w v C j with
   |none=>
    unfold vH;rw[h];refine b_ ?_;rw[E];exact next _ _ _ _ _ d G (D.skip h) N f g
   |some n=>
    unfold vH;rw[h];refine b_ ?_;obtain⟨a,ha⟩:=aq (l:=Q) (i:=C) (by rw[d.la];exact r);have bb:=D.bd C a g ha;have aE:=NZ F (bz d.p) (bz d.mv) d.mp (bz d.ov) d.lsA r u h ha bb (by omega);refine iT (iz (args:=[.int .i64 (ofNat C),.int .u8 (ofNat j)]) aE rfl [.leaf (.i .i64 (ofNat C)),.leaf (.i .u8 (ofNat j)),.leaf (.v (i' H.length)),.leaf (.v (i' (H.length+2))),.leaf (.v (i' (H.length+4)))] rfl rfl rfl) ?_;have W:=(du F r u h).1;have b1:=(du F r u h).2.2.2.2;generalize hm:Eg w l a C n j=m at *;simp only[CI];refine b_ ?_;obtain⟨t,Z⟩:=aq (l:=P) (i:=n) (by omega);refine aP d.lsB rfl Z ?_;unfold y0;refine b_ ?_;cases t with
    |true=>
     repeat (first|simp(disch:=omega)only[↓mc,DJ]|refine cU (bz d.ov) rfl ?_|refine ab d.lsA.g_ ?_)
     obtain⟨b,hb⟩:=aq (l:=Q) (i:=n) (by rw[d.la];exact W);refine aP d.lsA rfl hb ?_;unfold q7;refine b_ ?_;rw[ZE];by_cases L:b=m
     .rw[Fo L];simp(disch:=omega)only[↓mc,DJ];rw[E];exact next _ _ _ _ _ d G (D.seen h Z ha (by rw[hb,L,hm])) N f g
     .rw[Gg L];simp(disch:=omega)only[↓mc,Ex];exact⟨d.pre,.inr ⟨rfl,D.tear F r u h g Z ha hb (by rw[hm];exact L)⟩⟩
    |false=>
     repeat (first|simp(disch:=omega)only[↓mc,Ex]|refine cU (bz d.ov) rfl ?_|refine ab d.lsA.g_ ?_)
     refine dg (enc:=q7) (l:=Q) (i:=n) (a:=m) da d.ol rfl (by rw[d.la];exact W) d.la rfl ?_;have an:=d.Ff (A':=Q.set n m) (by simp);have bm:=G.i_ (h':=m' ad (H.length+3) 3 q7 (Q.set n m)) (λj o a0 ho=>by rw[bV (by omega)];exact ho);generalize m' ad (H.length+3) 3 q7 (Q.set n m)=k at *;refine j8 ?_;refine dg (enc:=y0) (l:=P) (i:=n) (a:=true) cM an.kn rfl (by omega) d.lb rfl ?_;have ap:=an.putB (B':=P.set n true) (by simp);have bn:=bm.i_ (h':=m' k (H.length+5) 1 y0 (P.set n true)) (λj o a0 ho=>by rw[bV (by omega)];exact ho);generalize m' k (H.length+5) 1 y0 (P.set n true)=h4' at *;refine j8 ?_;refine hT (n:=n) bn ap.len rfl rfl (by omega) ?_;intro v5 bC bl bk a7 a9;have O:=ap.i_ a7 a9
     repeat (first|simp(disch:=omega)only[↓mc]|refine ab bk ?_|refine cU (bz O.ov) rfl ?_|refine ab O.lsA.g_ ?_)
     refine aP O.lsA (a:=m) rfl (GL (by rw[d.la];exact W)) ?_;unfold q7;simp(disch:=omega)only[↓mc]
     try rw[ZE,Fo rfl]
     simp(disch:=omega)only[↓mc,DJ];rw[E];refine next _ _ _ _ _ O bl ?_ ?_ ?_ ?_
     .rw[←hm];exact D.fresh F d.la d.lb r u h g Z ha
     .rw[gK Z];simp;omega
     .rw[←f];have:=iG (P.set n true);unfold left;rw[gK Z]at this ⊢
      grind
     simp_all)
 grind
def bU(c:Cl):Tn:=[.int .i64 c.1,.int .i64 c.2.1,.int .u8 (ofNat c.2.2)]
def cF(c:Cl):(bU c).length=3:=rfl
def vG{m:Mv}{n:Int}(a:CD n m){c:Cl}{k:Int}(b:-k<=c.1/\c.1<=k/\-k<=c.2.1/\c.2.1<=k):-(n+k+1)<=(aA m c).1/\(aA m c).1<=n+k+1/\-(n+k+1)<=(aA m c).2.1/\(aA m c).2.1<=n+k+1/\(aA m c).2.2<4:=by
 have d:=KB a.1 b;have e:=a.2;unfold aA;simp only;refine⟨?_,?_,?_,?_,iW⟩<;>split<;>omega
def Nw(m:Mv):Bool:=decide (-16384<=m.2.1/\m.2.1<=16384/\-16384<=m.2.2/\m.2.2<=16384)
def JD(c:Cl):Bool:=decide (-4096<=c.1/\c.1<=4096/\-4096<=c.2.1/\c.2.1<=4096)
def M2{n:Int}{m:Mv}(h:CD n m)(a:Nw m=true):CD 16384 m:=by
 unfold Nw at a;rw[Es]at a;exact⟨h.1,a.1,a.2.1,a.2.2.1,a.2.2.2,h.2.2.2.2.2⟩
def YL(t x y:Int):Bool:=decide (t<8/\(-16384<=x/\x<=16384)/\(-16384<=y/\y<=16384)/\(x+y)%2=0)
def qH{n:Int}:Cc 149 [.i n] [.b (!decide (-16384<=n/\n<=16384))]:=by
 refine q149 rfl ?_;unfold RV;simp only[u7];refine b_ ?_;by_cases a:n < -16384
 .rw[td (show n < -16384 by omega)];refine b_ ?_
  simp_all
 .rw[tf (show(-16384:Int)<=n by omega)];refine b_ ?_;by_cases c:n<=16384
  .rw[z_ (by omega)];refine b_ ?_
   simp_all
  .rw[Co (by omega)];refine b_ ?_
   simp_all
def zp{t x y:Int}(g:0<=t/\t<=255):Cc 129 [.i t,.i x,.i y] [.i (if YL t x y then 0 else 1)]:=by
 by_cases a:YL t x y=true
 .rw[n_ a];unfold YL at a;rw[Es]at a;exact PZ ⟨g.1,a.1⟩ a.2.1 a.2.2.1 a.2.2.2
 .rw[qs a];unfold YL at a;rw[Es]at a;refine q129 rfl ?_;unfold GT;simp only[u7];refine b_ ?_;by_cases f:8<=t
  .rw[EZ f];simp(disch:=omega)only[↓mc]
   try rfl
  rw[FK (by omega)]
  repeat (first|simp(disch:=omega)only[↓mc]|refine aj qH ?_)
  by_cases b:-16384<=x/\x<=16384
  case neg=>
   rw[Gg b];simp(disch:=omega)only[↓mc,Ex]
   try rfl
  rw[Fo b]
  repeat (first|simp(disch:=omega)only[↓mc,DJ]|refine aj qH ?_)
  by_cases c:-16384<=y/\y<=16384
  case neg=>
   rw[Gg c];simp(disch:=omega)only[↓mc,Ex]
   try rfl
  rw[Fo c];simp(disch:=omega)only[↓mc,DJ];have j:(x+y)%2≠0:=λe=>a ⟨by omega,b,c,e⟩;rcases Int.le_total 0 (x+y)with d|d
  .repeat (first|simp(disch:=omega)only[↓mc]|rw[E0 d (by omega)])
   try rfl
  .have h:-(-(x+y)%2)≠0:=by omega
   repeat (first|simp(disch:=omega)only[↓mc]|rw[F_ d (by omega)])
   try rfl
def MM{m:Mv}{n:Int}(h:CD n m)(c:n<=100000):Cc 156 (CI m) (if Nw m then CI m++[.i 0]else [.i 0,.i 0,.i 0,.i 3]):=by
 refine q156 rfl ?_;unfold RW;simp only[u7]
 repeat (first|simp(disch:=omega)only[↓mc]|refine aj (zp (by have:=h.1;grind)) ?_)
 have e:YL (ofNat m.1) m.2.1 m.2.2=Nw m:=by
  have a:=h.1;have b:=h.2.2.2.2.2;unfold YL Nw
  grind
 rw[e];cases Nw m with
 |true=>
  simp only[if_true];simp(disch:=omega)only[↓mc]
  try rfl
 |false=>
  simp only[D5,if_false];simp(disch:=omega)only[↓mc]
  try rfl
def zS{a b:Mv}(c:CD 2000 a)(d:CD 16384 b):Cc 131 (CI a++CI b) (if Nw (af a b)then CI (af a b)++[.i 0]else [.i 0,.i 0,.i 0,.i 3]):=by
 have e:=eh c d;refine q131 rfl ?_;unfold RU;simp only[u7];simp only[CI,DC,Ds]
 repeat (first|simp(disch:=omega)only[↓mc]|refine aj (vF c (by omega)) ?_|refine aj (vF d (by omega)) ?_|refine ae (AY d.1) ?_|refine ae (vO d.1) ?_|refine aj (P3 d.1 ⟨by have:=c.2;omega,by have:=c.2;omega,by have:=c.2;omega,by have:=c.2;omega⟩) ?_|refine ae (AY c.1) ?_|refine ae (vO c.1) ?_|refine aj (LN c.1 d.1) ?_|refine aj (Qa fH) ?_)
 have k:=e;obtain⟨_,f,g,h,j,_⟩:=k;unfold af at f g h j;simp only at f g h j;rw[EY (by omega) (by omega),EY (by omega) (by omega)];refine aj (MM (m:=af a b) e (by omega)) ?_;cases Nw (af a b)with
 |true=>
  simp only[if_true];simp only[CI,DC,Ds];simp(disch:=omega)only[↓mc]
  try rfl
 |false=>
  simp only[D5,if_false];simp(disch:=omega)only[↓mc]
  try rfl
def Ot{c:Cl}(b:c.2.2<4):Cc 81 (Dd c) [.i (if JD c then 0 else 1)]:=by
 by_cases a:JD c=true
 .rw[n_ a];unfold JD at a;rw[Es]at a;exact Ou ⟨a.1,a.2.1,a.2.2.1,a.2.2.2,b⟩
 .rw[qs a];unfold JD at a;rw[Es]at a;refine q81 rfl ?_;unfold ZJ;simp only[u7];simp only[Dd];refine b_ ?_;by_cases d:c.1 < -4096
  .repeat (first|simp(disch:=omega)only[↓mc])
   try rfl
  by_cases e:4096<c.1
  .repeat (first|simp(disch:=omega)only[↓mc])
   try rfl
  by_cases f:c.2.1 < -4096
  .repeat (first|simp(disch:=omega)only[↓mc])
   try rfl
  .have g:4096<c.2.1:=by omega
   repeat (first|simp(disch:=omega)only[↓mc])
   try rfl
def P5{m:Mv}(b:CD 16384 m){c:Cl}(a:-1000<=c.1/\c.1<=1000/\-1000<=c.2.1/\c.2.1<=1000/\c.2.2<4):Cc 105 (CI m++Dd c) (if JD (aA m c)then Dd (aA m c)++[.i 0]else [.i 0,.i 0,.i 0,.i 3]):=by
 have d:=vG b (k:=1000) ⟨a.1,a.2.1,a.2.2.1,a.2.2.2.1⟩;refine q105 rfl ?_;unfold R3;simp only[u7];simp only[CI,Dd,DC,Ds]
 repeat (first|simp(disch:=omega)only[↓mc]|refine aj (vF b (by omega)) ?_|refine aj (Ou (c:=c) ⟨by omega,by omega,by omega,by omega,a.2.2.2.2⟩) ?_)
 refine aj (VE b a) ?_;simp only[Dd];refine b_ ?_;refine aj (Ot (c:=aA m c) d.2.2.2.2) ?_;cases JD (aA m c)with
 |true=>
  simp only[if_true];simp(disch:=omega)only[↓mc]
  try rfl
 |false=>
  simp only[D5,if_false];simp(disch:=omega)only[↓mc]
  try rfl
def FQ.eq{w v:Nat}{l:TD}{A:TO}(g:Sh w v)(hA:FQ w v l A){G:TH}(f:qn w v l G)(h0:G 0=CJ):∀c,c<4*w*v->A[c]?=some (G c):=
 xw g (by rw[h0];exact hA.a0) λc e n a b d h=>by rw[f c e n a b d];exact hA.cons c e n _ a b d h
def DI(w v:Nat)(G:TH)(r:Mv):TO:=(range (4*w*v)).map λc=>af (G c) r
abbrev _root_.TM:=List Cl
def B3(w v:Nat)(G:TH)(r:Mv):TM:=(range (4*w*v)).map λc=>aA (af (G c) r) (n4 w c)
def kf{w v:Nat}{G:TH}{r:Mv}{c:Nat}(h:c<4*w*v):(DI w v G r)[c]?=some (af (G c) r):=by
 unfold DI
 simp_all
def eQ{w v:Nat}{G:TH}{r:Mv}{c:Nat}(h:c<4*w*v):(B3 w v G r)[c]?=some (aA (af (G c) r) (n4 w c)):=by
 unfold B3
 simp_all
def take_set{i6:Type}{L A:List i6}{j:Nat}{a:i6}(b:L[j]?=some a)(c:L.length=A.length):(L.take j++A.drop j).set j a=L.take (j+1)++A.drop (j+1):=by
 have e:=ai b;have d:(L.take j).length=j:=by grind
 rw[ag _ _ (by omega),d,Wj,SB (by omega),List.set_cons_zero,H5,b];simp
def Vz{i6:Type}{L A:List i6}{j:Nat}{a:i6}(hA:A[j]?=some a)(b:L.length=A.length):(L.take j++A.drop j)[j]?=some a:=by
 grind
def xg{i6:Type}{L A:List i6}{j:Nat}(a:L.length=A.length)(b:j<=L.length):(L.take j++A.drop j).length=A.length:=by
 simp_all
def dL{i6:Type}{e cx n:Nat}{enc:i6->Tn}(b:∀a,(enc a).length=e){h:HL}{id:Nat}{L:List i6}(d:h[id]?=some (.o (.cells (L.flatMap enc) e true)))(f:n=L.length):po h (.slice (some ⟨id,0,le e⟩) n cx) e enc L:=by
 subst f;have c:=aS (e:=e) (enc:=enc) (l:=L) λa _=>b a;exact⟨λa _=>b a,c,.inr ⟨id,0,cx,_,true,rfl,d,Sx.t_ c⟩⟩
def Ful{i6:Type}(h:HL)(x:Value)(e:Nat)(enc:i6->Tn)(l:List i6):Prop:=∃id,x = .slice (some ⟨id,0,le e⟩) l.length (l.length+1)/\h[id]?=some (.o (.cells (l.flatMap enc) e true))
def Ful.ls{i6:Type}{h:HL}{x:TR}{e:Nat}{enc:i6->Tn}{l:List i6}(b:∀a,(enc a).length=e)(d:Ful h x e enc l):po h x e enc l:=by
 obtain⟨id,rfl,c⟩:=d;exact dL b c rfl
abbrev qz:Value:=.slice none 0 0
def GW(w:Nat)(G:TH)(r:Mv)(n:Nat):Prop:=∀c,c<n->Nw (af (G c) r)=true/\JD (aA (af (G c) r) (n4 w c))=true
def GW.succ{w:Nat}{G:TH}{r:Mv}{n:Nat}(h:GW w G r n)(h1:Nw (af (G n) r)=true)(a:JD (aA (af (G n) r) (n4 w n))=true):GW w G r (n+1):=λc b=>by
 by_cases e:c=n
 .simp_all
 .exact h c (by omega)
structure Cs(w v:Nat)(l:TD)(G:TH):Prop where
 g:qn w v l G
 z:G 0=CJ
 ok:∀c,c<4*w*v->CD 2000 (G c)
def FQ.consO{w v:Nat}(k:Sh w v){l:TD}{A:TO}(h:FQ w v l A):Cs w v l (λc=>A.getD c CJ):=by
 have m:=E4 k;have d:∀c,c<4*w*v->A[c]?=some (A.getD c CJ):=λc b=>by
  obtain⟨a,o⟩:=aq (l:=A) (i:=c) (by rw[h.len];exact b)
  simp_all
 refine⟨λc e n b g j=>?_,?_,λc b=>h.ok _ (Cb (d c b))⟩
 .have f:=h.cons c e n _ b g j (d c b)
  grind
 .have f:=h.a0
  grind
def dG{w v:Nat}(a:Sh w v){j:Nat}(e:j<4*w*v):-1000<=(n4 w j).1/\(n4 w j).1<=1000/\-1000<=(n4 w j).2.1/\(n4 w j).2.1<=1000/\(n4 w j).2.2<4:=by
 have d:=E4 a;have b:j / 4%w<=j / 4:=hz _ _;have c:j / 4 / w<=j / 4:=z0 _ _;refine⟨?_,?_,?_,?_,It _ (by omega)⟩
 .exact Int.le_trans (show(-1000:Int)<=0 by decide) (Ga _)
 .exact g5.2 (show j / 4%w<=1000 by omega)
 .exact Int.le_trans (show(-1000:Int)<=0 by decide) (Ga _)
 .exact g5.2 (show j / 4 / w<=1000 by omega)
def W1(w v:Nat)(l:TD)(r:Mv)(a:TG)(h':HL):Prop:=
 (a=[.v qz,.v qz,.i 11]/\¬ ∃G,qn w v l G/\G 0=CJ)∨
 ∃G,Cs w v l G/\((a=[.v qz,.v qz,.i 3]/\¬GW w G r (4*w*v))∨
  (∃b ix,a=[.v b,.v ix,.i 0]/\GW w G r (4*w*v)/\Ful h' b 3 q7 (DI w v G r)/\Ful h' ix 3 bU (B3 w v G r)))
def Ze{w v:Nat}(f:Sh w v){l:TD}(hk:(l.map aO).Nodup)(ag:l.length<=1000){H:HL}{x:TR}(hl:po H x 3 my l)(ad:aI cc ac 16 [.i (.ofNat w),.i (.ofNat v),.v x] (f_ aa H) [.i 0] (f_ aa H))
  {r:Mv} (hr:CD 16384 r) :
  ∃U h',aI cc ac 101 ([.i (.ofNat w),.i (.ofNat v),.v x]++CI r) (f_ aa H) U (f_ aa h')/\tx H h'/\W1 w v l r U h':=by
 have hN:=E4 f;obtain⟨a2,p,c1,d,P⟩:=Br f hk ag hl;have a1:=x101 (ls:=[.i (.ofNat w),.i (.ofNat v),.v x,.i (ofNat r.1),.i r.2.1,.i r.2.2]) (K:=λU h'=>tx H h'/\W1 w v l r U h') (H:=H) (km (km (pu hl.g_ (km (km (km u_)))))) (by
  unfold UQ;simp only[u7]
  repeat (first|simp(disch:=omega)only[↓mc]|refine am ad ?_|refine aj (vF hr (by omega)) ?_)
  refine am c1 ?_;rcases P with⟨A,id,rfl,hY,O,hA⟩|⟨rfl,al⟩
  case inr=>
   refine b_ ?_;exact⟨d,.inl ⟨by trivial,al⟩⟩
  refine b_ ?_;have I:=hA.consO f;generalize a0:(λc=>A.getD c CJ)=G at I;have V:=hA.eq f I.g I.z;have t:(DI w v G r).length=A.length:=by rw[hA.len];simp[DI]
  have hI:(B3 w v G r).length=4*w*v:=by simp[B3]
  have ax:=ai O;refine ae (x:=ofNat (4*w*v)) rfl ?_;refine ae (dM (by omega)) ?_;refine b_ ?_;rw[show(ofNat (4*w*v)).toNat=4*w*v from rfl];have z0:HO.o (.cells (aN [.int .i64 0,.int .i64 0,.int .u8 0] (4*w*v)) 3 true)=HO.o (.cells ((replicate (4*w*v) ((0,0,0):Cl)).flatMap bU) 3 true):=by
   rw[←cS (enc:=bU) (z:=((0,0,0):Cl)) (n:=4*w*v)];rfl
  rw[z0];refine ae (x:=ofNat (4*w*v)) rfl ?_;have hZ:(B3 w v G r).length=(replicate (4*w*v) ((0,0,0):Cl)).length:=by rw[hI];simp
  have k:(p++[HO.o (.cells ((replicate (4*w*v) ((0,0,0):Cl)).flatMap bU) 3 true)])[id]?=some (.o (.cells (A.flatMap q7) 3 true)):=tx.get ⟨_,rfl⟩ O;have J:(p++[HO.o (.cells ((replicate (4*w*v) ((0,0,0):Cl)).flatMap bU) 3 true)])[p.length]?=some (HO.o (.cells ((replicate (4*w*v) ((0,0,0):Cl)).flatMap bU) 3 true)):=aH;have L:tx H (p++[HO.o (.cells ((replicate (4*w*v) ((0,0,0):Cl)).flatMap bU) 3 true)]):=d.E6 _;have N:p.length≠id:=by omega
  have M:H.length<=p.length:=d.len;generalize replicate (4*w*v) ((0,0,0):Cl)=Z at *;generalize p++[HO.o (.cells (Z.flatMap bU) 3 true)]=h2 at *;generalize p.length=iX at *;refine bE (g9:=HL) (4*w*v) (λj _=>[.i (ofNat j)]) (λ_ s=>s) (λj s=>tx H s/\s[id]?=some (.o (.cells (((DI w v G r).take j++A.drop j).flatMap q7) 3 true))/\s[iX]?=some (.o (.cells (((B3 w v G r).take j++Z.drop j).flatMap bU) 3 true))/\GW w G r j) (j0:=0) (s0:=h2) rfl rfl (CM _) ⟨L,by simpa using k,by simpa using J,λc hc=>by omega⟩ ?_;clear k J L;rintro j h hj ⟨L,k,J,u⟩ aE C;refine b_ ?_;by_cases b:j<4*w*v
  .rw[aL b];refine b_ ?_;have ha:=V j b;have X:=kf (G:=G) (r:=r) b;have W:=eQ (G:=G) (r:=r) b;have e:=xg (j:=j) t (by rw[t,hA.len];omega);have ay:=xg (j:=j) hZ (by omega);refine aP (dL da k (by rw[e,hA.len])) rfl (Vz ha t) ?_;unfold q7;refine b_ ?_;refine aj (Iz (rU w v f.1 f.2.1 f.2.2.1 f.2.2.2) b) ?_;unfold HC;refine b_ ?_;have Q:CD 2000 (G j):=hA.ok _ (Cb ha);have av:=eh Q hr;refine aj (zS Q hr) ?_;cases D:Nw (af (G j) r)with
   |false=>
    simp only[D5,if_false]
    repeat (first|simp(disch:=omega)only[↓mc]|refine dg (enc:=q7) (l:=(DI w v G r).take j++A.drop j) (i:=j) (a:=CJ) da k rfl (by grind) (by rw[e,hA.len]) rfl ?_)
    exact⟨iU L hY,.inr ⟨G,I,.inl ⟨by trivial,λq=>by rw[(q j b).1]at D;cases D⟩⟩⟩
   |true=>
   simp only[if_true];have y:Nw (af (G j) r)=true:=D;have R:=M2 av y;have B:=dG f b;have an:=y;generalize hm:af (G j) r=m at *;simp only[CI,DC,Ds];refine b_ ?_;refine dg (enc:=q7) (l:=(DI w v G r).take j++A.drop j) (i:=j) (a:=m) da k rfl (by grind) (by rw[e,hA.len]) rfl ?_;rw[take_set X t];have S:(m' h id 3 q7 ((DI w v G r).take (j+1)++A.drop (j+1)))[id]?=some (.o (.cells (((DI w v G r).take (j+1)++A.drop (j+1)).flatMap q7) 3 true)):=bA (ai k);have F:(m' h id 3 q7 ((DI w v G r).take (j+1)++A.drop (j+1)))[iX]?=some (.o (.cells (((B3 w v G r).take j++Z.drop j).flatMap bU) 3 true)):=by rw[bV N];exact J
   have T:tx H (m' h id 3 q7 ((DI w v G r).take (j+1)++A.drop (j+1))):=iU L hY;generalize m' h id 3 q7 ((DI w v G r).take (j+1)++A.drop (j+1))=h3 at *;refine b_ ?_;have E:=xg (j:=j+1) t (by rw[t,hA.len];omega);refine aP (a:=m) (dL da S (by rw[E,hA.len])) rfl ?_ ?_
   .grind
   unfold q7;refine b_ ?_;refine aj (P5 (c:=n4 w j) R B) ?_;cases ap:JD (aA m (n4 w j))with
   |false=>
    simp only[D5,if_false]
    repeat (first|simp(disch:=omega)only[↓mc]|refine dg (enc:=bU) (l:=(B3 w v G r).take j++Z.drop j) (i:=j) (a:=((0,0,0):Cl)) cF F rfl (by omega) (by omega) rfl ?_)
    exact⟨iU T M,.inr ⟨G,I,.inl ⟨by trivial,λq=>by
     have:=(q j b).2
     simp_all⟩⟩⟩
   |true=>
   simp only[if_true];generalize Y:aA m (n4 w j)=ci at *;simp only[Dd,DC,Ds];refine b_ ?_;refine dg (enc:=bU) (l:=(B3 w v G r).take j++Z.drop j) (i:=j) (a:=ci) cF F rfl (by omega) (by omega) rfl ?_;rw[take_set W hZ];refine b_ ?_;rw[aT (by omega)];refine C _ b ⟨iU T M,by rw[bV (De N)];exact S,bA (ai F),u.succ (by rw[hm];exact an) (by rw[hm,Y];exact ap)⟩
  .obtain rfl:j=4*w*v:=by omega
   rw[aK (x5 _)];refine b_ ?_;rw[H4 (by rw[t,hA.len];omega),W3 (by rw[hA.len];omega),GM]at k;rw[H4 (by omega),W3 (by omega),GM]at J;have e1:(DI w v G r).length=4*w*v:=by rw[t,hA.len]
   refine⟨L,.inr ⟨G,I,.inr ⟨_,_,rfl,u,⟨id,?_,k⟩,⟨iX,?_,J⟩⟩⟩⟩
   .rw[e1]
   .rw[hI];rfl)
 grind
structure BothC(ls:TG)(H:HL)(lx ix:Value)(e:Int)(h1:HL):Prop where
 c:aI cc ac 101 ls (f_ aa H) [.v lx,.v ix,.i e] (f_ aa h1)
 p:tx H h1
 g1:aJ lx=true
 g2:aJ ix=true
section
variable {w v t a b e:Int} {x lx ix:Value} {H h1:HL} (hx:aJ x=true) (hb:BothC [.i w,.i v,.v x,.i t,.i a,.i b] H lx ix e h1)
include hx hb
theorem QF:aI cc ac 103 [.i w,.i v,.v x,.i t,.i a,.i b] (f_ aa H) [.v lx,.i e] (f_ aa h1):=by
 exact xK x103 (km (km (pu hx (km (km (km u_)))))) (by
  unfold UR;simp only[u7]
  repeat (first|simp(disch:=omega)only[↓mc]|refine am hb.c ?_)
  simp_all)
theorem Pp:aI cc ac 68 [.i w,.i v,.v x,.i t,.i a,.i b] (f_ aa H) [.v ix,.i e] (f_ aa h1):=by
 exact xK x68 (km (km (pu hx (km (km (km u_)))))) (by
  unfold f68;simp only[u7]
  repeat (first|simp(disch:=omega)only[↓mc]|refine am hb.c ?_)
  simp_all)
end
section
variable {w v:Nat} {l:TD} {A:TO} {B:Ty} {q:TC}
def JS.begin{c0:Nat}(h:JS w v l A B q λ_ _=>True):JS w v l A B (q.filter λc=>!Nat.beq c c0) λc e=>c=c0->False:=by
 refine⟨h.a0,h.b0,λc a=>h.q1 c (Ge.1 a).1,λc e n i a d f b g=>?_,h.bd,h.un⟩;refine h.dn c e n trivial a d f b λj=>g ?_
 simp_all
def JS.skipP{c0 j:Nat}{P:Tz}(h:JS w v l A B q λc e=>c=c0->P e)(m:Cn w v c0 j=none):JS w v l A B q λc e=>c=c0->P e∨e=j:=by
 refine⟨h.a0,h.b0,h.q1,λc e n k d g a b i=>?_,h.bd,h.un⟩;refine h.dn c e n (λf=>?_) d g a b i
 grind
def JS.seenP{c0 j n:Nat}{a:Mv}{P:Tz}(h:JS w v l A B q λc e=>c=c0->P e)(x:Cn w v c0 j=some n)(t:B[n]?=some true)(s:A[c0]?=some a)(u:A[n]?=some (Eg w l a c0 n j)):JS w v l A B q λc e=>c=c0->P e∨e=j:=by
 refine⟨h.a0,h.b0,h.q1,λc e r m k o i d p=>?_,h.bd,h.un⟩;by_cases f:c=c0/\e=j
 .simp_all
 .exact h.dn c e r (λb=>(m b).resolve_right λg=>f ⟨b,g⟩) k o i d p
def JS.freshP(J:Sh w v){c0 j n:Nat}{a:Mv}{P:Tz}(h:JS w v l A B q λc e=>c=c0->P e)(O:A.length=4*w*v)(Q:B.length=4*w*v)(i:c0<4*w*v)(C:j<3)(D:Cn w v c0 j=some n)(p:B[c0]?=some true)(L:B[n]?=some false)(H:A[c0]?=some a) :
  JS w v l (A.set n (Eg w l a c0 n j)) (B.set n true) (q++[n]) λc e=>c=c0->P e∨e=j:=by
 obtain⟨X,_,_,_,Y⟩:=du J i C D;have K:(B.set n true)[n]?=some true:=GL (by omega);have m:(A.set n (Eg w l a c0 n j))[n]?=some (Eg w l a c0 n j):=GL (by omega);have s:∀c,c≠n->(B.set n true)[c]?=B[c]?:=λc g=>Ha (De g);have hA:∀c,c≠n->(A.set n (Eg w l a c0 n j))[c]?=A[c]?:=λc g=>Ha (De g);have k:(0:Nat)≠n:=λe=>by have:=h.b0;simp_all
 have F:CD (20*(DF B:Int)) a:=h.bd c0 a p H;refine⟨by rw[hA 0 k];exact h.a0,by rw[s 0 k];exact h.b0,λc g=>?_,λc e S M g N E f I=>?_,λc t f d=>?_,λG u o c t f d=>?_⟩
 .rcases Ed.1 g with g|g
  .have:=h.q1 c g
   grind
  simp_all
 .have b:c≠n:=λe=>I (by rw[e];simp);have y:c∉q:=λR=>I (Jf _ R);rw[s c b]at f;by_cases x:c=c0/\e=j
  .simp_all
  .obtain⟨U,T,V,W⟩:=h.dn c e S (λr=>(M r).resolve_right λz=>x ⟨r,z⟩) g N E f y
   grind
 .rw[gK L];by_cases b:c=n
  .rw[b,m]at d;cases d;exact aY (yv J i C D F (by omega)) (by omega)
  .rw[s c b]at f;rw[hA c b]at d;exact aY (h.bd c t f d) (by omega)
 .by_cases b:c=n
  .rw[b,m]at d;cases d;rw[b,u c0 j n i C D,←h.un G u o c0 a p H]
  .rw[s c b]at f;rw[hA c b]at d;exact h.un G u o c t f d
def JS.doneP{c0:Nat}{P:Tz}(h:JS w v l A B q λc e=>c=c0->P e)(g:∀e,e<3->P e):JS w v l A B q λ_ _=>True:=
 ⟨h.a0,h.b0,h.q1,λc e n _ d a f b i=>h.dn c e n (λ_=>g e a) d a f b i,h.bd,h.un⟩
def JS.KM{c0:Nat}{P Q:Tz}(h:JS w v l A B q λc e=>c=c0->P e)(i:∀e,Q e->P e):JS w v l A B q λc e=>c=c0->Q e:=
 ⟨h.a0,h.b0,h.q1,λc e n d a f g b j=>h.dn c e n (λa=>i e (d a)) a f g b j,h.bd,h.un⟩
end
def eK(q k:Nat):Nat:=if k=0 then 0 else if decide (q%2=0)=decide (k=1)then 1 else 2
def ip(q k:Nat):eK q k<3:=by
 unfold eK
 grind
def Zu{q:Nat}(e:Nat)(c:e<3):∃k,k<3/\eK q k=e:=by
 have a:q%2=0∨q%2=1:=by omega
 have b:e=0∨e=1∨e=2:=by omega
 rcases a with a|a<;>rcases b with rfl|rfl|rfl
 .exact⟨0,by omega,rfl⟩
 .exact⟨1,by omega,by simp[eK,a]⟩
 .exact⟨2,by omega,by simp[eK,a]⟩
 .exact⟨0,by omega,rfl⟩
 .exact⟨2,by omega,by simp[eK,a]⟩
 .exact⟨1,by omega,by simp[eK,a]⟩
def Dz(m:Mv)(p:Int×Int):Int×Int:=(mA m.1*p.1+mB m.1*p.2+6*m.2.1,mC m.1*p.1+mD m.1*p.2+6*m.2.2)
def C0(q:Nat):Int:=match q with
 |0=>3
 |1=>5
 |2=>3
 |_=>1
def C1(q:Nat):Int:=match q with
 |0=>1
 |1=>3
 |2=>5
 |_=>3
def CC(c:Cl):Int×Int:=(6*c.1+C0 c.2.2,6*c.2.1+C1 c.2.2)
def v1(x y:Int):Nat:=if y<x/\x+y<6 then 0 else if y<x then 1 else if 6<x+y then 2 else 3
def zl(p:Int×Int):Cl:=(p.1 / 6,p.2 / 6,v1 (p.1 - 6*(p.1 / 6)) (p.2 - 6*(p.2 / 6)))
def Ey{q:Nat}(h:q<4):q=0∨q=1∨q=2∨q=3:=by omega
def xk{m:Mv}{c:Cl}(a:m.1<8)(b:c.2.2<4):zl (Dz m (CC c))=aA m c:=by
 obtain⟨t,X,Y⟩:=m;obtain⟨x,y,q⟩:=c;simp only at a b;rcases t8 a with rfl|rfl|rfl|rfl|rfl|rfl|rfl|rfl<;>rcases Ey b with rfl|rfl|rfl|rfl
 all_goals
  simp only[zl,Dz,CC,C0,C1,mA,mB,mC,mD,aA,qT];refine Wq ?_ (Wq ?_ ?_)
  .simp;omega
  .simp;omega
  .simp only[v1]
   grind
end Go.Am
namespace Go.Am
open Sx
def Ve{a b:Mv}(c:a.1<8)(d:b.1<8)(p:Int×Int):Dz b (Dz a p)=Dz (af a b) p:=by
 obtain⟨s,X,Y⟩:=a;obtain⟨t,U,V⟩:=b;obtain⟨x,y⟩:=p;simp only at c d;rcases t8 c with rfl|rfl|rfl|rfl|rfl|rfl|rfl|rfl<;>rcases t8 d with rfl|rfl|rfl|rfl|rfl|rfl|rfl|rfl
 all_goals
  simp[Dz,af,C5,mA,mB,mC,mD];omega
def Vw{s t:Nat}(d:s<8)(e:t<8)(h1:mA s=mA t)(a:mC s=mC t)(b:mB s=mB t)(c:mD s=mD t):s=t:=by
 rcases t8 d with rfl|rfl|rfl|rfl|rfl|rfl|rfl|rfl<;>rcases t8 e with rfl|rfl|rfl|rfl|rfl|rfl|rfl|rfl
 all_goals first
  |rfl
  |(exfalso;simp[mA,mB,mC,mD]at h1 a b c)
end Go.Am
namespace Go.Am
open Sx Go.Proofs
def Ho(w v c k:Nat):Int:=match Cn w v c (eK (c%4) k)with
 |some n=>ofNat n
 |none=>-1
def p5(w v c k:Nat):Bool:=match Cn w v c (eK (c%4) k)with
 |some n=>lK 63 (Dd (n4 w c)++Dd (n4 w n)) (CI (wd (q8 (n4 w c) (eK (c%4) k))))
 |none=>true
def Ib(w v c k:Nat):Bool:=lK 61 [.i (.ofNat w),.i (.ofNat v),.i (.ofNat c),.i (.ofNat k)] [.i (Ho w v c k)]&&(lK 49 (Dd (n4 w c)++[.i (.ofNat k)]) (Dd (DA (n4 w c) (eK (c%4) k)))&&(lK 90 [.i (.ofNat w),.i (.ofNat v),.i (.ofNat c),.i (.ofNat k)] [.i (.ofNat (eK (c%4) k))]&&p5 w v c k))
def eP(w v:Nat):Bool:=(range (4*w*v)).all λc=>lK 25 [.i (.ofNat w),.i (.ofNat v),.i (.ofNat c)] (Dd (n4 w c))&&(range 3).all λk=>Ib w v c k
def cf:∀w v:Nat,1<=w->w<=3->1<=v->v<=3->eP w v=true:=by
 have a:((range 3).all λw=>(range 3).all λv=>eP (w+1) (v+1))=true:=by kernel_rfl
 intro w v c d e f;have b:=A5.1 a (w - 1) (Cd.2 (by omega));have g:=A5.1 b (v - 1) (Cd.2 (by omega))
 simp_all
def S3(w v:Nat):Prop:=1<=w/\w<=3/\1<=v/\v<=3
def S3.sh{w v:Nat}(h:S3 w v):Sh w v:=⟨h.1,by have:=h.2.1;omega,h.2.2.1,by have:=h.2.2.2;omega⟩
section
variable {w v c k:Nat}
def uh(h:S3 w v)(a:c<4*w*v):lK 25 [.i (.ofNat w),.i (.ofNat v),.i (.ofNat c)] (Dd (n4 w c))=true/\∀k,k<3->Ib w v c k=true:=by
 have:=A5.1 (cf w v h.1 h.2.1 h.2.2.1 h.2.2.2) c (Cd.2 a)
 simp_all
def kF(h:S3 w v)(a:c<4*w*v):Cc 25 [.i (.ofNat w),.i (.ofNat v),.i (.ofNat c)] (Dd (n4 w c)):=fT (uh h a).1 rfl (by kernel_rfl) rfl
def zx(h:S3 w v)(a:c<4*w*v)(b:k<3):Cc 61 [.i (.ofNat w),.i (.ofNat v),.i (.ofNat c),.i (.ofNat k)] [.i (Ho w v c k)]:=by
 have:=(uh h a).2 k b;unfold Ib at this;rw[te]at this;exact fT this.1 rfl (by kernel_rfl) rfl
def OP(h:S3 w v)(a:c<4*w*v)(b:k<3):Cc 90 [.i (.ofNat w),.i (.ofNat v),.i (.ofNat c),.i (.ofNat k)] [.i (.ofNat (eK (c%4) k))]:=by
 have:=(uh h a).2 k b;unfold Ib at this;rw[te,te,te]at this;exact fT this.2.2.1 rfl (by kernel_rfl) rfl
def VA(h:S3 w v)(a:c<4*w*v)(b:k<3){n:Nat}(d:Cn w v c (eK (c%4) k)=some n):Cc 63 (Dd (n4 w c)++Dd (n4 w n)) (CI (wd (q8 (n4 w c) (eK (c%4) k)))):=by
 have:=(uh h a).2 k b;unfold Ib p5 at this;rw[te,te,te,d]at this;exact fT this.2.2.2 rfl (by kernel_rfl) rfl
end
def eZ:ofNat 0=0:=rfl
def ee:ofNat 1=1:=rfl
def ec:ofNat 2=2:=rfl
def ej:ofNat 3=3:=rfl
def ek:ofNat 4=4:=rfl
def ea:ofNat 5=5:=rfl
def d4:ofNat 6=6:=rfl
def d5:ofNat 7=7:=rfl
def vj{m:Mv}{x y:Int}(a:m.1<8)(b:-100000<=m.2.1/\m.2.1<=100000/\-100000<=m.2.2/\m.2.2<=100000)(c:-10000000<=x/\x<=10000000/\-10000000<=y/\y<=10000000):Cc 65 (CI m++[.i x,.i y]) [.i (Dz m (x,y)).1,.i (Dz m (x,y)).2]:=by
 obtain⟨t,X,Y⟩:=m;simp only at a b;refine q65 rfl ?_;unfold f65;simp only[u7];simp only[CI,DC,Ds];rcases t8 a with rfl|rfl|rfl|rfl|rfl|rfl|rfl|rfl
 all_goals
  simp only[eZ,ee,ec,ej,ek,ea,d4,d5]
  repeat (first|simp(disch:=omega)only[↓mc]|refine zK 5 ?_)
  simp only[Dz,mA,mB,mC,mD,Hq,Lf.i.injEq,and_true];omega
def qZ{c:Cl}(a:c.2.2<4)(b:-100000<=c.1/\c.1<=100000/\-100000<=c.2.1/\c.2.1<=100000):Cc 66 (Dd c) [.i (CC c).1,.i (CC c).2]:=by
 obtain⟨x,y,q⟩:=c;simp only at a b;refine q66 rfl ?_;unfold f66;simp only[u7];simp only[Dd];have d:Cc 100 [.i x,.i y,.i (ofNat q)] (match q with
  |0=>[.i (6*x+3),.i (6*y+3),.i (6*x),.i (6*y),.i (6*x+6),.i (6*y)]
  |1=>[.i (6*x+3),.i (6*y+3),.i (6*x+6),.i (6*y),.i (6*x+6),.i (6*y+6)]
  |2=>[.i (6*x+3),.i (6*y+3),.i (6*x+6),.i (6*y+6),.i (6*x),.i (6*y+6)]
  |_=>[.i (6*x+3),.i (6*y+3),.i (6*x),.i (6*y+6),.i (6*x),.i (6*y)]):=by
  refine q100 rfl ?_;unfold R1;simp only[u7];rcases Ey a with rfl|rfl|rfl|rfl
  all_goals
   simp only[eZ,ee,ec,ej,ek,ea,d4,d5]
   repeat (first|simp(disch:=omega)only[↓mc] )
 rcases Ey a with rfl|rfl|rfl|rfl
 all_goals
  repeat (first|simp(disch:=omega)only[↓mc]|refine aj d ?_)
  simp only[CC,C0,C1,Hq,Lf.i.injEq,and_true];omega
def sC{a:Int}(h:-100000000<=a/\a<=100000000):Cc 98 [.i a,.i 6] [.i (a / 6)]:=by
 refine q98 rfl ?_;unfold f98;simp only[u7];by_cases b:a<0
 .repeat (first|simp(disch:=omega)only[↓mc]|rw[F9 (by omega) (by omega) (by omega)])
  simp only[Hq,Lf.i.injEq,and_true];omega
 .repeat (first|simp(disch:=omega)only[↓mc]|rw[F9 (by omega) (by omega) (by omega)])
def Y1{x y:Int}(h:-100000000<=x/\x<=100000000/\-100000000<=y/\y<=100000000):Cc 64 [.i x,.i y] (Dd (zl (x,y))):=by
 refine q64 rfl ?_;unfold f64;simp only[u7]
 repeat (first|simp(disch:=omega)only[↓mc]|refine aj (sC (by omega)) ?_)
 have e:Dd (zl (x,y))=[.i (x / 6),.i (y / 6),.i (ofNat (v1 (x - 6*(x / 6)) (y - 6*(y / 6))))]:=rfl;rw[e];have g:0<=x - 6*(x / 6)/\x - 6*(x / 6)<=5:=by omega
 have j:0<=y - 6*(y / 6)/\y - 6*(y / 6)<=5:=by omega
 generalize x / 6=a at *;generalize y / 6=b at *;by_cases c:y - 6*b<x - 6*a<;>by_cases d:x - 6*a+(y - 6*b)<6<;>by_cases f:6<x - 6*a+(y - 6*b)
 all_goals
  first|(exfalso;omega)|skip
  repeat (first|simp(disch:=omega)only[↓mc])
  try simp only[v1,c,d,f,and_true,and_false,true_and,false_and,if_true,if_false]
  try rfl
def pz{m:Mv}{c:Cl}(a:m.1<8)(f:-100000<=m.2.1/\m.2.1<=100000/\-100000<=m.2.2/\m.2.2<=100000)(b:c.2.2<4)(g:-100000<=c.1/\c.1<=100000/\-100000<=c.2.1/\c.2.1<=100000):Cc 24 (CI m++Dd c) (Dd (aA m c)):=by
 refine q24 rfl ?_;unfold f24;simp only[u7];have e:=xk a b;have l:-1000000<=(CC c).1/\(CC c).1<=1000000/\-1000000<=(CC c).2/\(CC c).2<=1000000:=by
  obtain⟨x,y,q⟩:=c;simp only at b g;rcases Ey b with rfl|rfl|rfl|rfl<;>simp only[CC,C0,C1]<;>omega
 have k:-100000000<=(Dz m (CC c)).1/\(Dz m (CC c)).1<=100000000/\-100000000<=(Dz m (CC c)).2/\(Dz m (CC c)).2<=100000000:=by
  generalize CC c=p at *;obtain⟨t,X,Y⟩:=m;obtain⟨x,y⟩:=p;simp only at a f l;rcases t8 a with rfl|rfl|rfl|rfl|rfl|rfl|rfl|rfl<;>simp only[Dz,mA,mB,mC,mD]<;>omega
 have h:=qZ b g;have i:=vj (m:=m) (x:=(CC c).1) (y:=(CC c).2) a f (by omega);have d:=Y1 (x:=(Dz m (CC c)).1) (y:=(Dz m (CC c)).2) k;have j:zl ((Dz m (CC c)).1,(Dz m (CC c)).2)=aA m c:=e;rw[j]at d;simp only[CI,Dd,DC,Ds]at h i d ⊢
 repeat (first|simp(disch:=omega)only[↓mc]|refine aj h ?_|refine aj i ?_|refine aj d ?_)
def XZ{a b c d:Int}{K:Tp}:P1.eqs [(.i a,.i b),(.i c,.i d)] (@hY _ ⟨K⟩)=K (decide (a=b/\c=d)):=by
 show K (ch _)=_;have e:ch [(.i a,.i b),(.i c,.i d)]=decide (a=b/\c=d):=by
  rw[Wm];simp[ch,iq]
 rw[e]
def Au{a b:Mv}(ha:CD 30000 a)(hb:CD 30000 b):Cc 62 (CI a++CI b) (CI (af a b)):=by
 obtain⟨d,B,C,D,E,R⟩:=ha;obtain⟨o,S,T,U,V,W⟩:=hb;have p:=eh (n:=30000) (k:=30000) ⟨d,B,C,D,E,R⟩ ⟨o,S,T,U,V,W⟩;obtain⟨N,Z,g3,g4,g5,_⟩:=p;refine q62 rfl ?_;unfold f62;simp only[u7];have F:∀(x y:Int),(0<=x/\x<=6/\0<=y/\y<=6)->-1000000<=(Dz a (x,y)).1/\(Dz a (x,y)).1<=1000000/\-1000000<=(Dz a (x,y)).2/\(Dz a (x,y)).2<=1000000:=by
  intro x y h;obtain⟨t,X,Y⟩:=a;simp only at d B C D E;rcases t8 d with rfl|rfl|rfl|rfl|rfl|rfl|rfl|rfl<;>simp only[Dz,mA,mB,mC,mD]<;>omega
 have g:∀(x y:Int),(0<=x/\x<=6/\0<=y/\y<=6)->Cc 65 (CI a++[.i x,.i y]) [.i (Dz a (x,y)).1,.i (Dz a (x,y)).2]:=λx y h=>vj d (by omega) (by omega);have l:∀(x y:Int),(0<=x/\x<=6/\0<=y/\y<=6)->Cc 65 (CI b++[.i (Dz a (x,y)).1,.i (Dz a (x,y)).2]) [.i (Dz (af a b) (x,y)).1,.i (Dz (af a b) (x,y)).2]:=λx y h=>by
  have:=vj (m:=b) (x:=(Dz a (x,y)).1) (y:=(Dz a (x,y)).2) o (by omega) (by have:=F x y h;omega);rw[show Dz b ((Dz a (x,y)).1,(Dz a (x,y)).2)=Dz (af a b) (x,y)from Ve d o (x,y)]at this;exact this
 generalize af a b=G at *;have K:Dz G (0,0)=(6*G.2.1,6*G.2.2):=by simp[Dz]
 have L:∀t X Y,Dz (t,X,Y) (6,0)=(mA t*6+6*X,mC t*6+6*Y):=λt X Y=>by simp[Dz]
 have M:∀t X Y,Dz (t,X,Y) (0,6)=(mB t*6+6*X,mD t*6+6*Y):=λt X Y=>by simp[Dz]
 have O:=g 0 0 (by omega);have P:=g 6 0 (by omega);have Q:=g 0 6 (by omega);have u:=l 0 0 (by omega);have v:=l 6 0 (by omega);have w:=l 0 6 (by omega);obtain⟨t,X,Y⟩:=G;simp only at N Z g3 g4 g5 K;rw[K]at u;rw[L t X Y]at v;rw[M t X Y]at w;simp only[CI,DC,Ds]at O P Q u v w ⊢;clear F g l;generalize Dz a (0,0)=q0 at *;generalize Dz a (6,0)=q1 at *;generalize Dz a (0,6)=q2 at *
 repeat (first|simp(disch:=omega)only[↓mc]|refine aj O ?_|refine aj P ?_|refine aj Q ?_|refine aj u ?_|refine aj v ?_|refine aj w ?_)
 refine bE (g9:=Unit) 8 (λj _=>[.i (ofNat j)]) (λ_ _=>_) (λj _=>j<=t) (j0:=0) (s0:=()) rfl rfl (CM _) (CM _) ?_;intro j _ ad ag e c;have q:j<8:=by omega
 have z:=vj (m:=(j,X,Y)) (x:=6) (y:=0) q (by grind) (by omega);have A:=vj (m:=(j,X,Y)) (x:=0) (y:=6) q (by grind) (by omega);rw[L]at z;rw[M]at A;have H:=sC (a:=6*X) (by omega);have I:=sC (a:=6*Y) (by omega);rw[show 6*X / 6=X by omega]at H;rw[show 6*Y / 6=Y by omega]at I;simp only[CI,DC,Ds]at z A;have hn:(0:Int)<=ofNat j/\ofNat j<=7:=⟨Ga _,by grind⟩;have go:j≠t->e [.i (ofNat j+1)] []:=λh=>c () (by omega) (by omega);have r:=λh1 h2 h3 h4=>Vw (s:=j) (t:=t) q N h1 h2 h3 h4
 repeat (first|simp(disch:=omega)only[↓mc]|refine aj H ?_|refine aj I ?_|refine aj z ?_)
 by_cases f:mA j=mA t/\mC j=mC t
 .obtain⟨f,J⟩:=f;rw[←f,←J]
  repeat (first|simp(disch:=omega)only[↓mc]|refine aj A ?_)
  by_cases e3:mB j=mB t/\mD j=mD t
  .obtain⟨e3,e4⟩:=e3;obtain rfl:=r f J e3 e4
   repeat (first|simp(disch:=omega)only[↓mc])
  .rw[XZ,Gg (by omega)]
   repeat (first|simp(disch:=omega)only[↓mc])
   grind
 .rw[XZ,Gg (by omega)]
  repeat (first|simp(disch:=omega)only[↓mc])
  grind
def qw{q k:Nat}(h:k<3):eK q (eK q k)=k:=by
 have b:k=0∨k=1∨k=2:=by omega
 have a:q%2=0∨q%2=1:=by omega
 rcases a with a|a<;>rcases b with rfl|rfl|rfl<;>simp[eK,a]
def xn{c:Cl}{e f:Nat}(a:c.2.2<4)(g:e<3)(i:f<3)(h:DA c e=DA c f):e=f:=by
 obtain⟨x,y,q⟩:=c;simp only at a;have b:e=0∨e=1∨e=2:=by omega
 have d:f=0∨f=1∨f=2:=by omega
 rcases Ey a with rfl|rfl|rfl|rfl<;>rcases b with rfl|rfl|rfl<;>rcases d with rfl|rfl|rfl
 all_goals first
  |rfl
  |(exfalso;simp[DA]at h;done)
  |(exfalso;simp[DA]at h;omega)
def VG{w v:Nat}(i:Sh w v){c e f n:Nat}(d:c<4*w*v)(g:e<3)(h:f<3)(h1:Cn w v c e=some n)(j:Cn w v c f=some n):e=f:=by
 obtain⟨_,_,_,a,_⟩:=du i d g h1;obtain⟨_,_,_,b,_⟩:=du i d h j;exact xn (c:=n4 w c) (It _ (by omega)) g h (a.symm.trans b)
def Su(l:TD)(u e:Nat):Int:=l.foldl (λa c=>if aO c=((ofNat u,ofNat e):Ku)then c.2.2 else a) 0
def wW{l:TD}{c:DO}{u e:Nat}:Su (l++[c]) u e=if aO c=((ofNat u,ofNat e):Ku)then c.2.2 else Su l u e:=by
 unfold Su
 simp_all
def rf{l:TD}(d:∀c∈l,c.2.2≠0){u e:Nat}:Su l u e≠0↔Ch l u e=true:=by
 have b:∀(l:TD) (a:Int),(∀c∈l,c.2.2≠0)->(l.foldl (λa c=>if aO c=((ofNat u,ofNat e):Ku)then c.2.2 else a) a≠0↔a≠0∨((ofNat u,ofNat e):Ku)∈l.map aO):=by
  intro l
  induction l with
  |nil=>intro a _;simp
  |cons c l f=>
   grind
 unfold Ch Su;rw[Es,b l 0 d];simp
def Ip(w v:Nat)(l:TD)(c k:Nat):Int:=match Cn w v c (eK (c%4) k)with
 |some n=>Su l (min c n) (eK (c%4) k)
 |none=>0
def CN(w v:Nat)(l:TD):TE:=(range (12*w*v)).map λi=>Ip w v l (i / 3) (i%3)
def jv{w v:Nat}{l:TD}:(CN w v l).length=12*w*v:=by simp[CN]
def oB{w v:Nat}{l:TD}{c k:Nat}(a:c<4*w*v)(b:k<3):(CN w v l)[3*c+k]?=some (Ip w v l c k):=by
 have:12*w*v=3*(4*w*v):=by grind
 unfold CN
 grind
def RF{w v:Nat}:CN w v []=replicate (12*w*v) 0:=by
 unfold CN;rw[List.eq_replicate_iff];refine⟨by simp,λx a=>?_⟩;obtain⟨i,_,rfl⟩:=CH.1 a;unfold Ip;split<;>rfl
def RH{w v:Nat}(s:Sh w v){l:TD}{u e n:Nat}{kd:Int}(E:u<4*w*v)(g:e<3)(r:Cn w v u e=some n)(C:u<n) :
  CN w v (l++[(ofNat u,ofNat e,kd)])=((CN w v l).set (3*u+eK (u%4) e) kd).set (3*n+eK (n%4) e) kd:=by
 obtain⟨G,y,_,_,H⟩:=du s E g r;have L:=ip (u%4) e;have M:=ip (n%4) e;have J:=qw (q:=u%4) g;have K:=qw (q:=n%4) g;have z:12*w*v=3*(4*w*v):=by grind
 refine GB λi=>?_;by_cases I:i<12*w*v
 case neg=>rw[Gm (by rw[jv];omega),Gm (by rw[Fy,Fy,jv];omega)]
 obtain⟨c,k,h,j,rfl⟩ : ∃c k,c<4*w*v/\k<3/\i=3*c+k:=⟨i / 3,i%3,by omega,by omega,by omega⟩;rw[oB h j,GC,GC,Fy,jv,oB h j,n_ (show 3*n+eK (n%4) e<12*w*v by omega),n_ (show 3*u+eK (u%4) e<12*w*v by omega)];have b:∀a f:Nat,aO (ofNat u,ofNat e,kd)=((ofNat a,ofNat f):Ku)↔u=a/\e=f:=by
  intro a f;unfold aO
  grind
 have d:=qw (q:=c%4) j;have B:=ip (c%4) k;unfold Ip;by_cases o:3*n+eK (n%4) e=3*c+k
 .obtain rfl:c=n:=by omega
  have:eK (c%4) k=e:=by simp_all
  rw[n_ o,this,y];simp only;rw[wW,n_ ((b _ _).2 ⟨by omega,rfl⟩)]
 .rw[qs o];by_cases p:3*u+eK (u%4) e=3*c+k
  .obtain rfl:c=u:=by omega
   have:eK (c%4) k=e:=by simp_all
   rw[n_ p,this,r];simp only;rw[wW,n_ ((b _ _).2 ⟨by omega,rfl⟩)]
  .rw[qs p];cases t:Cn w v c (eK (c%4) k)with
   |none=>rfl
   |some m=>
    simp only;rw[wW,qs ?_];rw[b];rintro⟨N,x⟩;rw[←x]at t;have d:eK (c%4) e=k:=by rw[x];exact d
    by_cases A:c<=m
    .simp_all
    .have D:m=u:=by omega
     subst D;obtain⟨_,F,_⟩:=du s h g t
     grind
def pL{a b:Nat}{K:Tw}(h:a*b<=1000000000):P1.w7 .mul .i64 (ofNat a) (ofNat b) (@hY _ ⟨K⟩)=K (ofNat (a*b)):=by
 have e:ofNat a*ofNat b=ofNat (a*b):=rfl;rw[GK (by grind) (by grind),e]
def KQ{b:Nat}{K:Tw}(h:b<=100000000):P1.w7 .mul .i64 3 (ofNat b) (@hY _ ⟨K⟩)=K (ofNat (3*b)):=pL (a:=3) (by omega)
def X_{b:Nat}{K:Tw}(h:b<=100000000):P1.w7 .mul .i64 4 (ofNat b) (@hY _ ⟨K⟩)=K (ofNat (4*b)):=pL (a:=4) (by omega)
def BZ{b:Nat}{K:Tw}(h:b<=10000000):P1.w7 .mul .i64 12 (ofNat b) (@hY _ ⟨K⟩)=K (ofNat (12*b)):=pL (a:=12) (by omega)
def uv{a b:Nat}{K:Tw}(h:a+b<=1000000000):P1.w7 .add .i64 (ofNat a) (ofNat b) (@hY _ ⟨K⟩)=K (ofNat (a+b)):=by
 have e:ofNat a+ofNat b=ofNat (a+b):=rfl;rw[EY (by grind) (by grind),e]
def EQ(k:Int):Tn:=[.int .u8 k]
def nU(k:Int):(EQ k).length=1:=rfl
def VC(w v:Nat)(c:DO):Prop:=∃u e n:Nat,c.1=ofNat u/\c.2.1=ofNat e/\u<4*w*v/\e<3/\Cn w v u e=some n/\u<n/\0<=c.2.2/\c.2.2<=255
abbrev D6(T:TE):HO:=.o (.cells (T.flatMap EQ) 1 true)
def S3.n{w v:Nat}(h:S3 w v):4*w<=12/\4*w*v<=36/\12*w*v<=108/\w*v<=9:=by
 obtain⟨c,a,d,b⟩:=h;have:w*v<=3*3:=m0 a b
 grind
def wj{w v:Nat}(C:S3 w v){l:TD}{H:HL}{x:TR}(N:po H x 3 my l)(hv:∀c∈l,VC w v c)(hn:l.length<=1000) :
  aI cc ac 48 [.i (.ofNat w),.i (.ofNat v),.v x] (f_ aa H) [.v (.slice (some ⟨H.length,0,le 1⟩) (12*w*v) (12*w*v+1))] (f_ aa (H++[D6 (CN w v l)])):=by
 have R:=C.sh;obtain⟨b1,b2,b3,b4⟩:=C.n;exact xK x48 (km (km (pu N.g_ u_))) (by
  unfold f48;simp only[u7];refine b_ ?_;rw[BZ (by omega)];refine j8 ?_;rw[pL (by omega)];refine j8 ?_;refine ae (dM (by omega)) ?_;refine b_ ?_;rw[show(ofNat (12*w*v)).toNat=12*w*v from rfl];have z0:HO.o (.cells (aN [.int .u8 0] (12*w*v)) 1 true)=D6 (CN w v (l.take 0)):=by
   rw[gx,RF];unfold D6;rw[←cS (enc:=EQ) (z:=0) (n:=12*w*v)];rfl
  rw[z0];refine bE (g9:=Unit) l.length (λj _=>[.i (ofNat j)]) (λj _=>H++[D6 (CN w v (l.take j))]) (λ_ _=>True) (j0:=0) (s0:=()) rfl rfl (CM _) trivial ?_;intro i _ hi _ K b;refine b_ ?_;refine bu N ?_;by_cases s:i<l.length
  case neg=>
   obtain rfl:i=l.length:=by omega
   rw[aK (x5 _)];refine b_ ?_;exact⟨by trivial,by rw[Yt]⟩
  rw[aL s];refine b_ ?_;obtain⟨c,M⟩:=aq s;have O:=N.pre (h':=H++[D6 (CN w v (l.take i))]) ⟨_,rfl⟩;refine aP O rfl M ?_;obtain⟨u,e,n,q1,q2,L,D,t,S,q3,q4⟩:=hv c (Cb M);have A:CN w v (l.take (i+1))=((CN w v (l.take i)).set (3*u+eK (u%4) e) c.2.2).set (3*n+eK (n%4) e) c.2.2:=by
   rw[H5,M];have:=RH (l:=l.take i) (kd:=c.2.2) R L D t S
   grind
  obtain⟨W,X,_,_,g5⟩:=du R L D t;unfold my;refine b_ ?_;rw[q1,q2];have ag:=ip (u%4) e;have an:=ip (n%4) e;have F:=qw (q:=u%4) D;have Q:=qw (q:=n%4) D;have Z:(CN w v (l.take i)).length=12*w*v:=jv;have b:K [.i (ofNat i+1)] (H++[D6 (CN w v (l.take (i+1)))]):=b () s trivial;generalize CN w v (l.take i)=T at *;generalize CN w v (l.take (i+1))=T' at *;have Y:12*w*v=3*(4*w*v):=by grind
  have eu:ofNat e<=255/\(0:Int)<=ofNat e:=⟨by grind,Ga _⟩;refine bE (g9:=Unit) 3 (λj _=>[.i (ofNat j)]) (λj _=>H++[D6 (if j<=eK (u%4) e then T else T')]) (λ_ _=>True) (j0:=0) (s0:=()) rfl (by simp_all) (CM _) trivial ?_;intro j _ hj _ B f;refine b_ ?_;by_cases p:j<3
  case neg=>
   obtain rfl:j=3:=by omega
   rw[tf (show(3:Int)<=ofNat 3 from t4 _)];refine b_ ?_;rw[aT (by omega),qs (by omega)];exact b
  rw[td (show ofNat j<3 by grind)];refine b_ ?_;refine aj (zx C L p) ?_;have y:j≠eK (u%4) e->B [.i (ofNat j+1)] (H++[D6 (if j<=eK (u%4) e then T else T')]):=by
   intro I;have:=f () p trivial
   grind
  cases U:Cn w v u (eK (u%4) j)with
  |none=>
   rw[show Ho w v u j = -1 by unfold Ho;rw[U]];refine b_ ?_;rw[aT (by omega)]
   grind
  |some m=>
   rw[show Ho w v u j=ofNat m by unfold Ho;rw[U]];refine b_ ?_;rw[tf (show(0:Int)<=ofNat m from Ga m)];refine b_ ?_;refine aj (OP C L p) ?_;refine b_ ?_;by_cases E:j=eK (u%4) e
   case neg=>
    rw[CS (λh=>E (by rw[←Jg h,qw p]))];refine b_ ?_;rw[aT (by omega)];exact y E
   rw[CQ (by rw[E,F])];refine b_ ?_;have J:=U;rw[E,F,t]at J;cases J;rw[KQ (by omega)];refine j8 ?_;rw[uv (by omega)];refine j8 ?_;rw[n_ (by omega)];have r:(H++[D6 T])[H.length]?=some (D6 T):=aH;refine dg (enc:=EQ) (l:=T) (i:=3*u+j) (a:=c.2.2) nU r rfl (by omega) Z rfl ?_;unfold m';rw[oA];refine j8 ?_;have P:(T.set (3*u+j) c.2.2).length=12*w*v:=by simp_all
   rw[←E]at A;generalize ad:T.set (3*u+j) c.2.2=T1 at *;refine bE (g9:=Unit) 3 (λj _=>[.i (ofNat j)]) (λj _=>H++[D6 (if j<=eK (n%4) e then T1 else T')]) (λ_ _=>True) (j0:=0) (s0:=()) rfl (by simp_all) (CM _) trivial ?_;intro k _ al _ V g;refine b_ ?_;by_cases d:k<3
   case neg=>
    obtain rfl:k=3:=by omega
    rw[tf (show(3:Int)<=ofNat 3 from t4 _)];refine b_ ?_;rw[aT (by omega),qs (by omega)];have:=f () p trivial
    grind
   rw[td (show ofNat k<3 by grind)];refine b_ ?_;refine aj (zx C W d) ?_;by_cases G:k=eK (n%4) e
   .rw[show Ho w v n k=ofNat u by unfold Ho;rw[G,Q,X]];refine b_ ?_;rw[KQ (by omega)];refine j8 ?_;rw[uv (by omega)];refine j8 ?_;rw[n_ (by omega)];have r:(H++[D6 T1])[H.length]?=some (D6 T1):=aH;refine dg (enc:=EQ) (l:=T1) (i:=3*n+k) (a:=c.2.2) nU r rfl (by omega) P rfl ?_;unfold m';rw[oA];refine j8 ?_;rw[aT (by omega)];have:=g () d trivial
    grind
   .have I:Ho w v n k≠ofNat u:=by
     unfold Ho;cases hy:Cn w v n (eK (n%4) k)with
     |none=>simp_all
     |some z=>
      intro h;obtain rfl:=Jg h;have:=VG R W (ip _ _) D hy X;exact G (by rw[←this,qw d])
    simp(disch:=omega)only[↓mc]
    try rw[ua I]
    refine j8 ?_;rw[aT (by omega)];have:=g () d trivial
    grind)
def yl{k:Int}{a b r:Mv}(d:a.1<8)(e:b.1<8)(c:CD k r)(h:af a r=af b r):a=b:=by
 have f:(EV r).1<8:=(VQ c).1;have this:af (af a r) (EV r)=af (af b r) (EV r):=by rw[h]
 rw[cu d c.1 f,cu e c.1 f,Pt c.1,oC d,oC e]at this;exact this
structure PS(w v:Nat)(l:TD)(r:Mv)(O A:TO)(B:Ty)(q:TC)(D:Nat->Nat->Prop):Prop where
 js:JS w v l A B q D
 la:A.length=4*w*v
 lb:B.length=4*w*v
 lo:O.length=4*w*v
 rel:∀(c:Nat) a,B[c]?=some true->A[c]?=some a->O[c]?=some (af a r)
def Fl(b:Bool)(q:TC)(B:Ty)(j a:Nat):Prop:=(b=false->(∀c∈q,j<=c)/\DF B=a)/\(b=true->a<DF B)
abbrev o3(H:HL)(O:TO)(B:Ty)(T:TE):HL:=H++[.o (.cells (O.flatMap q7) 3 true),.o (.cells (B.flatMap y0) 1 true),D6 T]
def VO{H:HL}{O:TO}{B:Ty}{T:TE}:(o3 H O B T)[H.length]?=some (.o (.cells (O.flatMap q7) 3 true)):=by simp
def ei{H:HL}{O:TO}{B:Ty}{T:TE}:(o3 H O B T)[H.length+1]?=some (.o (.cells (B.flatMap y0) 1 true)):=by simp
def o3_2{H:HL}{O:TO}{B:Ty}{T:TE}:(o3 H O B T)[H.length+2]?=some (D6 T):=by simp
def d6{H:HL}{O a:TO}{B:Ty}{T:TE}:m' (o3 H O B T) H.length 3 q7 a=o3 H a B T:=by simp[m']
def ef{H:HL}{O:TO}{B B':Ty}{T:TE}:m' (o3 H O B T) (H.length+1) 1 y0 B'=o3 H O B' T:=by
 simp[m',qdt]
def PlR(w v:Nat)(l:TD)(r:Mv)(H:HL)(a:TG)(h':HL):Prop:=
 (a=[.v qz,.i 0]/\¬ ∃G,qn w v l G/\G 0=CJ)∨∃G T,Cs w v l G/\a=[.v (.slice (some ⟨H.length,0,le 3⟩) (4*w*v) (4*w*v+1)),.i 1]/\∃B,h'=o3 H (DI w v G r) B T
def PS.restart{w v:Nat}{l:TD}{r:Mv}{O A:TO}{B:Ty}{q:TC}{D:Nat->Nat->Prop}(h:PS w v l r O A B q D):∃q',PS w v l r O A B q' (λ_ _=>True):=by
 refine⟨(range (4*w*v)).filter λc=>B.getD c false,⟨h.js.a0,h.js.b0,λc a=>?_,λc e n _ a _ _ d b=>absurd ?_ b,h.js.bd,h.js.un⟩,h.la,h.lb,h.lo,h.rel⟩
 .grind
 simp_all
def rH{w v:Nat}(V:S3 w v){l:TD}{H:HL}{x:TR}(hl:po H x 3 my l)(hv:∀c∈l,VC w v c)(a6:∀c∈l,c.2.2≠0)(hn:l.length<=1000){r:Mv}(hr:CD 20000 r) :
  ∃rs h',aI cc ac 23 ([.i (.ofNat w),.i (.ofNat v),.v x]++CI r) (f_ aa H) rs (f_ aa h')/\PlR w v l r H rs h'/\tx H h':=by
 have L:=V.sh;obtain⟨b1,b2,b3,b4⟩:=V.n;have hN:=E4 L;have bx:=x23 (ls:=[.i (.ofNat w),.i (.ofNat v),.v x,.i (ofNat r.1),.i r.2.1,.i r.2.2]) (K:=λrs h'=>PlR w v l r H rs h'/\tx H h') (H:=H) (km (km (pu hl.g_ (km (km (km u_)))))) (by
  unfold f23;simp only[u7];refine b_ ?_;rw[X_ (by omega)];refine j8 ?_;rw[pL (by omega)];refine j8 ?_;refine ae (dM (by omega)) ?_;refine b_ ?_;rw[show(ofNat (4*w*v)).toNat=4*w*v from rfl];have z0:HO.o (.cells (aN [.int .u8 0,.int .i64 0,.int .i64 0] (4*w*v)) 3 true)=HO.o (.cells ((replicate (4*w*v) CJ).flatMap q7) 3 true):=by
   rw[←cS (enc:=q7) (z:=CJ) (n:=4*w*v)];rfl
  have z1:HO.o (.cells (aN [.bool false] (4*w*v)) 1 true)=HO.o (.cells ((replicate (4*w*v) false).flatMap y0) 1 true):=by
   rw[←cS (enc:=y0) (z:=false) (n:=4*w*v)];rfl
  rw[z0];refine ae (dM (by omega)) ?_;refine b_ ?_;rw[z1,tf (show(1:Int)<=ofNat (4*w*v)by grind)];refine b_ ?_;have ag:((replicate (4*w*v) CJ)).length=4*w*v:=by simp
  have ay:((replicate (4*w*v) false)).length=4*w*v:=by simp
  have e2:((H++[HO.o (.cells ((replicate (4*w*v) CJ).flatMap q7) 3 true)])++[HO.o (.cells ((replicate (4*w*v) false).flatMap y0) 1 true)])=H++[HO.o (.cells ((replicate (4*w*v) CJ).flatMap q7) 3 true),HO.o (.cells ((replicate (4*w*v) false).flatMap y0) 1 true)]:=by simp
  have m1:(H++[HO.o (.cells ((replicate (4*w*v) CJ).flatMap q7) 3 true)]).length=H.length+1:=by simp
  rw[e2,m1];generalize hA:replicate (4*w*v) CJ=A0 at *;generalize hB:replicate (4*w*v) false=B0 at *;refine dg (enc:=q7) (l:=A0) (i:=0) (a:=r) da (by simp) rfl (by omega) ag rfl ?_;have p0:m' (H++[HO.o (.cells (A0.flatMap q7) 3 true),HO.o (.cells (B0.flatMap y0) 1 true)]) H.length 3 q7 (A0.set 0 r)=H++[HO.o (.cells ((A0.set 0 r).flatMap q7) 3 true),HO.o (.cells (B0.flatMap y0) 1 true)]:=by simp[m']
  rw[p0];refine j8 ?_;refine dg (enc:=y0) (l:=B0) (i:=0) (a:=true) cM (by simp) rfl (by omega) ay rfl ?_;have p1:m' (H++[HO.o (.cells ((A0.set 0 r).flatMap q7) 3 true),HO.o (.cells (B0.flatMap y0) 1 true)]) (H.length+1) 1 y0 (B0.set 0 true)=H++[HO.o (.cells ((A0.set 0 r).flatMap q7) 3 true),HO.o (.cells ((B0.set 0 true).flatMap y0) 1 true)]:=by simp[m',qdt]
  rw[p1];refine j8 ?_;have hT:=wj V (hl.pre (h':=H++[HO.o (.cells ((A0.set 0 r).flatMap q7) 3 true),HO.o (.cells ((B0.set 0 true).flatMap y0) 1 true)]) ⟨_,rfl⟩) hv hn;have e3:(H++[HO.o (.cells ((A0.set 0 r).flatMap q7) 3 true),HO.o (.cells ((B0.set 0 true).flatMap y0) 1 true)])++[D6 (CN w v l)]=o3 H (A0.set 0 r) (B0.set 0 true) (CN w v l):=by simp
  have m2:(H++[HO.o (.cells ((A0.set 0 r).flatMap q7) 3 true),HO.o (.cells ((B0.set 0 true).flatMap y0) 1 true)]).length=H.length+2:=by simp
  rw[e3,m2]at hT;refine am hT ?_;refine b_ ?_;have bb:PS w v l r (A0.set 0 r) A0 (B0.set 0 true) [0] λ_ _=>True:=by
   have js:=JS.start (l:=l) L;rw[hA,hB]at js;refine⟨js,ag,by simp_all,by simp_all,λc a X I=>?_⟩;have J:c=0:=by
    grind
   subst J;rw[GL (by omega)];rw[js.a0]at I;cases I;rw[kR hr.1]
  generalize A0.set 0 r=O0 at *;generalize B0.set 0 true=B1 at *;clear p0 p1 e2 e3 m1 m2 hT z0 z1 hA hB ag ay;refine aG (m:=4*w*v - DF B1+1) (λm ls h=>∃f O A B q,ls=[.b f]/\h=o3 H O B (CN w v l)/\PS w v l r O A B q (λ_ _=>True)/\((f=true/\m=4*w*v - DF B+1)∨(f=false/\q=[]))) ⟨true,O0,A0,B1,[0],rfl,rfl,bb,.inl ⟨rfl,rfl⟩⟩ ?_;rintro m ls h ⟨f,O,A,B,q,rfl,rfl,d,hm⟩ bt M;refine Da ?_;refine b_ ?_;rcases hm with⟨rfl,rfl⟩|⟨rfl,rfl⟩
  case inr=>
   refine b_ ?_;have hA:=d.js.g_ L d.la d.lb;have a3:∀n,n<4*w*v->B[n]?=some true:=xw L d.js.b0 λc e n J he hn X=>(d.js.dn c e n trivial J he hn X (by simp)).1;have hO:O=DI w v (λc=>A.getD c CJ) r:=by
    refine GB λi=>?_;by_cases hi:i<4*w*v
    .rw[kf hi];obtain⟨a,I⟩:=aq (l:=A) (i:=i) (by rw[d.la];exact hi);rw[d.rel i a (a3 i hi) I,List.getD_eq_getElem?_getD,I];rfl
    .rw[Gm (by rw[d.lo];omega),Gm (by simp[DI];omega)]
   refine⟨.inr ⟨_,CN w v l,hA.consO L,rfl,B,by rw[hO]⟩,⟨_,rfl⟩⟩
  refine b_ ?_;generalize Z:DF B=cnt0 at *;have aE:∃A q,PS w v l r O A B q (λ_ _=>True)/\Fl false q B 0 cnt0:=⟨A,q,d,⟨λ_=>⟨λ_ _=>CM _,Z⟩,λh=>by cases h⟩⟩;refine bE (g9:=List Mv×List Bool×Bool) (4*w*v) (λj s=>[.b s.2.2,.i (ofNat j)]) (λj s=>o3 H s.1 s.2.1 (CN w v l)) (λj s=>∃A q,PS w v l r s.1 A s.2.1 q (λ_ _=>True)/\Fl s.2.2 q s.2.1 j cnt0) (j0:=0) (s0:=(O,B,false)) rfl rfl (CM _) aE ?_;clear aE d Z;rintro j ⟨O,B,f⟩ hj ⟨A,q,d,y⟩ bn D;simp only at d y ⊢;refine b_ ?_;by_cases g:j<4*w*v
  case neg=>
   obtain rfl:j=4*w*v:=by omega
   rw[aK (x5 _)];refine b_ ?_;cases f with
   |false=>
    have hq:q=[]:=by
     rw[List.eq_nil_iff_forall_not_mem];intro c J;have h1:=(y.1 rfl).1 c J;have U:=ai (d.js.q1 c J);rw[d.lb]at U;omega
    subst hq;exact M 0 _ _ (by omega) ⟨false,O,A,B,[],rfl,rfl,d,.inr ⟨rfl,rfl⟩⟩
   |true=>
    obtain⟨q',a9⟩:=d.restart;have h1:=y.2 rfl;have U:=iG B;rw[d.lb]at U;exact M _ _ _ (by omega) ⟨true,O,A,B,q',rfl,rfl,a9,.inl ⟨rfl,rfl⟩⟩
  rw[aL g];refine b_ ?_;obtain⟨t,G⟩:=aq (l:=B) (i:=j) (by rw[d.lb];exact g);have R:∀(O:TO) (B:Ty),B.length=4*w*v->po (o3 H O B (CN w v l)) (.slice (some ⟨H.length+1,0,le 1⟩) (4*w*v) (4*w*v+1)) 1 y0 B:=λO B X=>dL cM ei X.symm;have ap:∀(O:TO) (B:Ty),O.length=4*w*v->po (o3 H O B (CN w v l)) (.slice (some ⟨H.length,0,le 3⟩) (4*w*v) (4*w*v+1)) 3 q7 O:=λO B X=>dL da VO X.symm;have bl:∀(O:TO) (B:Ty),po (o3 H O B (CN w v l)) (.slice (some ⟨H.length+2,0,le 1⟩) (12*w*v) (12*w*v+1)) 1 EQ (CN w v l):=λO B=>dL nU o3_2 jv.symm;cases t with
  |false=>
   refine zK 2 ?_;refine b_ ?_;refine aP (R O B d.lb) rfl G ?_;unfold y0;refine b_ ?_;rw[aT (by omega)];refine D (O,B,f) g ⟨A,q,d,⟨λh=>⟨λc J=>?_,(y.1 h).2⟩,y.2⟩⟩;have h1:=(y.1 h).1 c J;have U:=d.js.q1 c J
   grind
  |true=>
  have a1:∃A q,PS w v l r O A B q (λc e=>c=j->∃Q,Q<0/\eK (j%4) Q=e)/\Fl f q B (j+1) cnt0/\B[j]?=some true:=by
   refine⟨A,q.filter λc=>!Nat.beq c j,⟨(d.js.begin (c0:=j)).KM λe h=>?_,d.la,d.lb,d.lo,d.rel⟩,⟨λh=>⟨λc J=>?_,(y.1 h).2⟩,y.2⟩,G⟩
   .omega
   .obtain⟨h1,U⟩:=Ge.1 J;have V:=(y.1 h).1 c h1;have:c≠j:=λe=>by subst e;simp at U
    omega
  refine bE (g9:=List Mv×List Bool×Bool) 3 (λk s=>[.b s.2.2,.i (ofNat k)]) (λk s=>o3 H s.1 s.2.1 (CN w v l)) (λk s=>∃A q,PS w v l r s.1 A s.2.1 q (λc e=>c=j->∃Q,Q<k/\eK (j%4) Q=e)/\Fl s.2.2 q s.2.1 (j+1) cnt0/\s.2.1[j]?=some true) (j0:=0) (s0:=(O,B,f)) rfl rfl (CM _) a1 ?_;clear a1 G d y;rintro k ⟨O,B,f⟩ hk ⟨A,q,d,y,G⟩ bs u;simp only at d y G ⊢;refine b_ ?_;by_cases E:k<3
  case neg=>
   obtain rfl:k=3:=by omega
   rw[tf (show(3:Int)<=ofNat 3 from t4 _)];refine b_ ?_;rw[aT (by omega)];exact D (O,B,f) g ⟨A,q,⟨d.js.doneP λe he=>by obtain⟨k,h1,U⟩:=Zu (q:=j%4) e he;exact⟨k,h1,U⟩,d.la,d.lb,d.lo,d.rel⟩,y⟩
  rw[td (show ofNat k<3 by grind)];refine b_ ?_;refine aP (R O B d.lb) rfl G ?_;unfold y0;refine b_ ?_;refine aj (zx V g E) ?_;have F:=ip (j%4) k;have C:∀(P:Tz),(∀e,P e↔(∃Q,Q<k/\eK (j%4) Q=e)∨e=eK (j%4) k)->∀e,(∃Q,Q<k+1/\eK (j%4) Q=e)->P e:=by
   grind
  cases N:Cn w v j (eK (j%4) k)with
  |none=>
   rw[show Ho w v j k = -1 by unfold Ho;rw[N]];refine b_ ?_;rw[aT (by omega)];exact u (O,B,f) E ⟨A,q,⟨(d.js.skipP N).KM (C _ λ_=>Iff.rfl),d.la,d.lb,d.lo,d.rel⟩,y,G⟩
  |some n=>
  rw[show Ho w v j k=ofNat n by unfold Ho;rw[N]];obtain⟨g1,g2,g3,g4,g5⟩:=du L g F N;refine b_ ?_;rw[tf (show(0:Int)<=ofNat n from Ga n)];refine b_ ?_;obtain⟨a,I⟩:=aq (l:=A) (i:=j) (by rw[d.la];exact g);have a2:=d.rel j a G I;have av:CD 2000 a:=aY (d.js.bd j a G I) (by have:=iG B;rw[d.lb]at this;omega);refine aP (ap O B d.lo) rfl a2 ?_;unfold q7;refine b_ ?_;rw[KQ (by omega)];refine j8 ?_;rw[uv (by omega)];refine j8 ?_;refine aP (bl O B) rfl (oB g E) ?_;unfold EQ;refine b_ ?_;have ax:Ip w v l j k=Su l (min j n) (eK (j%4) k):=by unfold Ip;rw[N]
  have a8:CD 30000 (af a r):=aY (eh av hr) (by omega);have a7:CD 3000 (Eg w l a j n (eK (j%4) k)):=aY (yv L g F N av (by omega)) (by omega);obtain⟨W,hW⟩ : ∃W,W=af (Eg w l a j n (eK (j%4) k)) r:=⟨_,rfl⟩;obtain⟨tn,p⟩:=aq (l:=B) (i:=n) (by rw[d.lb];exact g1);obtain⟨b,S⟩:=aq (l:=A) (i:=n) (by rw[d.la];exact g1);by_cases an:Ip w v l j k=0
  case' pos=>
   have a5:Ch l (min j n) (eK (j%4) k)=false:=by
    rw[←Gb,←rf a6,←ax];omega
   have e1:af a r=W:=by rw[hW];unfold Eg;grind
   rw[CQ an,e1];simp(disch:=omega)only[↓mc]
  case' neg=>
   have a5:Ch l (min j n) (eK (j%4) k)=true:=by
    rw[←rf a6,←ax];exact an
   have e1:af (wd (q8 (n4 w j) (eK (j%4) k))) (af a r)=W:=by
    rw[hW];unfold Eg;rw[n_ a5,(xm L g F N).2,cu (rz _) av.1 hr.1]
   have ad:=PN L g F;have c1:=kF V g;have c2:=kF V g1;have c3:=VA V g E N;have c4:=Au (aY (zA (n:=10) ⟨ad.2.2.1,ad.2.2.2⟩) (by omega)) a8;rw[e1]at c4;simp only[CI,Dd,DC,Ds]at c1 c2 c3 c4;rw[CS an];refine b_ ?_;refine aj c1 ?_;refine b_ ?_;refine aj c2 ?_;refine b_ ?_;refine aj c3 ?_;refine b_ ?_;refine aP (ap O B d.lo) rfl a2 ?_;unfold q7;refine b_ ?_;refine aj c4 ?_;simp(disch:=omega)only[↓mc]
  all_goals
   refine aP (R O B d.lb) rfl p ?_;unfold y0;cases tn with
   |true=>
    simp(disch:=omega)only[↓mc,DJ,Ex];refine aP (ap O B d.lo) rfl (d.rel n b p S) ?_;unfold q7;simp(disch:=omega)only[↓mc,DJ,Ex];rw[ZE];have bm:CD 2000 b:=aY (d.js.bd n b p S) (by have:=iG B;rw[d.lb]at this;omega);by_cases T:af b r=W
    .have X:b=Eg w l a j n (eK (j%4) k):=yl bm.1 a7.1 hr (T.trans hW);rw[Fo T];simp(disch:=omega)only[↓mc,DJ,Ex];refine aP (R O B d.lb) rfl p ?_;unfold y0;simp(disch:=omega)only[↓mc,DJ,Ex];rw[aT (by omega)];exact u (O,B,f) E ⟨A,q,⟨(d.js.seenP N p I (by rw[←X];exact S)).KM (C _ λ_=>Iff.rfl),d.la,d.lb,d.lo,d.rel⟩,y,G⟩
    .rw[Gg T];simp(disch:=omega)only[↓mc,DJ,Ex];refine⟨.inl ⟨by trivial,?_⟩,⟨_,rfl⟩⟩;exact d.js.tear L g F N G p I S λh=>T (by rw[h,hW])
   |false=>
    simp(disch:=omega)only[↓mc,DJ,Ex];refine aP (R O B d.lb) rfl p ?_;unfold y0;simp(disch:=omega)only[↓mc,DJ,Ex];refine dg (enc:=q7) (l:=O) (i:=n) (a:=W) da VO rfl (by rw[d.lo];exact g1) d.lo rfl ?_;rw[d6]
    try simp(disch:=omega)only[↓mc,DJ,Ex]
    refine dg (enc:=y0) (l:=B) (i:=n) (a:=true) cM ei rfl (by rw[d.lb];exact g1) d.lb rfl ?_;rw[ef]
    try simp(disch:=omega)only[↓mc,DJ,Ex]
    rw[aT (by omega)];have bk:=gK p;refine u (O.set n W,B.set n true,true) E ⟨A.set n (Eg w l a j n (eK (j%4) k)),q++[n],⟨(d.js.freshP L d.la d.lb g F N G p I).KM (C _ λ_=>Iff.rfl),by rw[Fy,d.la],by rw[Fy,d.lb],by rw[Fy,d.lo],λc a' a4 al=>?_⟩,⟨λh=>(by cases h),λ_=>?_⟩,?_⟩
    .by_cases Y:n=c
     .subst Y;rw[GL (by rw[d.la];exact g1)]at al;rw[GL (by rw[d.lo];exact g1)]
      grind
     .rw[Ha Y]at a4 al ⊢;exact d.rel c a' a4 al
    .show cnt0<DF (B.set n true);rw[bk];cases f with
     |false=>have:=(y.1 rfl).2;omega
     |true=>have:=y.2 rfl;omega
    grind)
 grind
def IK(n:Int):Tn:=[.int .i64 n]
def Bh{l:Ln}(c:1<=l.1/\l.1<=4)(b:-100000<=l.2/\l.2<=100000):Cc 85 [.i (.ofNat l.1),.i l.2] (CI (wd l)):=by
 obtain⟨k,n⟩:=l;simp only at c b;refine q85 rfl ?_;unfold f85;simp only[u7];have a:k=1∨k=2∨k=3∨k=4:=by omega
 rcases a with rfl|rfl|rfl|rfl
 all_goals
  simp only[eZ,ee,ec,ej,ek,ea,d4,d5]
  repeat (first|simp(disch:=omega)only[↓mc])
  try simp[wd,CI]
def Rf{l:Ln}{c:Cl}(u:1<=l.1/\l.1<=4)(v:-100000<=l.2/\l.2<=100000)(j:c.2.2<4)(r:-100000<=c.1/\c.1<=100000/\-100000<=c.2.1/\c.2.1<=100000):Cc 86 ([.i (.ofNat l.1),.i l.2]++Dd c) [.i (if dP l c then 1 else 0)]:=by
 obtain⟨k,n⟩:=l;simp only at u v;have s:=qZ j r;have w:-1000000<=(CC c).1/\(CC c).1<=1000000/\-1000000<=(CC c).2/\(CC c).2<=1000000:=by
  obtain⟨x,y,q⟩:=c;simp only at j r;rcases Ey j with rfl|rfl|rfl|rfl<;>simp only[CC,C0,C1]<;>omega
 have b:∀d:Int,(match k with|1=>(CC c).1|2=>(CC c).2|3=>(CC c).1+(CC c).2|_=>(CC c).2 - (CC c).1)=d->(dP (k,n) c=true↔¬d<6*n):=by
  intro d t;subst t;obtain⟨x,y,q⟩:=c;simp only at j;have m:k=1∨k=2∨k=3∨k=4:=by omega
  rcases m with rfl|rfl|rfl|rfl<;>rcases Ey j with rfl|rfl|rfl|rfl
  all_goals
   simp[dP,CC,C0,C1];omega
 refine q86 rfl ?_;unfold f86;simp only[u7];simp only[Dd,DC,Ds]at s ⊢;generalize CC c=p at *
 let L:TE:=[0,p.1,p.2,p.1+p.2,p.2 - p.1]
 have f:po [HO.o (.cells [.int .i64 0,.int .i64 p.1,.int .i64 p.2,.int .i64 (p.1+p.2),.int .i64 (p.2 - p.1)] 1 true)] (.slice (some ⟨([]:HL).length,0,le 1⟩) 5 6) 1 IK L:=dL (enc:=IK) (e:=1) (L:=L) (λ_=>rfl) rfl rfl;have m:k=1∨k=2∨k=3∨k=4:=by omega
 rcases m with rfl|rfl|rfl|rfl
 all_goals
  have b:=b _ rfl;simp only at b;simp only[eZ,ee,ec,ej,ek,ea,d4,d5]
  repeat (first|simp(disch:=omega)only[↓mc]|refine aj s ?_)
 case' inl=>refine aP (i:=1) (a:=p.1) f rfl rfl ?_
 case' inr.inl=>refine aP (i:=2) (a:=p.2) f rfl rfl ?_
 case' inr.inr.inl=>refine aP (i:=3) (a:=p.1+p.2) f rfl rfl ?_
 case' inr.inr.inr=>refine aP (i:=4) (a:=p.2 - p.1) f rfl rfl ?_
 all_goals
  unfold IK;refine b_ ?_;cases g:dP _ c with
  |true=>
   have:=b.1 g
   try rw[tf (by omega)]
   try simp(disch:=omega)only[↓mc]
   try rfl
  |false=>
   have:¬ ¬_:=λh=>by rw[b.2 h]at g;cases g
   try rw[td (by omega)]
   try simp(disch:=omega)only[↓mc]
   try rfl
def PE{a b:Int}:Cc 99 [.i a,.i b] [.i (max a b)]:=by
 refine q99 rfl ?_;unfold f99;simp only[u7];refine b_ ?_;by_cases h:b<a
 .rw[Co h];refine b_ ?_
  grind
 .rw[z_ (by omega)];refine b_ ?_
  grind
def BV{c:Cl}{e:Nat}(a:c.2.2<4)(f:e<3)(d:-100000<=c.1/\c.1<=100000/\-100000<=c.2.1/\c.2.1<=100000):Cc 63 (Dd c++Dd (DA c e)) (CI (wd (q8 c e))):=by
 obtain⟨x,y,q⟩:=c;simp only at a d;have b:e=0∨e=1∨e=2:=by omega
 refine q63 rfl ?_;unfold f63;simp only[u7];rcases Ey a with rfl|rfl|rfl|rfl<;>rcases b with rfl|rfl|rfl
 all_goals
  simp only[DA,Dd,DC,Ds,show [1,0,3,2].getD 0 0=1 from rfl,show [1,0,3,2].getD 1 0=0 from rfl,show [1,0,3,2].getD 2 0=3 from rfl,show [1,0,3,2].getD 3 0=2 from rfl,show [3,2,1,0].getD 0 0=3 from rfl,show [3,2,1,0].getD 1 0=2 from rfl,show [3,2,1,0].getD 2 0=1 from rfl,show [3,2,1,0].getD 3 0=0 from rfl,eZ,ee,ec,ej]
  repeat (first|simp(disch:=omega)only[↓mc]|refine aj PE ?_)
  try (simp[wd,q8,CI];done)
  try (simp[wd,q8,CI];omega)
def L7{c:Cl}{e:Nat}(a:c.2.2<4)(h:e<3)(d:-100000<=c.1/\c.1<=100000/\-100000<=c.2.1/\c.2.1<=100000):Cc 127 (Dd c++Dd (DA c e)) [.i (.ofNat (q8 c e).1),.i (q8 c e).2]:=by
 have b:=BV a h d;refine q127 rfl ?_;unfold R_;simp only[u7];simp only[Dd,DC,Ds]at b ⊢;have f:((q8 c e).1=1∨(q8 c e).1=2∨(q8 c e).1=3∨(q8 c e).1=4)/\-300000<=(q8 c e).2/\(q8 c e).2<=300000:=by
  obtain⟨x,y,q⟩:=c;simp only at a d;have g:e=0∨e=1∨e=2:=by omega
  rcases Ey a with rfl|rfl|rfl|rfl<;>rcases g with rfl|rfl|rfl<;>simp[q8]<;>omega
 generalize q8 c e=l at *;obtain⟨k,n⟩:=l;simp only at f;obtain⟨rfl|rfl|rfl|rfl,j,m⟩:=f
 all_goals
  simp only[wd,CI,ek,ea,d4,d5]at b
  repeat (first|simp(disch:=omega)only[↓mc]|refine aj b ?_)
  try simp_all
abbrev Il:=Cl×Value
def C2(s:Il):Tn:=bU s.1++[s.2]
def nR(s:Il):(C2 s).length=4:=rfl
def StL(h:HL)(x:Value)(L:List (Cl×List Nat)):Prop:=∃M:List Il,po h x 4 C2 M/\M.length=L.length/\∀(i:Nat) m,M[i]?=some m->∃l,L[i]?=some (m.1,l)/\po h m.2 1 j_ l
def vf(w v:Nat):List (Cl×List Nat):=(range (4*w*v)).map λi=>(n4 w i,[i])
def RE(w v c k:Nat):Bool:=match Cn w v c (eK (c%4) k)with
 |some n=>lK 87 [.i (.ofNat w),.i (.ofNat v),.i (.ofNat c),.i (.ofNat n)] [.i (.ofNat (eK (c%4) k))]
 |none=>true
def hK:∀w v:Nat,1<=w->w<=3->1<=v->v<=3->((range (4*w*v)).all λc=>(range 3).all λk=>RE w v c k)=true:=by
 have a:((range 3).all λw=>(range 3).all λv=>(range (4*(w+1)*(v+1))).all λc=>(range 3).all λk=>RE (w+1) (v+1) c k)=true:=by kernel_rfl
 intro w v d e f g;have b:=A5.1 a (w - 1) (Cd.2 (by omega));have h:=A5.1 b (v - 1) (Cd.2 (by omega))
 simp_all
def OQ{w v c k n:Nat}(h:S3 w v)(a:c<4*w*v)(b:k<3)(d:Cn w v c (eK (c%4) k)=some n):Cc 87 [.i (.ofNat w),.i (.ofNat v),.i (.ofNat c),.i (.ofNat n)] [.i (.ofNat (eK (c%4) k))]:=by
 have:=A5.1 (A5.1 (hK w v h.1 h.2.1 h.2.2.1 h.2.2.2) c (Cd.2 a)) k (Cd.2 b);unfold RE at this;rw[d]at this;exact fT this rfl (by kernel_rfl) rfl
def Kl(a b:DO):Bool:=decide (b.1<a.1)||(decide (a.1=b.1)&&decide (b.2.1<a.2.1))
def E_(l:TD):Prop:=l.Pairwise λa b=>Kl a b=false
def AX{a b:DO}:Kl a b=false↔a.1<b.1∨(a.1=b.1/\a.2.1<=b.2.1):=by
 unfold Kl
 grind
def uc{a b:DO}:Kl a b=true↔b.1<a.1∨(a.1=b.1/\b.2.1<a.2.1):=by
 unfold Kl
 simp_all
def WC{A B:TD}{x:DO}(h:E_ (A++B))(h1:∀a∈A,Kl a x=false)(d:∀b∈B,Kl b x=true):E_ (A++x :: B):=by
 unfold E_ at *;rw[hR]at h ⊢;refine⟨h.1,Je.2 ⟨λb c=>?_,h.2.1⟩,λa e b c=>?_⟩
 .have:=uc.1 (d b c);exact AX.2 (by omega)
 grind
def gw{i6:Type}{h:HL}{id e:Nat}{enc:i6->Tn}{l l':List i6}:m' (m' h id e enc l) id e enc l'=m' h id e enc l':=by
 unfold m';rw[List.set_set]
def M0{H:HL}{id cx:Nat}{l:TD}(hY:H[id]?=some (.o (.cells (l.flatMap my) 3 true)))(hn:l.length<=1000) :
  ∃l',aI cc ac 88 [.v (.slice (some ⟨id,0,le 3⟩) l.length cx)] (f_ aa H) [.v (.slice (some ⟨id,0,le 3⟩) l.length cx)] (f_ aa (m' H id 3 my l'))/\l'.Perm l/\E_ l':=by
 have u:=ai hY;have k:∀c:DO,(my c).length=3:=λ_=>rfl;have G:∀L:List DO,L.length=l.length->po (m' H id 3 my L) (.slice (some ⟨id,0,le 3⟩) l.length cx) 3 my L:=λL h=>dL k (bA u) h.symm;have ag:=x88 (ls:=[.v (.slice (some ⟨id,0,le 3⟩) l.length cx)]) (K:=λrs W=>rs=[.v (.slice (some ⟨id,0,le 3⟩) l.length cx)]/\∃l',W=m' H id 3 my l'/\l'.Perm l/\E_ l') (H:=H) (pu (dL k hY rfl).g_ u_) (by
  unfold f88;simp only[u7];refine b_ ?_;have P:m' H id 3 my l=H:=fS hY;refine bE (g9:=List DO) (max 1 l.length) (λj _=>[.i (ofNat j)]) (λ_ L=>m' H id 3 my L) (λj L=>L.Perm l/\1<=j/\E_ (L.take j)) (j0:=1) (s0:=l) rfl P.symm (by omega) ⟨Yq _,x5 _,?_⟩ ?_
  .cases l with
   |nil=>exact .nil
   |cons a l=>exact Je.2 ⟨λ_ h=>(by cases h),.nil⟩
  intro i L hi ⟨w,hi1,r⟩ self hself;have F:L.length=l.length:=w.length_eq;refine b_ ?_;refine bu (G L F) ?_;rw[F];by_cases O:i<l.length
  case neg=>
   rw[aK (by omega)];refine b_ ?_;rw[H4 (by omega)]at r
   grind
  rw[aL O];refine b_ ?_;obtain⟨V,T⟩:=aq (l:=L) (i:=i) (by omega);have p:L=L.take i++V :: []++L.drop (i+1):=by
   conv=>lhs;rw[←Wp i L]
   rw[SB (by omega)]
   simp_all
  refine aG (m:=i) (λm ls h=>∃(A:TD) (x:DO) (B R:TD),ls=[.i (ofNat A.length)]/\m=A.length/\h=m' H id 3 my (A++x :: B++R)/\(A++x :: B++R).Perm l/\E_ (A++B)/\(∀b∈B,Kl b x=true)/\A.length+B.length=i)
   ⟨L.take i,V,[],L.drop (i+1),by grind,by grind,by rw[←p],by grind,by simpa using r,λb U=>(by cases U),by grind⟩ ?_
  clear p T r w F;rintro m ls h ⟨A,x,B,R,rfl,rfl,rfl,w,r,Y,I⟩ D n;refine Da ?_;refine b_ ?_;have F:(A++x :: B++R).length=l.length:=w.length_eq;have s:(∀a∈A,Kl a x=false)->self [.i (ofNat i+1)] (m' H id 3 my (A++x :: B++R)):=λh=>hself _ (by omega) ⟨w,by omega,by
   rw[qcO (by simp;omega),H4 (by simp;omega)];exact WC r h Y⟩
  rcases List.eq_nil_or_concat A with rfl|⟨g,y,rfl⟩
  .rw[z_ (show ofNat ([]:TD).length<=0 from t4 _)];refine b_ ?_;rw[aT (by omega)]
   simp_all
  rw[List.concat_eq_append]at *;have hk:(g++[y]).length=g.length+1:=by simp
  rw[hk]at I n ⊢;have t:Kl y x=false->∀a∈g++[y],Kl a x=false:=by
   intro h a J;rcases Ed.1 J with J|J
   .have E:Kl a y=false:=by
     unfold E_ at r
     grind
    have E:=AX.1 E;have h:=AX.1 h;exact AX.2 (by omega)
   simp_all
  have C:(g++[y]++x :: B++R)[g.length]?=some y:=by simp
  have z:(g++[y]++x :: B++R)[g.length+1]?=some x:=by
   rw[EC,Hb (by simp)];simp
  have f:=G _ F;have Z:=bA (l:=g++[y]++x :: B++R) (e:=3) (enc:=my) u;rw[Co (show(0:Int)<ofNat (g.length+1)by simp_all)];have d:g.length+1<=4294967296:=by omega
  refine b_ ?_;rw[kZ (by omega) d];refine j8 ?_;refine dF (cs:=[.int .i64 y.1]) f rfl C rfl (by omega) ?_;refine b_ ?_;refine dF (cs:=[.int .i64 x.1]) f rfl z rfl (by omega) ?_;refine b_ ?_;have S:Kl y x=true->D [.i (ofNat g.length)] (m' H id 3 my (g++x :: (y :: B)++R)):=λh=>n g.length _ _ (by omega) ⟨g,x,y :: B,R,rfl,rfl,rfl,by
   grind,by simp_all,λb U=>by
   grind,by simp;omega⟩
  have Q:((g++[y]++x :: B++R).set g.length x).set (g.length+1) y=g++x :: (y :: B)++R:=by
   simp_all
  have N:((g++[y]++x :: B++R).set g.length x).length=l.length:=by simp_all
  have ad:=ai z;have M:(m' (m' H id 3 my (g++[y]++x :: B++R)) id 3 my ((g++[y]++x :: B++R).set g.length x))[id]?=some (.o (.cells (((g++[y]++x :: B++R).set g.length x).flatMap my) 3 true)):=by
   rw[gw];exact bA u
  by_cases q:Kl y x=true
  case neg=>
   have q:=w2.2 q;rcases AX.1 q with E|⟨E,X⟩
   .rw[z_ (by omega)];refine b_ ?_;rw[kZ (by omega) d];refine j8 ?_;refine dF (cs:=[.int .i64 y.1]) f rfl C rfl (by omega) ?_;refine b_ ?_;refine dF (cs:=[.int .i64 x.1]) f rfl z rfl (by omega) ?_;simp(disch:=omega)only[↓mc]
    try rw[ua (by omega)]
    refine j8 ?_;rw[aT (by omega)];exact s (t q)
   .rw[z_ (by omega)];refine b_ ?_;rw[kZ (by omega) d];refine j8 ?_;refine dF (cs:=[.int .i64 y.1]) f rfl C rfl (by omega) ?_;refine b_ ?_;refine dF (cs:=[.int .i64 x.1]) f rfl z rfl (by omega) ?_;simp(disch:=omega)only[↓mc]
    try rw[s_ (by omega)]
    refine j8 ?_;rw[kZ (by omega) d];refine j8 ?_;refine dF (cs:=[.int .u8 y.2.1]) f rfl C rfl (by omega) ?_;refine b_ ?_;refine dF (cs:=[.int .u8 x.2.1]) f rfl z rfl (by omega) ?_;simp(disch:=omega)only[↓mc]
    try rw[z_ (by omega)]
    refine j8 ?_;rw[aT (by omega)];exact s (t q)
  rcases uc.1 q with E|⟨E,X⟩
  case' inl=>
   rw[Co (by omega)];simp(disch:=omega)only[↓mc]
  case' inr=>
   rw[z_ (by omega)];refine b_ ?_;rw[kZ (by omega) d];refine j8 ?_;refine dF (cs:=[.int .i64 y.1]) f rfl C rfl (by omega) ?_;refine b_ ?_;refine dF (cs:=[.int .i64 x.1]) f rfl z rfl (by omega) ?_;simp(disch:=omega)only[↓mc]
   try rw[s_ (by omega)]
   refine j8 ?_;rw[kZ (by omega) d];refine j8 ?_;refine dF (cs:=[.int .u8 y.2.1]) f rfl C rfl (by omega) ?_;refine b_ ?_;refine dF (cs:=[.int .u8 x.2.1]) f rfl z rfl (by omega) ?_;simp(disch:=omega)only[↓mc]
   try rw[Co (by omega)]
   try simp(disch:=omega)only[↓mc]
  all_goals
   rw[kZ (by omega) d];refine j8 ?_;refine aP f rfl z ?_;rw[show my x=[.int .i64 x.1,.int .u8 x.2.1,.int .u8 x.2.2]from rfl];refine b_ ?_;rw[kZ (by omega) d];refine j8 ?_;refine aP f rfl C ?_;rw[show my y=[.int .i64 y.1,.int .u8 y.2.1,.int .u8 y.2.2]from rfl];refine b_ ?_;refine dg (enc:=my) (i:=g.length) (a:=x) k Z rfl (by omega) F rfl ?_;refine j8 ?_;refine dg (enc:=my) (i:=g.length+1) (a:=y) k M rfl (by omega) N rfl ?_;rw[gw,gw,Q];refine j8 ?_;rw[kZ (by omega) d]
   simp_all)
 grind
abbrev SP:=Int×Int×Int
def sD(p:SP):Tn:=[.int .u8 p.1,.int .u8 p.2.1,.int .u8 p.2.2]
def uO(p:SP):(sD p).length=3:=rfl
def MX(p:SP):Prop:=0<=p.1/\p.1<=255/\0<=p.2.1/\p.2.1<=255/\0<=p.2.2/\p.2.2<=255
def Ji{h:HL}{v:TR}{l:List SP}{i o:Nat}{a:SP}{n:Int}{cs:Tn}{K:Tf}(s:po h v 3 sD l)(r:n=ofNat i)(k:l[i]?=some a)(u:o<3)(b:cs=((sD a).drop o).take 1)(m:K cs) :
  P1.h_ (A2 3 v n) (@hY _ ⟨λx=>P1.h_ (Ph 3 1 x (ofNat o)) (@hY _ ⟨λy=>P1.k_ y (@hY _ ⟨P1.ka (.lg cc 1 y) h (@hY _ ⟨K⟩)⟩)⟩)⟩):=by
 subst r b;obtain⟨p,g,d⟩:=s.at k;obtain⟨q,j,f⟩:=d.fd o 1 (by rw[uO];omega);refine ae g (ae (x:=q) ?_ (ab f.g_ (dq (f.lg ?_) m)))
 .obtain⟨id,w,z,e,t,rfl,_,_⟩:=d;have c:o=0∨o=1∨o=2:=by omega
  rcases c with rfl|rfl|rfl<;>· rw[←j];rfl
 .rw[Ys,cb,uO];omega
def VK(w v:Nat)(c:DO):Prop:=VC w v c/\1<=c.2.2/\c.2.2<=3
def Jl{w v:Nat}(k:Sh w v){l:TD}{G m:TH}(h:Cs w v l G)(d:Cs w v l m){c:Nat}(b:c<4*w*v):G c=m c:=by
 have r:=E4 k;have hA:FQ w v l ((range (4*w*v)).map G):=by
  have j:∀c,c<4*w*v->((range (4*w*v)).map G)[c]?=some (G c):=λc b=>by simp_all
  refine⟨by simp,by rw[j 0 (by omega),h.z],λa f=>?_,λc e n a b o p f=>?_⟩
  .obtain⟨i,q,rfl⟩:=CH.1 f;exact h.ok i (Cd.1 q)
  .rw[j c b]at f;cases f;rw[j n (du k b o p).1,h.g c e n b o p]
 have:=hA.eq k d.g d.z c b
 simp_all
def Ul{w v:Nat}{l:TD}(g:∀c∈l,VK w v c)(d:l.Pairwise λa b=>FG a b=true):FZ (ofNat w) (ofNat v) l=0:=by
 have h:l.all MG=true:=A5.2 λc f=>by
  have:=(g c f).2;unfold MG
  simp_all
 have j:l.all (SJ (ofNat w) (ofNat v))=true:=A5.2 λc f=>by
  obtain⟨u,e,n,m,o,z,x,y,d,_⟩:=(g c f).1;unfold SJ Fu;rw[m,o];have p:(0:Int)<=ofNat u:=Ga u;have q:ofNat u<4*ofNat w*ofNat v:=show(u:Int)<((4*w*v:Nat):Int)by omega
  have r:ofNat e<=2:=by grind
  simp_all
 have k:EF l=true:=je.2 λi a b s t=>by
  rw[M8]at d
  grind
 unfold FZ;rw[h,j,k];rfl
def kx{w v:Nat}{c:DO}(h:VK w v c)(a:4*w*v<=100):nn c:=by
 obtain⟨⟨u,e,n,f,g,d,b,_,_,i,j⟩,_⟩:=h;unfold nn
 grind
abbrev Nz:=Nat×Nat×Ln
def OR(p:Nz):Tn:=[.int .i64 (ofNat p.1),.int .i64 (ofNat p.2.1),.int .u8 (ofNat p.2.2.1),.int .i64 p.2.2.2]
def Eb(w v:Nat)(l:TD)(G:TH)(r:Mv)(a k:Nat):Option Nz:=match Cn w v a (eK (a%4) k)with
 |some b=>if a<b/\Ip w v l a k=0 then some (a,b,q8 (aA (af (G a) r) (n4 w a)) (eT (af (G a) r).1 (eK (a%4) k)))else none
 |none=>none
def Qw(w v:Nat)(l:TD)(G:TH)(r:Mv)(a:Nat):List Nz:=(range 3).filterMap (Eb w v l G r a)
def CL(w v:Nat)(l:TD)(G:TH)(r:Mv)(n:Nat):List Nz:=(range n).flatMap (Qw w v l G r)
def vM{w v:Nat}{l:TD}{G:TH}{r:Mv}{n:Nat}:CL w v l G r (n+1)=CL w v l G r n++Qw w v l G r n:=by
 unfold CL;rw[Lb,Yx];simp
def zN{w v:Nat}{l:TD}{G:TH}{r:Mv}{a k:Nat}:((range k).filterMap (Eb w v l G r a)).length<=k:=NG (List.length_filterMap_le _ _) (by simp)
def lq{w v:Nat}{l:TD}{G:TH}{r:Mv}:∀ {n:Nat},(CL w v l G r n).length<=3*n
 |0=>by simp[CL]
 |n+1=>by
  rw[vM,GA];have a:=lq (w:=w) (v:=v) (l:=l) (G:=G) (r:=r) (n:=n);have b:(Qw w v l G r n).length<=3:=zN;omega
def uV{i6:Type}{f:Nat->Option i6}{k:Nat}:(range (k+1)).filterMap f=(range k).filterMap f++(f k).toList:=by
 rw[Lb,ce]
 grind
def zO{w v:Nat}(E:S3 w v){l:TD}{H:HL}{x xs:TR}(hl:po H x 3 my l)(ap:aJ xs=true)(hv:∀c∈l,VC w v c)(S:∀c∈l,c.2.2≠0)(hn:l.length<=1000){r:Mv}(hr:CD 10000 r){G:TH}(R:Cs w v l G) :
  ∃z h',aI cc ac 84 ([.i (.ofNat w),.i (.ofNat v),.v x]++CI r++[.v xs]) (f_ aa H) [.v z] (f_ aa h')/\tx H h'/\aJ z=true/\po h' z 4 OR (CL w v l G r (4*w*v)):=by
 have V:=E.sh;obtain⟨b1,b2,b3,b4⟩:=E.n;have hN:=E4 V;obtain⟨a6,h1,c1,a0,J⟩:=rH E hl hv S hn (r:=r) (aY hr (by omega));have a5:=x84 (ls:=[.i (.ofNat w),.i (.ofNat v),.v x,.i (ofNat r.1),.i r.2.1,.i r.2.2,.v xs]) (K:=λrs h'=>∃z,rs=[.v z]/\tx H h'/\aJ z=true/\po h' z 4 OR (CL w v l G r (4*w*v))) (H:=H) (km (km (pu hl.g_ (km (km (km (pu ap u_))))))) (by
  unfold f84;simp only[u7];refine b_ ?_;refine am c1 ?_;rcases a0 with⟨rfl,I⟩|⟨G',T,Z,rfl,B,rfl⟩
  .exact absurd ⟨G,R.g,R.z⟩ I
  refine b_ ?_;have ad:DI w v G' r=DI w v G r:=by
   unfold DI;refine Yy λc hc=>?_;rw[Jl V Z R (Cd.1 hc)]
  have ax:po (o3 H (DI w v G r) B T) (.slice (some ⟨H.length,0,le 3⟩) (4*w*v) (4*w*v+1)) 3 q7 (DI w v G r):=dL da VO (by simp[DI]);rw[ad]at J ⊢;have c3:=wj E (hl.pre J) hv hn;refine am c3 ?_;refine b_ ?_;generalize o3 H (DI w v G r) B T=h2 at *;have av:po (h2++[D6 (CN w v l)]) (.slice (some ⟨h2.length,0,le 1⟩) (12*w*v) (12*w*v+1)) 1 EQ (CN w v l):=dL nU aH jv.symm;have U:tx h2 (h2++[D6 (CN w v l)]):=⟨_,rfl⟩;have y:=ax.pre U;have aE:=J.trans U;generalize h2++[D6 (CN w v l)]=h4 at *;refine bE (g9:=HL×Value) (4*w*v) (λj s=>[.v s.2,.i (ofNat j)]) (λ_ s=>s.1) (λj s=>tx h4 s.1/\aJ s.2=true/\MkL h4.length s.1 s.2 4 OR (CL w v l G r j)) (j0:=0) (s0:=(h4,.slice none 0 0)) rfl rfl (CM _) ⟨.refl _,rfl,.nil _ _ _ _⟩ ?_;rintro a ⟨h,z⟩ ha ⟨f,p,A⟩ a2 L;simp only at f p A ⊢;refine b_ ?_;refine bu (y.pre f) ?_;rw[show(DI w v G r).length=4*w*v by simp[DI]];by_cases o:a<4*w*v
  case neg=>
   obtain rfl:a=4*w*v:=by omega
   rw[aK (x5 _)];refine b_ ?_;exact⟨z,rfl,aE.trans f,p,A.ls⟩
  rw[aL o];refine b_ ?_;refine bE (g9:=HL×Value) 3 (λk s=>[.v s.2,.i (ofNat k)]) (λ_ s=>s.1) (λk s=>tx h4 s.1/\aJ s.2=true/\MkL h4.length s.1 s.2 4 OR (CL w v l G r a++(range k).filterMap (Eb w v l G r a))) (j0:=0) (s0:=(h,z)) rfl rfl (CM _) ⟨f,p,by simpa using A⟩ ?_;clear f p A;rintro k ⟨h,z⟩ hk ⟨f,p,A⟩ O t;simp only at f p A ⊢;refine b_ ?_;by_cases C:k<3
  case neg=>
   obtain rfl:k=3:=by omega
   rw[tf (show(3:Int)<=ofNat 3 from t4 _)];refine b_ ?_;rw[aT (by omega)];exact L (h,z) o ⟨f,p,by rw[vM];exact A⟩
  rw[td (show ofNat k<3 by grind)];refine b_ ?_;refine aj (zx E o C) ?_;have q:Eb w v l G r a k=none->O [.v z,.i (ofNat k+1)] h:=λI=>t (h,z) C ⟨f,p,by rw[uV,I];simpa using A⟩;have D:=ip (a%4) k;cases W:Cn w v a (eK (a%4) k)with
  |none=>
   rw[show Ho w v a k = -1 by unfold Ho;rw[W]];refine b_ ?_;rw[td (show(-1:Int)<ofNat a by grind)];refine b_ ?_;rw[aT (by omega)];exact q (by unfold Eb;rw[W])
  |some b=>
  rw[show Ho w v a k=ofNat b by unfold Ho;rw[W]];obtain⟨Q,g2,g3,Y,g5⟩:=du V o D W;refine b_ ?_;by_cases an:b<a
  .rw[aL an];refine b_ ?_;rw[aT (by omega)];exact q (by unfold Eb;grind)
  rw[aK (by omega)];refine b_ ?_;rw[KQ (by omega)];refine j8 ?_;rw[uv (by omega)];refine j8 ?_;refine aP (av.pre f) rfl (oB o C) ?_;rw[show EQ (Ip w v l a k)=[.int .u8 (Ip w v l a k)]from rfl];refine b_ ?_;by_cases F:Ip w v l a k=0
  case neg=>
   rw[CS F];refine b_ ?_;rw[aT (by omega)];exact q (by unfold Eb;simp_all)
  rw[CQ F];refine b_ ?_;have a3:Ch l (min a b) (eK (a%4) k)=false:=by
   rw[←Gb,←rf S];intro h;refine h ?_;unfold Ip at F
   simp_all
  have ag:G b=G a:=by
   rw[R.g a _ b o D W];unfold Eg
   simp_all
  have u:CD 20000 (af (G a) r):=aY (eh (R.ok a o) hr) (by omega);have P:=dG V o;have rb:=dG V Q;have pa:=kf (G:=G) (r:=r) o;have pb:=kf (G:=G) (r:=r) Q;rw[ag]at pb;have M:Eb w v l G r a k=some (a,b,q8 (aA (af (G a) r) (n4 w a)) (eT (af (G a) r).1 (eK (a%4) k))):=by
   unfold Eb
   grind
  generalize af (G a) r=m at *;have rm:=vG u (c:=n4 w a) (k:=1000) ⟨P.1,P.2.1,P.2.2.1,P.2.2.2.1⟩;have X:=pz (m:=m) (c:=n4 w a) u.1 (by obtain⟨_,Q,g2,g3,Y,_⟩:=u;omega) P.2.2.2.2 (by omega);have N:=pz (m:=m) (c:=n4 w b) u.1 (by obtain⟨_,Q,g2,g3,Y,_⟩:=u;omega) rb.2.2.2.2 (by omega);rw[Y,iR u.1 P.2.2.2.2 D]at N;have bt:=L7 (c:=aA m (n4 w a)) (e:=eT m.1 (eK (a%4) k)) rm.2.2.2.2 (lS D) (by omega);have k1:=kF E o;have k2:=kF E Q;rw[Y]at k2;generalize DA (aA m (n4 w a)) (eT m.1 (eK (a%4) k))=d at *;generalize q8 (aA m (n4 w a)) (eT m.1 (eK (a%4) k))=ln at *;simp only[Dd,CI,DC,Ds]at k1 k2 X N bt;refine aP (y.pre f) rfl pa ?_;rw[show q7 m=[.int .u8 (ofNat m.1),.int .i64 m.2.1,.int .i64 m.2.2]from rfl];refine b_ ?_;refine aj k1 ?_;refine b_ ?_;refine aj X ?_;refine b_ ?_;refine aP (y.pre f) rfl pb ?_;rw[show q7 m=[.int .u8 (ofNat m.1),.int .i64 m.2.1,.int .i64 m.2.2]from rfl];refine b_ ?_;refine aj k2 ?_;refine b_ ?_;refine aj N ?_;refine b_ ?_;refine aj bt ?_;refine b_ ?_;have a4:=lq (w:=w) (v:=v) (l:=l) (G:=G) (r:=r) (n:=a);have a1:=zN (w:=w) (v:=v) (l:=l) (G:=G) (r:=r) (a:=a) (k:=k)
  refine j5 (h0:=h4) (a:=((a,b,ln):Nz)) f A rfl rfl rfl rfl (by
   unfold ba;rw[GA,DK (by omega),DK (by omega)];rfl) ?_
  intro z' h' ay al hg _ _;refine b_ ?_;refine ab hg ?_;refine j8 ?_;rw[aT (by omega)];exact t (h',z') C ⟨ay,hg,by rw[uV,M,←EC];exact al⟩)
 grind
def gv{i6:Type}{e b:Nat}{enc:i6->Tn}{h:HL}{x:TR}{new:List i6}{m:Nat}{K:Tb}(f:h[m]?=some (.o (.cells [] e true)))(j:po h x e enc new)(l:0<new.length)(k:new.length*b<=140737488355328)(d:new.length<=140737488355328)
  (g:K [.slice (some ⟨h.length,0,le e⟩) new.length 0] (h++[.o (.cells (new.flatMap enc) e true)])) :
  P1.heap (.ap cc e b (.slice (some ⟨m,0,le e⟩) 0 1) x) h (@hY _ ⟨K⟩):=by
 have i:ba (0+new.length) b=true:=by
  rw[EM];unfold ba
  simp_all
 have c:cut ([]:Tn) 0 (0*e)=some []:=Sx.t_ (by simp);have a:Ei cc e b (.slice (some ⟨m,0,le e⟩) 0 1) x (r_ aa h) h.length=some ([.push (.cells ([]++new.flatMap enc) e true)],[.slice (some ⟨h.length,0,le e⟩) (0+new.length) 0]):=by
  unfold Ei;rw[ns j.2];simp only[ne_eq,not_true_eq_false,if_false];rw[bG f]
  grind
 refine bJ (show(Hp.ap cc e b (.slice (some ⟨m,0,le e⟩) 0 1) x).run _ _=_ from a) ?_;rw[EM];exact g
def CP(a b:Cl):Bool:=decide (b.2.1<a.2.1∨(a.2.1=b.2.1/\(b.1<a.1∨(a.1=b.1/\b.2.2<a.2.2))))
def L2{a b:Cl}:Cc 67 (Dd a++Dd b) [.i (if CP a b then 1 else 0)]:=by
 obtain⟨x,y,q⟩:=a;obtain⟨d,e,c⟩:=b;refine q67 rfl ?_;unfold f67;simp only[u7];simp only[Dd,DC,Ds];refine b_ ?_;have l:(ofNat c<ofNat q)↔c<q:=Int.ofNat_lt;by_cases h:e<y
 .rw[Co h];refine b_ ?_;rw[show CP (x,y,q) (d,e,c)=true from Fo (.inl h)];rfl
 rw[z_ (by omega)];refine b_ ?_;by_cases f:y=e
 case neg=>
  rw[ua f];refine b_ ?_;rw[show CP (x,y,q) (d,e,c)=false from Gg (by simp only;omega)];rfl
 rw[s_ f];refine b_ ?_;by_cases j:d<x
 .rw[Co j];refine b_ ?_;rw[show CP (x,y,q) (d,e,c)=true from Fo (.inr ⟨f,.inl j⟩)];rfl
 rw[z_ (by omega)];refine b_ ?_;by_cases g:x=d
 case neg=>
  rw[ua g];refine b_ ?_;rw[show CP (x,y,q) (d,e,c)=false from Gg (by simp only;omega)];rfl
 rw[s_ g];refine b_ ?_;by_cases k:c<q
 .rw[Co (l.2 k)];refine b_ ?_;rw[show CP (x,y,q) (d,e,c)=true from Fo (.inr ⟨f,.inr ⟨g,k⟩⟩)];rfl
 .rw[z_ (by omega)];refine b_ ?_;rw[show CP (x,y,q) (d,e,c)=false from Gg (by simp only;omega)];rfl
def Vu(c:DO)(a b:Int):Bool:=decide (c.1<a)||(decide (c.1=a)&&decide (c.2.1<b))
def md{c:DO}{a b:Int}:Vu c a b=true↔c.1<a∨(c.1=a/\c.2.1<b):=by
 simp only[Vu,Gd,te,Es]
def VX{c:DO}{a b:Int}(h:0<=c.1/\c.1<=1000/\0<=a/\a<=1000/\0<=c.2.1/\c.2.1<=255/\0<=b/\b<=255):∃d:Int,Cc 38 [.i c.1,.i c.2.1,.i a,.i b] [.i d]/\(d<0↔Vu c a b=true)/\(d=0↔c.1=a/\c.2.1=b):=by
 by_cases e:c.1=a
 .refine⟨c.2.1 - b,?_,by rw[md];omega,by omega⟩;refine q38 rfl ?_;unfold X0;simp only[u7];simp(disch:=omega)only[↓mc]
 .refine⟨c.1 - a,?_,by rw[md];omega,by omega⟩;refine q38 rfl ?_;unfold X0;simp only[u7];simp(disch:=omega)only[↓mc]
def Kc{c:DO}{a b:Int}(h:0<=c.1/\c.1<=1000/\0<=a/\a<=1000/\0<=c.2.1/\c.2.1<=255/\0<=b/\b<=255):∃d:Int,Cc 172 [.i c.1,.i c.2.1,.i c.2.2,.i a,.i b] [.i d]/\(d<0↔Vu c a b=true)/\(d=0↔c.1=a/\c.2.1=b):=by
 obtain⟨d,g,e,f⟩:=VX h;refine⟨d,?_,e,f⟩;refine q172 rfl ?_;unfold Sl;simp only[u7]
 repeat (first|simp(disch:=omega)only[↓mc]|refine aj (Az c) ?_|refine aj g ?_)
abbrev o':Value:=.func (.func 172) ⟨[]⟩ ⟨[]⟩
def ZP:aJ o'=true:=rfl
def l0{a:Int}{K:Tw}(h0:0<=a)(d:K (a / 2)):P1.E5 .shr .u64 a .u64 1 (@hY _ ⟨K⟩):=by
 refine Q8 (qa 0) (K:=λn=>if n=a / 2 then dk else none) (λn f=>?_) ?_
 .by_cases e:n=a / 2
  .rw[e];exact d
  simp_all
 .have b:∀(K:Int->RT),(BA ac aa (GG 0)).E5 .shr .u64 a .u64 1 K=Hg .shr .u64 a .u64 1 K:=λ_=>rfl;rw[b];have c:PF 0 1=true:=rfl;unfold Hg;rw[c];simp only;rw[jz];have:a.fdiv (2 ^ min (1:Int).toNat IntKind.u64.bits)=a / 2:=by
   show a.fdiv 2=a / 2
   grind
  rw[this,n_ rfl]
def xE{a:Int}{K:Tw}(h1:0<=a)(c:a<=9223372036854775807)(b:K a):P1.conv .u64 a (@hY _ ⟨K⟩):=by
 show K (IntKind.wrap .u64 a);have:IntKind.wrap .u64 a=a:=by
  simp only[IntKind.wrap,IntKind.bits,IntKind.signed,Bool.false_and,D5,if_false];omega
 rw[this];exact b
def Jk(c:DO):Prop:=0<=c.1/\c.1<=1000/\0<=c.2.1/\c.2.1<=255/\0<=c.2.2/\c.2.2<=255
def At(l:TD)(a b:Int)(i:Nat):Prop:=i<=l.length/\(∀(k:Nat) c,l[k]?=some c->k<i->Vu c a b=true)/\∀(k:Nat) c,l[k]?=some c->i<=k->Vu c a b=false
def EI(l:TD)(a b:Int)(i:Nat):Bool:=match l[i]? with
 |some c=>decide (c.1=a)&&decide (c.2.1=b)
 |none=>false
def N6{l:TD}(h:EF l=true):∀(n i:Nat) a b,l[i]?=some a->l[i+n+1]?=some b->FG a b=true
 |0,i,a,b,d,e=>je.1 h i a b d e
 |n+1,i,a,b,d,e=>by
  obtain⟨c,f⟩:=aq (l:=l) (i:=i+n+1) (by grind);have g:=N6 h n i a c d f;have j:=je.1 h (i+n+1) c b f (by omega);simp only[FG,Gd,te,Es]at g j ⊢;omega
def Iw{l:TD}(h:EF l=true){i j:Nat}{a b:DO}(d:i<j)(c:l[i]?=some a)(e:l[j]?=some b):FG a b=true:=
 N6 h (j - i - 1) i a b c (by grind)
def fs{h:HL}{x:TR}{l:TD}(w:po h x 3 my l)(u:∀c∈l,Jk c)(T:l.length<=1000)(p:EF l=true){a b:Int}(U:0<=a/\a<=1000/\0<=b/\b<=255) :
  ∃i:Nat,At l a b i/\aI cc ac 171 [.v x,.i a,.i b,.v o'] (f_ aa h) [.i (ofNat i),.b (EI l a b i)] (f_ aa h):=by
 obtain⟨L,r,N,i,rfl,rfl,O⟩:=x171 (K:=λL r=>∃i:Nat,L=[.i (ofNat i),.b (EI l a b i)]/\r=h/\At l a b i) (H:=h) (pu w.g_ (km (km (pu ZP u_)))) (by
  unfold U4;simp only[u7];refine b_ ?_;refine bu w ?_;refine aG (m:=l.length) (λm J r=>∃i j:Nat,J=[.i (ofNat i),.i (ofNat j)]/\r=h/\i<=j/\j<=l.length/\m=j - i/\(∀(k:Nat) c,l[k]?=some c->k<i->Vu c a b=true)/\∀(k:Nat) c,l[k]?=some c->j<=k->Vu c a b=false) ⟨0,l.length,rfl,rfl,by omega,by omega,by omega,λk c _ u=>by omega,λk c g u=>by simp_all⟩ ?_;rintro m J r ⟨i,j,rfl,rfl,Q,t,rfl,o,n⟩ M f;refine Da ?_;refine b_ ?_;by_cases F:i<j
  .rw[aL F];refine b_ ?_;rw[EY (by grind) (by grind)];refine xE (by grind) (by grind) ?_;refine l0 (by grind) ?_;have s:(ofNat i+ofNat j) / 2=ofNat ((i+j) / 2):=by simp
   rw[s];rw[Qm (by grind) (by grind)];obtain⟨c,g⟩:=aq (l:=l) (i:=(i+j) / 2) (by omega);have G:=u c (Cb g);unfold Jk at G;refine aP w rfl g ?_;unfold my;refine b_ ?_;obtain⟨d,A,I,z⟩:=Kc (c:=c) (a:=a) (b:=b) (by omega);refine iT (sx (A _) rfl [.agg [.i .i64 c.1,.i .u8 c.2.1,.i .u8 c.2.2],.agg [.i .i64 a,.i .u8 b]] rfl rfl) ?_;refine b_ ?_;by_cases B:d<0
   .have R:=I.1 B;refine b_ ?_;rw[aT (by omega)];refine b_ ?_;refine f (j - ((i+j) / 2+1)) _ _ (by omega) ⟨(i+j) / 2+1,j,rfl,rfl,by omega,t,rfl,λk e C E=>?_,n⟩;rcases Gk k ((i+j) / 2)with q|q
    .have:=Iw p q C g;rw[md]at R ⊢;simp only[FG,Gd,te,Es]at this;omega
    grind
   .have P:Vu c a b=false:=by
     simp_all
    refine b_ ?_;refine f ((i+j) / 2 - i) _ _ (by omega) ⟨i,(i+j) / 2,rfl,rfl,by omega,by omega,rfl,o,λk e C E=>?_⟩;rcases Gk ((i+j) / 2) k with q|q
    .have:=Iw p q g C;rw[←Gb,md]at P ⊢;simp only[FG,Gd,te,Es]at this;omega
    grind
  .obtain rfl:i=j:=by omega
   rw[aK (x5 _)];refine b_ ?_;by_cases D:i<l.length
   .rw[aL D];refine b_ ?_;obtain⟨c,g⟩:=aq D;have G:=u c (Cb g);unfold Jk at G;refine aP w rfl g ?_;unfold my;refine b_ ?_;obtain⟨d,A,I,z⟩:=Kc (c:=c) (a:=a) (b:=b) (by omega);refine iT (sx (A _) rfl [.agg [.i .i64 c.1,.i .u8 c.2.1,.i .u8 c.2.2],.agg [.i .i64 a,.i .u8 b]] rfl rfl) ?_;refine b_ ?_;by_cases y:d=0
    .have:=z.1 y;rw[s_ y];refine b_ ?_;exact⟨i,by simp[EI,g,this.1,this.2],by trivial,t,o,n⟩
    .have S:¬(c.1=a/\c.2.1=b):=λq=>y (z.2 q);rw[ua y];refine b_ ?_;refine⟨i,?_,by trivial,t,o,n⟩;have:EI l a b i=false:=by
      simp only[EI,g]
      simp_all
     rw[this]
   .rw[aK (by omega)];refine b_ ?_;refine⟨i,?_,by trivial,t,o,n⟩;have:EI l a b i=false:=by
     simp only[EI,Gm (Nat.not_lt.1 D)]
    rw[this])
 exact⟨i,O,N⟩
def ZL{h:HL}{x:TR}{l:TD}(f:po h x 3 my l)(n:∀c∈l,Jk c)(o:l.length<=1000)(d:EF l=true){a b:Int}(p:0<=a/\a<=1000/\0<=b/\b<=255) :
  ∃i:Nat,At l a b i/\aI cc ac 164 [.v x,.i a,.i b] (f_ aa h) [.i (ofNat i),.b (EI l a b i)] (f_ aa h):=by
 obtain⟨i,m,k⟩:=fs f n o d p;obtain⟨g,e,j,rfl,rfl⟩:=x164 (K:=λg e=>g=[.i (ofNat i),.b (EI l a b i)]/\e=h) (H:=h) (pu f.g_ (km (km u_))) (by
  unfold U3;simp only[u7]
  repeat (first|simp(disch:=omega)only[↓mc]|refine am k ?_)
  simp_all)
 exact⟨i,m,j⟩
def J9(a b:Int)(c:DO):Bool:=decide (c.1=a)&&decide (c.2.1=b)
def gO(l:TD)(a b:Int):Int:=match l.find? (J9 a b)with
 |some c=>c.2.2
 |none=>0
def Vn{l:TD}{a b:Int}{i:Nat}(h:At l a b i)(e:EF l=true):(EI l a b i=true->∃c,l[i]?=some c/\gO l a b=c.2.2)/\(EI l a b i=false->gO l a b=0):=by
 obtain⟨u,p,r⟩:=h;have m:∀(k:Nat) c,l[k]?=some c->J9 a b c=true->k=i:=by
  intro k c f s;simp only[J9,te,Es]at s;rcases qdf k i with q|q|q
  .have:=p k c f q;rw[md]at this;omega
  .exact q
  .obtain⟨d,g⟩:=aq (l:=l) (i:=i) (by grind);have n:=Iw e q g f;have o:=r i d g (x5 _);rw[←Gb,md]at o;simp only[FG,Gd,te,Es]at n;omega
 have t:EI l a b i=true↔∃c,l[i]?=some c/\J9 a b c=true:=by
  unfold EI J9
  grind
 unfold gO;cases j:l.find? (J9 a b)with
 |none=>
  grind
 |some c=>
  have w:=cm j;obtain⟨k,v⟩:=DZ (r3 j)
  grind
structure NX(w v:Nat)(l:TD):Prop where
 sheet:1<=w/\w<=5/\1<=v/\v<=5
 Jj:∀c∈l,Jk c
 len:l.length<=1000
 ok:FZ (.ofNat w) (.ofNat v) l=0
def NX.sm{w v:Nat}{l:TD}(h:NX w v l):H_ (.ofNat w) (.ofNat v):=by
 have:=h.sheet;unfold H_
 grind
def NX.asc{w v:Nat}{l:TD}(h:NX w v l):EF l=true:=by
 have:=h.ok;unfold FZ at this
 grind
def NX.check{w v:Nat}{l:TD}(h:NX w v l){H:HL}{x:TR}(b:po H x 3 my l):aI cc ac 16 [.i (.ofNat w),.i (.ofNat v),.v x] (f_ aa H) [.i 0] (f_ aa H):=by
 have:=Uk h.sm b (λc a=>by
  have:=h.Jj c a;unfold Jk at this;unfold nn;omega) (by have:=h.len;omega)
 rw[h.ok]at this;exact this
def Z3{w v:Nat}{l:TD}(g:NX w v l){H:HL}{x:TR}(h:po H x 3 my l){c e n:Nat}(z:c<4*w*v)(A:e<3)(D:Cn w v c e=some n)(E:n<=1000) :
  aI cc ac 106 [.i (.ofNat w),.i (.ofNat v),.v x,.i (.ofNat c),.i (.ofNat e)] (f_ aa H) [.i (gO l (.ofNat (min c n)) (.ofNat e)),.i 0] (f_ aa H):=by
 have f:=g.sheet;have d:=I6 (rU w v f.1 f.2.1 f.2.2.1 f.2.2.2) z A;unfold HU at d;rw[D]at d;simp only at d;obtain⟨i,B,q⟩:=ZL h g.Jj g.len g.asc (a:=.ofNat (min c n)) (b:=.ofNat e) (by grind);obtain⟨F,L⟩:=Vn B g.asc;obtain⟨m,j,r,t,u⟩:=x141 (K:=λm j=>m=[.i (.ofNat (min c n)),.i (.ofNat e),.i (.ofNat i),.b (EI l (.ofNat (min c n)) (.ofNat e) i),.i 0]/\j=H) (H:=H) (km (km (pu h.g_ (km (km u_))))) (by
  unfold UY;simp only[u7]
  repeat (first|simp(disch:=omega)only[↓mc]|refine am (g.check h) ?_|refine aj d ?_|refine am q ?_)
  simp_all)
 rw[t,u]at r;obtain⟨G,I,J,e3,e4⟩:=x106 (K:=λm j=>m=[.i (gO l (.ofNat (min c n)) (.ofNat e)),.i 0]/\j=H) (H:=H) (km (km (pu h.g_ (km (km u_))))) (by
  unfold US;simp only[u7]
  repeat (first|simp(disch:=omega)only[↓mc]|refine am r ?_)
  cases y:EI l (.ofNat (min c n)) (.ofNat e) i with
  |false=>
   simp(disch:=omega)only[↓mc,Ex]
   simp_all
  |true=>
   obtain⟨s,p,C⟩:=F y
   repeat (first|simp(disch:=omega)only[↓mc,DJ]|refine dF (o:=2) (k:=1) (cs:=[.int .u8 s.2.2]) h rfl p rfl (by omega) ?_)
   simp_all)
 simp_all
def sd(x y:Cl):K6:=if CP x y then(y,x)else(x,y)
abbrev Ev:=List K6×List (List K2)
def Ce(k:K6)(s:Ev):Ev:=if k∈s.1 then s else(s.1++[k],s.2++[[],[],[]])
def Ff(j:Nat)(p:K2)(s:Ev):Ev:=(s.1,s.2.set j (s.2.getD j []++[p]))
def ff(w v:Nat)(l:TD)(P:TH)(id e:Nat)(s:Ev):Ev:=
 let a:=aA (P id) (n4 w id)
 let b:=aA (P id) (DA (n4 w id) e)
 let s:=Ce (sd a b) s
 let i:=s.1.idxOf (sd a b)
 match Cn w v id e with
 |none=>s
 |some n=>if n<id then s else
  if gO l (ofNat (min id n)) (ofNat e)=0 then Ff (3*i) (if CP a b then(n,id)else(id,n)) s
  else Ff (3*i+(if CP a b then 2 else 1)) (id,n) s
def Ew(pn:Ti)(w v:Nat)(l:TD)(P:TH)(V:Tx)(id e:Nat):Prop:=
 ∀n,Cn w v id e=some n->¬n<id->gO l (ofNat (min id n)) (ofNat e)≠0->gO l (ofNat (min id n)) (ofNat e)≠3->ub V (Fb pn (gO l (ofNat (min id n)) (ofNat e)) id n (decide ((P id).1<4)))=true
def CY(w v:Nat)(l:TD)(P:TH)(n:Nat):Ev:=(range n).foldl (λs id=>(range 3).foldl (λs e=>ff w v l P id e s) s) ([],[])
def Sm.look{o:Nat}{h:HL}{f:Nat}{kv:TR}{ks:List K6}{is:TC}{vs:Tn}{ls:List (List K2)}(d:Sm o h f kv ks is vs ls)(k:K6){v:TR}(n:v = .agg ⟨JW k⟩){K:Tf}(h0:k∉ks->K [.pointer none])(h1:∀(i:Nat) id,ks[i]?=some k->is[i]?=some id->K [i' id]) :
  P1.ka (.fn (E7 cc 198 false (.pointer none) (.map (some f)) v false)) h (@hY _ ⟨K⟩):=by
 have q:∀(i:Nat) p,(ks.zip (is.map i'))[i]?=some p->∃id,ks[i]?=some p.1/\is[i]?=some id/\p.2=i' id:=λi p c=>by
  grind
 refine QW JW OK (by kernel_rfl) (by kernel_rfl) Ka d.mp k n (λg e=>by cases e) (λp c g e=>?_) (λm=>h0 λj=>m ?_) λi u a=>?_
 .obtain⟨i,a⟩:=DZ c
  grind
 .obtain⟨i,a⟩:=DZ j;obtain⟨id,b⟩:=aq (l:=is) (i:=i) (by rw[d.il];exact ai a);refine CH.2 ⟨(k,i' id),Cb (i:=i) (qda.2 ⟨a,?_⟩),rfl⟩
  simp_all
 grind
def Sm.put_key{l:Nat}{h g:HL}{a:Nat}{kv:TR}{ks:List K6}{is:TC}{vs:Tn}{ls:List (List K2)}(i:Sm l h a kv ks is vs ls){k:K6}(d:k∉ks){v u:TR}(j:v = .agg ⟨JW k⟩)(c:∀o,h[a]?=some o->g[a]?=some o){K:Tb}(b:∀o,C6 JW (g.set a o) a (ks.zip (is.map i')++[(k,u)])->K [] (g.set a o)) :
  P1.heap (.fn (FH cc 198 (.map (some a)) v u)) g (@hY _ ⟨K⟩):=by
 refine QX JW OK (by kernel_rfl) (by kernel_rfl) Ka (i.mp.i_ _ c) k (λe=>d ?_) j b;obtain⟨p,f,rfl⟩:=CH.1 e;exact(List.of_mem_zip f).1
end Go.Am
end

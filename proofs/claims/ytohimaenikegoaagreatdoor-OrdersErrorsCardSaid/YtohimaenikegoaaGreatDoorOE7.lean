import Derived.Test.YtohimaenikegoaaGreatDoorOE6
set_option linter.all false
noncomputable section
set_option maxRecDepth 100000
set_option maxHeartbeats 16000000
open Int(ofNat)
open List(range replicate)
namespace Go.Am
open Sx Go.Proofs
def zJ{i7:Type}{n0 e:Nat}{enc:i7->Tn}{l:List i7}{h:HL}{v:TR}(a:h_ n0 h v e enc l):Fy v=some ():=by
 rcases a with⟨rfl,_⟩|⟨id,b,rfl,_⟩
 .rfl
 .simp[Fy,bB,n_,aS,bi,aO,aH,le]
def K8{a c:Prop}{ks:List (Nat×Prop)}(b:a):P1.DZ none (@i' _ ⟨a⟩) c ks:=b
def Ws{c a:Prop}{ks:List (Nat×Prop)}(b:a):P1.DZ (some .ret) c (@i' _ ⟨a⟩) ks:=b
def XB{g:HL}{b:Nat}:aA cc ac 30 [.v (ka b)] (g_ aa g) [.v (.func (.func 72) ⟨[]⟩ ⟨[ka g.length]⟩)] (g_ aa (g++[.o (.cells [ka b] 1 true)])):=by
 exact xK x30 (q7 (ar _) t0) (by
  unfold f30;simp only[u5];refine e_ ?_;refine ab (by simp[aF,n_,aS,bB,bi,aO,aH]) ?_
  try simp_all)
section
variable {h:HL} {w v:Nat} {xv:Value} {t:Nat} {x y:Int} {AT:List K3} {CR:TD} {IDS:List (TC)} {pn:Ti} {S:(Nat->Bool)->Prop} {F:List A5}
def hm(w v:Nat)(t:Nat)(x y:Int)(AT:List K3)(CR:TD)(h':HL)(o:Option (List (TC)))(a:TG):Prop:=
 match o with
 |none=>a=[.i 0,.i 0,.v (.slice none 0 0),.i 0,.i 0,.i 0,.v (.slice none 0 0),.i 15]
 |some q=>∃xc b,a=[.i (ofNat w),.i (ofNat v),.v xc,.i (ofNat t),.i x,.i y,.v b,.i 0]/\G3 CR AT (λ_=>True) h' xc b q
def W4(ap:aF xv=true)(a3:∀j,hY xv=some j->j<h.length)(C:b7 (h++[.o (.cells z7 7 true)]++[.o (.cells [.int .i64 0] 1 true)]) w v xv t x y AT CR IDS pn S F) :
  ∃R h',aA cc ac 14 [.i (ofNat w),.i (ofNat v),.v xv,.i (ofNat t),.i x,.i y] (g_ aa h) R (g_ aa h')/\hm w v t x y AT CR h' ((Dj IDS).filter (Db pn S F)).head? R/\∀(j:Nat) o,h[j]?=some o->h'[j]?=some o:=by
 have a4:=x14 (ls:=[.i (ofNat w),.i (ofNat v),.v xv,.i (ofNat t),.i x,.i y]) (K:=λR h'=>hm w v t x y AT CR h' ((Dj IDS).filter (Db pn S F)).head? R/\∀(j:Nat) o,h[j]?=some o->h'[j]?=some o) (H:=h) (k_ (k_ (q7 ap (k_ (k_ (k_ t0)))))) (by
  unfold f14;simp only[u5];refine e_ ?_;obtain⟨d,V⟩ : ∃d,d=h++[HO.o (.cells z7 7 true)]:=⟨_,rfl⟩;rw[←V]at C;have W:h++[HO.o (.cells [.int .i64 0,.int .i64 0,.slice none 0 0,.int .u8 0,.int .i64 0,.int .i64 0,.slice none 0 0] 7 true)]=d:=V.symm
  try rw[W]
  have l1:d.length=h.length+1:=by rw[V];simp
  obtain⟨E,O⟩ : ∃E,E=d++[HO.o (.cells [.int .i64 0] 1 true)]:=⟨_,rfl⟩;rw[←O]at C;rw[←O];have l2:E.length=h.length+2:=by rw[O];simp;omega
  have m1:E[h.length]?=some (.o (.cells z7 7 true)):=by
   simp_all
  have m2:E[d.length]?=some (.o (.cells [.int .i64 0] 1 true)):=by rw[O];exact aD
  have k2:∀(i:Nat) o,h[i]?=some o->E[i]?=some o:=λi o P=>by
   grind
  obtain⟨b,c,n,r,cn,⟨hw,hv,hr⟩,hE,A,a0,aE,hn⟩:=C (λj=>j=h.length∨j=d.length) (λj k=>by
   grind)
  refine ak cn ?_;refine e_ ?_;refine ak XB ?_;refine e_ ?_;obtain⟨f,X⟩ : ∃f,f=r++[HO.o (.cells [ka b] 1 true)]:=⟨_,rfl⟩;rw[←X];have lA:f.length=r.length+1:=by rw[X];simp
  have Q:∀(i:Nat) o,r[i]?=some o->f[i]?=some o:=λi o P=>jn;obtain⟨gB,Z⟩ : ∃gB,gB=f++[HO.lp 224 .ready none [ka h.length,ka d.length]]:=⟨_,rfl⟩;have lB:gB.length=r.length+2:=by rw[Z];simp;omega
  have kB:∀(i:Nat) o,f[i]?=some o->gB[i]?=some o:=λi o P=>jn;have pB:gB[f.length]?=some (.lp 224 .ready none [ka h.length,ka d.length]):=by rw[Z];exact aD
  have qB:gB[r.length]?=some (.o (.cells [ka b] 1 true)):=kB _ _ (by rw[X];exact aD);have T:=hn.s;have Y:=yl_S (c:=c) (AT:=AT) (CR:=CR) (k1:=r.length) (mu:=λj=>(j=h.length∨j=d.length)∨hY c.va=some j∨hY c.us=some j∨hY c.lay=some j) (l:=f.length) (a1:=h.length) (a2:=d.length) T a_ (Dj IDS);have hJ:JSv c AT CR r.length (λj=>(j=h.length∨j=d.length)∨hY c.va=some j∨hY c.us=some j∨hY c.lay=some j) f.length h.length d.length none (λj=>j=f.length∨j=h.length∨j=d.length) gB:=by
   refine⟨⟨.inl rfl,.inr (.inl rfl),.inr (.inr rfl)⟩,λj k=>?_,⟨a_,a_,a_⟩,kB _ _ (Q _ _ (A _ _ m2)),pB,kB _ _ (Q _ _ (A _ _ m1))⟩;rcases k with rfl|rfl|rfl
   .exact⟨a_,.inr a_,λe=>by have:=(T.s1 _ e).1;omega,λe=>by have:=(T.s2 _ e).1;omega,λe=>by have:=T.s3 _ e;omega⟩
   .grind
   grind
  obtain⟨I,B',U,J,ag⟩:=P_ hn Y (g:=gB) ⟨a_,λj o _ _ k=>kB _ _ (Q _ _ k)⟩ (λj _ o k=>kB _ _ (Q _ _ k)) qB (A9 _) (λe=>a_) hJ rfl;rw[w1]at J;rw[Z]at U;obtain⟨ax,ay,a,z,p⟩:=J;have av:∀(j:Nat) o,h[j]?=some o->I[j]?=some o:=λj o k=>by
   have:=am k;refine ag.2 j o a_ (λe=>?_) (A _ _ (k2 _ _ k))
   grind
  cases M:((Dj IDS).filter (Db pn S F)).head? with
  |none=>
   rw[M]at p;obtain⟨B,m⟩:=p;refine zM (sg:=⟨[lv,lv],[]⟩) (xs:=[.leaf (.v (.func (.yield f.length) #[] #[])),.leaf (.v (ka r.length))]) U rfl rfl rfl rfl B c_ ?_;obtain⟨u,eG⟩ : ∃u,u=I.set f.length (.lp 224 .exhausted none [ka h.length,ka d.length]):=⟨_,rfl⟩;have D:∀(i:Nat) o,i≠f.length->I[i]?=some o->u[i]?=some o:=λi o P G=>jn
   try rw[←eG]
   refine K8 ?_;refine km ?_;refine lH (D _ _ (CY a.1) m) rfl ?_;refine km ?_;have N:(u.set h.length (.o (.cells z7 7 true)))[d.length]?=some (.o (.cells [.int .i64 0] 1 true)):=cH (D _ _ (CY a.2.1) z) a.2.2;refine lH N rfl ?_;refine km ?_;have al:((u.set h.length (.o (.cells z7 7 true))).set d.length (.o (.cells [.int .i64 15] 1 true)))[h.length]?=some (.o (.cells z7 7 true)):=cH (du (D _ _ (CY a.1) m)) (CY a.2.2);refine bT ((ba al).ld rfl) ?_;simp only[z7];refine e_ ?_;refine ab rfl ?_;refine km ?_;refine ab rfl ?_;refine km ?_;refine ae (x:=()) rfl ?_;refine km ?_;refine ae (x:=()) rfl ?_;refine km ?_;refine bT ((ba (du N)).ld rfl) ?_;refine e_ ?_;refine⟨rfl,λj o k=>?_⟩;have:=am k
   grind
  |some q=>
   rw[M]at p;obtain⟨B,xc,sv,m,G⟩:=p;refine zM (sg:=⟨[lv,lv],[]⟩) (xs:=[.leaf (.v (.func (.yield f.length) #[] #[])),.leaf (.v (ka r.length))]) U rfl rfl rfl rfl B c_ ?_;obtain⟨u,eG⟩ : ∃u,u=I.set f.length (.lp 224 .exhausted (some .ret) [ka h.length,ka d.length]):=⟨_,rfl⟩;have D:∀(i:Nat) o,i≠f.length->I[i]?=some o->u[i]?=some o:=λi o P G=>jn
   try rw[←eG]
   refine Ws ?_;refine km ?_;have gx:aF xc=true:=h_.i_ (e:=3) (enc:=n4) (λ_=>rfl) G.xo;have⟨gs,ad⟩ : aF sv=true/\Fy sv=some ():=by
    obtain⟨L,h3,_⟩:=G.st;exact⟨h3.i_ gO,zJ h3⟩
   refine bT ((ba (D _ _ (CY a.1) m)).ld rfl) ?_;simp only[RM];refine e_ ?_;refine ab gx ?_;refine km ?_;refine ab gs ?_;refine km ?_;refine ae (zJ G.xo) ?_;refine km ?_;refine ae ad ?_;refine km ?_;refine bT ((ba (D _ _ (CY a.2.1) z)).ld rfl) ?_;refine e_ ?_;refine⟨⟨xc,sv,?_,G.j9 (λ_ _=>trivial) λj cs e k _ an=>D j _ k.2.1 an⟩,λj o k=>?_⟩
   .rw[hw,hv,hr]
   grind)
 omega
end
def UI{i7:Type}{n0:Nat}{enc:i7->Tn}{h:HL}{v:TR}{l:List i7}(a:h_ n0 h v 7 enc l):∃v',aA cc ac 31 [.v v] (g_ aa h) [.v v'] (g_ aa h)/\h_ n0 h v' 7 enc l/\OA v'=some (ofNat l.length):=by
 rcases a with⟨rfl,rfl⟩|⟨id,d,rfl,b,c,e⟩
 .refine⟨.slice none 0 0,?_,.inl ⟨rfl,rfl⟩,rfl⟩;exact xK x31 (q7 rfl t0) (by
   unfold f31;simp only[u5]
   repeat (first|simp(disch:=omega)only[↓nc]|refine ae (x:=(0:Int)) rfl ?_|refine ae (x:=Value.slice none 0 0) rfl ?_|refine ab rfl ?_)
   simp_all)
 .refine⟨.slice (some ⟨id,0,le 7⟩) l.length (l.length+1),?_,.inr ⟨id,_,rfl,b,c,.inr rfl⟩,rfl⟩;exact xK x31 (q7 cV t0) (by
   unfold f31;simp only[u5];refine e_ ?_;refine ae (x:=ofNat l.length) rfl ?_;refine ae (x:=ofNat l.length) rfl ?_;refine ae JC ?_;refine ab cV ?_
   simp_all)
section
variable {h:HL} {w v:Nat} {xv:Value} {t:Nat} {x y:Int} {AT:List K3} {CR:TD} {IDS:List (TC)} {pn:Ti} {S:(Nat->Bool)->Prop} {F:List A5}
def HU(w v t:Nat)(x y:Int)(s:T7):Tn:=[.int .i64 (ofNat w),.int .i64 (ofNat v),s.1,.int .u8 (ofNat t),.int .i64 x,.int .i64 y,s.2.1]
def e1(w v:Nat)(t:Nat)(x y:Int)(AT:List K3)(CR:TD)(h':HL)(o:List (List (TC)))(b:TG):Prop:=
 ∃(a:Value) (L:List T7),b=[.v a,.i 0]/\h_ 0 h' a 7 (HU w v t x y) L/\OA a=some (ofNat L.length)/\L.map (λt=>t.2.2)=o/\∀t∈L,G3 CR AT (λ_=>True) h' t.1 t.2.1 t.2.2
def XA(a:Int)(an:aF xv=true)(a9:∀j,hY xv=some j->j<h.length)(G:b7 (h++[.o (.cells [.int .i64 a] 1 true)]) w v xv t x y AT CR IDS pn S F) :
  ∃z h',aA cc ac 11 [.i (ofNat w),.i (ofNat v),.v xv,.i (ofNat t),.i x,.i y,.i a] (g_ aa h) z (g_ aa h')/\(a<1∨1000<a->z=[.v (.slice none 0 0),.i 1])/\(1<=a/\a<=1000->e1 w v t x y AT CR h' (((Dj IDS).filter (Db pn S F)).take a.toNat) z)/\∀(j:Nat) o,h[j]?=some o->h'[j]?=some o:=by
 have bb:=x11 (ls:=[.i (ofNat w),.i (ofNat v),.v xv,.i (ofNat t),.i x,.i y,.i a]) (K:=λz h'=>(a<1∨1000<a->z=[.v (.slice none 0 0),.i 1])/\(1<=a/\a<=1000->e1 w v t x y AT CR h' (((Dj IDS).filter (Db pn S F)).take a.toNat) z)/\∀(j:Nat) o,h[j]?=some o->h'[j]?=some o) (H:=h) (k_ (k_ (q7 an (k_ (k_ (k_ (k_ t0))))))) (by
  unfold f11;simp only[u5];simp(disch:=omega)only[↓Ce];obtain⟨A,I⟩ : ∃A,A=h++[HO.o (.cells [.int .i64 a] 1 true)]:=⟨_,rfl⟩;rw[←I]at G;rw[←I];have l2:A.length=h.length+1:=by rw[I];simp
  have m1:A[h.length]?=some (.o (.cells [.int .i64 a] 1 true)):=by rw[I];exact aD
  have k2:∀(i:Nat) o,h[i]?=some o->A[i]?=some o:=λi o V=>jn;obtain⟨b,c,n,f,cn,⟨hw,hv,hr⟩,hE,C,a7,a6,hn⟩:=G (λj=>j=h.length) (λj d=>by
   grind)
  refine ak cn ?_;simp(disch:=omega)only[↓Ce];have u:=C _ _ m1;refine cU (ba u) rfl ?_;simp(disch:=omega)only[↓Ce];by_cases X:a<1
  .rw[ub X];refine e_ ?_
   grind
  rw[vc a_];simp(disch:=omega)only[↓Ce];refine cU (ba u) rfl ?_;simp(disch:=omega)only[↓Ce];by_cases Z:1000<a
  .rw[B3 Z];refine e_ ?_
   grind
  rw[y_ a_];simp(disch:=omega)only[↓Ce];obtain⟨m,rfl⟩ : ∃m:Nat,a=ofNat m:=⟨a.toNat,jn⟩;have a8:1<=m:=jn;have ag:m<=1000:=jn;obtain⟨p,e3⟩ : ∃p,p=f++[HO.o (.cells [.slice none 0 0] 1 true)]:=⟨_,rfl⟩;rw[←e3];have l3:p.length=f.length+1:=by rw[e3];simp
  have k3:∀(i:Nat) o,f[i]?=some o->p[i]?=some o:=λi o V=>jn;have m3:p[f.length]?=some (.o (.cells [.slice none 0 0] 1 true)):=by rw[e3];exact aD
  refine ak XB ?_;simp(disch:=omega)only[↓Ce];obtain⟨k,O⟩ : ∃k,k=p++[HO.o (.cells [ka b] 1 true)]:=⟨_,rfl⟩;rw[←O];have lA:k.length=f.length+2:=by rw[O];simp;omega
  have J:∀(i:Nat) o,p[i]?=some o->k[i]?=some o:=λi o V=>jn;obtain⟨gB,P⟩ : ∃gB,gB=k++[HO.lp 176 .ready none [ka h.length,ka f.length]]:=⟨_,rfl⟩;have lB:gB.length=f.length+3:=by rw[P];simp;omega
  have kB:∀(i:Nat) o,k[i]?=some o->gB[i]?=some o:=λi o V=>jn;have pB:gB[k.length]?=some (.lp 176 .ready none [ka h.length,ka f.length]):=by rw[P];exact aD
  have qB:gB[p.length]?=some (.o (.cells [ka b] 1 true)):=kB _ _ (by rw[O];exact aD);have M:=hn.s;have Y:=yl_A (c:=c) (AT:=AT) (CR:=CR) (k1:=f.length) (mu:=λj=>j=h.length∨hY c.va=some j∨hY c.us=some j∨hY c.lay=some j) (l:=k.length) (a1:=h.length) (a2:=f.length) M ag a_ (Dj IDS);have ax:∀j,f.length<=j->hY c.va≠some j/\hY c.us≠some j/\hY c.lay≠some j:=λj d=>⟨λe=>by have:=(M.s1 _ e).1;omega,λe=>by have:=(M.s2 _ e).1;omega,λe=>by have:=M.s3 _ e;omega⟩;have hJ:JA c AT CR f.length (λj=>j=h.length∨hY c.va=some j∨hY c.us=some j∨hY c.lay=some j) m k.length h.length f.length [] (λj=>j=k.length∨j=h.length∨j=f.length) gB:=by
   refine⟨⟨.inl rfl,.inr (.inl rfl),.inr (.inr rfl)⟩,λj d=>?_,⟨a_,a_,a_⟩,kB _ _ (J _ _ (k3 _ _ u)),?_,.slice none 0 0,[],kB _ _ (J _ _ m3),.inl ⟨rfl,rfl⟩,λj d=>(by cases d),rfl,λt ht=>by cases ht⟩
   .grind
   grind
  obtain⟨hF,B',N,B,Q⟩:=P_ hn Y (g:=gB) ⟨a_,λj o _ _ d=>kB _ _ (J _ _ (k3 _ _ d))⟩ (λj _ o d=>kB _ _ (J _ _ (k3 _ _ d))) qB a_ (λe=>a_) hJ ua;rw[Zb _ _ ua,DA,hu,Nat.sub_zero]at B;rw[P]at N;obtain⟨a3,a5,E,ad,q,xo,L,D,ho,aE,T,hL⟩:=B;have ay:∀(j:Nat) o,h[j]?=some o->hF[j]?=some o:=λj o d=>by
   have:=am d;refine Q.2 j o a_ (λe=>?_) (C _ _ (k2 _ _ d))
   grind
  refine cP (λls h'=>ls=[]/\h'[f.length]?=some (.o (.cells [xo] 1 true))/\h_ 0 h' xo 7 (IY c) L/\(∀t∈L,G3 CR AT (λ_=>True) h' t.1 t.2.1 t.2.2)/\∀(j:Nat) o,h[j]?=some o->h'[j]?=some o) ?_ ?_
  case refine_1=>
   rintro ls h' ⟨rfl,w1,w2,w3,w4⟩;refine e_ ?_;refine cU (ba w1) rfl ?_;refine e_ ?_;refine ab (w2.i_ (nY c)) ?_;refine km ?_;obtain⟨av,cx,o2,o3⟩:=UI w2;refine ak cx ?_;refine e_ ?_;refine⟨λhc=>a_,λ_=>⟨av,L,rfl,?_,o3,T,w3⟩,w4⟩;have e7:IY c=HU w v t x y:=by
    funext s
    unfold IY RM HU;rw[hw,hv,hr]
   simp_all
  intro jj W;have a0:∀R:HL,(∀(i:Nat) o,i≠k.length->hF[i]?=some o->R[i]?=some o)->jj [] R:=λR kG=>by
   have ap:hY xo≠some k.length:=λe=>by
    obtain⟨cs,a4⟩:=ho.wid e
    grind
   exact W _ _ ⟨rfl,kG _ _ (CY E.2.1) D,ho.j9 λj o d U=>kG j o (λe=>ap (by rw[U,e])) d,λt ht=>(hL t ht).j9 (λ_ _=>trivial) λj cs e d _ al=>kG j _ d.2.1 al,λj o d=>by
    grind⟩
  by_cases r:(((Dj IDS).filter (Db pn S F)).take m).length<m
  .rw[rv r]at q;refine zM (sg:=⟨[lv,lv],[]⟩) (xs:=[.leaf (.v (.func (.yield k.length) #[] #[])),.leaf (.v (ka p.length))]) N rfl rfl rfl rfl q c_ ?_;refine K8 ?_
   try grind
  .rw[te r]at q;refine zM (sg:=⟨[lv,lv],[]⟩) (xs:=[.leaf (.v (.func (.yield k.length) #[] #[])),.leaf (.v (ka p.length))]) N rfl rfl rfl rfl q c_ ?_;refine⟨_,Fc.2 rfl,?_⟩
   try grind)
 omega
def UO(a:Int)(b:aF xv=true)(k:∀j,hY xv=some j->j<h.length)(f:b7 (h++[.o (.cells [.int .i64 a] 1 true)]) w v xv t x y AT CR IDS pn S F) :
  ∃h',aA cc ac 13 [.i (ofNat w),.i (ofNat v),.v xv,.i (ofNat t),.i x,.i y,.i a] (g_ aa h) [.i (if 1<=a/\a<=1000 then ofNat (((Dj IDS).filter (Db pn S F)).take a.toNat).length else 0),.i (if 1<=a/\a<=1000 then 0 else 1)] (g_ aa h')/\∀(j:Nat) o,h[j]?=some o->h'[j]?=some o:=by
 obtain⟨d,h',m,n,p,q⟩:=XA a b k f;refine⟨h',?_,q⟩;by_cases c:1<=a/\a<=1000
 .rw[rv c,rv c];obtain⟨u,L,rfl,r,s,o3,_⟩:=p c;rw[←o3,FV];have l:=x13 (ls:=[.i (ofNat w),.i (ofNat v),.v xv,.i (ofNat t),.i x,.i y,.i a]) (K:=λd g=>d=[.i (ofNat L.length),.i 0]/\g=h') (H:=h) (k_ (k_ (q7 b (k_ (k_ (k_ (k_ t0))))))) (by
   unfold f13;simp only[u5];refine e_ ?_;refine ak m ?_;refine e_ ?_;refine bz (h_.ls (e:=7) (enc:=HU w v t x y) (λ_=>rfl) r) ?_
   try simp_all)
  simp_all
 .rw[te c,te c];have:=n a_;subst this;have l:=x13 (ls:=[.i (ofNat w),.i (ofNat v),.v xv,.i (ofNat t),.i x,.i y,.i a]) (K:=λd g=>d=[.i 0,.i 1]/\g=h') (H:=h) (k_ (k_ (q7 b (k_ (k_ (k_ (k_ t0))))))) (by
   unfold f13;simp only[u5];refine e_ ?_;refine ak m ?_;refine e_ ?_;refine ae (x:=(0:Int)) rfl ?_
   try simp_all)
  simp_all
end
def qn{i7:Type}{h:HL}{v:TR}{e:Nat}{enc:i7->Tn}{l:List i7}(q:q9 h v e enc l){n:Nat}(y:n<=l.length):∃v',Ex e v none (some (ofNat n)) none=some v'/\q9 h v' e enc (l.take n)/\aF v'=true/\hY v'=hY v:=by
 have C:=aR (l:=l) q.1;have m:=aR (l:=l.take n) λa i=>q.1 a (NO i);have c:(l.take n).length=n:=kb;obtain⟨w,B,⟨rfl,g⟩|⟨id,b,d,A,r,rfl,g,x⟩⟩:=q
 .have p:n=0:=a_;have j:l=[]:=NM.1 g;subst p j;exact⟨.slice none 0 0,rfl,q9.nil _ _ _,rfl,rfl⟩
 .have z:Ex e (.slice (some ⟨id,b,le e⟩) l.length d) none (some (ofNat n)) none=some (.slice (some ⟨id,b,le e⟩) n d):=by
   unfold Ex;have s:¬(le e≠some 1/\le e≠le e):=c_;simp only[te s];have u:(0:Int)<=(none:Tt).getD 0/\(none:Tt).getD 0<=(some (ofNat n)).getD ((l.length:Nat):Int)/\bS l.length d (some (ofNat n)) none:=by
    refine⟨c_,c_,?_⟩;unfold bS
    simp_all
   rw[rv u,ew,ew,ew];simp[bK]
  have f:q9 h (.slice (some ⟨id,b,le e⟩) n d) e enc (l.take n):=by
   refine⟨λa i=>w a (NO i),by rw[m],.inr ⟨id,b,d,A,r,by rw[c],g,?_⟩⟩;have t:=lU x (o:=0) (k:=n*e) (by
    rw[ER];exact Q9 e y)
   rw[r0,WK]at t;rw[c,t]
   congr 1
   have s:l.flatMap enc=(l.take n).flatMap enc++(l.drop n).flatMap enc:=by rw[←Y1,WM]
   simp_all
  exact⟨_,z,f,f.i_,rfl⟩
structure Pi(h:HL)(b:Nat)(c:XC)(n:Bool)(U:List Lit)(W:TE)(pn:Ti)(F:List A5):Prop where
 hb:h[b]?=some (.o (.cells (ah c n) 15 true))
 up:h_ 0 h c.up 2 Dh U
 va:h_ 0 h c.va 1 Cp W
 fo:h_ 0 h c.fo 8 IZ F
 pr:NI h c.pr pn
 fr:∃r,Hv U r
 ok:Ge U W
def S1(h:HL)(b:Nat)(c:XC)(N:Nat)(W:TE)(pn:Ti)(F:List A5)(C:(Nat->Bool)->Prop)(g:HL):Prop:=
 ∃n U,Pi g b c n U W pn F/\U.length=N/\(∀V,(n=false/\Rs U W V)↔C V)/\(∀(j:Nat) o,h[j]?=some o->j≠b->hY c.up≠some j->g[j]?=some o)/\g.length=h.length
def S1.congr{h g:HL}{b:Nat}{c:XC}{N:Nat}{W:TE}{pn:Ti}{F:List A5}{C a:(Nat->Bool)->Prop}(k:S1 h b c N W pn F C g)(e:∀V,C V↔a V):S1 h b c N W pn F a g:=by
 obtain⟨n,U,d,f,i,j⟩:=k;exact⟨n,U,d,f,λV=>(i V).trans (e V),j⟩
def JQ(pn:Ti)(V:Tx)(x y x' y':Nat):Prop:=A8 V (Dc pn x y)=A8 V (Dc pn x' y')
def rA{g:HL}{b e:Nat}{id:Nat}{pn:Ti}{cs:Tn}(d:NI g id pn)(i:g[b]?=some (.o (.cells cs e true))):id≠b:=λc=>by
 subst c;obtain⟨k,a,_⟩:=d;obtain⟨f,j,h,_⟩:=a
 simp_all
section
variable {h g:HL} {b:Nat} {c:XC} {N:Nat} {W:TE} {pn:Ti} {F:List A5} {C:(Nat->Bool)->Prop} (hs:S1 h b c N W pn F C g)
include hs
theorem S1.below(x y:Nat):aA cc ac 110 [.v (ka b),.i (ofNat x),.i (ofNat y)] (g_ aa g) [.i (ofNat (Dc pn x y).1),.b (Dc pn x y).2] (g_ aa g):=by
 obtain⟨n,U,a,_⟩:=hs;exact jR a.hb a.pr x y
theorem S1.equal{x y x' y':Nat}(h1:(Dc pn x y).1<N)(k:(Dc pn x' y').1<N):∃m,aA cc ac 109 [.v (ka b),.i (ofNat (Dc pn x y).1),.b (Dc pn x y).2,.i (ofNat (Dc pn x' y').1),.b (Dc pn x' y').2] (g_ aa g) [] (g_ aa m)/\S1 h b c N W pn F (λV=>C V/\JQ pn V x y x' y') m:=by
 obtain⟨n,U,a,P,B,E,G⟩:=hs;obtain⟨r,u⟩:=a.fr;obtain⟨Q,lb,m,M,O,w,J,K,s,L⟩:=U_ a.hb a.up u a.ok a.va (p:=Dc pn x y) (q:=Dc pn x' y') a_ a_;obtain⟨z,A,e3⟩:=Z7 u a.ok n M O;have I:∀j e d,hY c.up=some j->g[j]?=some (.o (.cells d e true))->e=2:=λj e d l f=>by
  obtain⟨t,k⟩:=a.up.wid l
  simp_all
 have D:∀j e d,j=b->g[j]?=some (.o (.cells d e true))->e=15:=λj e d l f=>by
  subst l;rw[a.hb]at f;exact(UE f).symm
 refine⟨m,w,_,_,⟨J,K,a.va.BK λj d _ f=>s j _ f (λe=>jn) (λe=>jn),a.fo.BK λj d _ f=>s j _ f (λe=>jn) (λe=>jn),a.pr.j9 λo H=>s _ o H (rA a.pr a.hb) (λe=>?_),z,A⟩,?_,λV=>?_,λj o l h1 k=>s j o (E j o l h1 k) h1 k,by rw[L,G]⟩
 .obtain⟨t,k⟩:=a.up.wid e;exact rA a.pr k rfl
 .unfold Ed
  grind
 .rw[e3 V];show _↔C V/\_;rw[←B V,and_assoc];rfl
end
def Mz(a:Option Addr):I2 a a=true:=by
 rcases a with _|⟨b,o,s⟩
 .rfl
 .unfold I2;simp only[hN];rcases s with _|s
  .rfl
  .exact hN s
def MD{v:TR}(h:∃a n c,v = .slice a n c):Pa v v=some ():=by
 obtain⟨a,n,c,rfl⟩:=h;show(match I2 a a,Nat.beq n n,Nat.beq c c with
  |true,true,true=>some ()
  |_,_,_=>none)=_
 rw[Mz,hN,hN]
def vF{i7:Type}{h:HL}{v:TR}{e:Nat}{enc:i7->Tn}{l:List i7}(d:q9 h v e enc l){j:Nat}(b:hY v=some j):∃cs a,h[j]?=some (.o (.cells cs e a)):=by
 rcases d.2.2 with⟨rfl,_⟩|⟨id,f,g,i,a,rfl,c,_⟩
 .cases b
 .cases b;exact⟨_,_,c⟩
def Gz(pn:Ti)(a b c:List K2)(V:Tx)(i:Nat):Prop:=∀p,a[i]?=some p->(∀(j:Nat) q,j<i->a[j]?=some q->JQ pn V p.1 q.1 p.2 q.2)/\(∀o∈b,JQ pn V p.1 o.1 p.1 o.2)/\(∀o∈c,JQ pn V p.2 o.1 p.2 o.2)
def four(pn:Ti)(o u:K2):A5:=(Dc pn o.1 u.1,Dc pn o.2 u.1,Dc pn o.1 u.2,Dc pn o.2 u.2)
def SP(pn:Ti)(L:List K2)(i:Nat):List A5:=match L[i]? with
 |some o=>(L.take i).map (four pn o)
 |none=>[]
def Fs(pn:Ti)(L:List K2)(n:Nat):List A5:=(range n).flatMap (SP pn L)
def ta{pn:Ti}{L:List K2}{n:Nat}:Fs pn L (n+1)=Fs pn L n++SP pn L n:=by
 unfold Fs;rw[Ll,Y1];simp
def wR{pn:Ti}{L:List K2}(a:L.length<=1000):∀n,n<=1000->(Fs pn L n).length<=n*1000
 |0,_=>by simp[Fs]
 |n+1,h=>by
  have b:=wR (pn:=pn) a n a_;rw[ta,Gv];have:(SP pn L n).length<=1000:=by
   unfold SP
   grind
  omega
def S2(h:HL)(b:Nat)(c:XC)(N:Nat)(W:TE)(pn:Ti)(F:List A5)(C:(Nat->Bool)->Prop)(g:HL):Prop:=
 ∃fo n U,Pi g b { c with fo:=fo } n U W pn F/\U.length=N/\(∀V,(n=false/\Rs U W V)↔C V)/\(hY fo=hY c.fo∨∃j,hY fo=some j/\h.length<=j)/\(∀(j:Nat) o,h[j]?=some o->j≠b->hY c.up≠some j->hY c.fo≠some j->g[j]?=some o)/\h.length<=g.length
def S1.two{h g:HL}{b:Nat}{c:XC}{N:Nat}{W:TE}{pn:Ti}{F:List A5}{C:(Nat->Bool)->Prop}(l:S1 h b c N W pn F C g):S2 h b c N W pn F C g:=by
 obtain⟨n,U,d,e,f,i,m⟩:=l;exact⟨c.fo,n,U,d,e,f,.inl rfl,λj o k a b _=>i j o k a b,a_⟩
def QQ{x y:TR}{s:Nat}(a:s<2):ko [(.v x:Lf),.v y] 0 [(ofNat s,1)] 1=some [.v (if s=0 then x else y)]:=by
 obtain rfl|rfl:s=0∨s=1:=a_
 .rfl
 .rfl
def QP{x y:Int}{s:Nat}(a:s<2):ko [(.i x:Lf),.i y] 0 [(ofNat s,1)] 1=some [.i (if s=0 then x else y)]:=by
 obtain rfl|rfl:s=0∨s=1:=a_
 .rfl
 .rfl
def VA{s:Nat}(a:s<2):E0 2 (ofNat s)=some ():=by
 obtain rfl|rfl:s=0∨s=1:=a_
 .rfl
 .rfl
def S2.four{h g:HL}{b:Nat}{c:XC}{N:Nat}{W:TE}{pn:Ti}{F:List A5}{C:(Nat->Bool)->Prop}{fo:TR}{n:Bool}{U:List Lit}(a:Pi g b { c with fo:=fo } n U W pn F)(y:U.length=N)(x:∀V,(n=false/\Rs U W V)↔C V)(I:hY fo=hY c.fo∨∃j,hY fo=some j/\h.length<=j)(B:∀(j:Nat) o,h[j]?=some o->j≠b->hY c.up≠some j->hY c.fo≠some j->g[j]?=some o)(J:h.length<=g.length)
  {f:A5} {v':TR} {m:HL} (z:h_ 0 m v' 8 IZ (F++[f])) (l:∀(j:Nat) o,g[j]?=some o->hY fo≠some j->m[j]?=some o) (D:g.length<=m.length) (A:hY v'=hY fo∨∃j,hY v'=some j/\g.length<=j) :
  S2 h b c N W pn (F++[f]) C (m.set b (.o (.cells (ah { c with fo:=v' } n) 15 true))):=by
 have q:∀j e d,hY fo=some j->g[j]?=some (.o (.cells d e true))->e=8:=λj e d s i=>by
  obtain⟨p,u⟩:=a.fo.wid s
  simp_all
 have r:m[b]?=some (.o (.cells (ah { c with fo:=fo } n) 15 true)):=l b _ a.hb λe=>by have:=q b _ _ e a.hb;omega
 have k:∀(j:Nat) d e,e≠15->e≠8->g[j]?=some (.o (.cells d e true))->(m.set b (.o (.cells (ah { c with fo:=v' } n) 15 true)))[j]?=some (.o (.cells d e true)):=λj d e G H i=>by
  grind
 refine⟨v',n,U,⟨du r,a.up.BK λj d _ i=>k j d 2 oo oo i,a.va.BK λj d _ i=>k j d 1 oo oo i,z.BK λj d _ i=>cH i λe=>?_,a.pr.j9 λo E=>cH (l _ o E λe=>?_) (CY (rA a.pr a.hb)),a.fr,a.ok⟩,y,x,?_,λj o s t v w=>cH (l j o (B j o s t v w) λe=>?_) (CY t),jn⟩
 .simp_all
 .obtain⟨p,u⟩:=a.fo.wid e;exact rA a.pr u rfl
 .grind
 grind
def WX{h:HL}{b:Nat}{c:XC}{N:Nat}{W:TE}{pn:Ti}{F:List A5}{C:(Nat->Bool)->Prop}(hs:S1 h b c N W pn F C h){sb:Nat}{xp x0 x1:TR}{r t z:List K2}(S:h[sb]?=some (.o (.cells [xp,x0,x1] 3 true)))(R:q9 h xp 2 D_ r)(bd:q9 h x0 2 D_ t)(bk:q9 h x1 2 D_ z)
  (bn:∀j,hY c.up=some j->hY xp≠some j/\hY x0≠some j/\hY x1≠some j) (an:r.length<=1000/\t.length<=1000/\z.length<=1000) (cq:F.length<=1000000000) (Y:2<=r.length+t.length+z.length->∀x y,(Dc pn x y).1<N) :
  ∃g,aA cc ac 71 [.v (ka b),.v (ka sb)] (g_ aa h) [] (g_ aa g)/\S2 h b c N W pn (F++Fs pn t t.length++Fs pn z z.length) (λV=>C V/\∀i,i<r.length->Gz pn r t z V i) g:=by
 have bP:∀ {j e X G},h[j]?=some (.o (.cells X e G))->e≠15->j≠b:=λ{j e X G} T he e2=>by
  obtain⟨n,U,w,_⟩:=hs;subst e2;rw[w.hb]at T
  simp_all
 have cd:∀ {j e X G},h[j]?=some (.o (.cells X e G))->e≠2->hY c.up≠some j:=λ{j e X G} T he e2=>by
  obtain⟨n,U,w,_⟩:=hs;obtain⟨a8,h2⟩:=w.up.wid e2
  simp_all
 have b6:∀ {j e X G},h[j]?=some (.o (.cells X e G))->e≠8->hY c.fo≠some j:=λ{j e X G} T he e2=>by
  obtain⟨n,U,w,_⟩:=hs;obtain⟨a8,h2⟩:=w.fo.wid e2
  simp_all
 have J:∀ {g:HL} {v:TR} {l:List K2},q9 h v 2 D_ l->(∀j,hY c.up=some j->hY v≠some j)->(∀(j:Nat) o,h[j]?=some o->j≠b->hY c.up≠some j->hY c.fo≠some j->g[j]?=some o)->q9 g v 2 D_ l:=λ{g v l} hl hv L=>hl.j9 λj o T hb=>by
  obtain⟨X,G,h2⟩:=vF hl hb
  grind
 have ax:∀ {g:HL},(∀(j:Nat) o,h[j]?=some o->j≠b->hY c.up≠some j->hY c.fo≠some j->g[j]?=some o)->g[sb]?=some (.o (.cells [xp,x0,x1] 3 true)):=λ{g} L=>L sb _ S (bP S oo) (cd S oo) (b6 S oo);have f1:∀ {C:(Nat->Bool)->Prop} {g:HL},S1 h b c N W pn F C g->∀(j:Nat) o,h[j]?=some o->j≠b->hY c.up≠some j->hY c.fo≠some j->g[j]?=some o:=λ{C g} q j o T b1 b2 _=>by
  obtain⟨_,_,_,_,_,L,_⟩:=q;exact L j o T b1 b2
 have ct:=x71 (ls:=[.v (ka b),.v (ka sb)]) (K:=λrs g=>rs=[]/\S2 h b c N W pn (F++Fs pn t t.length++Fs pn z z.length) (λV=>C V/\∀i,i<r.length->Gz pn r t z V i) g) (H:=h) (q7 (ar _) (q7 (ar _) t0)) (by
  unfold f71;simp only[u5];refine e_ ?_;refine bv (ds:=[xp]) S c_ rfl ?_;refine e_ ?_;refine ab R.i_ ?_;refine km ?_;refine bz R ?_;refine aJ (m:=r.length) (λm ls g=>∃i,ls=[.i (ofNat i)]/\m=r.length - i/\i<=r.length/\S1 h b c N W pn F (λV=>C V/\∀k,k<i->Gz pn r t z V k) g) ⟨0,rfl,rfl,C6 _,hs.congr λV=>⟨λq=>⟨q,λk L=>a_⟩,λq=>q.1⟩⟩ ?_;rintro m ls g ⟨i,rfl,rfl,hi,hg⟩ cp aE;refine Di ?_;refine e_ ?_;by_cases ay:i<r.length
  case pos=>
   rw[aN ay];refine e_ ?_;obtain⟨p,w⟩:=aq ay;refine aP (J R (λj e=>(bn j e).1) (f1 hg)) rfl w ?_;rw[show D_ p=[.int .i64 (ofNat p.1),.int .i64 (ofNat p.2)]from rfl];refine e_ ?_;refine bv (ds:=[xp]) (ax (f1 hg)) c_ rfl ?_;refine e_ ?_;have bs:=J R (λj e=>(bn j e).1) (f1 hg);refine ab bs.i_ ?_;refine km ?_;obtain⟨xt,et,lt,gt,bt⟩:=qn R hi;refine ae et (ab gt ?_);refine km ?_;have a0:(r.take i).length=i:=kb;refine bz lt ?_;rw[a0];refine aJ (m:=i) (λm ls g=>∃j,ls=[.i (ofNat j)]/\m=i - j/\j<=i/\S1 h b c N W pn F (λV=>(C V/\∀k,k<i->Gz pn r t z V k)/\∀(k:Nat) q,k<j->r[k]?=some q->JQ pn V p.1 q.1 p.2 q.2) g) ⟨0,rfl,rfl,C6 _,hg.congr λV=>⟨λq=>⟨q,λk _ L=>a_⟩,λq=>q.1⟩⟩ ?_;rintro m2 cw g2 ⟨j,rfl,rfl,T,O⟩ ck ad;refine Di ?_;refine e_ ?_;by_cases ap:j<i
   case pos=>
    rw[aN ap];refine e_ ?_;obtain⟨q,hq⟩:=aq (l:=r) (i:=j) a_;have ca:(r.take i)[j]?=some q:=jn;refine aP (J lt (λj e=>jn) (f1 O)) rfl ca ?_;rw[show D_ q=[.int .i64 (ofNat q.1),.int .i64 (ofNat q.2)]from rfl];refine e_ ?_;refine ak (O.below p.1 q.1) ?_;refine e_ ?_;refine ak (O.below p.2 q.2) ?_;refine e_ ?_;obtain⟨g3,ce,B⟩:=O.equal (x:=p.1) (y:=q.1) (x':=p.2) (y':=q.2) (Y a_ _ _) (Y a_ _ _);refine ak ce ?_;refine e_ ?_;rw[aY a_];refine ad _ _ _ a_ ⟨j+1,rfl,rfl,ap,B.congr λV=>?_⟩
    grind
   obtain rfl:j=i:=a_;rw[aM (A9 _)];refine e_ ?_;refine bv (ds:=[x0,x1]) (ax (f1 O)) c_ rfl ?_;refine e_ ?_;refine ab bd.i_ ?_;refine km ?_;refine ab bk.i_ ?_;refine km ?_;refine aJ (m:=2) (λm ls g=>∃s,ls=[.i (ofNat s)]/\m=2 - s/\s<=2/\S1 h b c N W pn F (λV=>((C V/\∀k,k<j->Gz pn r t z V k)/\∀(k:Nat) q,k<j->r[k]?=some q->JQ pn V p.1 q.1 p.2 q.2)/\(1<=s->∀o∈t,JQ pn V p.1 o.1 p.1 o.2)/\(2<=s->∀o∈z,JQ pn V p.2 o.1 p.2 o.2)) g) ⟨0,rfl,rfl,oo,O.congr λV=>⟨λq=>⟨q,λL=>a_,λL=>a_⟩,λq=>q.1⟩⟩ ?_;rintro m3 cf g3 ⟨s,rfl,rfl,cb,B⟩ a6 D;refine Di ?_;refine e_ ?_;by_cases d:s<2
   case pos=>
    rw[ub jn];refine e_ ?_;refine ae (VA d) ?_;refine ae (QQ d) ?_;refine km ?_;obtain⟨f,eL⟩ : ∃f,f=if s=0 then t else z:=⟨_,rfl⟩
    obtain⟨xs,eX⟩ : ∃xs,xs=if s=0 then x0 else x1:=⟨_,rfl⟩
    obtain⟨Q,eP⟩ : ∃Q,Q=if s=0 then p.1 else p.2:=⟨_,rfl⟩
    rw[←eX];have M:q9 h xs 2 D_ f:=by
     grind
    have P:∀j,hY c.up=some j->hY xs≠some j:=λj e=>by
     grind
    have bm:f.length<=1000:=by
     grind
    refine bz (J M P (f1 B)) ?_;refine aJ (m:=f.length) (λm ls g=>∃k,ls=[.i (ofNat k)]/\m=f.length - k/\k<=f.length/\S1 h b c N W pn F (λV=>(((C V/\∀k,k<j->Gz pn r t z V k)/\∀(k:Nat) q,k<j->r[k]?=some q->JQ pn V p.1 q.1 p.2 q.2)/\(1<=s->∀o∈t,JQ pn V p.1 o.1 p.1 o.2)/\(2<=s->∀o∈z,JQ pn V p.2 o.1 p.2 o.2))/\∀(i:Nat) o,i<k->f[i]?=some o->JQ pn V Q o.1 Q o.2) g) ⟨0,rfl,rfl,C6 _,B.congr λV=>⟨λq=>⟨q,λk _ L=>a_⟩,λq=>q.1⟩⟩ ?_;rintro m4 ci g4 ⟨k,rfl,rfl,L,I⟩ a7 E;refine Di ?_;refine e_ ?_;by_cases A:k<f.length
    case pos=>
     rw[aN A];refine e_ ?_;obtain⟨o,ho⟩:=aq A;refine aP (J M P (f1 I)) rfl ho ?_;rw[show D_ o=[.int .i64 (ofNat o.1),.int .i64 (ofNat o.2)]from rfl];refine e_ ?_;have a9:(if s=0 then(ofNat p.1:Int)else ofNat p.2)=ofNat Q:=by
      grind
     refine ae (VA d) ?_;refine ae (QP d) ?_;rw[a9];refine km ?_;have bl:2<=r.length+t.length+z.length:=by
      grind
     refine ak (I.below Q o.1) ?_;refine e_ ?_;refine ae (VA d) ?_;refine ae (QP d) ?_;rw[a9];refine km ?_;refine ak (I.below Q o.2) ?_;refine e_ ?_;obtain⟨g5,ce,Z⟩:=I.equal (x:=Q) (y:=o.1) (x':=Q) (y':=o.2) (Y bl _ _) (Y bl _ _);refine ak ce ?_;refine e_ ?_;rw[aY a_];refine E _ _ _ a_ ⟨k+1,rfl,rfl,A,Z.congr λV=>?_⟩
     grind
    obtain rfl:k=f.length:=a_;rw[aM (A9 _)];refine e_ ?_;rw[aY a_];refine D _ _ _ a_ ⟨s+1,rfl,rfl,d,I.congr λV=>?_⟩;have co:(∀(i:Nat) o,i<f.length->f[i]?=some o->JQ pn V Q o.1 Q o.2)↔∀o∈f,JQ pn V Q o.1 Q o.2:=by
     constructor
     .intro q o ho;obtain⟨i,hi⟩:=Ev ho
      grind
     grind
    grind
   obtain rfl:s=2:=a_;rw[vc oo];refine e_ ?_;rw[aY a_];refine aE _ _ _ a_ ⟨j+1,rfl,rfl,ay,B.congr λV=>?_⟩;constructor
   .rintro⟨⟨⟨a1,a2⟩,a3⟩,a4,a5⟩;refine⟨a1,λk L=>?_⟩;by_cases e:k=j
    .subst e;intro p' cr
     grind
    grind
   .rintro⟨a1,a2⟩;obtain⟨b1,b2,b3⟩:=a2 j a_ p w
    grind
  obtain rfl:i=r.length:=a_;rw[aM (A9 _)];refine e_ ?_;refine bv (ds:=[x0,x1]) (ax (f1 hg)) c_ rfl ?_;refine e_ ?_;refine ab bd.i_ ?_;refine km ?_;refine ab bk.i_ ?_;refine km ?_;have f2:∀ {F':List A5} {C:(Nat->Bool)->Prop} {g:HL},S2 h b c N W pn F' C g->∀(j:Nat) o,h[j]?=some o->j≠b->hY c.up≠some j->hY c.fo≠some j->g[j]?=some o:=λ{F' C g} q=>by
   obtain⟨_,_,_,_,_,_,_,L,_⟩:=q;exact L
  refine aJ (m:=2) (λm ls g=>∃s,ls=[.i (ofNat s)]/\m=2 - s/\s<=2/\S2 h b c N W pn (F++(if 1<=s then Fs pn t t.length else [])++(if 2<=s then Fs pn z z.length else [])) (λV=>C V/\∀i,i<r.length->Gz pn r t z V i) g) ⟨0,rfl,rfl,oo,by simpa using hg.two⟩ ?_;rintro m3 cf g3 ⟨s,rfl,rfl,cb,B⟩ a6 D;refine Di ?_;refine e_ ?_;by_cases d:s<2
  case neg=>
   obtain rfl:s=2:=a_;rw[vc oo];refine e_ ?_
   grind
  rw[ub jn];refine e_ ?_;refine ae (VA d) ?_;refine ae (QQ d) ?_;refine km ?_;obtain⟨f,eL⟩ : ∃f,f=if s=0 then t else z:=⟨_,rfl⟩
  obtain⟨xs,eX⟩ : ∃xs,xs=if s=0 then x0 else x1:=⟨_,rfl⟩
  obtain⟨FF,eF⟩ : ∃FF,FF=F++(if 1<=s then Fs pn t t.length else [])++(if 2<=s then Fs pn z z.length else []):=⟨_,rfl⟩;rw[←eX];rw[←eF]at B;have cm:FF.length<=1001000000:=by
   have q0:=wR (pn:=pn) an.2.1 t.length an.2.1
   grind
  have M:q9 h xs 2 D_ f:=by
   grind
  have P:∀j,hY c.up=some j->hY xs≠some j:=λj e=>by
   grind
  have bm:f.length<=1000:=by
   grind
  refine bz (J M P (f2 B)) ?_;refine aJ (m:=f.length) (λm ls g=>∃k,ls=[.i (ofNat k)]/\m=f.length - k/\k<=f.length/\S2 h b c N W pn (FF++Fs pn f k) (λV=>C V/\∀i,i<r.length->Gz pn r t z V i) g) ⟨0,rfl,rfl,C6 _,by simpa[Fs]using B⟩ ?_;rintro m4 ci g4 ⟨k,rfl,rfl,L,I⟩ a7 E;refine Di ?_;refine e_ ?_;by_cases A:k<f.length
  case neg=>
   obtain rfl:k=f.length:=a_;rw[aM (A9 _)];refine e_ ?_;rw[aY a_];refine D _ _ _ a_ ⟨s+1,rfl,rfl,d,?_⟩
   grind
  rw[aN A];refine e_ ?_;obtain⟨o,ho⟩:=aq A;refine aP (J M P (f2 I)) rfl ho ?_;rw[show D_ o=[.int .i64 (ofNat o.1),.int .i64 (ofNat o.2)]from rfl];refine e_ ?_;obtain⟨xt,et,lt,gt,bt⟩:=qn M L;refine ae et (ab gt ?_);refine km ?_;have a0:(f.take k).length=k:=jn;refine bz lt ?_;rw[a0];refine aJ (m:=k) (λm ls g=>∃j,ls=[.i (ofNat j)]/\m=k - j/\j<=k/\S2 h b c N W pn (FF++Fs pn f k++((f.take k).take j).map (four pn o)) (λV=>C V/\∀i,i<r.length->Gz pn r t z V i) g) ⟨0,rfl,rfl,C6 _,by simpa using I⟩ ?_;rintro m5 cx g5 ⟨j,rfl,rfl,T,Z⟩ cl ag;refine Di ?_;refine e_ ?_;by_cases av:j<k
  case neg=>
   obtain rfl:j=k:=a_;rw[aM (A9 _)];refine e_ ?_;rw[aY a_];refine E _ _ _ a_ ⟨j+1,rfl,rfl,A,?_⟩;rw[ta,←EF];have:SP pn f j=((f.take j).take j).map (four pn o):=by
    unfold SP
    grind
   grind
  rw[aN av];refine e_ ?_;obtain⟨u,hu⟩:=aq (l:=f.take k) (i:=j) a_;refine aP (J lt (λj e=>by rw[bt];exact P j e) (f2 Z)) rfl hu ?_;rw[show D_ u=[.int .i64 (ofNat u.1),.int .i64 (ofNat u.2)]from rfl];refine e_ ?_;obtain⟨fo,n,U,w,hN,hC,b0,b4,b5⟩:=Z;refine jK (ds:=[fo]) w.hb (by simp[ah]) rfl ?_;refine e_ ?_;have bb:=w.fo.i_ sM;refine ab bb ?_;refine km ?_;refine ak (jR w.hb w.pr o.1 u.1) ?_;refine e_ ?_;refine ak (jR w.hb w.pr o.2 u.1) ?_;refine e_ ?_;refine ak (jR w.hb w.pr o.1 u.2) ?_;refine e_ ?_;refine ak (jR w.hb w.pr o.2 u.2) ?_;refine e_ ?_;have cn:(FF++Fs pn f k++((f.take k).take j).map (four pn o)).length<=1100000000:=by
   have q1:=wR (pn:=pn) bm k a_
   grind
  refine w.fo.G8 (a:=four pn o u) sM (C6 _) rfl rfl rfl (by unfold bc;rw[DQ a_,DQ a_];rfl) ?_;intro v' g6 hO gv b8 b9 bC;have al:∀(j:Nat) o,g5[j]?=some o->hY fo≠some j->g6[j]?=some o:=λj o T hb=>b8 j o T hb;refine e_ ?_;refine ab gv ?_;refine km ?_;have b7:g6[b]?=some (.o (.cells (ah { c with fo:=fo } n) 15 true)):=al b _ w.hb λe=>by
   obtain⟨a8,h2⟩:=w.fo.wid e;rw[w.hb]at h2
   grind
  refine gh (b:=b) b7 (by simp[ah]) ?_;refine km ?_;have bx:Gy (g5++[HO.o (.cells (IZ (four pn o u)) 8 true)]) (.pointer (some ⟨b,13,none⟩)) [fo]:=⟨b,13,_,15,true,rfl,cX w.hb,fZ.2 ⟨by simp[ah],rfl⟩⟩;refine bT (bx.lg rfl) ?_;refine e_ ?_;refine ab bb ?_;refine km ?_;refine ae (MD (jJ (w.fo.ls sM))) ?_;refine km ?_;rw[aY a_];refine ag _ _ _ a_ ⟨j+1,rfl,rfl,av,?_⟩;rw[Ii,hu,Ij,←EF];exact S2.four w hN hC b0 b4 b5 hO al b9 bC)
 grind
structure Sm(n1:Nat)(h:HL)(mm:Nat)(kv:Value)(ks:List K6)(is:TC)(vs:Tn)(ls:List (List K2)):Prop where
 mp:Dd J5 h mm (ks.zip (is.map ka))
 kl:h_ n1 h kv 1 CQ (is.map ka)
 nd:ks.Nodup
 il:is.length=ks.length
 idn:is.Nodup
 vl:vs.length=3*ks.length
 ll:ls.length=vs.length
 bl:∀(i:Nat) id,is[i]?=some id->n1<=id/\∃x y z,vs[3*i]?=some x/\vs[3*i+1]?=some y/\vs[3*i+2]?=some z/\h[id]?=some (.o (.cells [x,y,z] 3 true))
 ow:∀(j:Nat) v l,vs[j]?=some v->ls[j]?=some l->h_ n1 h v 2 D_ l
 dj:∀(i j:Nat) v w x,vs[i]?=some v->vs[j]?=some w->hY v=some x->hY w=some x->i=j
def Sm.j9{f:Nat}{h h':HL}{e:Nat}{kv:TR}{ks:List K6}{is:TC}{vs:Tn}{ls:List (List K2)}(a:Sm f h e kv ks is vs ls)(d:∀(j:Nat) o,f<=j∨j=e->h[j]?=some o->h'[j]?=some o):Sm f h' e kv ks is vs ls:=
 ⟨a.mp.j9 _ λo n=>d _ o (.inr rfl) n,a.kl.j9 λj o m b=>d j o (.inl (a.kl.hY b).1) m,a.nd,a.il,a.idn,a.vl,a.ll,λi id c=>by
  obtain⟨p,x,y,z,q,r,s,t⟩:=a.bl i id c
  simp_all,λj v l g k=>(a.ow j v l g k).j9 λi o c b=>d i o (.inl ((a.ow j v l g k).hY b).1) c,a.dj⟩
def RB{d:Nat}{h:HL}{b:Nat}(h0:h[b]?=some (.o (.map [] 0))):Sm d h b (.slice none 0 0) [] [] [] []:=
 ⟨⟨[],0,h0,rfl⟩,.inl ⟨rfl,rfl⟩,nn,rfl,nn,rfl,rfl,λi id c=>(by cases c),λj v l a=>(by cases a),λi j v w x a=>(by cases a)⟩
section
variable {n1:Nat} {h h':HL} {mm:Nat} {kv:Value} {ks:List K6} {is:TC} {vs:Tn} {ls:List (List K2)} (hs:Sm n1 h mm kv ks is vs ls)
include hs
theorem Sm.GI{j e:Nat}{cs:Tn}{a:Bool}(f:h[j]?=some (.o (.cells cs e a))):j≠mm:=λb=>by
 subst b;obtain⟨c,g,d,_⟩:=hs.mp
 simp_all
theorem Sm.new{k:K6}(U:k∉ks){id:Nat}{kv':TR}(i':h.length<=id)(N:n1<=h.length)(V:h'[id]?=some (.o (.cells [.slice none 0 0,.slice none 0 0,.slice none 0 0] 3 true)))(M:Dd J5 h' mm (ks.zip (is.map ka)++[(k,ka id)]))(D:h_ n1 h' kv' 1 CQ ((is++[id]).map ka))
  (d:∀(j:Nat) o,h[j]?=some o->n1<=j->j≠mm->hY kv≠some j->h'[j]?=some o):Sm n1 h' mm kv' (ks++[k]) (is++[id]) (vs++[.slice none 0 0,.slice none 0 0,.slice none 0 0]) (ls++[[],[],[]]):=by
 have q:∀ {j e:Nat} {s:Tn} {r:Bool},h[j]?=some (.o (.cells s e r))->e≠1->hY kv≠some j:=λ{j e s r} G T K=>by
  obtain⟨J,m⟩:=hs.kl.wid K
  simp_all
 have B:∀x∈is,x<h.length:=λx O=>by
  obtain⟨i,c⟩:=Ev O;obtain⟨_,_,_,_,_,_,_,p⟩:=hs.bl i x c;exact am p
 have H:∀(j:Nat) v,([.slice none 0 0,.slice none 0 0,.slice none 0 0]:Tn)[j]?=some v->v = .slice none 0 0:=λj v G=>by
  grind
 have g:∀(j:Nat) v,(vs++[.slice none 0 0,.slice none 0 0,.slice none 0 0])[j]?=some v->(j<vs.length/\vs[j]?=some v)∨(vs.length<=j/\v = .slice none 0 0):=λj v G=>by
  grind
 refine⟨?_,D,?_,by simp[hs.il],?_,by simp[hs.vl];omega,by simp[hs.ll],λi x c=>?_,λj v l n m=>?_,λi j v w x n m t F=>?_⟩
 .rw[Ij,List.zip_append (by rw[FV,hs.il])];exact M
 .rw[gD];exact⟨hs.nd,c_,λa L b u e=>by
   simp_all⟩
 .rw[gD];exact⟨hs.idn,c_,λa L b u e=>by
   grind⟩
 .rw[r5]at c;split at c
  next f=>
   obtain⟨E,P,y,z,Q,R,S,p⟩:=hs.bl i x c;refine⟨E,P,y,z,?_,?_,?_,d x _ p E (hs.GI p) (q p oo)⟩
   .grind
   .grind
   grind
  next f=>
   have A:=am c;simp only[qcG]at A;have C:i=is.length:=a_;subst C;rw[WH]at c;cases c;have t:3*is.length=vs.length:=by rw[hs.vl,hs.il]
   grind
 .rcases g j v n with⟨f,n⟩|⟨f,rfl⟩
  .rw[Fe (by rw[hs.ll];exact f)]at m;have I:=hs.ow j v l n m;exact I.BK λi s u c=>d i _ c (I.hY u).1 (hs.GI c) (q c oo)
  .rw[GV (by rw[hs.ll];exact f)]at m;have:l=[]:=by
    grind
   rw[this];exact .inl ⟨rfl,rfl⟩
 .rcases g i v n with⟨_,n⟩|⟨_,rfl⟩
  .rcases g j w m with⟨_,m⟩|⟨_,rfl⟩
   .exact hs.dj i j v w x n m t F
   .cases F
  .cases t
theorem Sm.put{i s id:Nat}{v:TR}{l l':List K2}(X:is[i]?=some id)(ag:s<3)(F:vs[3*i+s]?=some v)(Y:ls[3*i+s]?=some l){g:HL}{v':TR}(S:h_ n1 g v' 2 D_ l')(N:∀(j:Nat) o,h[j]?=some o->hY v≠some j->g[j]?=some o)(hb:hY v'=hY v∨∃j,hY v'=some j/\h.length<=j)
  {cs p:Tn} (A:h[id]?=some (.o (.cells cs 3 true))) (U:p=cs.set s v'):Sm n1 (g.set id (.o (.cells p 3 true))) mm kv ks is (vs.set (3*i+s) v') (ls.set (3*i+s) l'):=by
 have O:=hs.ow _ v l F Y;have G:∀ {j e:Nat} {cs:Tn} {d:Bool},h[j]?=some (.o (.cells cs e d))->e≠2->hY v≠some j:=λ{j e cs d} b V k=>by
  obtain⟨a,f⟩:=O.wid k
  simp_all
 have M:g[id]?=some (.o (.cells cs 3 true)):=N id _ A (G A oo);have hw:∀ {j e:Nat} {a:Tn} {d:Bool},g[j]?=some (.o (.cells a e d))->e≠3->j≠id:=λ{j e a d} b V k=>by
  simp_all
 have C:3*i+s<vs.length:=am F;have c:∀(j:Nat) w,(vs.set (3*i+s) v')[j]?=some w->(j=3*i+s/\w=v')∨(j≠3*i+s/\vs[j]?=some w):=λj w b=>by
  grind
 have Q:∀j w,j≠3*i+s->vs[j]?=some w->(vs.set (3*i+s) v')[j]?=some w:=λj w e b=>jn;have P:∀(j:Nat) w x,j≠3*i+s->vs[j]?=some w->hY w=some x->x<h.length/\hY v≠some x:=λj w x e b H=>by
  obtain⟨I,B⟩:=aq (l:=ls) (i:=j) (by rw[hs.ll];exact am b);exact⟨((hs.ow j w I b B).hY H).2,λk=>e (hs.dj j _ w v x b F H k)⟩
 refine⟨hs.mp.j9 _ λo D=>cH (N mm o D λe=>?_) (CY (hs.GI A).symm),hs.kl.BK λj a T b=>?_,hs.nd,hs.il,hs.idn,by rw[FG];exact hs.vl,by rw[FG,FG];exact hs.ll,λr t m=>?_,λj w I q f=>?_,λr n u w x q f K L=>?_⟩
 .obtain⟨a,f⟩:=O.wid e;exact hs.GI f rfl
 .grind
 .obtain⟨R,x,y,z,a2,a3,a4,J⟩:=hs.bl r t m;by_cases e:r=i
  .subst e;rw[X]at m;cases m;rw[A]at J;cases J;refine⟨R,?_⟩;obtain rfl|rfl|rfl:s=0∨s=1∨s=2:=a_
   .grind
   .grind
   grind
  .have ad:t≠id:=λk=>by
    subst k;have Z:=hs.idn;rw[WG,Q5]at Z
    grind
   grind
 .rcases c j w q with⟨rfl,rfl⟩|⟨e,q⟩
  .rw[GR (by rw[hs.ll];exact C)]at f;cases f;exact S.BK λj a _ b=>cH b (CY (hw b oo))
  .rw[Hj (CY e)]at f;have E:=hs.ow j w I q f;refine E.BK λx a H b=>?_
   grind
 .have W:∀n w x,n≠3*i+s->vs[n]?=some w->hY w=some x->hY v'≠some x:=λn w x e f L K=>by
   grind
  rcases c r u q with⟨rfl,rfl⟩|⟨e1,p1⟩
  .grind
  .rcases c n w f with⟨rfl,rfl⟩|⟨k,p2⟩
   .grind
   .exact hs.dj r n u w x p1 p2 K L
end
abbrev _root_.TH:=Nat->Mv
def oL(w v:Nat)(l:TD)(G:TH):Prop:=∀c e n,c<4*w*v->e<3->Cv w v c e=some n->G n=Ej w l (G c) c n e
def DK:Ty->Nat
 | []=>0
 |b :: l=>(if b then 1 else 0)+DK l
def iH:∀l:List Bool,DK l<=l.length
 | []=>A9 _
 |b :: l=>by
  have:=iH l;simp only[DK,YV];split<;>omega
def gN:∀ {l:Ty} {n:Nat},l[n]?=some false->DK (l.set n true)=DK l+1
 | [],n,h=>by simp at h
 |b :: l,0,h=>by
  simp only[hz,FU]at h;subst h;simp[DK];omega
 |b :: l,n+1,h=>by
  simp only[z2]at h;have:=gN h;simp only[g3,DK,this];omega
structure JS(w v:Nat)(l:TD)(A:TO)(B:Ty)(q:TC)(D:Nat->Nat->Prop):Prop where
 a0:A[0]?=some CJ
 b0:B[0]?=some true
 q1:∀c∈q,B[c]?=some true
 dn:∀c e n,D c e->c<4*w*v->e<3->Cv w v c e=some n->B[c]?=some true->c∉q->B[n]?=some true/\∃a,A[c]?=some a/\A[n]?=some (Ej w l a c n e)
 bd:∀(c:Nat) a,B[c]?=some true->A[c]?=some a->CM (20*(DK B:Int)) a
 un:∀G,oL w v l G->G 0=CJ->∀(c:Nat) a,B[c]?=some true->A[c]?=some a->a=G c
structure FY(w v:Nat)(l:TD)(A:TO):Prop where
 len:A.length=4*w*v
 a0:A[0]?=some CJ
 ok:∀a∈A,CM 2000 a
 cons:∀c e n a,c<4*w*v->e<3->Cv w v c e=some n->A[c]?=some a->A[n]?=some (Ej w l a c n e)
section
variable {w v:Nat} {l:TD} {A:TO} {B:Ty} {q:TC}
def JS.start(f:Sh w v):JS w v l (replicate (4*w*v) CJ) ((replicate (4*w*v) false).set 0 true) [0] λ_ _=>True:=by
 have i:0<4*w*v:=by
  have g:=f.1;have h:=f.2.2.1;have:0<w*v:=r6 g h
  grind
 have j:∀c,((replicate (4*w*v) false).set 0 true)[c]?=some true->c=0:=by
  grind
 refine⟨kb,kb,λc o=>?_,λc e n _ _ _ _ d p=>?_,λc a d b=>?_,λG m k c a d b=>?_⟩
 .simp_all
 .simp_all
 .have:=j c d;subst this;rw[YY,rv i]at b;cases b;exact zB a_
 simp_all
def JS.pop{c0:Nat}(h:JS w v l A B (c0 :: q) λ_ _=>True):JS w v l A B q λc e=>c=c0->e<0:=by
 refine⟨h.a0,h.b0,λc a=>h.q1 c (E7 _ a),λc e n i a f g b k=>?_,h.bd,h.un⟩;by_cases d:c=c0
 .omega
 .exact h.dn c e n trivial a f g b λj=>by
   simp_all
def JS.skip{c0 j:Nat}(h:JS w v l A B q λc e=>c=c0->e<j)(m:Cv w v c0 j=none):JS w v l A B q λc e=>c=c0->e<j+1:=by
 refine⟨h.a0,h.b0,h.q1,λc e n k d g a b i=>?_,h.bd,h.un⟩;refine h.dn c e n (λf=>?_) d g a b i
 grind
def JS.seen{c0 j n:Nat}{a:Mv}(h:JS w v l A B q λc e=>c=c0->e<j)(u:Cv w v c0 j=some n)(r:B[n]?=some true)(p:A[c0]?=some a)(t:A[n]?=some (Ej w l a c0 n j)):JS w v l A B q λc e=>c=c0->e<j+1:=by
 refine⟨h.a0,h.b0,h.q1,λc e o s f k d b m=>?_,h.bd,h.un⟩;by_cases i:c=c0/\e=j
 .simp_all
 .exact h.dn c e o (λg=>a_) f k d b m
def JS.fresh(F:Sh w v){c0 j n:Nat}{a:Mv}(h:JS w v l A B q λc e=>c=c0->e<j)(M:A.length=4*w*v)(N:B.length=4*w*v)(i:c0<4*w*v)(x:j<3)(y:Cv w v c0 j=some n)(p:B[c0]?=some true)(I:B[n]?=some false)(D:A[c0]?=some a) :
  JS w v l (A.set n (Ej w l a c0 n j)) (B.set n true) (q++[n]) λc e=>c=c0->e<j+1:=by
 obtain⟨U,_,_,_,V⟩:=dO F i x y;have H:(B.set n true)[n]?=some true:=GR a_;have m:(A.set n (Ej w l a c0 n j))[n]?=some (Ej w l a c0 n j):=GR a_;have r:∀c,c≠n->(B.set n true)[c]?=B[c]?:=λc g=>Hj (CY g);have hA:∀c,c≠n->(A.set n (Ej w l a c0 n j))[c]?=A[c]?:=λc g=>Hj (CY g);have k:(0:Nat)≠n:=λe=>by have:=h.b0;simp_all
 have C:CM (20*(DK B:Int)) a:=h.bd c0 a p D;refine⟨by rw[hA 0 k];exact h.a0,by rw[r 0 k];exact h.b0,λc g=>?_,λc e P W g L z f E=>?_,λc s f d=>?_,λG t o c s f d=>?_⟩
 .rcases Ek.1 g with g|g
  .have:=h.q1 c g
   grind
  simp_all
 .have b:c≠n:=λe=>E (by rw[e];simp);have u:c∉q:=λO=>E (Jq _ O);rw[r c b]at f;by_cases K:c=c0/\e=j
  .simp_all
  .obtain⟨R,Q,S,T⟩:=h.dn c e P (λJ=>a_) g L z f u
   grind
 .rw[gN I];by_cases b:c=n
  .rw[b,m]at d;cases d;exact aZ (yz F i x y C a_) a_
  .rw[r c b]at f;rw[hA c b]at d;exact aZ (h.bd c s f d) a_
 .by_cases b:c=n
  .rw[b,m]at d;cases d;rw[b,t c0 j n i x y,←h.un G t o c0 a p D]
  .rw[r c b]at f;rw[hA c b]at d;exact h.un G t o c s f d
def JS.done{c0:Nat}(h:JS w v l A B q λc e=>c=c0->e<3):JS w v l A B q λ_ _=>True:=
 ⟨h.a0,h.b0,h.q1,λc e n _ d a f b g=>h.dn c e n (λ_=>a) d a f b g,h.bd,h.un⟩
def E_(a:Sh w v):0<4*w*v/\4*w*v<=100:=by
 have b:1*1<=w*v:=ki a.1 a.2.2.1;have c:w*v<=5*5:=ki a.2.1 a.2.2.2
 grind
def JS.i_(o:Sh w v)(h:JS w v l A B [] λ_ _=>True)(g:A.length=4*w*v)(r:B.length=4*w*v):FY w v l A:=by
 have b:∀n,n<4*w*v->B[n]?=some true:=xC o h.b0 λc e n d f j p=>(h.dn c e n trivial d f j p c_).1;have y:=E_ o;have k:=iH B;refine⟨g,h.a0,λa s=>?_,λc e n a d f j z=>?_⟩
 .obtain⟨i,m⟩:=Ev s;have:=am m;exact aZ (h.bd i a (b i a_) m) a_
 .obtain⟨_,t,u,x⟩:=h.dn c e n trivial d f j (b c d) c_
  simp_all
def JS.tear(r:Sh w v){c0 j n:Nat}{a b:Mv}{D:Nat->Nat->Prop}(h:JS w v l A B q D)(g:c0<4*w*v)(o:j<3)(p:Cv w v c0 j=some n)(e:B[c0]?=some true)(m:B[n]?=some true)(k:A[c0]?=some a)(f:A[n]?=some b)(i:b≠Ej w l a c0 n j):¬ ∃G,oL w v l G/\G 0=CJ:=by
 rintro⟨G,d,c⟩;refine i ?_;rw[h.un G d c n b m f,d c0 j n g o p,←h.un G d c c0 a e k]
end
def left(B:Ty)(q:TC):Nat:=q.length+(B.length - DK B)
def zz:Bool:=(range 5).all λw=>(range 5).all λv=>lO 151 [.i (.ofNat (w+1)),.i (.ofNat (v+1))] [.i (.ofNat (4*(w+1)*(v+1)))]
def UM:zz=true:=d_
def c'{w v:Nat}(h:Sh w v):Cc 151 [.i (.ofNat w),.i (.ofNat v)] [.i (.ofNat (4*w*v))]:=by
 have b:=A_.1 UM (w - 1) (Cm.2 (by have:=h.2.1;omega));have a:=A_.1 b (v - 1) (Cm.2 (by have:=h.2.2.1;have:=h.2.2.2;omega));rw[show w - 1+1=w by have:=h.1;omega,show v - 1+1=v by have:=h.2.2.1;omega]at a;exact fU a rfl d_ rfl
def Z8{a b:Mv}{K:Tp}:P1.eqs [(.i (ofNat a.1),.i (ofNat b.1)),(.i a.2.1,.i b.2.1),(.i a.2.2,.i b.2.2)] (@i' _ ⟨K⟩)=K (decide (a=b)):=by
 show K (cj _)=_;have e:cj [(.i (ofNat a.1),.i (ofNat b.1)),(.i a.2.1,.i b.2.1),(.i a.2.2,.i b.2.2)]=decide (a=b):=by
  rw[WI];simp[cj,ir,e7];omega
 rw[e]
def Xy(w v:Nat)(l:TD)(H:HL)(a:TG)(h':HL):Prop:=
 v_ H h'/\((∃A id,a=[.v (.slice (some ⟨id,0,le 3⟩) (4*w*v) (4*w*v+1)),.i 0]/\H.length<=id/\h'[id]?=some (.o (.cells (A.flatMap sd) 3 true))/\FY w v l A)∨
  (a=[.v (.slice none 0 0),.i 11]/\¬ ∃G,oL w v l G/\G 0=CJ))
def Br{w v:Nat}(F:Sh w v){l:TD}(hk:(l.map bo).Nodup)(a8:l.length<=1000){H:HL}{x:TR}(hl:q9 H x 3 n4 l) :
  ∃rs h',aA cc ac 130 [.i (.ofNat w),.i (.ofNat v),.v x] (g_ aa H) rs (g_ aa h')/\Xy w v l H rs h':=by
 have hN:=E_ F;obtain⟨rs,h',h1,T⟩:=x130 (K:=λrs h'=>Xy w v l H rs h') (H:=H) (k_ (k_ (q7 hl.i_ t0))) (by
  unfold Vg;simp only[u5]
  repeat (first|simp(disch:=omega)only[↓nc]|refine cU (ba aD) rfl ?_|refine ab hl.i_ ?_)
  obtain⟨M,V,U⟩:=Mq (w:=.ofNat w) (v:=.ofNat v) (hl.pre (h':=H++[HO.o (.cells [.int .i64 (.ofNat w),.int .i64 (.ofNat v),x] 3 true)]) ⟨_,rfl⟩) hk a8;rw[show(H++[HO.o (.cells [.int .i64 (.ofNat w),.int .i64 (.ofNat v),x] 3 true)]).length=H.length+1 by simp]at V U;have k0:(H++[HO.o (.cells [.int .i64 (.ofNat w),.int .i64 (.ofNat v),x] 3 true)]++[M]).length=H.length+2:=c_;have kp:(H++[HO.o (.cells [.int .i64 (.ofNat w),.int .i64 (.ofNat v),x] 3 true)]++[M])[H.length]?=some (HO.o (.cells [.int .i64 (.ofNat w),.int .i64 (.ofNat v),x] 3 true)):=c_;have kH:v_ H (H++[HO.o (.cells [.int .i64 (.ofNat w),.int .i64 (.ofNat v),x] 3 true)]++[M]):=⟨_,EF ..⟩;refine ak V ?_;clear V;generalize H++[HO.o (.cells [.int .i64 (.ofNat w),.int .i64 (.ofNat v),x] 3 true)]++[M]=T at *;refine e_ ?_;refine lH aD rfl ?_;rw[oF];have m0:(T++[HO.o (.cells [.map (some (H.length+1))] 1 true)]).length=H.length+3:=by simp[k0]
  have mp:=kp |> (v_.get (b:=T++[HO.o (.cells [.map (some (H.length+1))] 1 true)]) ⟨_,rfl⟩)
  have mv:(T++[HO.o (.cells [.map (some (H.length+1))] 1 true)])[H.length+2]?=some (HO.o (.cells [.map (some (H.length+1))] 1 true)):=kb;have mH:v_ H (T++[HO.o (.cells [.map (some (H.length+1))] 1 true)]):=kH.Fa _;have mS:HJ (T++[HO.o (.cells [.map (some (H.length+1))] 1 true)]) (H.length+1) l:=by
   obtain⟨S,c,I,J⟩:=U;exact⟨S,c,v_.get ⟨_,rfl⟩ I,J⟩
  rw[k0];generalize T++[HO.o (.cells [.map (some (H.length+1))] 1 true)]=h3 at *;clear kp kH U k0
  repeat (first|simp(disch:=omega)only[↓nc]|refine rL (p:=ka H.length) (cs:=[.int .i64 (.ofNat w),.int .i64 (.ofNat v),x]) (ds:=[.int .i64 (.ofNat w),.int .i64 (.ofNat v)]) (ba mp) c_ rfl ?_|refine ai (c' F) ?_|refine ae (dN a_) ?_)
  rw[show(ofNat (4*w*v)).toNat=4*w*v from rfl];have z0:HO.o (.cells (aL [.int .u8 0,.int .i64 0,.int .i64 0] (4*w*v)) 3 true)=HO.o (.cells ((replicate (4*w*v) CJ).flatMap sd) 3 true):=by
   rw[←cT (enc:=sd) (z:=CJ) (n:=4*w*v)];rfl
  rw[z0,m0];have n0:(h3++[HO.o (.cells ((replicate (4*w*v) CJ).flatMap sd) 3 true)]).length=H.length+4:=by simp[m0]
  have np:=mp |> (v_.get (b:=h3++[HO.o (.cells ((replicate (4*w*v) CJ).flatMap sd) 3 true)]) ⟨_,rfl⟩)
  have nv:=mv |> (v_.get (b:=h3++[HO.o (.cells ((replicate (4*w*v) CJ).flatMap sd) 3 true)]) ⟨_,rfl⟩)
  have na:(h3++[HO.o (.cells ((replicate (4*w*v) CJ).flatMap sd) 3 true)])[H.length+3]?=some (HO.o (.cells ((replicate (4*w*v) CJ).flatMap sd) 3 true)):=kb;have nH:v_ H (h3++[HO.o (.cells ((replicate (4*w*v) CJ).flatMap sd) 3 true)]):=mH.Fa _;have nS:HJ (h3++[HO.o (.cells ((replicate (4*w*v) CJ).flatMap sd) 3 true)]) (H.length+1) l:=by
   obtain⟨S,c,I,J⟩:=mS;exact⟨S,c,v_.get ⟨_,rfl⟩ I,J⟩
  generalize h3++[HO.o (.cells ((replicate (4*w*v) CJ).flatMap sd) 3 true)]=h4 at *;clear mp mv mH mS m0;refine lH aD rfl ?_;rw[oF];refine km ?_;refine cU (ba aD) rfl ?_;refine e_ ?_;refine ab (by simp[aF,n_,aS,bB,bi,aO,aH]) ?_;refine e_ ?_;refine ae (x:=ofNat (4*w*v)) rfl ?_;refine ae (dN a_) ?_;refine e_ ?_;rw[n0,show(ofNat (4*w*v)).toNat=4*w*v from rfl];refine ab (by simp[aF,n_,aS,bB,bi,aO,aH]) ?_;have o0:(h4++[HO.o (.cells [.slice (some ⟨H.length+3,0,some 13⟩) (4*w*v) (4*w*v+1)] 1 true)]).length=H.length+5:=by simp[n0]
  have op:=np |> (v_.get (b:=h4++[HO.o (.cells [.slice (some ⟨H.length+3,0,some 13⟩) (4*w*v) (4*w*v+1)] 1 true)]) ⟨_,rfl⟩)
  have om:=nv |> (v_.get (b:=h4++[HO.o (.cells [.slice (some ⟨H.length+3,0,some 13⟩) (4*w*v) (4*w*v+1)] 1 true)]) ⟨_,rfl⟩)
  have oa:=na |> (v_.get (b:=h4++[HO.o (.cells [.slice (some ⟨H.length+3,0,some 13⟩) (4*w*v) (4*w*v+1)] 1 true)]) ⟨_,rfl⟩)
  have ov:(h4++[HO.o (.cells [.slice (some ⟨H.length+3,0,some 13⟩) (4*w*v) (4*w*v+1)] 1 true)])[H.length+4]?=some (HO.o (.cells [.slice (some ⟨H.length+3,0,some 13⟩) (4*w*v) (4*w*v+1)] 1 true)):=kb;have oH:v_ H (h4++[HO.o (.cells [.slice (some ⟨H.length+3,0,some 13⟩) (4*w*v) (4*w*v+1)] 1 true)]):=nH.Fa _;have oS:HJ (h4++[HO.o (.cells [.slice (some ⟨H.length+3,0,some 13⟩) (4*w*v) (4*w*v+1)] 1 true)]) (H.length+1) l:=by
   obtain⟨S,c,I,J⟩:=nS;exact⟨S,c,v_.get ⟨_,rfl⟩ I,J⟩
  generalize h4++[HO.o (.cells [.slice (some ⟨H.length+3,0,some 13⟩) (4*w*v) (4*w*v+1)] 1 true)]=h5 at *;clear np nv na nH nS n0;have z1:HO.o (.cells (aL [.bool false] (4*w*v)) 1 true)=HO.o (.cells ((replicate (4*w*v) false).flatMap A7) 1 true):=by
   rw[←cT (enc:=A7) (z:=false) (n:=4*w*v)];rfl
  rw[z1,o0];have r0:RS H (h5++[HO.o (.cells ((replicate (4*w*v) false).flatMap A7) 1 true)]) w v x l (replicate (4*w*v) CJ) (replicate (4*w*v) false):=by
   obtain⟨S,c,I,J⟩:=oS;exact⟨oH.Fa _,by simp[o0],v_.get ⟨_,rfl⟩ op,⟨S,c,v_.get ⟨_,rfl⟩ I,J⟩,v_.get ⟨_,rfl⟩ om,v_.get ⟨_,rfl⟩ oa,v_.get ⟨_,rfl⟩ ov,kb,c_,c_⟩
  generalize h5++[HO.o (.cells ((replicate (4*w*v) false).flatMap A7) 1 true)]=h6 at *;clear op om oa ov oH oS o0;refine dh (enc:=A7) (l:=replicate (4*w*v) false) (i:=0) (a:=true) cO r0.kn rfl (by simpa using hN.1) c_ rfl ?_;have r1:=r0.putB (B':=(replicate (4*w*v) false).set 0 true) c_;generalize po h6 (H.length+5) 1 A7 ((replicate (4*w*v) false).set 0 true)=h7 at *;refine km ?_;have r2:RS H (h7++[HO.o (.cells [.int .i64 0] 1 true)]) w v x l (replicate (4*w*v) CJ) ((replicate (4*w*v) false).set 0 true):=r1.j9 (λj o _ ho=>v_.get ⟨_,rfl⟩ ho) c_;have ax:WQ (H.length+6) (h7++[HO.o (.cells [.int .i64 0] 1 true)]) (.slice (some ⟨h7.length,0,some 11⟩) 1 2) [0]:=⟨h7.length,0,2,_,rfl,r1.len,aD,Sx.wa rfl,.inr rfl⟩;have al:=JS.start (l:=l) F;have ag:[0].length<=DK ((replicate (4*w*v) false).set 0 true):=by
   rw[gN kb];simp
  generalize h7++[HO.o (.cells [.int .i64 0] 1 true)]=h8 at *;generalize Value.slice (some ⟨h7.length,0,some 11⟩) 1 2=v8 at *;generalize replicate (4*w*v) CJ=A0 at *;generalize (replicate (4*w*v) false).set 0 true=B0 at *;clear r0 r1;refine aJ (m:=left B0 [0]) (λm ls h'=>∃A B q vv,ls=[.v vv]/\RS H h' w v x l A B/\WQ (H.length+6) h' vv q/\JS w v l A B q (λ_ _=>True)/\q.length<=DK B/\m=left B q) ⟨A0,B0,[0],v8,rfl,r2,ax,al,ag,rfl⟩ ?_;clear r2 ax al ag;rintro m ls h' ⟨A,B,q,vv,rfl,d,G,D,b2,rfl⟩ bx X;refine Di ?_;refine e_ ?_;refine bz G.ls ?_;cases q with
  |nil=>
   rw[y_ kb]
   repeat (first|simp(disch:=omega)only[↓nc]|refine cU (ba d.ov) rfl ?_|refine ab d.lsA.i_ ?_)
   exact⟨d.pre,.inl ⟨A,H.length+3,rfl,a_,d.ol,D.i_ F d.la d.lb⟩⟩
  |cons C q=>
   rw[B3 kb];refine e_ ?_;refine aP G.ls (i:=0) rfl rfl ?_;unfold mc;refine e_ ?_;refine n3 G ?_;intro v1 ay av;refine ab av ?_;have g:B[C]?=some true:=D.q1 C Lk;have r:C<4*w*v:=by have:=am g;have:=d.lb;omega
   have bP:=iH B;refine bN (g9:=Value×HL×List Mv×List Bool×List Nat) 3 (λj s=>[.v s.1,.i (ofNat j)]) (λ_ s=>s.2.1) (λj s=>RS H s.2.1 w v x l s.2.2.1 s.2.2.2.1/\WQ (H.length+6) s.2.1 s.1 s.2.2.2.2/\JS w v l s.2.2.1 s.2.2.2.1 s.2.2.2.2 (λc e=>c=C->e<j)/\s.2.2.2.2.length<=DK s.2.2.2.1/\left s.2.2.2.1 s.2.2.2.2=left B q/\s.2.2.2.1[C]?=some true) (j0:=0) (s0:=(v1,h',A,B,q)) rfl rfl a_ ⟨d,ay,D.pop,jn,rfl,g⟩ ?_;clear d G D ay av g;rintro j ⟨v2,ad,Q,P,q2⟩ b0 ⟨d,G,D,N,f,g⟩ Y y;simp only at d G D N f g y;refine e_ ?_;by_cases u:j<3
   case neg=>
    obtain rfl:j=3:=a_;rw[vc kb];refine e_ ?_;refine X (left B q) _ _ ?_ ⟨Q,P,q2,v2,rfl,d,G,D.done,N,f.symm⟩;unfold left
    simp_all
   rw[ub jn];refine e_ ?_;have next:∀(v3:TR) (k:HL) (A3:TO) (R:Ty) (q3:TC),RS H k w v x l A3 R->WQ (H.length+6) k v3 q3->JS w v l A3 R q3 (λc e=>c=C->e<j+1)->q3.length<=DK R->left R q3=left B q->R[C]?=some true->Y [.v v3,.i (ofNat j+1)] k:=λv3 k A3 R q3 I J a3 a4 a5 a6=>y (v3,k,A3,R,q3) u ⟨I,J,a3,a4,a5,a6⟩
   have E:∀K:Int->Prop,P1.z_ .add .u8 (ofNat j) 1 (@i' _ ⟨K⟩)=K (ofNat j+1):=λK=>Jm jn jn;refine rL (p:=ka H.length) (cs:=[.int .i64 (.ofNat w),.int .i64 (.ofNat v),x]) (ds:=[.int .i64 (.ofNat w),.int .i64 (.ofNat v)]) (ba d.p) c_ rfl ?_;refine e_ ?_;refine ai (yt F r u) ?_;have bs:=iH P;have bt:=d.lb;cases h:Cv w v C j with
   |none=>
    unfold vK;rw[h];refine e_ ?_;rw[E];exact next _ _ _ _ _ d G (D.skip h) N f g
   |some n=>
    unfold vK;rw[h];refine e_ ?_;obtain⟨a,ha⟩:=aq (l:=Q) (i:=C) (by rw[d.la];exact r);have bb:=D.bd C a g ha;have aE:=N7 F (ba d.p) (ba d.mv) d.mp (ba d.ov) d.lsA r u h ha bb a_;refine iV (iA (args:=[.int .i64 (ofNat C),.int .u8 (ofNat j)]) aE rfl [.leaf (.i .i64 (ofNat C)),.leaf (.i .u8 (ofNat j)),.leaf (.v (ka H.length)),.leaf (.v (ka (H.length+2))),.leaf (.v (ka (H.length+4)))] rfl rfl rfl) ?_;have W:=(dO F r u h).1;have b1:=(dO F r u h).2.2.2.2;generalize hm:Ej w l a C n j=m at *;simp only[CT];refine e_ ?_;obtain⟨t,Z⟩:=aq (l:=P) (i:=n) a_;refine aP d.lsB rfl Z ?_;unfold A7;refine e_ ?_;cases t with
    |true=>
     repeat (first|simp(disch:=omega)only[↓nc,DP]|refine cU (ba d.ov) rfl ?_|refine ab d.lsA.i_ ?_)
     obtain⟨b,hb⟩:=aq (l:=Q) (i:=n) (by rw[d.la];exact W);refine aP d.lsA rfl hb ?_;unfold sd;refine e_ ?_;rw[Z8];by_cases L:b=m
     .rw[E8 L];simp(disch:=omega)only[↓nc,DP];rw[E];exact next _ _ _ _ _ d G (D.seen h Z ha (by rw[hb,L,hm])) N f g
     .rw[Fv L];simp(disch:=omega)only[↓nc,EB];exact⟨d.pre,.inr ⟨rfl,D.tear F r u h g Z ha hb (by rw[hm];exact L)⟩⟩
    |false=>
     repeat (first|simp(disch:=omega)only[↓nc,EB]|refine cU (ba d.ov) rfl ?_|refine ab d.lsA.i_ ?_)
     refine dh (enc:=sd) (l:=Q) (i:=n) (a:=m) db d.ol rfl (by rw[d.la];exact W) d.la rfl ?_;have an:=d.Fo (A':=Q.set n m) c_;have bm:=G.j9 (h':=po ad (H.length+3) 3 sd (Q.set n m)) (λj o a0 ho=>by rw[cu a_];exact ho);generalize po ad (H.length+3) 3 sd (Q.set n m)=k at *;refine km ?_;refine dh (enc:=A7) (l:=P) (i:=n) (a:=true) cO an.kn rfl a_ d.lb rfl ?_;have ap:=an.putB (B':=P.set n true) c_;have bn:=bm.j9 (h':=po k (H.length+5) 1 A7 (P.set n true)) (λj o a0 ho=>by rw[cu a_];exact ho);generalize po k (H.length+5) 1 A7 (P.set n true)=h4' at *;refine km ?_;refine lA (n:=n) bn ap.len rfl rfl a_ ?_;intro v5 bC bl bk a7 a9;have O:=ap.j9 a7 a9
     repeat (first|simp(disch:=omega)only[↓nc]|refine ab bk ?_|refine cU (ba O.ov) rfl ?_|refine ab O.lsA.i_ ?_)
     refine aP O.lsA (a:=m) rfl (GR (by rw[d.la];exact W)) ?_;unfold sd;simp(disch:=omega)only[↓nc]
     try rw[Z8,E8 rfl]
     simp(disch:=omega)only[↓nc,DP];rw[E];refine next _ _ _ _ _ O bl ?_ ?_ ?_ ?_
     .rw[←hm];exact D.fresh F d.la d.lb r u h g Z ha
     .rw[gN Z];simp;omega
     .rw[←f];have:=iH (P.set n true);unfold left;rw[gN Z]at this ⊢
      grind
     simp_all)
 grind
def bU(c:Cl):Tn:=[.int .i64 c.1,.int .i64 c.2.1,.int .u8 (ofNat c.2.2)]
def cG(c:Cl):(bU c).length=3:=rfl
def vJ{m:Mv}{n:Int}(a:CM n m){c:Cl}{k:Int}(b:-k<=c.1/\c.1<=k/\-k<=c.2.1/\c.2.1<=k):-(n+k+1)<=(aB m c).1/\(aB m c).1<=n+k+1/\-(n+k+1)<=(aB m c).2.1/\(aB m c).2.1<=n+k+1/\(aB m c).2.2<4:=by
 have d:=KL a.1 b;have e:=a.2;unfold aB;simp only;refine⟨?_,?_,?_,?_,iZ⟩<;>split<;>omega
def NB(m:Mv):Bool:=decide (-16384<=m.2.1/\m.2.1<=16384/\-16384<=m.2.2/\m.2.2<=16384)
def JN(c:Cl):Bool:=decide (-4096<=c.1/\c.1<=4096/\-4096<=c.2.1/\c.2.1<=4096)
def Ks{n:Int}{m:Mv}(h:CM n m)(a:NB m=true):CM 16384 m:=by
 unfold NB at a;rw[EP]at a;exact⟨h.1,a.1,a.2.1,a.2.2.1,a.2.2.2,h.2.2.2.2.2⟩
def Za(t x y:Int):Bool:=decide (t<8/\(-16384<=x/\x<=16384)/\(-16384<=y/\y<=16384)/\(x+y)%2=0)
def qO{n:Int}:Cc 149 [.i n] [.b (!decide (-16384<=n/\n<=16384))]:=by
 refine q149 rfl ?_;unfold Sf;simp only[u5];refine e_ ?_;by_cases a:n < -16384
 .rw[ub (show n < -16384 by omega)];refine e_ ?_
  simp_all
 .rw[vc (show(-16384:Int)<=n by omega)];refine e_ ?_;by_cases c:n<=16384
  .rw[y_ a_];refine e_ ?_
   simp_all
  .rw[B3 a_];refine e_ ?_
   simp_all
def zp{t x y:Int}(g:0<=t/\t<=255):Cc 129 [.i t,.i x,.i y] [.i (if Za t x y then 0 else 1)]:=by
 by_cases a:Za t x y=true
 .rw[rv a];unfold Za at a;rw[EP]at a;exact Qg ⟨g.1,a.1⟩ a.2.1 a.2.2.1 a.2.2.2
 .rw[te a];unfold Za at a;rw[EP]at a;refine q129 rfl ?_;unfold GT;simp only[u5];refine e_ ?_;by_cases f:8<=t
  .rw[FT f];simp(disch:=omega)only[↓nc]
   try rfl
  rw[FR a_]
  repeat (first|simp(disch:=omega)only[↓nc]|refine ai qO ?_)
  by_cases b:-16384<=x/\x<=16384
  case neg=>
   rw[Fv b];simp(disch:=omega)only[↓nc,EB]
   try rfl
  rw[E8 b]
  repeat (first|simp(disch:=omega)only[↓nc,DP]|refine ai qO ?_)
  by_cases c:-16384<=y/\y<=16384
  case neg=>
   rw[Fv c];simp(disch:=omega)only[↓nc,EB]
   try rfl
  rw[E8 c];simp(disch:=omega)only[↓nc,DP];have j:(x+y)%2≠0:=λe=>a ⟨a_,b,c,e⟩;rcases Int.le_total 0 (x+y)with d|d
  .repeat (first|simp(disch:=omega)only[↓nc]|rw[E5 d a_])
   try rfl
  .have h:-(-(x+y)%2)≠0:=a_
   repeat (first|simp(disch:=omega)only[↓nc]|rw[Gh d a_])
   try rfl
def MU{m:Mv}{n:Int}(h:CM n m)(c:n<=100000):Cc 156 (CT m) (if NB m then CT m++[.i 0]else [.i 0,.i 0,.i 0,.i 3]):=by
 refine q156 rfl ?_;unfold Si;simp only[u5]
 repeat (first|simp(disch:=omega)only[↓nc]|refine ai (zp (by have:=h.1;grind)) ?_)
 have e:Za (ofNat m.1) m.2.1 m.2.2=NB m:=by
  have a:=h.1;have b:=h.2.2.2.2.2;unfold Za NB
  grind
 rw[e];cases NB m with
 |true=>
  simp only[if_true];simp(disch:=omega)only[↓nc]
  try rfl
 |false=>
  simp only[D7,if_false];simp(disch:=omega)only[↓nc]
  try rfl
def t'{a b:Mv}(c:CM 2000 a)(d:CM 16384 b):Cc 131 (CT a++CT b) (if NB (af a b)then CT (af a b)++[.i 0]else [.i 0,.i 0,.i 0,.i 3]):=by
 have e:=en c d;refine q131 rfl ?_;unfold Se;simp only[u5];simp only[CT,DI,DA]
 repeat (first|simp(disch:=omega)only[↓nc]|refine ai (vI c a_) ?_|refine ai (vI d a_) ?_|refine ae (AX d.1) ?_|refine ae (vS d.1) ?_|refine ai (Qj d.1 ⟨by have:=c.2;omega,by have:=c.2;omega,by have:=c.2;omega,by have:=c.2;omega⟩) ?_|refine ae (AX c.1) ?_|refine ae (vS c.1) ?_|refine ai (LY c.1 d.1) ?_|refine ai (Qs fH) ?_)
 have k:=e;obtain⟨_,f,g,h,j,_⟩:=k;unfold af at f g h j;simp only at f g h j;rw[E4 a_ a_,E4 a_ a_];refine ai (MU (m:=af a b) e a_) ?_;cases NB (af a b)with
 |true=>
  simp only[if_true];simp only[CT,DI,DA];simp(disch:=omega)only[↓nc]
  try rfl
 |false=>
  simp only[D7,if_false];simp(disch:=omega)only[↓nc]
  try rfl
def OB{c:Cl}(b:c.2.2<4):Cc 81 (Dl c) [.i (if JN c then 0 else 1)]:=by
 by_cases a:JN c=true
 .rw[rv a];unfold JN at a;rw[EP]at a;exact OC ⟨a.1,a.2.1,a.2.2.1,a.2.2.2,b⟩
 .rw[te a];unfold JN at a;rw[EP]at a;refine q81 rfl ?_;unfold f81;simp only[u5];simp only[Dl];refine e_ ?_;by_cases d:c.1 < -4096
  .repeat (first|simp(disch:=omega)only[↓nc])
   try rfl
  by_cases e:4096<c.1
  .repeat (first|simp(disch:=omega)only[↓nc])
   try rfl
  by_cases f:c.2.1 < -4096
  .repeat (first|simp(disch:=omega)only[↓nc])
   try rfl
  .have g:4096<c.2.1:=a_
   repeat (first|simp(disch:=omega)only[↓nc])
   try rfl
def Ql{m:Mv}(b:CM 16384 m){c:Cl}(a:-1000<=c.1/\c.1<=1000/\-1000<=c.2.1/\c.2.1<=1000/\c.2.2<4):Cc 105 (CT m++Dl c) (if JN (aB m c)then Dl (aB m c)++[.i 0]else [.i 0,.i 0,.i 0,.i 3]):=by
 have d:=vJ b (k:=1000) ⟨a.1,a.2.1,a.2.2.1,a.2.2.2.1⟩;refine q105 rfl ?_;unfold Ss;simp only[u5];simp only[CT,Dl,DI,DA]
 repeat (first|simp(disch:=omega)only[↓nc]|refine ai (vI b a_) ?_|refine ai (OC (c:=c) ⟨a_,a_,a_,a_,a.2.2.2.2⟩) ?_)
 refine ai (V1 b a) ?_;simp only[Dl];refine e_ ?_;refine ai (OB (c:=aB m c) d.2.2.2.2) ?_;cases JN (aB m c)with
 |true=>
  simp only[if_true];simp(disch:=omega)only[↓nc]
  try rfl
 |false=>
  simp only[D7,if_false];simp(disch:=omega)only[↓nc]
  try rfl
def FY.eq{w v:Nat}{l:TD}{A:TO}(g:Sh w v)(hA:FY w v l A){G:TH}(f:oL w v l G)(h0:G 0=CJ):∀c,c<4*w*v->A[c]?=some (G c):=
 xC g (by rw[h0];exact hA.a0) λc e n a b d h=>by rw[f c e n a b d];exact hA.cons c e n _ a b d h
def DO(w v:Nat)(G:TH)(r:Mv):TO:=(range (4*w*v)).map λc=>af (G c) r
abbrev _root_.TM:=List Cl
def Ck(w v:Nat)(G:TH)(r:Mv):TM:=(range (4*w*v)).map λc=>aB (af (G c) r) (q8 w c)
def kq{w v:Nat}{G:TH}{r:Mv}{c:Nat}(h:c<4*w*v):(DO w v G r)[c]?=some (af (G c) r):=by
 unfold DO
 simp_all
def gm{w v:Nat}{G:TH}{r:Mv}{c:Nat}(h:c<4*w*v):(Ck w v G r)[c]?=some (aB (af (G c) r) (q8 w c)):=by
 unfold Ck
 simp_all
def take_set{i7:Type}{L A:List i7}{j:Nat}{a:i7}(b:L[j]?=some a)(c:L.length=A.length):(L.take j++A.drop j).set j a=L.take (j+1)++A.drop (j+1):=by
 have e:=am b;have d:(L.take j).length=j:=jn;rw[qcH _ _ a_,d,WH,SZ a_,List.set_cons_zero,Ii,b];simp
def VX{i7:Type}{L A:List i7}{j:Nat}{a:i7}(hA:A[j]?=some a)(b:L.length=A.length):(L.take j++A.drop j)[j]?=some a:=by
 grind
def xq{i7:Type}{L A:List i7}{j:Nat}(a:L.length=A.length)(b:j<=L.length):(L.take j++A.drop j).length=A.length:=by
 simp_all
def dM{i7:Type}{e cx n:Nat}{enc:i7->Tn}(b:∀a,(enc a).length=e){h:HL}{id:Nat}{L:List i7}(d:h[id]?=some (.o (.cells (L.flatMap enc) e true)))(f:n=L.length):q9 h (.slice (some ⟨id,0,le e⟩) n cx) e enc L:=by
 subst f;have c:=aR (e:=e) (enc:=enc) (l:=L) λa _=>b a;exact⟨λa _=>b a,c,.inr ⟨id,0,cx,_,true,rfl,d,Sx.wa c⟩⟩
def Ful{i7:Type}(h:HL)(x:Value)(e:Nat)(enc:i7->Tn)(l:List i7):Prop:=∃id,x = .slice (some ⟨id,0,le e⟩) l.length (l.length+1)/\h[id]?=some (.o (.cells (l.flatMap enc) e true))
def Ful.ls{i7:Type}{h:HL}{x:TR}{e:Nat}{enc:i7->Tn}{l:List i7}(b:∀a,(enc a).length=e)(d:Ful h x e enc l):q9 h x e enc l:=by
 obtain⟨id,rfl,c⟩:=d;exact dM b c rfl
abbrev qH:Value:=.slice none 0 0
def G7(w:Nat)(G:TH)(r:Mv)(n:Nat):Prop:=∀c,c<n->NB (af (G c) r)=true/\JN (aB (af (G c) r) (q8 w c))=true
def G7.succ{w:Nat}{G:TH}{r:Mv}{n:Nat}(h:G7 w G r n)(h1:NB (af (G n) r)=true)(a:JN (aB (af (G n) r) (q8 w n))=true):G7 w G r (n+1):=λc b=>by
 by_cases e:c=n
 .simp_all
 .exact h c a_
structure Cz(w v:Nat)(l:TD)(G:TH):Prop where
 g:oL w v l G
 z:G 0=CJ
 ok:∀c,c<4*w*v->CM 2000 (G c)
def FY.consO{w v:Nat}(k:Sh w v){l:TD}{A:TO}(h:FY w v l A):Cz w v l (λc=>A.getD c CJ):=by
 have m:=E_ k;have d:∀c,c<4*w*v->A[c]?=some (A.getD c CJ):=λc b=>by
  obtain⟨a,o⟩:=aq (l:=A) (i:=c) (by rw[h.len];exact b)
  simp_all
 refine⟨λc e n b g j=>?_,?_,λc b=>h.ok _ (Cf (d c b))⟩
 .have f:=h.cons c e n _ b g j (d c b)
  grind
 .have f:=h.a0
  grind
def dH{w v:Nat}(a:Sh w v){j:Nat}(e:j<4*w*v):-1000<=(q8 w j).1/\(q8 w j).1<=1000/\-1000<=(q8 w j).2.1/\(q8 w j).2.1<=1000/\(q8 w j).2.2<4:=by
 have d:=E_ a;have b:j / 4%w<=j / 4:=qds _ _;have c:j / 4 / w<=j / 4:=r2 _ _;refine⟨?_,?_,?_,?_,Nd _ a_⟩
 .exact Int.le_trans (show(-1000:Int)<=0 by decide) (GK _)
 .exact hy.2 (show j / 4%w<=1000 by omega)
 .exact Int.le_trans (show(-1000:Int)<=0 by decide) (GK _)
 .exact hy.2 (show j / 4 / w<=1000 by omega)
def Xw(w v:Nat)(l:TD)(r:Mv)(a:TG)(h':HL):Prop:=
 (a=[.v qH,.v qH,.i 11]/\¬ ∃G,oL w v l G/\G 0=CJ)∨
 ∃G,Cz w v l G/\((a=[.v qH,.v qH,.i 3]/\¬G7 w G r (4*w*v))∨
  (∃b ix,a=[.v b,.v ix,.i 0]/\G7 w G r (4*w*v)/\Ful h' b 3 sd (DO w v G r)/\Ful h' ix 3 bU (Ck w v G r)))
def Ow{w v:Nat}(f:Sh w v){l:TD}(hk:(l.map bo).Nodup)(ag:l.length<=1000){H:HL}{x:TR}(hl:q9 H x 3 n4 l)(ad:aA cc ac 16 [.i (.ofNat w),.i (.ofNat v),.v x] (g_ aa H) [.i 0] (g_ aa H))
  {r:Mv} (hr:CM 16384 r) :
  ∃U h',aA cc ac 101 ([.i (.ofNat w),.i (.ofNat v),.v x]++CT r) (g_ aa H) U (g_ aa h')/\v_ H h'/\Xw w v l r U h':=by
 have hN:=E_ f;obtain⟨a2,p,c1,d,P⟩:=Br f hk ag hl;have a1:=x101 (ls:=[.i (.ofNat w),.i (.ofNat v),.v x,.i (ofNat r.1),.i r.2.1,.i r.2.2]) (K:=λU h'=>v_ H h'/\Xw w v l r U h') (H:=H) (k_ (k_ (q7 hl.i_ (k_ (k_ (k_ t0)))))) (by
  unfold Sq;simp only[u5]
  repeat (first|simp(disch:=omega)only[↓nc]|refine ak ad ?_|refine ai (vI hr a_) ?_)
  refine ak c1 ?_;rcases P with⟨A,id,rfl,i',O,hA⟩|⟨rfl,al⟩
  case inr=>
   refine e_ ?_;exact⟨d,.inl ⟨C2,al⟩⟩
  refine e_ ?_;have I:=hA.consO f;generalize a0:(λc=>A.getD c CJ)=G at I;have V:=hA.eq f I.g I.z;have t:(DO w v G r).length=A.length:=by rw[hA.len];simp[DO]
  have hI:(Ck w v G r).length=4*w*v:=by simp[Ck]
  have ax:=am O;refine ae (x:=ofNat (4*w*v)) rfl ?_;refine ae (dN a_) ?_;refine e_ ?_;rw[show(ofNat (4*w*v)).toNat=4*w*v from rfl];have z0:HO.o (.cells (aL [.int .i64 0,.int .i64 0,.int .u8 0] (4*w*v)) 3 true)=HO.o (.cells ((replicate (4*w*v) ((0,0,0):Cl)).flatMap bU) 3 true):=by
   rw[←cT (enc:=bU) (z:=((0,0,0):Cl)) (n:=4*w*v)];rfl
  rw[z0];refine ae (x:=ofNat (4*w*v)) rfl ?_;have hZ:(Ck w v G r).length=(replicate (4*w*v) ((0,0,0):Cl)).length:=by rw[hI];simp
  have k:(p++[HO.o (.cells ((replicate (4*w*v) ((0,0,0):Cl)).flatMap bU) 3 true)])[id]?=some (.o (.cells (A.flatMap sd) 3 true)):=v_.get ⟨_,rfl⟩ O;have J:(p++[HO.o (.cells ((replicate (4*w*v) ((0,0,0):Cl)).flatMap bU) 3 true)])[p.length]?=some (HO.o (.cells ((replicate (4*w*v) ((0,0,0):Cl)).flatMap bU) 3 true)):=aD;have L:v_ H (p++[HO.o (.cells ((replicate (4*w*v) ((0,0,0):Cl)).flatMap bU) 3 true)]):=d.Fa _;have N:p.length≠id:=a_;have M:H.length<=p.length:=d.len;generalize replicate (4*w*v) ((0,0,0):Cl)=Z at *;generalize p++[HO.o (.cells (Z.flatMap bU) 3 true)]=h2 at *;generalize p.length=iX at *;refine bN (g9:=HL) (4*w*v) (λj _=>[.i (ofNat j)]) (λ_ s=>s) (λj s=>v_ H s/\s[id]?=some (.o (.cells (((DO w v G r).take j++A.drop j).flatMap sd) 3 true))/\s[iX]?=some (.o (.cells (((Ck w v G r).take j++Z.drop j).flatMap bU) 3 true))/\G7 w G r j) (j0:=0) (s0:=h2) rfl rfl (C6 _) ⟨L,by simpa using k,by simpa using J,λc hc=>a_⟩ ?_;clear k J L;rintro j h hj ⟨L,k,J,u⟩ aE C;refine e_ ?_;by_cases b:j<4*w*v
  .rw[aN b];refine e_ ?_;have ha:=V j b;have X:=kq (G:=G) (r:=r) b;have W:=gm (G:=G) (r:=r) b;have e:=xq (j:=j) t (by rw[t,hA.len];omega);have ay:=xq (j:=j) hZ a_;refine aP (dM db k (by rw[e,hA.len])) rfl (VX ha t) ?_;unfold sd;refine e_ ?_;refine ai (IL (se w v f.1 f.2.1 f.2.2.1 f.2.2.2) b) ?_;unfold HN;refine e_ ?_;have Q:CM 2000 (G j):=hA.ok _ (Cf ha);have av:=en Q hr;refine ai (t' Q hr) ?_;cases D:NB (af (G j) r)with
   |false=>
    simp only[D7,if_false]
    repeat (first|simp(disch:=omega)only[↓nc]|refine dh (enc:=sd) (l:=(DO w v G r).take j++A.drop j) (i:=j) (a:=CJ) db k rfl jn (by rw[e,hA.len]) rfl ?_)
    exact⟨iW L i',.inr ⟨G,I,.inl ⟨C2,λq=>by rw[(q j b).1]at D;cases D⟩⟩⟩
   |true=>
   simp only[if_true];have y:NB (af (G j) r)=true:=D;have R:=Ks av y;have B:=dH f b;have an:=y;generalize hm:af (G j) r=m at *;simp only[CT,DI,DA];refine e_ ?_;refine dh (enc:=sd) (l:=(DO w v G r).take j++A.drop j) (i:=j) (a:=m) db k rfl jn (by rw[e,hA.len]) rfl ?_;rw[take_set X t];have S:(po h id 3 sd ((DO w v G r).take (j+1)++A.drop (j+1)))[id]?=some (.o (.cells (((DO w v G r).take (j+1)++A.drop (j+1)).flatMap sd) 3 true)):=bI (am k);have F:(po h id 3 sd ((DO w v G r).take (j+1)++A.drop (j+1)))[iX]?=some (.o (.cells (((Ck w v G r).take j++Z.drop j).flatMap bU) 3 true)):=by rw[cu N];exact J
   have T:v_ H (po h id 3 sd ((DO w v G r).take (j+1)++A.drop (j+1))):=iW L i';generalize po h id 3 sd ((DO w v G r).take (j+1)++A.drop (j+1))=h3 at *;refine e_ ?_;have E:=xq (j:=j+1) t (by rw[t,hA.len];omega);refine aP (a:=m) (dM db S (by rw[E,hA.len])) rfl ?_ ?_
   .grind
   unfold sd;refine e_ ?_;refine ai (Ql (c:=q8 w j) R B) ?_;cases ap:JN (aB m (q8 w j))with
   |false=>
    simp only[D7,if_false]
    repeat (first|simp(disch:=omega)only[↓nc]|refine dh (enc:=bU) (l:=(Ck w v G r).take j++Z.drop j) (i:=j) (a:=((0,0,0):Cl)) cG F rfl a_ a_ rfl ?_)
    exact⟨iW T M,.inr ⟨G,I,.inl ⟨C2,λq=>by
     have:=(q j b).2
     simp_all⟩⟩⟩
   |true=>
   simp only[if_true];generalize Y:aB m (q8 w j)=ci at *;simp only[Dl,DI,DA];refine e_ ?_;refine dh (enc:=bU) (l:=(Ck w v G r).take j++Z.drop j) (i:=j) (a:=ci) cG F rfl a_ a_ rfl ?_;rw[take_set W hZ];refine e_ ?_;rw[aY a_];refine C _ b ⟨iW T M,by rw[cu (CY N)];exact S,bI (am F),u.succ (by rw[hm];exact an) (by rw[hm,Y];exact ap)⟩
  .obtain rfl:j=4*w*v:=a_;rw[aM (A9 _)];refine e_ ?_;rw[Ik (by rw[t,hA.len];omega),BR (by rw[hA.len];omega),GU]at k;rw[Ik a_,BR a_,GU]at J;have e1:(DO w v G r).length=4*w*v:=by rw[t,hA.len]
   refine⟨L,.inr ⟨G,I,.inr ⟨_,_,rfl,u,⟨id,?_,k⟩,⟨iX,?_,J⟩⟩⟩⟩
   .rw[e1]
   .rw[hI];rfl)
 grind
structure BothC(ls:TG)(H:HL)(lx ix:Value)(e:Int)(h1:HL):Prop where
 c:aA cc ac 101 ls (g_ aa H) [.v lx,.v ix,.i e] (g_ aa h1)
 p:v_ H h1
 g1:aF lx=true
 g2:aF ix=true
section
variable {w v t a b e:Int} {x lx ix:Value} {H h1:HL} (hx:aF x=true) (hb:BothC [.i w,.i v,.v x,.i t,.i a,.i b] H lx ix e h1)
include hx hb
theorem QV:aA cc ac 103 [.i w,.i v,.v x,.i t,.i a,.i b] (g_ aa H) [.v lx,.i e] (g_ aa h1):=by
 exact xK x103 (k_ (k_ (q7 hx (k_ (k_ (k_ t0)))))) (by
  unfold Va;simp only[u5]
  repeat (first|simp(disch:=omega)only[↓nc]|refine ak hb.c ?_)
  simp_all)
theorem PF:aA cc ac 68 [.i w,.i v,.v x,.i t,.i a,.i b] (g_ aa H) [.v ix,.i e] (g_ aa h1):=by
 exact xK x68 (k_ (k_ (q7 hx (k_ (k_ (k_ t0)))))) (by
  unfold f68;simp only[u5]
  repeat (first|simp(disch:=omega)only[↓nc]|refine ak hb.c ?_)
  simp_all)
end
section
variable {w v:Nat} {l:TD} {A:TO} {B:Ty} {q:TC}
def JS.begin{c0:Nat}(h:JS w v l A B q λ_ _=>True):JS w v l A B (q.filter λc=>!Nat.beq c c0) λc e=>c=c0->False:=by
 refine⟨h.a0,h.b0,λc a=>h.q1 c (Gm.1 a).1,λc e n i a d f b g=>?_,h.bd,h.un⟩;refine h.dn c e n trivial a d f b λj=>g ?_
 simp_all
def JS.skipP{c0 j:Nat}{P:Tz}(h:JS w v l A B q λc e=>c=c0->P e)(m:Cv w v c0 j=none):JS w v l A B q λc e=>c=c0->P e∨e=j:=by
 refine⟨h.a0,h.b0,h.q1,λc e n k d g a b i=>?_,h.bd,h.un⟩;refine h.dn c e n (λf=>?_) d g a b i
 grind
def JS.seenP{c0 j n:Nat}{a:Mv}{P:Tz}(h:JS w v l A B q λc e=>c=c0->P e)(x:Cv w v c0 j=some n)(t:B[n]?=some true)(s:A[c0]?=some a)(u:A[n]?=some (Ej w l a c0 n j)):JS w v l A B q λc e=>c=c0->P e∨e=j:=by
 refine⟨h.a0,h.b0,h.q1,λc e r m k o i d p=>?_,h.bd,h.un⟩;by_cases f:c=c0/\e=j
 .simp_all
 .exact h.dn c e r (λb=>(m b).resolve_right λg=>f ⟨b,g⟩) k o i d p
def JS.freshP(J:Sh w v){c0 j n:Nat}{a:Mv}{P:Tz}(h:JS w v l A B q λc e=>c=c0->P e)(O:A.length=4*w*v)(Q:B.length=4*w*v)(i:c0<4*w*v)(C:j<3)(D:Cv w v c0 j=some n)(p:B[c0]?=some true)(L:B[n]?=some false)(H:A[c0]?=some a) :
  JS w v l (A.set n (Ej w l a c0 n j)) (B.set n true) (q++[n]) λc e=>c=c0->P e∨e=j:=by
 obtain⟨X,_,_,_,Y⟩:=dO J i C D;have K:(B.set n true)[n]?=some true:=GR a_;have m:(A.set n (Ej w l a c0 n j))[n]?=some (Ej w l a c0 n j):=GR a_;have s:∀c,c≠n->(B.set n true)[c]?=B[c]?:=λc g=>Hj (CY g);have hA:∀c,c≠n->(A.set n (Ej w l a c0 n j))[c]?=A[c]?:=λc g=>Hj (CY g);have k:(0:Nat)≠n:=λe=>by have:=h.b0;simp_all
 have F:CM (20*(DK B:Int)) a:=h.bd c0 a p H;refine⟨by rw[hA 0 k];exact h.a0,by rw[s 0 k];exact h.b0,λc g=>?_,λc e S M g N E f I=>?_,λc t f d=>?_,λG u o c t f d=>?_⟩
 .rcases Ek.1 g with g|g
  .have:=h.q1 c g
   grind
  simp_all
 .have b:c≠n:=λe=>I (by rw[e];simp);have y:c∉q:=λR=>I (Jq _ R);rw[s c b]at f;by_cases x:c=c0/\e=j
  .simp_all
  .obtain⟨U,T,V,W⟩:=h.dn c e S (λr=>(M r).resolve_right λz=>x ⟨r,z⟩) g N E f y
   grind
 .rw[gN L];by_cases b:c=n
  .rw[b,m]at d;cases d;exact aZ (yz J i C D F a_) a_
  .rw[s c b]at f;rw[hA c b]at d;exact aZ (h.bd c t f d) a_
 .by_cases b:c=n
  .rw[b,m]at d;cases d;rw[b,u c0 j n i C D,←h.un G u o c0 a p H]
  .rw[s c b]at f;rw[hA c b]at d;exact h.un G u o c t f d
def JS.doneP{c0:Nat}{P:Tz}(h:JS w v l A B q λc e=>c=c0->P e)(g:∀e,e<3->P e):JS w v l A B q λ_ _=>True:=
 ⟨h.a0,h.b0,h.q1,λc e n _ d a f b i=>h.dn c e n (λ_=>g e a) d a f b i,h.bd,h.un⟩
def JS.KV{c0:Nat}{P Q:Tz}(h:JS w v l A B q λc e=>c=c0->P e)(i:∀e,Q e->P e):JS w v l A B q λc e=>c=c0->Q e:=
 ⟨h.a0,h.b0,h.q1,λc e n d a f g b j=>h.dn c e n (λa=>i e (d a)) a f g b j,h.bd,h.un⟩
end
def eK(q k:Nat):Nat:=if k=0 then 0 else if decide (q%2=0)=decide (k=1)then 1 else 2
def iq(q k:Nat):eK q k<3:=by
 unfold eK
 grind
def ZY{q:Nat}(e:Nat)(c:e<3):∃k,k<3/\eK q k=e:=by
 have a:q%2=0∨q%2=1:=a_;have b:e=0∨e=1∨e=2:=a_;rcases a with a|a<;>rcases b with rfl|rfl|rfl
 .exact⟨0,a_,rfl⟩
 .exact⟨1,a_,by simp[eK,a]⟩
 .exact⟨2,a_,by simp[eK,a]⟩
 .exact⟨0,a_,rfl⟩
 .exact⟨2,a_,by simp[eK,a]⟩
 .exact⟨1,a_,by simp[eK,a]⟩
def DF(m:Mv)(p:Int×Int):Int×Int:=(mA m.1*p.1+mB m.1*p.2+6*m.2.1,mC m.1*p.1+mD m.1*p.2+6*m.2.2)
def w0(q:Nat):Int:=match q with
 |0=>3
 |1=>5
 |2=>3
 |_=>1
def x6(q:Nat):Int:=match q with
 |0=>1
 |1=>3
 |2=>5
 |_=>3
def CL(c:Cl):Int×Int:=(6*c.1+w0 c.2.2,6*c.2.1+x6 c.2.2)
def cn(x y:Int):Nat:=if y<x/\x+y<6 then 0 else if y<x then 1 else if 6<x+y then 2 else 3
def lE(p:Int×Int):Cl:=(p.1 / 6,p.2 / 6,cn (p.1 - 6*(p.1 / 6)) (p.2 - 6*(p.2 / 6)))
def EC{q:Nat}(h:q<4):q=0∨q=1∨q=2∨q=3:=a_
def kA{m:Mv}{c:Cl}(a:m.1<8)(b:c.2.2<4):lE (DF m (CL c))=aB m c:=by
 obtain⟨t,X,Y⟩:=m;obtain⟨x,y,q⟩:=c;simp only at a b;rcases t8 a with rfl|rfl|rfl|rfl|rfl|rfl|rfl|rfl<;>rcases EC b with rfl|rfl|rfl|rfl
 all_goals
  simp only[lE,DF,CL,w0,x6,mA,mB,mC,mD,aB,qT];refine WO ?_ (WO ?_ ?_)
  .simp;omega
  .simp;omega
  .simp only[cn]
   grind
end Go.Am
namespace Go.Am
open Sx
def Vx{a b:Mv}(c:a.1<8)(d:b.1<8)(p:Int×Int):DF b (DF a p)=DF (af a b) p:=by
 obtain⟨s,X,Y⟩:=a;obtain⟨t,U,V⟩:=b;obtain⟨x,y⟩:=p;simp only at c d;rcases t8 c with rfl|rfl|rfl|rfl|rfl|rfl|rfl|rfl<;>rcases t8 d with rfl|rfl|rfl|rfl|rfl|rfl|rfl|rfl
 all_goals
  simp[DF,af,Da,mA,mB,mC,mD];omega
def VU{s t:Nat}(d:s<8)(e:t<8)(h1:mA s=mA t)(a:mC s=mC t)(b:mB s=mB t)(c:mD s=mD t):s=t:=by
 rcases t8 d with rfl|rfl|rfl|rfl|rfl|rfl|rfl|rfl<;>rcases t8 e with rfl|rfl|rfl|rfl|rfl|rfl|rfl|rfl
 all_goals first
  |rfl
  |(exfalso;simp[mA,mB,mC,mD]at h1 a b c)
end Go.Am
namespace Go.Am
open Sx Go.Proofs
def Hy(w v c k:Nat):Int:=match Cv w v c (eK (c%4) k)with
 |some n=>ofNat n
 |none=>-1
def hR(w v c k:Nat):Bool:=match Cv w v c (eK (c%4) k)with
 |some n=>lO 63 (Dl (q8 w c)++Dl (q8 w n)) (CT (wd (s7 (q8 w c) (eK (c%4) k))))
 |none=>true
def It(w v c k:Nat):Bool:=lO 61 [.i (.ofNat w),.i (.ofNat v),.i (.ofNat c),.i (.ofNat k)] [.i (Hy w v c k)]&&(lO 49 (Dl (q8 w c)++[.i (.ofNat k)]) (Dl (DH (q8 w c) (eK (c%4) k)))&&(lO 90 [.i (.ofNat w),.i (.ofNat v),.i (.ofNat c),.i (.ofNat k)] [.i (.ofNat (eK (c%4) k))]&&hR w v c k))
def cC(w v:Nat):Bool:=(range (4*w*v)).all λc=>lO 25 [.i (.ofNat w),.i (.ofNat v),.i (.ofNat c)] (Dl (q8 w c))&&(range 3).all λk=>It w v c k
def a7:∀w v:Nat,1<=w->w<=3->1<=v->v<=3->cC w v=true:=by
 have a:((range 3).all λw=>(range 3).all λv=>cC (w+1) (v+1))=true:=d_;intro w v c d e f;have b:=A_.1 a (w - 1) (Cm.2 a_);have g:=A_.1 b (v - 1) (Cm.2 a_)
 simp_all
def S3(w v:Nat):Prop:=1<=w/\w<=3/\1<=v/\v<=3
def S3.sh{w v:Nat}(h:S3 w v):Sh w v:=⟨h.1,by have:=h.2.1;omega,h.2.2.1,by have:=h.2.2.2;omega⟩
section
variable {w v c k:Nat}
def uj(h:S3 w v)(a:c<4*w*v):lO 25 [.i (.ofNat w),.i (.ofNat v),.i (.ofNat c)] (Dl (q8 w c))=true/\∀k,k<3->It w v c k=true:=by
 have:=A_.1 (a7 w v h.1 h.2.1 h.2.2.1 h.2.2.2) c (Cm.2 a)
 simp_all
def kK(h:S3 w v)(a:c<4*w*v):Cc 25 [.i (.ofNat w),.i (.ofNat v),.i (.ofNat c)] (Dl (q8 w c)):=fU (uj h a).1 rfl d_ rfl
def zx(h:S3 w v)(a:c<4*w*v)(b:k<3):Cc 61 [.i (.ofNat w),.i (.ofNat v),.i (.ofNat c),.i (.ofNat k)] [.i (Hy w v c k)]:=by
 have:=(uj h a).2 k b;unfold It at this;rw[vd]at this;exact fU this.1 rfl d_ rfl
def O3(h:S3 w v)(a:c<4*w*v)(b:k<3):Cc 90 [.i (.ofNat w),.i (.ofNat v),.i (.ofNat c),.i (.ofNat k)] [.i (.ofNat (eK (c%4) k))]:=by
 have:=(uj h a).2 k b;unfold It at this;rw[vd,vd,vd]at this;exact fU this.2.2.1 rfl d_ rfl
def VY(h:S3 w v)(a:c<4*w*v)(b:k<3){n:Nat}(d:Cv w v c (eK (c%4) k)=some n):Cc 63 (Dl (q8 w c)++Dl (q8 w n)) (CT (wd (s7 (q8 w c) (eK (c%4) k)))):=by
 have:=(uj h a).2 k b;unfold It hR at this;rw[vd,vd,vd,d]at this;exact fU this.2.2.2 rfl d_ rfl
end
def hP:ofNat 0=0:=rfl
def dk:ofNat 1=1:=rfl
def dA:ofNat 2=2:=rfl
def ez:ofNat 3=3:=rfl
def eC:ofNat 4=4:=rfl
def eG:ofNat 5=5:=rfl
def eu:ofNat 6=6:=rfl
def dC:ofNat 7=7:=rfl
def vm{m:Mv}{x y:Int}(a:m.1<8)(b:-100000<=m.2.1/\m.2.1<=100000/\-100000<=m.2.2/\m.2.2<=100000)(c:-10000000<=x/\x<=10000000/\-10000000<=y/\y<=10000000):Cc 65 (CT m++[.i x,.i y]) [.i (DF m (x,y)).1,.i (DF m (x,y)).2]:=by
 obtain⟨t,X,Y⟩:=m;simp only at a b;refine q65 rfl ?_;unfold f65;simp only[u5];simp only[CT,DI,DA];rcases t8 a with rfl|rfl|rfl|rfl|rfl|rfl|rfl|rfl
 all_goals
  simp only[hP,dk,dA,ez,eC,eG,eu,dC]
  repeat (first|simp(disch:=omega)only[↓nc]|refine zL 5 ?_)
  simp only[DF,mA,mB,mC,mD,Hz,Lf.i.injEq,and_true];omega
def rl{c:Cl}(a:c.2.2<4)(b:-100000<=c.1/\c.1<=100000/\-100000<=c.2.1/\c.2.1<=100000):Cc 66 (Dl c) [.i (CL c).1,.i (CL c).2]:=by
 obtain⟨x,y,q⟩:=c;simp only at a b;refine q66 rfl ?_;unfold f66;simp only[u5];simp only[Dl];have d:Cc 100 [.i x,.i y,.i (ofNat q)] (match q with
  |0=>[.i (6*x+3),.i (6*y+3),.i (6*x),.i (6*y),.i (6*x+6),.i (6*y)]
  |1=>[.i (6*x+3),.i (6*y+3),.i (6*x+6),.i (6*y),.i (6*x+6),.i (6*y+6)]
  |2=>[.i (6*x+3),.i (6*y+3),.i (6*x+6),.i (6*y+6),.i (6*x),.i (6*y+6)]
  |_=>[.i (6*x+3),.i (6*y+3),.i (6*x),.i (6*y+6),.i (6*x),.i (6*y)]):=by
  refine q100 rfl ?_;unfold Sp;simp only[u5];rcases EC a with rfl|rfl|rfl|rfl
  all_goals
   simp only[hP,dk,dA,ez,eC,eG,eu,dC]
   repeat (first|simp(disch:=omega)only[↓nc] )
 rcases EC a with rfl|rfl|rfl|rfl
 all_goals
  repeat (first|simp(disch:=omega)only[↓nc]|refine ai d ?_)
  simp only[CL,w0,x6,Hz,Lf.i.injEq,and_true];omega
def sK{a:Int}(h:-100000000<=a/\a<=100000000):Cc 98 [.i a,.i 6] [.i (a / 6)]:=by
 refine q98 rfl ?_;unfold f98;simp only[u5];by_cases b:a<0
 .repeat (first|simp(disch:=omega)only[↓nc]|rw[Gg a_ a_ a_])
  simp only[Hz,Lf.i.injEq,and_true];omega
 .repeat (first|simp(disch:=omega)only[↓nc]|rw[Gg a_ a_ a_])
def Zv{x y:Int}(h:-100000000<=x/\x<=100000000/\-100000000<=y/\y<=100000000):Cc 64 [.i x,.i y] (Dl (lE (x,y))):=by
 refine q64 rfl ?_;unfold f64;simp only[u5]
 repeat (first|simp(disch:=omega)only[↓nc]|refine ai (sK a_) ?_)
 have e:Dl (lE (x,y))=[.i (x / 6),.i (y / 6),.i (ofNat (cn (x - 6*(x / 6)) (y - 6*(y / 6))))]:=rfl;rw[e];have g:0<=x - 6*(x / 6)/\x - 6*(x / 6)<=5:=a_;have j:0<=y - 6*(y / 6)/\y - 6*(y / 6)<=5:=a_;generalize x / 6=a at *;generalize y / 6=b at *;by_cases c:y - 6*b<x - 6*a<;>by_cases d:x - 6*a+(y - 6*b)<6<;>by_cases f:6<x - 6*a+(y - 6*b)
 all_goals
  first|(exfalso;omega)|skip
  repeat (first|simp(disch:=omega)only[↓nc])
  try simp only[cn,c,d,f,and_true,and_false,true_and,false_and,if_true,if_false]
  try rfl
def pL{m:Mv}{c:Cl}(a:m.1<8)(f:-100000<=m.2.1/\m.2.1<=100000/\-100000<=m.2.2/\m.2.2<=100000)(b:c.2.2<4)(g:-100000<=c.1/\c.1<=100000/\-100000<=c.2.1/\c.2.1<=100000):Cc 24 (CT m++Dl c) (Dl (aB m c)):=by
 refine q24 rfl ?_;unfold f24;simp only[u5];have e:=kA a b;have l:-1000000<=(CL c).1/\(CL c).1<=1000000/\-1000000<=(CL c).2/\(CL c).2<=1000000:=by
  obtain⟨x,y,q⟩:=c;simp only at b g;rcases EC b with rfl|rfl|rfl|rfl<;>simp only[CL,w0,x6]<;>omega
 have k:-100000000<=(DF m (CL c)).1/\(DF m (CL c)).1<=100000000/\-100000000<=(DF m (CL c)).2/\(DF m (CL c)).2<=100000000:=by
  generalize CL c=p at *;obtain⟨t,X,Y⟩:=m;obtain⟨x,y⟩:=p;simp only at a f l;rcases t8 a with rfl|rfl|rfl|rfl|rfl|rfl|rfl|rfl<;>simp only[DF,mA,mB,mC,mD]<;>omega
 have h:=rl b g;have i:=vm (m:=m) (x:=(CL c).1) (y:=(CL c).2) a f a_;have d:=Zv (x:=(DF m (CL c)).1) (y:=(DF m (CL c)).2) k;have j:lE ((DF m (CL c)).1,(DF m (CL c)).2)=aB m c:=e;rw[j]at d;simp only[CT,Dl,DI,DA]at h i d ⊢
 repeat (first|simp(disch:=omega)only[↓nc]|refine ai h ?_|refine ai i ?_|refine ai d ?_)
def Ys{a b c d:Int}{K:Tp}:P1.eqs [(.i a,.i b),(.i c,.i d)] (@i' _ ⟨K⟩)=K (decide (a=b/\c=d)):=by
 show K (cj _)=_;have e:cj [(.i a,.i b),(.i c,.i d)]=decide (a=b/\c=d):=by
  rw[WI];simp[cj,ir]
 rw[e]
def As{a b:Mv}(ha:CM 30000 a)(hb:CM 30000 b):Cc 62 (CT a++CT b) (CT (af a b)):=by
 obtain⟨d,B,C,D,E,R⟩:=ha;obtain⟨o,S,T,U,V,W⟩:=hb;have p:=en (n:=30000) (k:=30000) ⟨d,B,C,D,E,R⟩ ⟨o,S,T,U,V,W⟩;obtain⟨N,Z,g3,g4,g5,_⟩:=p;refine q62 rfl ?_;unfold f62;simp only[u5];have F:∀(x y:Int),(0<=x/\x<=6/\0<=y/\y<=6)->-1000000<=(DF a (x,y)).1/\(DF a (x,y)).1<=1000000/\-1000000<=(DF a (x,y)).2/\(DF a (x,y)).2<=1000000:=by
  intro x y h;obtain⟨t,X,Y⟩:=a;simp only at d B C D E;rcases t8 d with rfl|rfl|rfl|rfl|rfl|rfl|rfl|rfl<;>simp only[DF,mA,mB,mC,mD]<;>omega
 have g:∀(x y:Int),(0<=x/\x<=6/\0<=y/\y<=6)->Cc 65 (CT a++[.i x,.i y]) [.i (DF a (x,y)).1,.i (DF a (x,y)).2]:=λx y h=>vm d a_ a_;have l:∀(x y:Int),(0<=x/\x<=6/\0<=y/\y<=6)->Cc 65 (CT b++[.i (DF a (x,y)).1,.i (DF a (x,y)).2]) [.i (DF (af a b) (x,y)).1,.i (DF (af a b) (x,y)).2]:=λx y h=>by
  have:=vm (m:=b) (x:=(DF a (x,y)).1) (y:=(DF a (x,y)).2) o a_ (by have:=F x y h;omega);rw[show DF b ((DF a (x,y)).1,(DF a (x,y)).2)=DF (af a b) (x,y)from Vx d o (x,y)]at this;exact this
 generalize af a b=G at *;have K:DF G (0,0)=(6*G.2.1,6*G.2.2):=by simp[DF]
 have L:∀t X Y,DF (t,X,Y) (6,0)=(mA t*6+6*X,mC t*6+6*Y):=λt X Y=>by simp[DF]
 have M:∀t X Y,DF (t,X,Y) (0,6)=(mB t*6+6*X,mD t*6+6*Y):=λt X Y=>by simp[DF]
 have O:=g 0 0 a_;have P:=g 6 0 a_;have Q:=g 0 6 a_;have u:=l 0 0 a_;have v:=l 6 0 a_;have w:=l 0 6 a_;obtain⟨t,X,Y⟩:=G;simp only at N Z g3 g4 g5 K;rw[K]at u;rw[L t X Y]at v;rw[M t X Y]at w;simp only[CT,DI,DA]at O P Q u v w ⊢;clear F g l;generalize DF a (0,0)=q0 at *;generalize DF a (6,0)=q1 at *;generalize DF a (0,6)=q2 at *
 repeat (first|simp(disch:=omega)only[↓nc]|refine ai O ?_|refine ai P ?_|refine ai Q ?_|refine ai u ?_|refine ai v ?_|refine ai w ?_)
 refine bN (g9:=Unit) 8 (λj _=>[.i (ofNat j)]) (λ_ _=>_) (λj _=>j<=t) (j0:=0) (s0:=()) rfl rfl (C6 _) (C6 _) ?_;intro j _ ad ag e c;have q:j<8:=a_;have z:=vm (m:=(j,X,Y)) (x:=6) (y:=0) q jn a_;have A:=vm (m:=(j,X,Y)) (x:=0) (y:=6) q jn a_;rw[L]at z;rw[M]at A;have H:=sK (a:=6*X) a_;have I:=sK (a:=6*Y) a_;rw[show 6*X / 6=X by omega]at H;rw[show 6*Y / 6=Y by omega]at I;simp only[CT,DI,DA]at z A;have hn:(0:Int)<=ofNat j/\ofNat j<=7:=⟨GK _,jn⟩;have go:j≠t->e [.i (ofNat j+1)] []:=λh=>c () a_ a_;have r:=λh1 h2 h3 h4=>VU (s:=j) (t:=t) q N h1 h2 h3 h4
 repeat (first|simp(disch:=omega)only[↓nc]|refine ai H ?_|refine ai I ?_|refine ai z ?_)
 by_cases f:mA j=mA t/\mC j=mC t
 .obtain⟨f,J⟩:=f;rw[←f,←J]
  repeat (first|simp(disch:=omega)only[↓nc]|refine ai A ?_)
  by_cases e3:mB j=mB t/\mD j=mD t
  .obtain⟨e3,e4⟩:=e3;obtain rfl:=r f J e3 e4
   repeat (first|simp(disch:=omega)only[↓nc])
  .rw[Ys,Fv a_]
   repeat (first|simp(disch:=omega)only[↓nc])
   grind
 .rw[Ys,Fv a_]
  repeat (first|simp(disch:=omega)only[↓nc])
  grind
def qE{q k:Nat}(h:k<3):eK q (eK q k)=k:=by
 have b:k=0∨k=1∨k=2:=a_;have a:q%2=0∨q%2=1:=a_;rcases a with a|a<;>rcases b with rfl|rfl|rfl<;>simp[eK,a]
def xA{c:Cl}{e f:Nat}(a:c.2.2<4)(g:e<3)(i:f<3)(h:DH c e=DH c f):e=f:=by
 obtain⟨x,y,q⟩:=c;simp only at a;have b:e=0∨e=1∨e=2:=a_;have d:f=0∨f=1∨f=2:=a_;rcases EC a with rfl|rfl|rfl|rfl<;>rcases b with rfl|rfl|rfl<;>rcases d with rfl|rfl|rfl
 all_goals first
  |rfl
  |(exfalso;simp[DH]at h;done)
  |(exfalso;simp[DH]at h;omega)
def V3{w v:Nat}(i:Sh w v){c e f n:Nat}(d:c<4*w*v)(g:e<3)(h:f<3)(h1:Cv w v c e=some n)(j:Cv w v c f=some n):e=f:=by
 obtain⟨_,_,_,a,_⟩:=dO i d g h1;obtain⟨_,_,_,b,_⟩:=dO i d h j;exact xA (c:=q8 w c) (Nd _ a_) g h (a.symm.trans b)
def SS(l:TD)(u e:Nat):Int:=l.foldl (λa c=>if bo c=((ofNat u,ofNat e):Ku)then c.2.2 else a) 0
def wZ{l:TD}{c:Eb}{u e:Nat}:SS (l++[c]) u e=if bo c=((ofNat u,ofNat e):Ku)then c.2.2 else SS l u e:=by
 unfold SS
 simp_all
def rp{l:TD}(d:∀c∈l,c.2.2≠0){u e:Nat}:SS l u e≠0↔CD l u e=true:=by
 have b:∀(l:TD) (a:Int),(∀c∈l,c.2.2≠0)->(l.foldl (λa c=>if bo c=((ofNat u,ofNat e):Ku)then c.2.2 else a) a≠0↔a≠0∨((ofNat u,ofNat e):Ku)∈l.map bo):=by
  intro l
  induction l with
  |nil=>intro a _;simp
  |cons c l f=>
   grind
 unfold CD SS;rw[EP,b l 0 d];simp
def IE(w v:Nat)(l:TD)(c k:Nat):Int:=match Cv w v c (eK (c%4) k)with
 |some n=>SS l (min c n) (eK (c%4) k)
 |none=>0
def CW(w v:Nat)(l:TD):TE:=(range (12*w*v)).map λi=>IE w v l (i / 3) (i%3)
def jx{w v:Nat}{l:TD}:(CW w v l).length=12*w*v:=by simp[CW]
def oG{w v:Nat}{l:TD}{c k:Nat}(a:c<4*w*v)(b:k<3):(CW w v l)[3*c+k]?=some (IE w v l c k):=by
 have:12*w*v=3*(4*w*v):=jn;unfold CW
 grind
def RZ{w v:Nat}:CW w v []=replicate (12*w*v) 0:=by
 unfold CW;rw[List.eq_replicate_iff];refine⟨c_,λx a=>?_⟩;obtain⟨i,_,rfl⟩:=CS.1 a;unfold IE;split<;>rfl
def R1{w v:Nat}(s:Sh w v){l:TD}{u e n:Nat}{kd:Int}(E:u<4*w*v)(g:e<3)(r:Cv w v u e=some n)(C:u<n) :
  CW w v (l++[(ofNat u,ofNat e,kd)])=((CW w v l).set (3*u+eK (u%4) e) kd).set (3*n+eK (n%4) e) kd:=by
 obtain⟨G,y,_,_,H⟩:=dO s E g r;have L:=iq (u%4) e;have M:=iq (n%4) e;have J:=qE (q:=u%4) g;have K:=qE (q:=n%4) g;have z:12*w*v=3*(4*w*v):=jn;refine HA λi=>?_;by_cases I:i<12*w*v
 case neg=>rw[Gu (by rw[jx];omega),Gu (by rw[FG,FG,jx];omega)]
 obtain⟨c,k,h,j,rfl⟩ : ∃c k,c<4*w*v/\k<3/\i=3*c+k:=⟨i / 3,i%3,a_,a_,a_⟩;rw[oG h j,GS,GS,FG,jx,oG h j,rv (show 3*n+eK (n%4) e<12*w*v by omega),rv (show 3*u+eK (u%4) e<12*w*v by omega)];have b:∀a f:Nat,bo (ofNat u,ofNat e,kd)=((ofNat a,ofNat f):Ku)↔u=a/\e=f:=by
  intro a f;unfold bo
  grind
 have d:=qE (q:=c%4) j;have B:=iq (c%4) k;unfold IE;by_cases o:3*n+eK (n%4) e=3*c+k
 .obtain rfl:c=n:=a_;have:eK (c%4) k=e:=kb;rw[rv o,this,y];simp only;rw[wZ,rv ((b _ _).2 ⟨a_,rfl⟩)]
 .rw[te o];by_cases p:3*u+eK (u%4) e=3*c+k
  .obtain rfl:c=u:=a_;have:eK (c%4) k=e:=kb;rw[rv p,this,r];simp only;rw[wZ,rv ((b _ _).2 ⟨a_,rfl⟩)]
  .rw[te p];cases t:Cv w v c (eK (c%4) k)with
   |none=>rfl
   |some m=>
    simp only;rw[wZ,te ?_];rw[b];rintro⟨N,x⟩;rw[←x]at t;have d:eK (c%4) e=k:=by rw[x];exact d
    by_cases A:c<=m
    .simp_all
    .have D:m=u:=a_;subst D;obtain⟨_,F,_⟩:=dO s h g t
     grind
def pU{a b:Nat}{K:Tw}(h:a*b<=1000000000):P1.z_ .mul .i64 (ofNat a) (ofNat b) (@i' _ ⟨K⟩)=K (ofNat (a*b)):=by
 have e:ofNat a*ofNat b=ofNat (a*b):=rfl;rw[GQ jn jn,e]
def KY{b:Nat}{K:Tw}(h:b<=100000000):P1.z_ .mul .i64 3 (ofNat b) (@i' _ ⟨K⟩)=K (ofNat (3*b)):=pU (a:=3) a_
def YC{b:Nat}{K:Tw}(h:b<=100000000):P1.z_ .mul .i64 4 (ofNat b) (@i' _ ⟨K⟩)=K (ofNat (4*b)):=pU (a:=4) a_
def y6{b:Nat}{K:Tw}(h:b<=10000000):P1.z_ .mul .i64 12 (ofNat b) (@i' _ ⟨K⟩)=K (ofNat (12*b)):=pU (a:=12) a_
def yA{a b:Nat}{K:Tw}(h:a+b<=1000000000):P1.z_ .add .i64 (ofNat a) (ofNat b) (@i' _ ⟨K⟩)=K (ofNat (a+b)):=by
 have e:ofNat a+ofNat b=ofNat (a+b):=rfl;rw[E4 jn jn,e]
def EW(k:Int):Tn:=[.int .u8 k]
def nZ(k:Int):(EW k).length=1:=rfl
def VC(w v:Nat)(c:Eb):Prop:=∃u e n:Nat,c.1=ofNat u/\c.2.1=ofNat e/\u<4*w*v/\e<3/\Cv w v u e=some n/\u<n/\0<=c.2.2/\c.2.2<=255
abbrev D8(T:TE):HO:=.o (.cells (T.flatMap EW) 1 true)
def S3.n{w v:Nat}(h:S3 w v):4*w<=12/\4*w*v<=36/\12*w*v<=108/\w*v<=9:=by
 obtain⟨c,a,d,b⟩:=h;have:w*v<=3*3:=ki a b
 grind
def wo{w v:Nat}(C:S3 w v){l:TD}{H:HL}{x:TR}(N:q9 H x 3 n4 l)(hv:∀c∈l,VC w v c)(hn:l.length<=1000) :
  aA cc ac 48 [.i (.ofNat w),.i (.ofNat v),.v x] (g_ aa H) [.v (.slice (some ⟨H.length,0,le 1⟩) (12*w*v) (12*w*v+1))] (g_ aa (H++[D8 (CW w v l)])):=by
 have R:=C.sh;obtain⟨b1,b2,b3,b4⟩:=C.n;exact xK x48 (k_ (k_ (q7 N.i_ t0))) (by
  unfold f48;simp only[u5];refine e_ ?_;rw[y6 a_];refine km ?_;rw[pU a_];refine km ?_;refine ae (dN a_) ?_;refine e_ ?_;rw[show(ofNat (12*w*v)).toNat=12*w*v from rfl];have z0:HO.o (.cells (aL [.int .u8 0] (12*w*v)) 1 true)=D8 (CW w v (l.take 0)):=by
   rw[o2,RZ];unfold D8;rw[←cT (enc:=EW) (z:=0) (n:=12*w*v)];rfl
  rw[z0];refine bN (g9:=Unit) l.length (λj _=>[.i (ofNat j)]) (λj _=>H++[D8 (CW w v (l.take j))]) (λ_ _=>True) (j0:=0) (s0:=()) rfl rfl (C6 _) trivial ?_;intro i _ hi _ K b;refine e_ ?_;refine bz N ?_;by_cases s:i<l.length
  case neg=>
   obtain rfl:i=l.length:=a_;rw[aM (A9 _)];refine e_ ?_;exact⟨C2,by rw[YW]⟩
  rw[aN s];refine e_ ?_;obtain⟨c,M⟩:=aq s;have O:=N.pre (h':=H++[D8 (CW w v (l.take i))]) ⟨_,rfl⟩;refine aP O rfl M ?_;obtain⟨u,e,n,q1,q2,L,D,t,S,q3,q4⟩:=hv c (Cf M);have A:CW w v (l.take (i+1))=((CW w v (l.take i)).set (3*u+eK (u%4) e) c.2.2).set (3*n+eK (n%4) e) c.2.2:=by
   rw[Ii,M];have:=R1 (l:=l.take i) (kd:=c.2.2) R L D t S
   grind
  obtain⟨W,X,_,_,g5⟩:=dO R L D t;unfold n4;refine e_ ?_;rw[q1,q2];have ag:=iq (u%4) e;have an:=iq (n%4) e;have F:=qE (q:=u%4) D;have Q:=qE (q:=n%4) D;have Z:(CW w v (l.take i)).length=12*w*v:=jx;have b:K [.i (ofNat i+1)] (H++[D8 (CW w v (l.take (i+1)))]):=b () s trivial;generalize CW w v (l.take i)=T at *;generalize CW w v (l.take (i+1))=T' at *;have Y:12*w*v=3*(4*w*v):=jn;have eu:ofNat e<=255/\(0:Int)<=ofNat e:=⟨jn,GK _⟩;refine bN (g9:=Unit) 3 (λj _=>[.i (ofNat j)]) (λj _=>H++[D8 (if j<=eK (u%4) e then T else T')]) (λ_ _=>True) (j0:=0) (s0:=()) rfl kb (C6 _) trivial ?_;intro j _ hj _ B f;refine e_ ?_;by_cases p:j<3
  case neg=>
   obtain rfl:j=3:=a_;rw[vc (show(3:Int)<=ofNat 3 from t2 _)];refine e_ ?_;rw[aY a_,te a_];exact b
  rw[ub (show ofNat j<3 by grind)];refine e_ ?_;refine ai (zx C L p) ?_;have y:j≠eK (u%4) e->B [.i (ofNat j+1)] (H++[D8 (if j<=eK (u%4) e then T else T')]):=by
   intro I;have:=f () p trivial
   grind
  cases U:Cv w v u (eK (u%4) j)with
  |none=>
   rw[show Hy w v u j = -1 by unfold Hy;rw[U]];refine e_ ?_;rw[aY a_]
   grind
  |some m=>
   rw[show Hy w v u j=ofNat m by unfold Hy;rw[U]];refine e_ ?_;rw[vc (show(0:Int)<=ofNat m from GK m)];refine e_ ?_;refine ai (O3 C L p) ?_;refine e_ ?_;by_cases E:j=eK (u%4) e
   case neg=>
    rw[CA (λh=>E (by rw[←Jr h,qE p]))];refine e_ ?_;rw[aY a_];exact y E
   rw[CN (by rw[E,F])];refine e_ ?_;have J:=U;rw[E,F,t]at J;cases J;rw[KY a_];refine km ?_;rw[yA a_];refine km ?_;rw[rv a_];have r:(H++[D8 T])[H.length]?=some (D8 T):=aD;refine dh (enc:=EW) (l:=T) (i:=3*u+j) (a:=c.2.2) nZ r rfl a_ Z rfl ?_;unfold po;rw[oF];refine km ?_;have P:(T.set (3*u+j) c.2.2).length=12*w*v:=kb;rw[←E]at A;generalize ad:T.set (3*u+j) c.2.2=T1 at *;refine bN (g9:=Unit) 3 (λj _=>[.i (ofNat j)]) (λj _=>H++[D8 (if j<=eK (n%4) e then T1 else T')]) (λ_ _=>True) (j0:=0) (s0:=()) rfl kb (C6 _) trivial ?_;intro k _ al _ V g;refine e_ ?_;by_cases d:k<3
   case neg=>
    obtain rfl:k=3:=a_;rw[vc (show(3:Int)<=ofNat 3 from t2 _)];refine e_ ?_;rw[aY a_,te a_];have:=f () p trivial
    grind
   rw[ub (show ofNat k<3 by grind)];refine e_ ?_;refine ai (zx C W d) ?_;by_cases G:k=eK (n%4) e
   .rw[show Hy w v n k=ofNat u by unfold Hy;rw[G,Q,X]];refine e_ ?_;rw[KY a_];refine km ?_;rw[yA a_];refine km ?_;rw[rv a_];have r:(H++[D8 T1])[H.length]?=some (D8 T1):=aD;refine dh (enc:=EW) (l:=T1) (i:=3*n+k) (a:=c.2.2) nZ r rfl a_ P rfl ?_;unfold po;rw[oF];refine km ?_;rw[aY a_];have:=g () d trivial
    grind
   .have I:Hy w v n k≠ofNat u:=by
     unfold Hy;cases hy:Cv w v n (eK (n%4) k)with
     |none=>simp_all
     |some z=>
      intro h;obtain rfl:=Jr h;have:=V3 R W (iq _ _) D hy X;exact G (by rw[←this,qE d])
    simp(disch:=omega)only[↓nc]
    try rw[wb I]
    refine km ?_;rw[aY a_];have:=g () d trivial
    grind)
def yn{k:Int}{a b r:Mv}(d:a.1<8)(e:b.1<8)(c:CM k r)(h:af a r=af b r):a=b:=by
 have f:(E1 r).1<8:=(Wa c).1;have this:af (af a r) (E1 r)=af (af b r) (E1 r):=by rw[h]
 rw[cz d c.1 f,cz e c.1 f,PK c.1,oI d,oI e]at this;exact this
structure PS(w v:Nat)(l:TD)(r:Mv)(O A:TO)(B:Ty)(q:TC)(D:Nat->Nat->Prop):Prop where
 js:JS w v l A B q D
 la:A.length=4*w*v
 lb:B.length=4*w*v
 lo:O.length=4*w*v
 rel:∀(c:Nat) a,B[c]?=some true->A[c]?=some a->O[c]?=some (af a r)
def Fl(b:Bool)(q:TC)(B:Ty)(j a:Nat):Prop:=(b=false->(∀c∈q,j<=c)/\DK B=a)/\(b=true->a<DK B)
abbrev o3(H:HL)(O:TO)(B:Ty)(T:TE):HL:=H++[.o (.cells (O.flatMap sd) 3 true),.o (.cells (B.flatMap A7) 1 true),D8 T]
def V_{H:HL}{O:TO}{B:Ty}{T:TE}:(o3 H O B T)[H.length]?=some (.o (.cells (O.flatMap sd) 3 true)):=c_
def r4{H:HL}{O:TO}{B:Ty}{T:TE}:(o3 H O B T)[H.length+1]?=some (.o (.cells (B.flatMap A7) 1 true)):=c_
def o3_2{H:HL}{O:TO}{B:Ty}{T:TE}:(o3 H O B T)[H.length+2]?=some (D8 T):=c_
def gv{H:HL}{O a:TO}{B:Ty}{T:TE}:po (o3 H O B T) H.length 3 sd a=o3 H a B T:=by simp[po]
def l4{H:HL}{O:TO}{B B':Ty}{T:TE}:po (o3 H O B T) (H.length+1) 1 A7 B'=o3 H O B' T:=by
 simp[po,qdo]
def PlR(w v:Nat)(l:TD)(r:Mv)(H:HL)(a:TG)(h':HL):Prop:=
 (a=[.v qH,.i 0]/\¬ ∃G,oL w v l G/\G 0=CJ)∨∃G T,Cz w v l G/\a=[.v (.slice (some ⟨H.length,0,le 3⟩) (4*w*v) (4*w*v+1)),.i 1]/\∃B,h'=o3 H (DO w v G r) B T
def PS.restart{w v:Nat}{l:TD}{r:Mv}{O A:TO}{B:Ty}{q:TC}{D:Nat->Nat->Prop}(h:PS w v l r O A B q D):∃q',PS w v l r O A B q' (λ_ _=>True):=by
 refine⟨(range (4*w*v)).filter λc=>B.getD c false,⟨h.js.a0,h.js.b0,λc a=>?_,λc e n _ a _ _ d b=>absurd ?_ b,h.js.bd,h.js.un⟩,h.la,h.lb,h.lo,h.rel⟩
 .grind
 simp_all
def rR{w v:Nat}(V:S3 w v){l:TD}{H:HL}{x:TR}(hl:q9 H x 3 n4 l)(hv:∀c∈l,VC w v c)(a6:∀c∈l,c.2.2≠0)(hn:l.length<=1000){r:Mv}(hr:CM 20000 r) :
  ∃rs h',aA cc ac 23 ([.i (.ofNat w),.i (.ofNat v),.v x]++CT r) (g_ aa H) rs (g_ aa h')/\PlR w v l r H rs h'/\v_ H h':=by
 have L:=V.sh;obtain⟨b1,b2,b3,b4⟩:=V.n;have hN:=E_ L;have bx:=x23 (ls:=[.i (.ofNat w),.i (.ofNat v),.v x,.i (ofNat r.1),.i r.2.1,.i r.2.2]) (K:=λrs h'=>PlR w v l r H rs h'/\v_ H h') (H:=H) (k_ (k_ (q7 hl.i_ (k_ (k_ (k_ t0)))))) (by
  unfold f23;simp only[u5];refine e_ ?_;rw[YC a_];refine km ?_;rw[pU a_];refine km ?_;refine ae (dN a_) ?_;refine e_ ?_;rw[show(ofNat (4*w*v)).toNat=4*w*v from rfl];have z0:HO.o (.cells (aL [.int .u8 0,.int .i64 0,.int .i64 0] (4*w*v)) 3 true)=HO.o (.cells ((replicate (4*w*v) CJ).flatMap sd) 3 true):=by
   rw[←cT (enc:=sd) (z:=CJ) (n:=4*w*v)];rfl
  have z1:HO.o (.cells (aL [.bool false] (4*w*v)) 1 true)=HO.o (.cells ((replicate (4*w*v) false).flatMap A7) 1 true):=by
   rw[←cT (enc:=A7) (z:=false) (n:=4*w*v)];rfl
  rw[z0];refine ae (dN a_) ?_;refine e_ ?_;rw[z1,vc (show(1:Int)<=ofNat (4*w*v)by grind)];refine e_ ?_;have ag:((replicate (4*w*v) CJ)).length=4*w*v:=c_;have ay:((replicate (4*w*v) false)).length=4*w*v:=c_;have e2:((H++[HO.o (.cells ((replicate (4*w*v) CJ).flatMap sd) 3 true)])++[HO.o (.cells ((replicate (4*w*v) false).flatMap A7) 1 true)])=H++[HO.o (.cells ((replicate (4*w*v) CJ).flatMap sd) 3 true),HO.o (.cells ((replicate (4*w*v) false).flatMap A7) 1 true)]:=c_;have m1:(H++[HO.o (.cells ((replicate (4*w*v) CJ).flatMap sd) 3 true)]).length=H.length+1:=c_;rw[e2,m1];generalize hA:replicate (4*w*v) CJ=A0 at *;generalize hB:replicate (4*w*v) false=B0 at *;refine dh (enc:=sd) (l:=A0) (i:=0) (a:=r) db c_ rfl a_ ag rfl ?_;have p0:po (H++[HO.o (.cells (A0.flatMap sd) 3 true),HO.o (.cells (B0.flatMap A7) 1 true)]) H.length 3 sd (A0.set 0 r)=H++[HO.o (.cells ((A0.set 0 r).flatMap sd) 3 true),HO.o (.cells (B0.flatMap A7) 1 true)]:=by simp[po]
  rw[p0];refine km ?_;refine dh (enc:=A7) (l:=B0) (i:=0) (a:=true) cO c_ rfl a_ ay rfl ?_;have p1:po (H++[HO.o (.cells ((A0.set 0 r).flatMap sd) 3 true),HO.o (.cells (B0.flatMap A7) 1 true)]) (H.length+1) 1 A7 (B0.set 0 true)=H++[HO.o (.cells ((A0.set 0 r).flatMap sd) 3 true),HO.o (.cells ((B0.set 0 true).flatMap A7) 1 true)]:=by simp[po,qdo]
  rw[p1];refine km ?_;have hT:=wo V (hl.pre (h':=H++[HO.o (.cells ((A0.set 0 r).flatMap sd) 3 true),HO.o (.cells ((B0.set 0 true).flatMap A7) 1 true)]) ⟨_,rfl⟩) hv hn;have e3:(H++[HO.o (.cells ((A0.set 0 r).flatMap sd) 3 true),HO.o (.cells ((B0.set 0 true).flatMap A7) 1 true)])++[D8 (CW w v l)]=o3 H (A0.set 0 r) (B0.set 0 true) (CW w v l):=c_;have m2:(H++[HO.o (.cells ((A0.set 0 r).flatMap sd) 3 true),HO.o (.cells ((B0.set 0 true).flatMap A7) 1 true)]).length=H.length+2:=c_;rw[e3,m2]at hT;refine ak hT ?_;refine e_ ?_;have bb:PS w v l r (A0.set 0 r) A0 (B0.set 0 true) [0] λ_ _=>True:=by
   have js:=JS.start (l:=l) L;rw[hA,hB]at js;refine⟨js,ag,kb,kb,λc a X I=>?_⟩;have J:c=0:=by
    grind
   subst J;rw[GR a_];rw[js.a0]at I;cases I;rw[kW hr.1]
  generalize A0.set 0 r=O0 at *;generalize B0.set 0 true=B1 at *;clear p0 p1 e2 e3 m1 m2 hT z0 z1 hA hB ag ay;refine aJ (m:=4*w*v - DK B1+1) (λm ls h=>∃f O A B q,ls=[.b f]/\h=o3 H O B (CW w v l)/\PS w v l r O A B q (λ_ _=>True)/\((f=true/\m=4*w*v - DK B+1)∨(f=false/\q=[]))) ⟨true,O0,A0,B1,[0],rfl,rfl,bb,.inl ⟨rfl,rfl⟩⟩ ?_;rintro m ls h ⟨f,O,A,B,q,rfl,rfl,d,hm⟩ bt M;refine Di ?_;refine e_ ?_;rcases hm with⟨rfl,rfl⟩|⟨rfl,rfl⟩
  case inr=>
   refine e_ ?_;have hA:=d.js.i_ L d.la d.lb;have a3:∀n,n<4*w*v->B[n]?=some true:=xC L d.js.b0 λc e n J he hn X=>(d.js.dn c e n trivial J he hn X c_).1;have hO:O=DO w v (λc=>A.getD c CJ) r:=by
    refine HA λi=>?_;by_cases hi:i<4*w*v
    .rw[kq hi];obtain⟨a,I⟩:=aq (l:=A) (i:=i) (by rw[d.la];exact hi);rw[d.rel i a (a3 i hi) I,List.getD_eq_getElem?_getD,I];rfl
    .rw[Gu (by rw[d.lo];omega),Gu (by simp[DO];omega)]
   refine⟨.inr ⟨_,CW w v l,hA.consO L,rfl,B,by rw[hO]⟩,⟨_,rfl⟩⟩
  refine e_ ?_;generalize Z:DK B=cnt0 at *;have aE:∃A q,PS w v l r O A B q (λ_ _=>True)/\Fl false q B 0 cnt0:=⟨A,q,d,⟨λ_=>⟨λ_ _=>C6 _,Z⟩,λh=>by cases h⟩⟩;refine bN (g9:=List Mv×List Bool×Bool) (4*w*v) (λj s=>[.b s.2.2,.i (ofNat j)]) (λj s=>o3 H s.1 s.2.1 (CW w v l)) (λj s=>∃A q,PS w v l r s.1 A s.2.1 q (λ_ _=>True)/\Fl s.2.2 q s.2.1 j cnt0) (j0:=0) (s0:=(O,B,false)) rfl rfl (C6 _) aE ?_;clear aE d Z;rintro j ⟨O,B,f⟩ hj ⟨A,q,d,y⟩ bn D;simp only at d y ⊢;refine e_ ?_;by_cases g:j<4*w*v
  case neg=>
   obtain rfl:j=4*w*v:=a_;rw[aM (A9 _)];refine e_ ?_;cases f with
   |false=>
    have hq:q=[]:=by
     rw[List.eq_nil_iff_forall_not_mem];intro c J;have h1:=(y.1 rfl).1 c J;have U:=am (d.js.q1 c J);rw[d.lb]at U;omega
    subst hq;exact M 0 _ _ a_ ⟨false,O,A,B,[],rfl,rfl,d,.inr ⟨rfl,rfl⟩⟩
   |true=>
    obtain⟨q',a9⟩:=d.restart;have h1:=y.2 rfl;have U:=iH B;rw[d.lb]at U;exact M _ _ _ a_ ⟨true,O,A,B,q',rfl,rfl,a9,.inl ⟨rfl,rfl⟩⟩
  rw[aN g];refine e_ ?_;obtain⟨t,G⟩:=aq (l:=B) (i:=j) (by rw[d.lb];exact g);have R:∀(O:TO) (B:Ty),B.length=4*w*v->q9 (o3 H O B (CW w v l)) (.slice (some ⟨H.length+1,0,le 1⟩) (4*w*v) (4*w*v+1)) 1 A7 B:=λO B X=>dM cO r4 X.symm;have ap:∀(O:TO) (B:Ty),O.length=4*w*v->q9 (o3 H O B (CW w v l)) (.slice (some ⟨H.length,0,le 3⟩) (4*w*v) (4*w*v+1)) 3 sd O:=λO B X=>dM db V_ X.symm;have bl:∀(O:TO) (B:Ty),q9 (o3 H O B (CW w v l)) (.slice (some ⟨H.length+2,0,le 1⟩) (12*w*v) (12*w*v+1)) 1 EW (CW w v l):=λO B=>dM nZ o3_2 jx.symm;cases t with
  |false=>
   refine zL 2 ?_;refine e_ ?_;refine aP (R O B d.lb) rfl G ?_;unfold A7;refine e_ ?_;rw[aY a_];refine D (O,B,f) g ⟨A,q,d,⟨λh=>⟨λc J=>?_,(y.1 h).2⟩,y.2⟩⟩;have h1:=(y.1 h).1 c J;have U:=d.js.q1 c J
   grind
  |true=>
  have a1:∃A q,PS w v l r O A B q (λc e=>c=j->∃Q,Q<0/\eK (j%4) Q=e)/\Fl f q B (j+1) cnt0/\B[j]?=some true:=by
   refine⟨A,q.filter λc=>!Nat.beq c j,⟨(d.js.begin (c0:=j)).KV λe h=>?_,d.la,d.lb,d.lo,d.rel⟩,⟨λh=>⟨λc J=>?_,(y.1 h).2⟩,y.2⟩,G⟩
   .omega
   .obtain⟨h1,U⟩:=Gm.1 J;have V:=(y.1 h).1 c h1;have:c≠j:=λe=>by subst e;simp at U
    omega
  refine bN (g9:=List Mv×List Bool×Bool) 3 (λk s=>[.b s.2.2,.i (ofNat k)]) (λk s=>o3 H s.1 s.2.1 (CW w v l)) (λk s=>∃A q,PS w v l r s.1 A s.2.1 q (λc e=>c=j->∃Q,Q<k/\eK (j%4) Q=e)/\Fl s.2.2 q s.2.1 (j+1) cnt0/\s.2.1[j]?=some true) (j0:=0) (s0:=(O,B,f)) rfl rfl (C6 _) a1 ?_;clear a1 G d y;rintro k ⟨O,B,f⟩ hk ⟨A,q,d,y,G⟩ bs u;simp only at d y G ⊢;refine e_ ?_;by_cases E:k<3
  case neg=>
   obtain rfl:k=3:=a_;rw[vc (show(3:Int)<=ofNat 3 from t2 _)];refine e_ ?_;rw[aY a_];exact D (O,B,f) g ⟨A,q,⟨d.js.doneP λe he=>by obtain⟨k,h1,U⟩:=ZY (q:=j%4) e he;exact⟨k,h1,U⟩,d.la,d.lb,d.lo,d.rel⟩,y⟩
  rw[ub (show ofNat k<3 by grind)];refine e_ ?_;refine aP (R O B d.lb) rfl G ?_;unfold A7;refine e_ ?_;refine ai (zx V g E) ?_;have F:=iq (j%4) k;have C:∀(P:Tz),(∀e,P e↔(∃Q,Q<k/\eK (j%4) Q=e)∨e=eK (j%4) k)->∀e,(∃Q,Q<k+1/\eK (j%4) Q=e)->P e:=by
   grind
  cases N:Cv w v j (eK (j%4) k)with
  |none=>
   rw[show Hy w v j k = -1 by unfold Hy;rw[N]];refine e_ ?_;rw[aY a_];exact u (O,B,f) E ⟨A,q,⟨(d.js.skipP N).KV (C _ λ_=>Iff.rfl),d.la,d.lb,d.lo,d.rel⟩,y,G⟩
  |some n=>
  rw[show Hy w v j k=ofNat n by unfold Hy;rw[N]];obtain⟨g1,g2,g3,g4,g5⟩:=dO L g F N;refine e_ ?_;rw[vc (show(0:Int)<=ofNat n from GK n)];refine e_ ?_;obtain⟨a,I⟩:=aq (l:=A) (i:=j) (by rw[d.la];exact g);have a2:=d.rel j a G I;have av:CM 2000 a:=aZ (d.js.bd j a G I) (by have:=iH B;rw[d.lb]at this;omega);refine aP (ap O B d.lo) rfl a2 ?_;unfold sd;refine e_ ?_;rw[KY a_];refine km ?_;rw[yA a_];refine km ?_;refine aP (bl O B) rfl (oG g E) ?_;unfold EW;refine e_ ?_;have ax:IE w v l j k=SS l (min j n) (eK (j%4) k):=by unfold IE;rw[N]
  have a8:CM 30000 (af a r):=aZ (en av hr) a_;have a7:CM 3000 (Ej w l a j n (eK (j%4) k)):=aZ (yz L g F N av a_) a_;obtain⟨W,hW⟩ : ∃W,W=af (Ej w l a j n (eK (j%4) k)) r:=⟨_,rfl⟩;obtain⟨tn,p⟩:=aq (l:=B) (i:=n) (by rw[d.lb];exact g1);obtain⟨b,S⟩:=aq (l:=A) (i:=n) (by rw[d.la];exact g1);by_cases an:IE w v l j k=0
  case' pos=>
   have a5:CD l (min j n) (eK (j%4) k)=false:=by
    rw[←Gj,←rp a6,←ax];omega
   have e1:af a r=W:=by rw[hW];unfold Ej;grind
   rw[CN an,e1];simp(disch:=omega)only[↓nc]
  case' neg=>
   have a5:CD l (min j n) (eK (j%4) k)=true:=by
    rw[←rp a6,←ax];exact an
   have e1:af (wd (s7 (q8 w j) (eK (j%4) k))) (af a r)=W:=by
    rw[hW];unfold Ej;rw[rv a5,(xz L g F N).2,cz (rH _) av.1 hr.1]
   have ad:=P6 L g F;have c1:=kK V g;have c2:=kK V g1;have c3:=VY V g E N;have c4:=As (aZ (zA (n:=10) ⟨ad.2.2.1,ad.2.2.2⟩) a_) a8;rw[e1]at c4;simp only[CT,Dl,DI,DA]at c1 c2 c3 c4;rw[CA an];refine e_ ?_;refine ai c1 ?_;refine e_ ?_;refine ai c2 ?_;refine e_ ?_;refine ai c3 ?_;refine e_ ?_;refine aP (ap O B d.lo) rfl a2 ?_;unfold sd;refine e_ ?_;refine ai c4 ?_;simp(disch:=omega)only[↓nc]
  all_goals
   refine aP (R O B d.lb) rfl p ?_;unfold A7;cases tn with
   |true=>
    simp(disch:=omega)only[↓nc,DP,EB];refine aP (ap O B d.lo) rfl (d.rel n b p S) ?_;unfold sd;simp(disch:=omega)only[↓nc,DP,EB];rw[Z8];have bm:CM 2000 b:=aZ (d.js.bd n b p S) (by have:=iH B;rw[d.lb]at this;omega);by_cases T:af b r=W
    .have X:b=Ej w l a j n (eK (j%4) k):=yn bm.1 a7.1 hr (T.trans hW);rw[E8 T];simp(disch:=omega)only[↓nc,DP,EB];refine aP (R O B d.lb) rfl p ?_;unfold A7;simp(disch:=omega)only[↓nc,DP,EB];rw[aY a_];exact u (O,B,f) E ⟨A,q,⟨(d.js.seenP N p I (by rw[←X];exact S)).KV (C _ λ_=>Iff.rfl),d.la,d.lb,d.lo,d.rel⟩,y,G⟩
    .rw[Fv T];simp(disch:=omega)only[↓nc,DP,EB];refine⟨.inl ⟨C2,?_⟩,⟨_,rfl⟩⟩;exact d.js.tear L g F N G p I S λh=>T (by rw[h,hW])
   |false=>
    simp(disch:=omega)only[↓nc,DP,EB];refine aP (R O B d.lb) rfl p ?_;unfold A7;simp(disch:=omega)only[↓nc,DP,EB];refine dh (enc:=sd) (l:=O) (i:=n) (a:=W) db V_ rfl (by rw[d.lo];exact g1) d.lo rfl ?_;rw[gv]
    try simp(disch:=omega)only[↓nc,DP,EB]
    refine dh (enc:=A7) (l:=B) (i:=n) (a:=true) cO r4 rfl (by rw[d.lb];exact g1) d.lb rfl ?_;rw[l4]
    try simp(disch:=omega)only[↓nc,DP,EB]
    rw[aY a_];have bk:=gN p;refine u (O.set n W,B.set n true,true) E ⟨A.set n (Ej w l a j n (eK (j%4) k)),q++[n],⟨(d.js.freshP L d.la d.lb g F N G p I).KV (C _ λ_=>Iff.rfl),by rw[FG,d.la],by rw[FG,d.lb],by rw[FG,d.lo],λc a' a4 al=>?_⟩,⟨λh=>(by cases h),λ_=>?_⟩,?_⟩
    .by_cases Y:n=c
     .subst Y;rw[GR (by rw[d.la];exact g1)]at al;rw[GR (by rw[d.lo];exact g1)]
      grind
     .rw[Hj Y]at a4 al ⊢;exact d.rel c a' a4 al
    .show cnt0<DK (B.set n true);rw[bk];cases f with
     |false=>have:=(y.1 rfl).2;omega
     |true=>have:=y.2 rfl;omega
    grind)
 grind
def I1(n:Int):Tn:=[.int .i64 n]
def Bh{l:Ln}(c:1<=l.1/\l.1<=4)(b:-100000<=l.2/\l.2<=100000):Cc 85 [.i (.ofNat l.1),.i l.2] (CT (wd l)):=by
 obtain⟨k,n⟩:=l;simp only at c b;refine q85 rfl ?_;unfold f85;simp only[u5];have a:k=1∨k=2∨k=3∨k=4:=a_;rcases a with rfl|rfl|rfl|rfl
 all_goals
  simp only[hP,dk,dA,ez,eC,eG,eu,dC]
  repeat (first|simp(disch:=omega)only[↓nc])
  try simp[wd,CT]
def Rz{l:Ln}{c:Cl}(u:1<=l.1/\l.1<=4)(v:-100000<=l.2/\l.2<=100000)(j:c.2.2<4)(r:-100000<=c.1/\c.1<=100000/\-100000<=c.2.1/\c.2.1<=100000):Cc 86 ([.i (.ofNat l.1),.i l.2]++Dl c) [.i (if dR l c then 1 else 0)]:=by
 obtain⟨k,n⟩:=l;simp only at u v;have s:=rl j r;have w:-1000000<=(CL c).1/\(CL c).1<=1000000/\-1000000<=(CL c).2/\(CL c).2<=1000000:=by
  obtain⟨x,y,q⟩:=c;simp only at j r;rcases EC j with rfl|rfl|rfl|rfl<;>simp only[CL,w0,x6]<;>omega
 have b:∀d:Int,(match k with|1=>(CL c).1|2=>(CL c).2|3=>(CL c).1+(CL c).2|_=>(CL c).2 - (CL c).1)=d->(dR (k,n) c=true↔¬d<6*n):=by
  intro d t;subst t;obtain⟨x,y,q⟩:=c;simp only at j;have m:k=1∨k=2∨k=3∨k=4:=a_;rcases m with rfl|rfl|rfl|rfl<;>rcases EC j with rfl|rfl|rfl|rfl
  all_goals
   simp[dR,CL,w0,x6];omega
 refine q86 rfl ?_;unfold f86;simp only[u5];simp only[Dl,DI,DA]at s ⊢;generalize CL c=p at *
 let L:TE:=[0,p.1,p.2,p.1+p.2,p.2 - p.1]
 have f:q9 [HO.o (.cells [.int .i64 0,.int .i64 p.1,.int .i64 p.2,.int .i64 (p.1+p.2),.int .i64 (p.2 - p.1)] 1 true)] (.slice (some ⟨([]:HL).length,0,le 1⟩) 5 6) 1 I1 L:=dM (enc:=I1) (e:=1) (L:=L) (λ_=>rfl) rfl rfl;have m:k=1∨k=2∨k=3∨k=4:=a_;rcases m with rfl|rfl|rfl|rfl
 all_goals
  have b:=b _ rfl;simp only at b;simp only[hP,dk,dA,ez,eC,eG,eu,dC]
  repeat (first|simp(disch:=omega)only[↓nc]|refine ai s ?_)
 case' inl=>refine aP (i:=1) (a:=p.1) f rfl rfl ?_
 case' inr.inl=>refine aP (i:=2) (a:=p.2) f rfl rfl ?_
 case' inr.inr.inl=>refine aP (i:=3) (a:=p.1+p.2) f rfl rfl ?_
 case' inr.inr.inr=>refine aP (i:=4) (a:=p.2 - p.1) f rfl rfl ?_
 all_goals
  unfold I1;refine e_ ?_;cases g:dR _ c with
  |true=>
   have:=b.1 g
   try rw[vc a_]
   try simp(disch:=omega)only[↓nc]
   try rfl
  |false=>
   have:¬ ¬_:=λh=>by rw[b.2 h]at g;cases g
   try rw[ub a_]
   try simp(disch:=omega)only[↓nc]
   try rfl
def PY{a b:Int}:Cc 99 [.i a,.i b] [.i (max a b)]:=by
 refine q99 rfl ?_;unfold f99;simp only[u5];refine e_ ?_;by_cases h:b<a
 .rw[B3 h];refine e_ ?_
  grind
 .rw[y_ a_];refine e_ ?_
  grind
def z4{c:Cl}{e:Nat}(a:c.2.2<4)(f:e<3)(d:-100000<=c.1/\c.1<=100000/\-100000<=c.2.1/\c.2.1<=100000):Cc 63 (Dl c++Dl (DH c e)) (CT (wd (s7 c e))):=by
 obtain⟨x,y,q⟩:=c;simp only at a d;have b:e=0∨e=1∨e=2:=a_;refine q63 rfl ?_;unfold f63;simp only[u5];rcases EC a with rfl|rfl|rfl|rfl<;>rcases b with rfl|rfl|rfl
 all_goals
  simp only[DH,Dl,DI,DA,show [1,0,3,2].getD 0 0=1 from rfl,show [1,0,3,2].getD 1 0=0 from rfl,show [1,0,3,2].getD 2 0=3 from rfl,show [1,0,3,2].getD 3 0=2 from rfl,show [3,2,1,0].getD 0 0=3 from rfl,show [3,2,1,0].getD 1 0=2 from rfl,show [3,2,1,0].getD 2 0=1 from rfl,show [3,2,1,0].getD 3 0=0 from rfl,hP,dk,dA,ez]
  repeat (first|simp(disch:=omega)only[↓nc]|refine ai PY ?_)
  try (simp[wd,s7,CT];done)
  try (simp[wd,s7,CT];omega)
def Me{c:Cl}{e:Nat}(a:c.2.2<4)(h:e<3)(d:-100000<=c.1/\c.1<=100000/\-100000<=c.2.1/\c.2.1<=100000):Cc 127 (Dl c++Dl (DH c e)) [.i (.ofNat (s7 c e).1),.i (s7 c e).2]:=by
 have b:=z4 a h d;refine q127 rfl ?_;unfold SB;simp only[u5];simp only[Dl,DI,DA]at b ⊢;have f:((s7 c e).1=1∨(s7 c e).1=2∨(s7 c e).1=3∨(s7 c e).1=4)/\-300000<=(s7 c e).2/\(s7 c e).2<=300000:=by
  obtain⟨x,y,q⟩:=c;simp only at a d;have g:e=0∨e=1∨e=2:=a_;rcases EC a with rfl|rfl|rfl|rfl<;>rcases g with rfl|rfl|rfl<;>simp[s7]<;>omega
 generalize s7 c e=l at *;obtain⟨k,n⟩:=l;simp only at f;obtain⟨rfl|rfl|rfl|rfl,j,m⟩:=f
 all_goals
  simp only[wd,CT,eC,eG,eu,dC]at b
  repeat (first|simp(disch:=omega)only[↓nc]|refine ai b ?_)
  try simp_all
abbrev IB:=Cl×Value
def C_(s:IB):Tn:=bU s.1++[s.2]
def nX(s:IB):(C_ s).length=4:=rfl
def StL(h:HL)(x:Value)(L:List (Cl×List Nat)):Prop:=∃M:List IB,q9 h x 4 C_ M/\M.length=L.length/\∀(i:Nat) m,M[i]?=some m->∃l,L[i]?=some (m.1,l)/\q9 h m.2 1 mc l
def vg(w v:Nat):List (Cl×List Nat):=(range (4*w*v)).map λi=>(q8 w i,[i])
def RY(w v c k:Nat):Bool:=match Cv w v c (eK (c%4) k)with
 |some n=>lO 87 [.i (.ofNat w),.i (.ofNat v),.i (.ofNat c),.i (.ofNat n)] [.i (.ofNat (eK (c%4) k))]
 |none=>true
def ay:∀w v:Nat,1<=w->w<=3->1<=v->v<=3->((range (4*w*v)).all λc=>(range 3).all λk=>RY w v c k)=true:=by
 have a:((range 3).all λw=>(range 3).all λv=>(range (4*(w+1)*(v+1))).all λc=>(range 3).all λk=>RY (w+1) (v+1) c k)=true:=d_;intro w v d e f g;have b:=A_.1 a (w - 1) (Cm.2 a_);have h:=A_.1 b (v - 1) (Cm.2 a_)
 simp_all
def O4{w v c k n:Nat}(h:S3 w v)(a:c<4*w*v)(b:k<3)(d:Cv w v c (eK (c%4) k)=some n):Cc 87 [.i (.ofNat w),.i (.ofNat v),.i (.ofNat c),.i (.ofNat n)] [.i (.ofNat (eK (c%4) k))]:=by
 have:=A_.1 (A_.1 (ay w v h.1 h.2.1 h.2.2.1 h.2.2.2) c (Cm.2 a)) k (Cm.2 b);unfold RY at this;rw[d]at this;exact fU this rfl d_ rfl
def Kz(a b:Eb):Bool:=decide (b.1<a.1)||(decide (a.1=b.1)&&decide (b.2.1<a.2.1))
def Fh(l:TD):Prop:=l.Pairwise λa b=>Kz a b=false
def AW{a b:Eb}:Kz a b=false↔a.1<b.1∨(a.1=b.1/\a.2.1<=b.2.1):=by
 unfold Kz
 grind
def u0{a b:Eb}:Kz a b=true↔b.1<a.1∨(a.1=b.1/\b.2.1<a.2.1):=by
 unfold Kz
 simp_all
def W5{A B:TD}{x:Eb}(h:Fh (A++B))(h1:∀a∈A,Kz a x=false)(d:∀b∈B,Kz b x=true):Fh (A++x :: B):=by
 unfold Fh at *;rw[j2]at h ⊢;refine⟨h.1,Jp.2 ⟨λb c=>?_,h.2.1⟩,λa e b c=>?_⟩
 .have:=u0.1 (d b c);exact AW.2 a_
 grind
def gF{i7:Type}{h:HL}{id e:Nat}{enc:i7->Tn}{l l':List i7}:po (po h id e enc l) id e enc l'=po h id e enc l':=by
 unfold po;rw[List.set_set]
def M8{H:HL}{id cx:Nat}{l:TD}(i':H[id]?=some (.o (.cells (l.flatMap n4) 3 true)))(hn:l.length<=1000) :
  ∃l',aA cc ac 88 [.v (.slice (some ⟨id,0,le 3⟩) l.length cx)] (g_ aa H) [.v (.slice (some ⟨id,0,le 3⟩) l.length cx)] (g_ aa (po H id 3 n4 l'))/\l'.Perm l/\Fh l':=by
 have u:=am i';have k:∀c:Eb,(n4 c).length=3:=λ_=>rfl;have G:∀L:List Eb,L.length=l.length->q9 (po H id 3 n4 L) (.slice (some ⟨id,0,le 3⟩) l.length cx) 3 n4 L:=λL h=>dM k (bI u) h.symm;have ag:=x88 (ls:=[.v (.slice (some ⟨id,0,le 3⟩) l.length cx)]) (K:=λrs W=>rs=[.v (.slice (some ⟨id,0,le 3⟩) l.length cx)]/\∃l',W=po H id 3 n4 l'/\l'.Perm l/\Fh l') (H:=H) (q7 (dM k i' rfl).i_ t0) (by
  unfold f88;simp only[u5];refine e_ ?_;have P:po H id 3 n4 l=H:=eN i';refine bN (g9:=List Eb) (max 1 l.length) (λj _=>[.i (ofNat j)]) (λ_ L=>po H id 3 n4 L) (λj L=>L.Perm l/\1<=j/\Fh (L.take j)) (j0:=1) (s0:=l) rfl P.symm a_ ⟨YU _,A9 _,?_⟩ ?_
  .cases l with
   |nil=>exact .nil
   |cons a l=>exact Jp.2 ⟨λ_ h=>(by cases h),.nil⟩
  intro i L hi ⟨w,hi1,r⟩ self hself;have F:L.length=l.length:=w.length_eq;refine e_ ?_;refine bz (G L F) ?_;rw[F];by_cases O:i<l.length
  case neg=>
   rw[aM a_];refine e_ ?_;rw[Ik a_]at r
   grind
  rw[aN O];refine e_ ?_;obtain⟨V,T⟩:=aq (l:=L) (i:=i) a_;have p:L=L.take i++V :: []++L.drop (i+1):=by
   conv=>lhs;rw[←WM i L]
   rw[SZ a_]
   simp_all
  refine aJ (m:=i) (λm ls h=>∃(A:TD) (x:Eb) (B R:TD),ls=[.i (ofNat A.length)]/\m=A.length/\h=po H id 3 n4 (A++x :: B++R)/\(A++x :: B++R).Perm l/\Fh (A++B)/\(∀b∈B,Kz b x=true)/\A.length+B.length=i)
   ⟨L.take i,V,[],L.drop (i+1),jn,jn,by rw[←p],jn,by simpa using r,λb U=>(by cases U),jn⟩ ?_
  clear p T r w F;rintro m ls h ⟨A,x,B,R,rfl,rfl,rfl,w,r,Y,I⟩ D n;refine Di ?_;refine e_ ?_;have F:(A++x :: B++R).length=l.length:=w.length_eq;have s:(∀a∈A,Kz a x=false)->self [.i (ofNat i+1)] (po H id 3 n4 (A++x :: B++R)):=λh=>hself _ a_ ⟨w,a_,by
   rw[qcJ ua,Ik ua];exact W5 r h Y⟩
  rcases List.eq_nil_or_concat A with rfl|⟨g,y,rfl⟩
  .rw[y_ (show ofNat ([]:TD).length<=0 from t2 _)];refine e_ ?_;rw[aY a_]
   simp_all
  rw[List.concat_eq_append]at *;have hk:(g++[y]).length=g.length+1:=c_;rw[hk]at I n ⊢;have t:Kz y x=false->∀a∈g++[y],Kz a x=false:=by
   intro h a J;rcases Ek.1 J with J|J
   .have E:Kz a y=false:=by
     unfold Fh at r
     grind
    have E:=AW.1 E;have h:=AW.1 h;exact AW.2 a_
   simp_all
  have C:(g++[y]++x :: B++R)[g.length]?=some y:=c_;have z:(g++[y]++x :: B++R)[g.length+1]?=some x:=by
   rw[EF,GV c_];simp
  have f:=G _ F;have Z:=bI (l:=g++[y]++x :: B++R) (e:=3) (enc:=n4) u;rw[B3 (show(0:Int)<ofNat (g.length+1)by simp_all)];have d:g.length+1<=4294967296:=a_;refine e_ ?_;rw[lq a_ d];refine km ?_;refine dF (cs:=[.int .i64 y.1]) f rfl C rfl a_ ?_;refine e_ ?_;refine dF (cs:=[.int .i64 x.1]) f rfl z rfl a_ ?_;refine e_ ?_;have S:Kz y x=true->D [.i (ofNat g.length)] (po H id 3 n4 (g++x :: (y :: B)++R)):=λh=>n g.length _ _ a_ ⟨g,x,y :: B,R,rfl,rfl,rfl,by
   grind,kb,λb U=>by
   grind,ua⟩
  have Q:((g++[y]++x :: B++R).set g.length x).set (g.length+1) y=g++x :: (y :: B)++R:=by
   simp_all
  have N:((g++[y]++x :: B++R).set g.length x).length=l.length:=kb;have ad:=am z;have M:(po (po H id 3 n4 (g++[y]++x :: B++R)) id 3 n4 ((g++[y]++x :: B++R).set g.length x))[id]?=some (.o (.cells (((g++[y]++x :: B++R).set g.length x).flatMap n4) 3 true)):=by
   rw[gF];exact bI u
  by_cases q:Kz y x=true
  case neg=>
   have q:=b5.2 q;rcases AW.1 q with E|⟨E,X⟩
   .rw[y_ a_];refine e_ ?_;rw[lq a_ d];refine km ?_;refine dF (cs:=[.int .i64 y.1]) f rfl C rfl a_ ?_;refine e_ ?_;refine dF (cs:=[.int .i64 x.1]) f rfl z rfl a_ ?_;simp(disch:=omega)only[↓nc]
    try rw[wb a_]
    refine km ?_;rw[aY a_];exact s (t q)
   .rw[y_ a_];refine e_ ?_;rw[lq a_ d];refine km ?_;refine dF (cs:=[.int .i64 y.1]) f rfl C rfl a_ ?_;refine e_ ?_;refine dF (cs:=[.int .i64 x.1]) f rfl z rfl a_ ?_;simp(disch:=omega)only[↓nc]
    try rw[ra a_]
    refine km ?_;rw[lq a_ d];refine km ?_;refine dF (cs:=[.int .u8 y.2.1]) f rfl C rfl a_ ?_;refine e_ ?_;refine dF (cs:=[.int .u8 x.2.1]) f rfl z rfl a_ ?_;simp(disch:=omega)only[↓nc]
    try rw[y_ a_]
    refine km ?_;rw[aY a_];exact s (t q)
  rcases u0.1 q with E|⟨E,X⟩
  case' inl=>
   rw[B3 a_];simp(disch:=omega)only[↓nc]
  case' inr=>
   rw[y_ a_];refine e_ ?_;rw[lq a_ d];refine km ?_;refine dF (cs:=[.int .i64 y.1]) f rfl C rfl a_ ?_;refine e_ ?_;refine dF (cs:=[.int .i64 x.1]) f rfl z rfl a_ ?_;simp(disch:=omega)only[↓nc]
   try rw[ra a_]
   refine km ?_;rw[lq a_ d];refine km ?_;refine dF (cs:=[.int .u8 y.2.1]) f rfl C rfl a_ ?_;refine e_ ?_;refine dF (cs:=[.int .u8 x.2.1]) f rfl z rfl a_ ?_;simp(disch:=omega)only[↓nc]
   try rw[B3 a_]
   try simp(disch:=omega)only[↓nc]
  all_goals
   rw[lq a_ d];refine km ?_;refine aP f rfl z ?_;rw[show n4 x=[.int .i64 x.1,.int .u8 x.2.1,.int .u8 x.2.2]from rfl];refine e_ ?_;rw[lq a_ d];refine km ?_;refine aP f rfl C ?_;rw[show n4 y=[.int .i64 y.1,.int .u8 y.2.1,.int .u8 y.2.2]from rfl];refine e_ ?_;refine dh (enc:=n4) (i:=g.length) (a:=x) k Z rfl a_ F rfl ?_;refine km ?_;refine dh (enc:=n4) (i:=g.length+1) (a:=y) k M rfl a_ N rfl ?_;rw[gF,gF,Q];refine km ?_;rw[lq a_ d]
   simp_all)
 grind
abbrev TX:=Int×Int×Int
def sL(p:TX):Tn:=[.int .u8 p.1,.int .u8 p.2.1,.int .u8 p.2.2]
def uQ(p:TX):(sL p).length=3:=rfl
def M5(p:TX):Prop:=0<=p.1/\p.1<=255/\0<=p.2.1/\p.2.1<=255/\0<=p.2.2/\p.2.2<=255
def Jt{h:HL}{v:TR}{l:List TX}{i o:Nat}{a:TX}{n:Int}{cs:Tn}{K:Tf}(s:q9 h v 3 sL l)(r:n=ofNat i)(k:l[i]?=some a)(u:o<3)(b:cs=((sL a).drop o).take 1)(m:K cs) :
  P1.j_ (BL 3 v n) (@i' _ ⟨λx=>P1.j_ (Py 3 1 x (ofNat o)) (@i' _ ⟨λy=>P1.nC y (@i' _ ⟨P1.my (.lg cc 1 y) h (@i' _ ⟨K⟩)⟩)⟩)⟩):=by
 subst r b;obtain⟨p,g,d⟩:=s.at k;obtain⟨q,j,f⟩:=d.fd o 1 (by rw[uQ];omega);refine ae g (ae (x:=q) ?_ (ab f.i_ (bT (f.lg ?_) m)))
 .obtain⟨id,w,z,e,t,rfl,_,_⟩:=d;have c:o=0∨o=1∨o=2:=a_;rcases c with rfl|rfl|rfl<;>· rw[←j];rfl
 .rw[C1,eB,uQ];omega
def VK(w v:Nat)(c:Eb):Prop:=VC w v c/\1<=c.2.2/\c.2.2<=3
def Jv{w v:Nat}(k:Sh w v){l:TD}{G m:TH}(h:Cz w v l G)(d:Cz w v l m){c:Nat}(b:c<4*w*v):G c=m c:=by
 have r:=E_ k;have hA:FY w v l ((range (4*w*v)).map G):=by
  have j:∀c,c<4*w*v->((range (4*w*v)).map G)[c]?=some (G c):=λc b=>kb;refine⟨c_,by rw[j 0 a_,h.z],λa f=>?_,λc e n a b o p f=>?_⟩
  .obtain⟨i,q,rfl⟩:=CS.1 f;exact h.ok i (Cm.1 q)
  .rw[j c b]at f;cases f;rw[j n (dO k b o p).1,h.g c e n b o p]
 have:=hA.eq k d.g d.z c b
 simp_all
def J6{w v:Nat}{l:TD}(g:∀c∈l,VK w v c)(d:l.Pairwise λa b=>Gb a b=true):F6 (ofNat w) (ofNat v) l=0:=by
 have h:l.all MO=true:=A_.2 λc f=>by
  have:=(g c f).2;unfold MO
  simp_all
 have j:l.all (S_ (ofNat w) (ofNat v))=true:=A_.2 λc f=>by
  obtain⟨u,e,n,m,o,z,x,y,d,_⟩:=(g c f).1;unfold S_ FA;rw[m,o];have p:(0:Int)<=ofNat u:=GK u;have q:ofNat u<4*ofNat w*ofNat v:=show(u:Int)<((4*w*v:Nat):Int)by omega
  have r:ofNat e<=2:=jn
  simp_all
 have k:EH l=true:=jf.2 λi a b s t=>by
  rw[Q5]at d
  grind
 unfold F6;rw[h,j,k];rfl
def F'{w v:Nat}{c:Eb}(h:VK w v c)(a:4*w*v<=100):v4 c:=by
 obtain⟨⟨u,e,n,f,g,d,b,_,_,i,j⟩,_⟩:=h;unfold v4
 grind
abbrev NG:=Nat×Nat×Ln
def O5(p:NG):Tn:=[.int .i64 (ofNat p.1),.int .i64 (ofNat p.2.1),.int .u8 (ofNat p.2.2.1),.int .i64 p.2.2.2]
def Eh(w v:Nat)(l:TD)(G:TH)(r:Mv)(a k:Nat):Option NG:=match Cv w v a (eK (a%4) k)with
 |some b=>if a<b/\IE w v l a k=0 then some (a,b,s7 (aB (af (G a) r) (q8 w a)) (eT (af (G a) r).1 (eK (a%4) k)))else none
 |none=>none
def QM(w v:Nat)(l:TD)(G:TH)(r:Mv)(a:Nat):List NG:=(range 3).filterMap (Eh w v l G r a)
def CV(w v:Nat)(l:TD)(G:TH)(r:Mv)(n:Nat):List NG:=(range n).flatMap (QM w v l G r)
def vQ{w v:Nat}{l:TD}{G:TH}{r:Mv}{n:Nat}:CV w v l G r (n+1)=CV w v l G r n++QM w v l G r n:=by
 unfold CV;rw[Ll,Y1];simp
def zQ{w v:Nat}{l:TD}{G:TH}{r:Mv}{a k:Nat}:((range k).filterMap (Eh w v l G r a)).length<=k:=NN (List.length_filterMap_le _ _) c_
def lz{w v:Nat}{l:TD}{G:TH}{r:Mv}:∀ {n:Nat},(CV w v l G r n).length<=3*n
 |0=>by simp[CV]
 |n+1=>by
  rw[vQ,Gv];have a:=lz (w:=w) (v:=v) (l:=l) (G:=G) (r:=r) (n:=n);have b:(QM w v l G r n).length<=3:=zQ;omega
def uW{i7:Type}{f:Nat->Option i7}{k:Nat}:(range (k+1)).filterMap f=(range k).filterMap f++(f k).toList:=by
 rw[Ll,bC]
 grind
def zR{w v:Nat}(E:S3 w v){l:TD}{H:HL}{x xs:TR}(hl:q9 H x 3 n4 l)(ap:aF xs=true)(hv:∀c∈l,VC w v c)(S:∀c∈l,c.2.2≠0)(hn:l.length<=1000){r:Mv}(hr:CM 10000 r){G:TH}(R:Cz w v l G) :
  ∃z h',aA cc ac 84 ([.i (.ofNat w),.i (.ofNat v),.v x]++CT r++[.v xs]) (g_ aa H) [.v z] (g_ aa h')/\v_ H h'/\aF z=true/\q9 h' z 4 O5 (CV w v l G r (4*w*v)):=by
 have V:=E.sh;obtain⟨b1,b2,b3,b4⟩:=E.n;have hN:=E_ V;obtain⟨a6,h1,c1,a0,J⟩:=rR E hl hv S hn (r:=r) (aZ hr a_);have a5:=x84 (ls:=[.i (.ofNat w),.i (.ofNat v),.v x,.i (ofNat r.1),.i r.2.1,.i r.2.2,.v xs]) (K:=λrs h'=>∃z,rs=[.v z]/\v_ H h'/\aF z=true/\q9 h' z 4 O5 (CV w v l G r (4*w*v))) (H:=H) (k_ (k_ (q7 hl.i_ (k_ (k_ (k_ (q7 ap t0))))))) (by
  unfold f84;simp only[u5];refine e_ ?_;refine ak c1 ?_;rcases a0 with⟨rfl,I⟩|⟨G',T,Z,rfl,B,rfl⟩
  .exact absurd ⟨G,R.g,R.z⟩ I
  refine e_ ?_;have ad:DO w v G' r=DO w v G r:=by
   unfold DO;refine WN λc hc=>?_;rw[Jv V Z R (Cm.1 hc)]
  have ax:q9 (o3 H (DO w v G r) B T) (.slice (some ⟨H.length,0,le 3⟩) (4*w*v) (4*w*v+1)) 3 sd (DO w v G r):=dM db V_ (by simp[DO]);rw[ad]at J ⊢;have c3:=wo E (hl.pre J) hv hn;refine ak c3 ?_;refine e_ ?_;generalize o3 H (DO w v G r) B T=h2 at *;have av:q9 (h2++[D8 (CW w v l)]) (.slice (some ⟨h2.length,0,le 1⟩) (12*w*v) (12*w*v+1)) 1 EW (CW w v l):=dM nZ aD jx.symm;have U:v_ h2 (h2++[D8 (CW w v l)]):=⟨_,rfl⟩;have y:=ax.pre U;have aE:=J.trans U;generalize h2++[D8 (CW w v l)]=h4 at *;refine bN (g9:=HL×Value) (4*w*v) (λj s=>[.v s.2,.i (ofNat j)]) (λ_ s=>s.1) (λj s=>v_ h4 s.1/\aF s.2=true/\MkL h4.length s.1 s.2 4 O5 (CV w v l G r j)) (j0:=0) (s0:=(h4,.slice none 0 0)) rfl rfl (C6 _) ⟨.refl _,rfl,.nil _ _ _ _⟩ ?_;rintro a ⟨h,z⟩ ha ⟨f,p,A⟩ a2 L;simp only at f p A ⊢;refine e_ ?_;refine bz (y.pre f) ?_;rw[show(DO w v G r).length=4*w*v by simp[DO]];by_cases o:a<4*w*v
  case neg=>
   obtain rfl:a=4*w*v:=a_;rw[aM (A9 _)];refine e_ ?_;exact⟨z,rfl,aE.trans f,p,A.ls⟩
  rw[aN o];refine e_ ?_;refine bN (g9:=HL×Value) 3 (λk s=>[.v s.2,.i (ofNat k)]) (λ_ s=>s.1) (λk s=>v_ h4 s.1/\aF s.2=true/\MkL h4.length s.1 s.2 4 O5 (CV w v l G r a++(range k).filterMap (Eh w v l G r a))) (j0:=0) (s0:=(h,z)) rfl rfl (C6 _) ⟨f,p,by simpa using A⟩ ?_;clear f p A;rintro k ⟨h,z⟩ hk ⟨f,p,A⟩ O t;simp only at f p A ⊢;refine e_ ?_;by_cases C:k<3
  case neg=>
   obtain rfl:k=3:=a_;rw[vc (show(3:Int)<=ofNat 3 from t2 _)];refine e_ ?_;rw[aY a_];exact L (h,z) o ⟨f,p,by rw[vQ];exact A⟩
  rw[ub (show ofNat k<3 by grind)];refine e_ ?_;refine ai (zx E o C) ?_;have q:Eh w v l G r a k=none->O [.v z,.i (ofNat k+1)] h:=λI=>t (h,z) C ⟨f,p,by rw[uW,I];simpa using A⟩;have D:=iq (a%4) k;cases W:Cv w v a (eK (a%4) k)with
  |none=>
   rw[show Hy w v a k = -1 by unfold Hy;rw[W]];refine e_ ?_;rw[ub (show(-1:Int)<ofNat a by grind)];refine e_ ?_;rw[aY a_];exact q (by unfold Eh;rw[W])
  |some b=>
  rw[show Hy w v a k=ofNat b by unfold Hy;rw[W]];obtain⟨Q,g2,g3,Y,g5⟩:=dO V o D W;refine e_ ?_;by_cases an:b<a
  .rw[aN an];refine e_ ?_;rw[aY a_];exact q (by unfold Eh;grind)
  rw[aM a_];refine e_ ?_;rw[KY a_];refine km ?_;rw[yA a_];refine km ?_;refine aP (av.pre f) rfl (oG o C) ?_;rw[show EW (IE w v l a k)=[.int .u8 (IE w v l a k)]from rfl];refine e_ ?_;by_cases F:IE w v l a k=0
  case neg=>
   rw[CA F];refine e_ ?_;rw[aY a_];exact q (by unfold Eh;simp_all)
  rw[CN F];refine e_ ?_;have a3:CD l (min a b) (eK (a%4) k)=false:=by
   rw[←Gj,←rp S];intro h;refine h ?_;unfold IE at F
   simp_all
  have ag:G b=G a:=by
   rw[R.g a _ b o D W];unfold Ej
   simp_all
  have u:CM 20000 (af (G a) r):=aZ (en (R.ok a o) hr) a_;have P:=dH V o;have rb:=dH V Q;have pa:=kq (G:=G) (r:=r) o;have pb:=kq (G:=G) (r:=r) Q;rw[ag]at pb;have M:Eh w v l G r a k=some (a,b,s7 (aB (af (G a) r) (q8 w a)) (eT (af (G a) r).1 (eK (a%4) k))):=by
   unfold Eh
   grind
  generalize af (G a) r=m at *;have rm:=vJ u (c:=q8 w a) (k:=1000) ⟨P.1,P.2.1,P.2.2.1,P.2.2.2.1⟩;have X:=pL (m:=m) (c:=q8 w a) u.1 (by obtain⟨_,Q,g2,g3,Y,_⟩:=u;omega) P.2.2.2.2 a_;have N:=pL (m:=m) (c:=q8 w b) u.1 (by obtain⟨_,Q,g2,g3,Y,_⟩:=u;omega) rb.2.2.2.2 a_;rw[Y,iT u.1 P.2.2.2.2 D]at N;have bt:=Me (c:=aB m (q8 w a)) (e:=eT m.1 (eK (a%4) k)) rm.2.2.2.2 (lW D) a_;have k1:=kK E o;have k2:=kK E Q;rw[Y]at k2;generalize DH (aB m (q8 w a)) (eT m.1 (eK (a%4) k))=d at *;generalize s7 (aB m (q8 w a)) (eT m.1 (eK (a%4) k))=ln at *;simp only[Dl,CT,DI,DA]at k1 k2 X N bt;refine aP (y.pre f) rfl pa ?_;rw[show sd m=[.int .u8 (ofNat m.1),.int .i64 m.2.1,.int .i64 m.2.2]from rfl];refine e_ ?_;refine ai k1 ?_;refine e_ ?_;refine ai X ?_;refine e_ ?_;refine aP (y.pre f) rfl pb ?_;rw[show sd m=[.int .u8 (ofNat m.1),.int .i64 m.2.1,.int .i64 m.2.2]from rfl];refine e_ ?_;refine ai k2 ?_;refine e_ ?_;refine ai N ?_;refine e_ ?_;refine ai bt ?_;refine e_ ?_;have a4:=lz (w:=w) (v:=v) (l:=l) (G:=G) (r:=r) (n:=a);have a1:=zQ (w:=w) (v:=v) (l:=l) (G:=G) (r:=r) (a:=a) (k:=k)
  refine na (h0:=h4) (a:=((a,b,ln):NG)) f A rfl rfl rfl rfl (by
   unfold bc;rw[Gv,DQ a_,DQ a_];rfl) ?_
  intro z' h' ay al hg _ _;refine e_ ?_;refine ab hg ?_;refine km ?_;rw[aY a_];exact t (h',z') C ⟨ay,hg,by rw[uW,M,←EF];exact al⟩)
 grind
def eE{i7:Type}{e b:Nat}{enc:i7->Tn}{h:HL}{x:TR}{new:List i7}{m:Nat}{K:Tb}(f:h[m]?=some (.o (.cells [] e true)))(j:q9 h x e enc new)(l:0<new.length)(k:new.length*b<=140737488355328)(d:new.length<=140737488355328)
  (g:K [.slice (some ⟨h.length,0,le e⟩) new.length 0] (h++[.o (.cells (new.flatMap enc) e true)])) :
  P1.heap (.ap cc e b (.slice (some ⟨m,0,le e⟩) 0 1) x) h (@i' _ ⟨K⟩):=by
 have i:bc (0+new.length) b=true:=by
  rw[ER];unfold bc
  simp_all
 have c:cut ([]:Tn) 0 (0*e)=some []:=Sx.wa c_;have a:Em cc e b (.slice (some ⟨m,0,le e⟩) 0 1) x (tf aa h) h.length=some ([.push (.cells ([]++new.flatMap enc) e true)],[.slice (some ⟨h.length,0,le e⟩) (0+new.length) 0]):=by
  unfold Em;rw[nz j.2];simp only[ne_eq,not_true_eq_false,if_false];rw[bF f]
  grind
 refine bH (show(Hp.ap cc e b (.slice (some ⟨m,0,le e⟩) 0 1) x).run _ _=_ from a) ?_;rw[ER];exact g
def CX(a b:Cl):Bool:=decide (b.2.1<a.2.1∨(a.2.1=b.2.1/\(b.1<a.1∨(a.1=b.1/\b.2.2<a.2.2))))
def L_{a b:Cl}:Cc 67 (Dl a++Dl b) [.i (if CX a b then 1 else 0)]:=by
 obtain⟨x,y,q⟩:=a;obtain⟨d,e,c⟩:=b;refine q67 rfl ?_;unfold f67;simp only[u5];simp only[Dl,DI,DA];refine e_ ?_;have l:(ofNat c<ofNat q)↔c<q:=Int.ofNat_lt;by_cases h:e<y
 .rw[B3 h];refine e_ ?_;rw[show CX (x,y,q) (d,e,c)=true from E8 (.inl h)];rfl
 rw[y_ a_];refine e_ ?_;by_cases f:y=e
 case neg=>
  rw[wb f];refine e_ ?_;rw[show CX (x,y,q) (d,e,c)=false from Fv (by simp only;omega)];rfl
 rw[ra f];refine e_ ?_;by_cases j:d<x
 .rw[B3 j];refine e_ ?_;rw[show CX (x,y,q) (d,e,c)=true from E8 (.inr ⟨f,.inl j⟩)];rfl
 rw[y_ a_];refine e_ ?_;by_cases g:x=d
 case neg=>
  rw[wb g];refine e_ ?_;rw[show CX (x,y,q) (d,e,c)=false from Fv (by simp only;omega)];rfl
 rw[ra g];refine e_ ?_;by_cases k:c<q
 .rw[B3 (l.2 k)];refine e_ ?_;rw[show CX (x,y,q) (d,e,c)=true from E8 (.inr ⟨f,.inr ⟨g,k⟩⟩)];rfl
 .rw[y_ a_];refine e_ ?_;rw[show CX (x,y,q) (d,e,c)=false from Fv (by simp only;omega)];rfl
def VQ(c:Eb)(a b:Int):Bool:=decide (c.1<a)||(decide (c.1=a)&&decide (c.2.1<b))
def mg{c:Eb}{a b:Int}:VQ c a b=true↔c.1<a∨(c.1=a/\c.2.1<b):=by
 simp only[VQ,Gk,vd,EP]
def Wg{c:Eb}{a b:Int}(h:0<=c.1/\c.1<=1000/\0<=a/\a<=1000/\0<=c.2.1/\c.2.1<=255/\0<=b/\b<=255):∃d:Int,Cc 38 [.i c.1,.i c.2.1,.i a,.i b] [.i d]/\(d<0↔VQ c a b=true)/\(d=0↔c.1=a/\c.2.1=b):=by
 by_cases e:c.1=a
 .refine⟨c.2.1 - b,?_,by rw[mg];omega,a_⟩;refine q38 rfl ?_;unfold Yt;simp only[u5];simp(disch:=omega)only[↓nc]
 .refine⟨c.1 - a,?_,by rw[mg];omega,a_⟩;refine q38 rfl ?_;unfold Yt;simp only[u5];simp(disch:=omega)only[↓nc]
def Kl{c:Eb}{a b:Int}(h:0<=c.1/\c.1<=1000/\0<=a/\a<=1000/\0<=c.2.1/\c.2.1<=255/\0<=b/\b<=255):∃d:Int,Cc 172 [.i c.1,.i c.2.1,.i c.2.2,.i a,.i b] [.i d]/\(d<0↔VQ c a b=true)/\(d=0↔c.1=a/\c.2.1=b):=by
 obtain⟨d,g,e,f⟩:=Wg h;refine⟨d,?_,e,f⟩;refine q172 rfl ?_;unfold SM;simp only[u5]
 repeat (first|simp(disch:=omega)only[↓nc]|refine ai (Ay c) ?_|refine ai g ?_)
abbrev o4:Value:=.func (.func 172) ⟨[]⟩ ⟨[]⟩
def BQ:aF o4=true:=rfl
def nS{a:Int}{K:Tw}(h0:0<=a)(d:K (a / 2)):P1.FK .shr .u64 a .u64 1 (@i' _ ⟨K⟩):=by
 refine cy (tV 0) (K:=λn=>if n=a / 2 then r9 else none) (λn f=>?_) ?_
 .by_cases e:n=a / 2
  .rw[e];exact d
  simp_all
 .have b:∀(K:Int->RT),(BA ac aa (GM 0)).FK .shr .u64 a .u64 1 K=Ry .shr .u64 a .u64 1 K:=λ_=>rfl;rw[b];have c:VH 0 1=true:=rfl;unfold Ry;rw[c];simp only;rw[kR];have:a.fdiv (2 ^ min (1:Int).toNat IntKind.u64.bits)=a / 2:=by
   show a.fdiv 2=a / 2
   grind
  rw[this,rv rfl]
def Wl{a:Int}{K:Tw}(h1:0<=a)(c:a<=9223372036854775807)(b:K a):P1.conv .u64 a (@i' _ ⟨K⟩):=by
 show K (IntKind.wrap .u64 a);have:IntKind.wrap .u64 a=a:=by
  simp only[IntKind.wrap,IntKind.bits,IntKind.signed,Bool.false_and,D7,if_false];omega
 rw[this];exact b
def Im(c:Eb):Prop:=0<=c.1/\c.1<=1000/\0<=c.2.1/\c.2.1<=255/\0<=c.2.2/\c.2.2<=255
def At(l:TD)(a b:Int)(i:Nat):Prop:=i<=l.length/\(∀(k:Nat) c,l[k]?=some c->k<i->VQ c a b=true)/\∀(k:Nat) c,l[k]?=some c->i<=k->VQ c a b=false
def EL(l:TD)(a b:Int)(i:Nat):Bool:=match l[i]? with
 |some c=>decide (c.1=a)&&decide (c.2.1=b)
 |none=>false
def Oa{l:TD}(h:EH l=true):∀(n i:Nat) a b,l[i]?=some a->l[i+n+1]?=some b->Gb a b=true
 |0,i,a,b,d,e=>jf.1 h i a b d e
 |n+1,i,a,b,d,e=>by
  obtain⟨c,f⟩:=aq (l:=l) (i:=i+n+1) jn;have g:=Oa h n i a c d f;have j:=jf.1 h (i+n+1) c b f a_;simp only[Gb,Gk,vd,EP]at g j ⊢;omega
def II{l:TD}(h:EH l=true){i j:Nat}{a b:Eb}(d:i<j)(c:l[i]?=some a)(e:l[j]?=some b):Gb a b=true:=
 Oa h (j - i - 1) i a b c jn
def l8{h:HL}{x:TR}{l:TD}(w:q9 h x 3 n4 l)(u:∀c∈l,Im c)(T:l.length<=1000)(p:EH l=true){a b:Int}(U:0<=a/\a<=1000/\0<=b/\b<=255) :
  ∃i:Nat,At l a b i/\aA cc ac 171 [.v x,.i a,.i b,.v o4] (g_ aa h) [.i (ofNat i),.b (EL l a b i)] (g_ aa h):=by
 obtain⟨L,r,N,i,rfl,rfl,O⟩:=x171 (K:=λL r=>∃i:Nat,L=[.i (ofNat i),.b (EL l a b i)]/\r=h/\At l a b i) (H:=h) (q7 w.i_ (k_ (k_ (q7 BQ t0)))) (by
  unfold Vn;simp only[u5];refine e_ ?_;refine bz w ?_;refine aJ (m:=l.length) (λm J r=>∃i j:Nat,J=[.i (ofNat i),.i (ofNat j)]/\r=h/\i<=j/\j<=l.length/\m=j - i/\(∀(k:Nat) c,l[k]?=some c->k<i->VQ c a b=true)/\∀(k:Nat) c,l[k]?=some c->j<=k->VQ c a b=false) ⟨0,l.length,rfl,rfl,a_,a_,a_,λk c _ u=>a_,λk c g u=>kb⟩ ?_;rintro m J r ⟨i,j,rfl,rfl,Q,t,rfl,o,n⟩ M f;refine Di ?_;refine e_ ?_;by_cases F:i<j
  .rw[aN F];refine e_ ?_;rw[E4 jn jn];refine Wl jn jn ?_;refine nS jn ?_;have s:(ofNat i+ofNat j) / 2=ofNat ((i+j) / 2):=c_;rw[s];rw[QB jn jn];obtain⟨c,g⟩:=aq (l:=l) (i:=(i+j) / 2) a_;have G:=u c (Cf g);unfold Im at G;refine aP w rfl g ?_;unfold n4;refine e_ ?_;obtain⟨d,A,I,z⟩:=Kl (c:=c) (a:=a) (b:=b) a_;refine iV (sF (A _) rfl [.agg [.i .i64 c.1,.i .u8 c.2.1,.i .u8 c.2.2],.agg [.i .i64 a,.i .u8 b]] rfl rfl) ?_;refine e_ ?_;by_cases B:d<0
   .have R:=I.1 B;refine e_ ?_;rw[aY a_];refine e_ ?_;refine f (j - ((i+j) / 2+1)) _ _ a_ ⟨(i+j) / 2+1,j,rfl,rfl,a_,t,rfl,λk e C E=>?_,n⟩;rcases Gi k ((i+j) / 2)with q|q
    .have:=II p q C g;rw[mg]at R ⊢;simp only[Gb,Gk,vd,EP]at this;omega
    grind
   .have P:VQ c a b=false:=by
     simp_all
    refine e_ ?_;refine f ((i+j) / 2 - i) _ _ a_ ⟨i,(i+j) / 2,rfl,rfl,a_,a_,rfl,o,λk e C E=>?_⟩;rcases Gi ((i+j) / 2) k with q|q
    .have:=II p q g C;rw[←Gj,mg]at P ⊢;simp only[Gb,Gk,vd,EP]at this;omega
    grind
  .obtain rfl:i=j:=a_;rw[aM (A9 _)];refine e_ ?_;by_cases D:i<l.length
   .rw[aN D];refine e_ ?_;obtain⟨c,g⟩:=aq D;have G:=u c (Cf g);unfold Im at G;refine aP w rfl g ?_;unfold n4;refine e_ ?_;obtain⟨d,A,I,z⟩:=Kl (c:=c) (a:=a) (b:=b) a_;refine iV (sF (A _) rfl [.agg [.i .i64 c.1,.i .u8 c.2.1,.i .u8 c.2.2],.agg [.i .i64 a,.i .u8 b]] rfl rfl) ?_;refine e_ ?_;by_cases y:d=0
    .have:=z.1 y;rw[ra y];refine e_ ?_;exact⟨i,by simp[EL,g,this.1,this.2],C2,t,o,n⟩
    .have S:¬(c.1=a/\c.2.1=b):=λq=>y (z.2 q);rw[wb y];refine e_ ?_;refine⟨i,?_,C2,t,o,n⟩;have:EL l a b i=false:=by
      simp only[EL,g]
      simp_all
     rw[this]
   .rw[aM a_];refine e_ ?_;refine⟨i,?_,C2,t,o,n⟩;have:EL l a b i=false:=by
     simp only[EL,Gu (Nat.not_lt.1 D)]
    rw[this])
 exact⟨i,O,N⟩
def BU{h:HL}{x:TR}{l:TD}(f:q9 h x 3 n4 l)(n:∀c∈l,Im c)(o:l.length<=1000)(d:EH l=true){a b:Int}(p:0<=a/\a<=1000/\0<=b/\b<=255) :
  ∃i:Nat,At l a b i/\aA cc ac 164 [.v x,.i a,.i b] (g_ aa h) [.i (ofNat i),.b (EL l a b i)] (g_ aa h):=by
 obtain⟨i,m,k⟩:=l8 f n o d p;obtain⟨g,e,j,rfl,rfl⟩:=x164 (K:=λg e=>g=[.i (ofNat i),.b (EL l a b i)]/\e=h) (H:=h) (q7 f.i_ (k_ (k_ t0))) (by
  unfold Vm;simp only[u5]
  repeat (first|simp(disch:=omega)only[↓nc]|refine ak k ?_)
  simp_all)
 exact⟨i,m,j⟩
def U3(a b:Int)(c:Eb):Bool:=decide (c.1=a)&&decide (c.2.1=b)
def jD(l:TD)(a b:Int):Int:=match l.find? (U3 a b)with
 |some c=>c.2.2
 |none=>0
def VG{l:TD}{a b:Int}{i:Nat}(h:At l a b i)(e:EH l=true):(EL l a b i=true->∃c,l[i]?=some c/\jD l a b=c.2.2)/\(EL l a b i=false->jD l a b=0):=by
 obtain⟨u,p,r⟩:=h;have m:∀(k:Nat) c,l[k]?=some c->U3 a b c=true->k=i:=by
  intro k c f s;simp only[U3,vd,EP]at s;rcases Nat.lt_trichotomy k i with q|q|q
  .have:=p k c f q;rw[mg]at this;omega
  .exact q
  .obtain⟨d,g⟩:=aq (l:=l) (i:=i) jn;have n:=II e q g f;have o:=r i d g (A9 _);rw[←Gj,mg]at o;simp only[Gb,Gk,vd,EP]at n;omega
 have t:EL l a b i=true↔∃c,l[i]?=some c/\U3 a b c=true:=by
  unfold EL U3
  grind
 unfold jD;cases j:l.find? (U3 a b)with
 |none=>
  grind
 |some c=>
  have w:=List.find?_some j;obtain⟨k,v⟩:=Ev (qc6 j)
  grind
structure NH(w v:Nat)(l:TD):Prop where
 sheet:1<=w/\w<=5/\1<=v/\v<=5
 Ju:∀c∈l,Im c
 len:l.length<=1000
 ok:F6 (.ofNat w) (.ofNat v) l=0
def NH.sm{w v:Nat}{l:TD}(h:NH w v l):Ir (.ofNat w) (.ofNat v):=by
 have:=h.sheet;unfold Ir
 grind
def NH.asc{w v:Nat}{l:TD}(h:NH w v l):EH l=true:=by
 have:=h.ok;unfold F6 at this
 grind
def NH.check{w v:Nat}{l:TD}(h:NH w v l){H:HL}{x:TR}(b:q9 H x 3 n4 l):aA cc ac 16 [.i (.ofNat w),.i (.ofNat v),.v x] (g_ aa H) [.i 0] (g_ aa H):=by
 have:=UF h.sm b (λc a=>by
  have:=h.Ju c a;unfold Im at this;unfold v4;omega) (by have:=h.len;omega)
 rw[h.ok]at this;exact this
def Cb{w v:Nat}{l:TD}(g:NH w v l){H:HL}{x:TR}(h:q9 H x 3 n4 l){c e n:Nat}(z:c<4*w*v)(A:e<3)(D:Cv w v c e=some n)(E:n<=1000) :
  aA cc ac 106 [.i (.ofNat w),.i (.ofNat v),.v x,.i (.ofNat c),.i (.ofNat e)] (g_ aa H) [.i (jD l (.ofNat (min c n)) (.ofNat e)),.i 0] (g_ aa H):=by
 have f:=g.sheet;have d:=Jf (se w v f.1 f.2.1 f.2.2.1 f.2.2.2) z A;unfold H9 at d;rw[D]at d;simp only at d;obtain⟨i,B,q⟩:=BU h g.Ju g.len g.asc (a:=.ofNat (min c n)) (b:=.ofNat e) jn;obtain⟨F,L⟩:=VG B g.asc;obtain⟨m,j,r,t,u⟩:=x141 (K:=λm j=>m=[.i (.ofNat (min c n)),.i (.ofNat e),.i (.ofNat i),.b (EL l (.ofNat (min c n)) (.ofNat e) i),.i 0]/\j=H) (H:=H) (k_ (k_ (q7 h.i_ (k_ (k_ t0))))) (by
  unfold Vh;simp only[u5]
  repeat (first|simp(disch:=omega)only[↓nc]|refine ak (g.check h) ?_|refine ai d ?_|refine ak q ?_)
  simp_all)
 rw[t,u]at r;obtain⟨G,I,J,e3,e4⟩:=x106 (K:=λm j=>m=[.i (jD l (.ofNat (min c n)) (.ofNat e)),.i 0]/\j=H) (H:=H) (k_ (k_ (q7 h.i_ (k_ (k_ t0))))) (by
  unfold Vb;simp only[u5]
  repeat (first|simp(disch:=omega)only[↓nc]|refine ak r ?_)
  cases y:EL l (.ofNat (min c n)) (.ofNat e) i with
  |false=>
   simp(disch:=omega)only[↓nc,EB]
   simp_all
  |true=>
   obtain⟨s,p,C⟩:=F y
   repeat (first|simp(disch:=omega)only[↓nc,DP]|refine dF (o:=2) (k:=1) (cs:=[.int .u8 s.2.2]) h rfl p rfl a_ ?_)
   simp_all)
 simp_all
def tx(x y:Cl):K6:=if CX x y then(y,x)else(x,y)
abbrev Ez:=List K6×List (List K2)
def Cn(k:K6)(s:Ez):Ez:=if k∈s.1 then s else(s.1++[k],s.2++[[],[],[]])
def Fo(j:Nat)(p:K2)(s:Ez):Ez:=(s.1,s.2.set j (s.2.getD j []++[p]))
def ff(w v:Nat)(l:TD)(P:TH)(id e:Nat)(s:Ez):Ez:=
 let a:=aB (P id) (q8 w id)
 let b:=aB (P id) (DH (q8 w id) e)
 let s:=Cn (tx a b) s
 let i:=s.1.idxOf (tx a b)
 match Cv w v id e with
 |none=>s
 |some n=>if n<id then s else
  if jD l (ofNat (min id n)) (ofNat e)=0 then Fo (3*i) (if CX a b then(n,id)else(id,n)) s
  else Fo (3*i+(if CX a b then 2 else 1)) (id,n) s
def EJ(pn:Ti)(w v:Nat)(l:TD)(P:TH)(V:Tx)(id e:Nat):Prop:=
 ∀n,Cv w v id e=some n->¬n<id->jD l (ofNat (min id n)) (ofNat e)≠0->jD l (ofNat (min id n)) (ofNat e)≠3->A8 V (HM pn (jD l (ofNat (min id n)) (ofNat e)) id n (decide ((P id).1<4)))=true
def C9(w v:Nat)(l:TD)(P:TH)(n:Nat):Ez:=(range n).foldl (λs id=>(range 3).foldl (λs e=>ff w v l P id e s) s) ([],[])
def Sm.look{o:Nat}{h:HL}{f:Nat}{kv:TR}{ks:List K6}{is:TC}{vs:Tn}{ls:List (List K2)}(d:Sm o h f kv ks is vs ls)(k:K6){v:TR}(n:v = .agg ⟨J5 k⟩){K:Tf}(h0:k∉ks->K [.pointer none])(h1:∀(i:Nat) id,ks[i]?=some k->is[i]?=some id->K [ka id]) :
  P1.my (.fn (Fb cc 198 false (.pointer none) (.map (some f)) v false)) h (@i' _ ⟨K⟩):=by
 have q:∀(i:Nat) p,(ks.zip (is.map ka))[i]?=some p->∃id,ks[i]?=some p.1/\is[i]?=some id/\p.2=ka id:=λi p c=>by
  grind
 refine Rb J5 OX d_ d_ Kj d.mp k n (λg e=>by cases e) (λp c g e=>?_) (λm=>h0 λj=>m ?_) λi u a=>?_
 .obtain⟨i,a⟩:=Ev c
  grind
 .obtain⟨i,a⟩:=Ev j;obtain⟨id,b⟩:=aq (l:=is) (i:=i) (by rw[d.il];exact am a);refine CS.2 ⟨(k,ka id),Cf (i:=i) (qc5.2 ⟨a,?_⟩),rfl⟩
  simp_all
 grind
def Sm.put_key{l:Nat}{h g:HL}{a:Nat}{kv:TR}{ks:List K6}{is:TC}{vs:Tn}{ls:List (List K2)}(i:Sm l h a kv ks is vs ls){k:K6}(d:k∉ks){v u:TR}(j:v = .agg ⟨J5 k⟩)(c:∀o,h[a]?=some o->g[a]?=some o){K:Tb}(b:∀o,Dd J5 (g.set a o) a (ks.zip (is.map ka)++[(k,u)])->K [] (g.set a o)) :
  P1.heap (.fn (FO cc 198 (.map (some a)) v u)) g (@i' _ ⟨K⟩):=by
 refine Rc J5 OX d_ d_ Kj (i.mp.j9 _ c) k (λe=>d ?_) j b;obtain⟨p,f,rfl⟩:=CS.1 e;exact(List.of_mem_zip f).1
def GO(l:Ln)(s:Bool)(g:Mv)(c:Cl):Mv:=if dR l (aB g c)=s then af g (wd l)else g
def Pe{l:Ln}{s:Bool}{g:Mv}{c:Cl}(a:g.1<8):(GO l s g c).1<8:=by
 unfold GO;split
 .exact fH
 .exact a
def LB{c:Cl}{e:Nat}(a:c.2.2<4)(d:e<3):dR (s7 c e) c≠dR (s7 c e) (DH c e):=by
 obtain⟨x,y,q⟩:=c;simp only at a;have b:e=0∨e=1∨e=2:=a_;rcases EC a with rfl|rfl|rfl|rfl<;>rcases b with rfl|rfl|rfl
 all_goals
  intro h;simp[dR,DH,s7]at h
  try omega
def KM{c:Cl}{e:Nat}(a:c.2.2<4)(d:e<3):1<=(s7 c e).1/\(s7 c e).1<=4:=by
 obtain⟨x,y,q⟩:=c;simp only at a;have b:e=0∨e=1∨e=2:=a_;rcases EC a with rfl|rfl|rfl|rfl<;>rcases b with rfl|rfl|rfl<;>simp[s7]
def VD{m:Mv}(h:m.1<8):af (E1 m) m=CJ:=by
 obtain⟨t,x,y⟩:=m;have h:t<8:=h;unfold af E1 CJ;rcases t8 h with rfl|rfl|rfl|rfl|rfl|rfl|rfl|rfl<;>simp[Da,mA,mB,mC,mD,GC]<;>omega
def Bi{a b:Mv}{c:Cl}(d:a.1<8)(e:b.1<8)(f:c.2.2<4):aB (af a b) c=aB b (aB a c):=by
 obtain⟨s,h,i⟩:=a;obtain⟨t,j,g⟩:=b;obtain⟨x,y,q⟩:=c;simp only at d e f;rcases t8 d with rfl|rfl|rfl|rfl|rfl|rfl|rfl|rfl<;>rcases t8 e with rfl|rfl|rfl|rfl|rfl|rfl|rfl|rfl
 all_goals rcases EC f with rfl|rfl|rfl|rfl
 all_goals simp[aB,qT,mA,mB,mC,mD,af,Da]
 all_goals omega
def Pc(w:Nat)(l:Ln)(s:Bool)(G:TH)(r:Mv)(c:Nat):Mv:=af (GO l s (af (G c) r) (q8 w c)) (E1 (GO l s (af (G 0) r) (q8 w 0)))
def Pd{w:Nat}{l:Ln}{s:Bool}{G:TH}{r:Mv}(c:Nat):af (Pc w l s G r c) (GO l s (af (G 0) r) (q8 w 0))=GO l s (af (G c) r) (q8 w c):=by
 have a:∀c,(GO l s (af (G c) r) (q8 w c)).1<8:=λc=>Pe fH;have b:(E1 (GO l s (af (G 0) r) (q8 w 0))).1<8:=by
  have:=a 0;generalize GO l s (af (G 0) r) (q8 w 0)=m at *;unfold E1;simp only;rcases t8 this with h|h|h|h|h|h|h|h<;>rw[h]<;>simp[GC]
 unfold Pc;rw[cz (a c) b (a 0),VD (a 0),oI (a c)]
def Sl{w v:Nat}(K:Sh w v){l l':TD}{G:TH}(hG:oL w v l G)(O:∀c,c<4*w*v->(G c).1<8){r:Mv}(hr:r.1<8){ln:Ln}(D:1<=ln.1/\ln.1<=4){s:Bool}
  (ad:∀u e n,u<4*w*v->e<3->Cv w v u e=some n->u<n->(CD l' u e=true↔(CD l u e=true∨(CD l u e=false/\s7 (aB (af (G u) r) (q8 w u)) (eT (af (G u) r).1 e)=ln)))) :
  oL w v l' (Pc w ln s G r)/\Pc w ln s G r 0=CJ:=by
 have L:∀c,(GO ln s (af (G c) r) (q8 w c)).1<8:=λc=>Pe fH;refine⟨λc e n J j hn=>?_,PK (L 0)⟩;obtain⟨F,T,ag,y,al⟩:=dO K J j hn;have p:(q8 w c).2.2<4:=(dH K J).2.2.2.2;have Z:(q8 w n).2.2<4:=(dH K F).2.2.2.2;have E:∀g,Ej w l g c n e=if CD l (min c n) e=true then af (wd (s7 (q8 w c) e)) g else g:=λg=>by
  unfold Ej
  grind
 have A:∀g,Ej w l' g c n e=if CD l' (min c n) e=true then af (wd (s7 (q8 w c) e)) g else g:=λg=>by
  unfold Ej
  grind
 have k:=hG c e n J j hn;rw[E]at k;rw[A];generalize I:wd (s7 (q8 w c) e)=M at *;have f:M.1<8:=by rw[←I];exact rH _
 have P:af M M=CJ:=by rw[←I];exact M4 _
 have V:(wd ln).1<8:=rH _;have N:=O c J;have d:(af (G c) r).1<8:=fH;have hi:(E1 (GO ln s (af (G 0) r) (q8 w 0))).1<8:=by
  have:=L 0;generalize GO ln s (af (G 0) r) (q8 w 0)=m at *;unfold E1;simp only;rcases t8 this with h|h|h|h|h|h|h|h<;>rw[h]<;>simp[GC]
 have o:CD l' (min c n) e=true↔(CD l (min c n) e=true∨(CD l (min c n) e=false/\s7 (aB (af (G (min c n)) r) (q8 w (min c n))) (eT (af (G (min c n)) r).1 e)=ln)):=by
  grind
 have x:∀X:Mv,X.1<8->(GO ln s (af (G n) r) (q8 w n)=af M (GO ln s (af (G c) r) (q8 w c)))->Pc w ln s G r n=af M (Pc w ln s G r c):=λ_ _ h=>by
  unfold Pc;rw[h,cz f (L c) hi]
 by_cases z:CD l (min c n) e=true
 .rw[rv (o.2 (.inl z))];rw[rv z]at k;refine x M f ?_;have W:af (G n) r=af M (af (G c) r):=by rw[k,cz f N hr]
  have R:aB (af (G n) r) (q8 w n)=aB (af (G c) r) (q8 w c):=by
   rw[W,y,←I];exact gS d p j
  unfold GO;rw[R];split
  .rw[W,cz f d V]
  .exact W
 .rw[te z]at k;have C:CD l (min c n) e=false:=b5.2 z;have S:G (min c n)=G c:=by
   grind
  have B:s7 (aB (af (G (min c n)) r) (q8 w (min c n))) (eT (af (G (min c n)) r).1 e)=s7 (aB (af (G c) r) (q8 w c)) (eT (af (G c) r).1 e):=by
   rw[S];rcases Nat.le_total c n with h|h
   .rw[zP h]
   .rw[Nat.min_eq_right h];have Y:=xO (KM (c:=aB (af (G c) r) (q8 w n)) iZ (lW (t:=(af (G c) r).1) j)) (c:=aB (af (G c) r) (q8 w c)) iZ (lW (t:=(af (G c) r).1) j) ?_
    .exact Y
    .have hb:q8 w c=DH (q8 w n) e:=(dO K F j T).2.2.2.1;have h1:=LB (c:=aB (af (G c) r) (q8 w n)) (e:=eT (af (G c) r).1 e) iZ (lW j);rw[←iT d p j,←y];rw[←iT d Z j,←hb]at h1;exact CY h1
  rw[B]at o;by_cases i:s7 (aB (af (G c) r) (q8 w c)) (eT (af (G c) r).1 e)=ln
  .rw[rv (o.2 (.inr ⟨C,i⟩))];refine x M f ?_;have q:=LB (c:=aB (af (G c) r) (q8 w c)) (e:=eT (af (G c) r).1 e) iZ (lW j);rw[i,←iT d p j]at q;have H:=M' d D p j q;rw[I]at H;rw[←y]at q;unfold GO;rw[k];generalize dR ln (aB (af (G c) r) (q8 w c))=a at *;generalize dR ln (aB (af (G c) r) (q8 w n))=b at *;have Q:af M (af M (af (G c) r))=af (G c) r:=by rw[←cz f f d,P,kW d]
   by_cases ha:a=s
   .grind
   .rw[te ha,rv (by cases a<;>cases b<;>cases s<;>simp_all),H]
  .have U:¬CD l' (min c n) e=true:=λh=>by
    simp_all
   rw[te U];have q:dR ln (aB (af (G c) r) (q8 w c))=dR ln (aB (af (G c) r) (q8 w n)):=by
    by_cases h:dR ln (aB (af (G c) r) (q8 w c))=dR ln (aB (af (G c) r) (q8 w n))
    .exact h
    .rw[y,iT d p j]at h;exact absurd (xO D iZ (lW j) h).symm i
   unfold Pc
   congr 1
   unfold GO;rw[k,q]
def eqsC{a b:Cl}{K:Tp}:P1.eqs [(.i a.1,.i b.1),(.i a.2.1,.i b.2.1),(.i (ofNat a.2.2),.i (ofNat b.2.2))] (@i' _ ⟨K⟩)=K (decide (a=b)):=by
 show K (cj _)=_;have e:cj [(.i a.1,.i b.1),(.i a.2.1,.i b.2.1),(.i (ofNat a.2.2),.i (ofNat b.2.2))]=decide (a=b):=by
  rw[WI];simp[cj,ir,e7];omega
 rw[e]
def Qk{c:Cl}(a:c.2.2<4):aB CJ c=c:=by
 obtain⟨x,y,q⟩:=c;simp only at a;rcases EC a with rfl|rfl|rfl|rfl<;>simp[aB,CJ,mA,mB,mC,mD,qT]
def Qn{c:Cl}{e:Nat}(a:c.2.2<4)(d:e<3):(DH c e).2.2<4/\c.1 - 1<=(DH c e).1/\(DH c e).1<=c.1+1/\c.2.1 - 1<=(DH c e).2.1/\(DH c e).2.1<=c.2.1+1:=by
 obtain⟨x,y,q⟩:=c;simp only at a;have b:e=0∨e=1∨e=2:=a_;rcases EC a with rfl|rfl|rfl|rfl<;>rcases b with rfl|rfl|rfl<;>simp[DH]<;>omega
def dst(w c:Nat):Nat:=3*(c / 4%w+c / 4 / w)+[0,1,2,1].getD (c%4) 0 - (if c%4=3/\c / 4 / w=0/\c / 4%w≠0 then 2 else 0)
def Nz(w v c:Nat):Bool:=Nat.ble (dst w c) 14&&(Nat.beq c 0||(range 3).any λe=>match Cv w v c e with
 |some n=>Nat.beq (dst w n+1) (dst w c)
 |none=>false)
def T4:∀w v:Nat,1<=w->w<=3->1<=v->v<=3->((range (4*w*v)).all λc=>Nz w v c)=true:=by
 have a:((range 3).all λw=>(range 3).all λv=>(range (4*(w+1)*(v+1))).all λc=>Nz (w+1) (v+1) c)=true:=by decide +kernel
 intro w v d e f g;have b:=A_.1 a (w - 1) (Cm.2 a_);have h:=A_.1 b (v - 1) (Cm.2 a_)
 simp_all
def xB(d:Int)(a b:Cl):Prop:=a.1 - d<=b.1/\b.1<=a.1+d/\a.2.1 - d<=b.2.1/\b.2.1<=a.2.1+d
def B7{w v:Nat}(o:Sh w v){l:TD}{G:TH}(k:Cz w v l G){r:Mv}(x:r.1<8){c e n:Nat}(j:c<4*w*v)(h:e<3)(m:Cv w v c e=some n) :
  xB 1 (aB (af (G c) r) (q8 w c)) (aB (af (G n) r) (q8 w n)):=by
 obtain⟨s,t,p,d,u⟩:=dO o j h m;have i:(q8 w c).2.2<4:=(dH o j).2.2.2.2;have b:(af (G c) r).1<8:=fH;have a:=k.g c e n j h m;unfold Ej at a;by_cases f:CD l (min c n) e=true
 .rw[rv f]at a;have q:s7 (q8 w (min c n)) e=s7 (q8 w c) e:=by
   grind
  rw[q]at a;have:aB (af (G n) r) (q8 w n)=aB (af (G c) r) (q8 w c):=by
   rw[a,d,cz (rH _) (k.ok c j).1 x];exact gS b i h
  rw[this];unfold xB;omega
 .rw[te f]at a;rw[a,d,iT b i h];have:=Qn (c:=aB (af (G c) r) (q8 w c)) (e:=eT (af (G c) r).1 e) iZ (lW h);unfold xB;omega
def PG{w v:Nat}(b:S3 w v){l:TD}{G:TH}(q:Cz w v l G){r:Mv}(s:r.1<8):∀(d c:Nat),c<4*w*v->dst w c=d->xB (ofNat d) (aB (af (G 0) r) (q8 w 0)) (aB (af (G c) r) (q8 w c)):=by
 have m:=b.sh;intro d
 induction d using Nat.strongRecOn with
 |_ d t=>
  intro c k z;have i:=A_.1 (T4 w v b.1 b.2.1 b.2.2.1 b.2.2.2) c (Cm.2 k);unfold Nz at i;rw[vd,Gk]at i;rcases i.2 with o|p
  .obtain rfl:=Dx o;unfold xB
   grind
  .obtain⟨e,g,a⟩:=c9.1 p;have g:=Cm.1 g;cases j:Cv w v c e with
   |none=>rw[j]at a;cases a
   |some n=>
    rw[j]at a;have a:=Dx a;obtain⟨f,h,_⟩:=dO m k g j;have u:=t (dst w n) a_ n f rfl;have x:=B7 m q s f g h;have y:ofNat d=ofNat (dst w n)+1:=by
     grind
    unfold xB at *;omega
def tq{w v:Nat}(a:S3 w v){l:TD}{G:TH}(e:Cz w v l G){r:Mv}{k:Int}(b:CM k r){c:Nat}(f:c<4*w*v) :
  -(k+15)<=(aB (af (G c) r) (q8 w c)).1/\(aB (af (G c) r) (q8 w c)).1<=k+15/\-(k+15)<=(aB (af (G c) r) (q8 w c)).2.1/\(aB (af (G c) r) (q8 w c)).2.1<=k+15:=by
 have d:=A_.1 (T4 w v a.1 a.2.1 a.2.2.1 a.2.2.2) c (Cm.2 f);unfold Nz at d;rw[vd]at d;have j:=Nat.le_of_ble_eq_true d.1;have g:=PG a e b.1 _ c f rfl;have i:-(k+1)<=(aB (af (G 0) r) (q8 w 0)).1/\(aB (af (G 0) r) (q8 w 0)).1<=k/\-(k+1)<=(aB (af (G 0) r) (q8 w 0)).2.1/\(aB (af (G 0) r) (q8 w 0)).2.1<=k:=by
  rw[e.z,kW b.1,show q8 w 0=(0,0,0)by simp[q8]];obtain⟨t,x,y⟩:=r;unfold CM at b;simp only at b;simp only[aB,Int.mul_zero,Int.zero_add];omega
 have h:ofNat (dst w c)<=14:=jn;unfold xB at g;omega
def P5{c:Cl}{e:Nat}{n:Int}(a:c.2.2<4)(f:e<3)(d:-n<=c.1/\c.1<=n/\-n<=c.2.1/\c.2.1<=n):CM (2*n+2) (wd (s7 c e))/\-(2*n+2)<=(s7 c e).2/\(s7 c e).2<=2*n+2:=by
 obtain⟨x,y,q⟩:=c;simp only at a d;have b:e=0∨e=1∨e=2:=a_;rcases EC a with rfl|rfl|rfl|rfl<;>rcases b with rfl|rfl|rfl
 all_goals
  simp[s7,wd,CM];omega
def HK(l:List IB):Prop:=l.Pairwise λa b=>CX a.1 b.1=false
def vn{a b:Cl}:CX a b=false↔¬(b.2.1<a.2.1∨(a.2.1=b.2.1/\(b.1<a.1∨(a.1=b.1/\b.2.2<a.2.2)))):=by
 unfold CX
 simp_all
def wW{a b:Cl}:CX a b=true↔(b.2.1<a.2.1∨(a.2.1=b.2.1/\(b.1<a.1∨(a.1=b.1/\b.2.2<a.2.2)))):=by
 unfold CX;rw[EP]
def RE{A B:List IB}{x:IB}(h:HK (A++B))(h1:∀a∈A,CX a.1 x.1=false)(d:∀b∈B,CX b.1 x.1=true):HK (A++x :: B):=by
 unfold HK at *;rw[j2]at h ⊢;refine⟨h.1,Jp.2 ⟨λb c=>?_,h.2.1⟩,λa e b c=>?_⟩
 .have:=wW.1 (d b c);exact vn.2 a_
 grind
def RF{H:HL}{x:TR}{l:List IB}(hx:q9 H x 4 C_ l)(h0:0<l.length)(hn:l.length<=1000)(G:∀s∈l,aF s.2=true) :
  ∃l' h' z,aA cc ac 26 [.v x] (g_ aa H) [.v z] (g_ aa h')/\v_ H h'/\q9 h' z 4 C_ l'/\l'.Perm l/\HK l':=by
 have ag:=x26 (ls:=[.v x]) (K:=λrs h'=>∃z l',rs=[.v z]/\v_ H h'/\q9 h' z 4 C_ l'/\l'.Perm l/\HK l') (H:=H) (q7 hx.i_ t0) (by
  unfold f26;simp only[u5];refine e_ ?_;refine eE (e:=4) aD (hx.pre ⟨_,rfl⟩) h0 a_ a_ ?_;have r:v_ H (H++[HO.o (.cells [] 4 true)]):=⟨_,rfl⟩;generalize H++[HO.o (.cells [] 4 true)]=H1 at *;refine e_ ?_;have i':(H1++[HO.o (.cells (l.flatMap C_) 4 true)])[H1.length]?=some (HO.o (.cells (l.flatMap C_) 4 true)):=aD;have J:v_ H (H1++[HO.o (.cells (l.flatMap C_) 4 true)]):=r.Fa _;have I:H.length<=H1.length:=r.len;generalize H1++[HO.o (.cells (l.flatMap C_) 4 true)]=H2 at *;generalize H1.length=id at *;have p:=am i';have D:∀L:List IB,L.length=l.length->q9 (po H2 id 4 C_ L) (.slice (some ⟨id,0,le 4⟩) l.length 0) 4 C_ L:=λL h=>dM nX (bI p) h.symm;have r:po H2 id 4 C_ l=H2:=eN i';refine ab (dM (cx:=0) nX i' rfl).i_ ?_;refine km ?_;refine bN (g9:=List IB) (max 1 l.length) (λj _=>[.i (ofNat j)]) (λ_ L=>po H2 id 4 C_ L) (λj L=>L.Perm l/\1<=j/\HK (L.take j)) (j0:=1) (s0:=l) rfl r.symm a_ ⟨YU _,A9 _,?_⟩ ?_
  .cases l with
   |nil=>exact .nil
   |cons a l=>exact Jp.2 ⟨λ_ h=>(by cases h),.nil⟩
  intro i L hi ⟨d,hi1,f⟩ self hself;have t:L.length=l.length:=d.length_eq;refine e_ ?_;refine bz (D L t) ?_;rw[t];by_cases V:i<l.length
  case neg=>
   rw[aM a_];refine e_ ?_;rw[Ik a_]at f;exact⟨_,L,rfl,iW J I,D L t,d,f⟩
  rw[aN V];refine e_ ?_;obtain⟨x0,Y⟩:=aq (l:=L) (i:=i) a_;have n:L=L.take i++x0 :: []++L.drop (i+1):=by
   conv=>lhs;rw[←WM i L]
   rw[SZ a_]
   simp_all
  refine aJ (m:=i) (λm ls h=>∃(A:List IB) (x:IB) (B R:List IB),ls=[.i (ofNat A.length)]/\m=A.length/\h=po H2 id 4 C_ (A++x :: B++R)/\(A++x :: B++R).Perm l/\HK (A++B)/\(∀b∈B,CX b.1 x.1=true)/\A.length+B.length=i)
   ⟨L.take i,x0,[],L.drop (i+1),jn,jn,by rw[←n],jn,by simpa using f,λb hb=>(by cases hb),jn⟩ ?_
  clear n Y f d t;rintro m ls h ⟨A,x,B,R,rfl,rfl,rfl,d,f,hB,O⟩ E k;refine Di ?_;refine e_ ?_;have t:(A++x :: B++R).length=l.length:=d.length_eq;have u:(∀a∈A,CX a.1 x.1=false)->self [.i (ofNat i+1)] (po H2 id 4 C_ (A++x :: B++R)):=λh=>hself _ a_ ⟨d,a_,by
   rw[qcJ ua,Ik ua];exact RE f h hB⟩
  rcases List.eq_nil_or_concat A with rfl|⟨c,y,rfl⟩
  .rw[y_ (show ofNat ([]:List IB).length<=0 from t2 _)];refine e_ ?_;rw[aY a_]
   simp_all
  rw[List.concat_eq_append]at *;have hk:(c++[y]).length=c.length+1:=c_;rw[hk]at O k ⊢;have C:CX y.1 x.1=false->∀a∈c++[y],CX a.1 x.1=false:=by
   intro h a P;rcases Ek.1 P with P|P
   .have Z:CX a.1 y.1=false:=by
     unfold HK at f
     grind
    have Z:=vn.1 Z;have h:=vn.1 h;exact vn.2 a_
   simp_all
  have N:(c++[y]++x :: B++R)[c.length]?=some y:=c_;have M:(c++[y]++x :: B++R)[c.length+1]?=some x:=by
   rw[EF,GV c_];simp
  have q:=D _ t;have hg:=bI (l:=c++[y]++x :: B++R) (e:=4) (enc:=C_) p;have T:aF y.2=true:=G y (d.mem_iff.1 (Cf N));have S:aF x.2=true:=G x (d.mem_iff.1 (Cf M));have g:c.length+1<=4294967296:=a_;rw[B3 (show(0:Int)<ofNat (c.length+1)by simp_all)];refine e_ ?_;rw[lq a_ g];refine km ?_;refine dF (cs:=[.int .i64 y.1.1,.int .i64 y.1.2.1,.int .u8 (ofNat y.1.2.2)]) q rfl N rfl a_ ?_;refine e_ ?_;refine dF (cs:=[.int .i64 x.1.1,.int .i64 x.1.2.1,.int .u8 (ofNat x.1.2.2)]) q rfl M rfl a_ ?_;refine e_ ?_;have F:=L_ (a:=y.1) (b:=x.1);simp only[Dl,DI,DA]at F;cases w:CX y.1 x.1 with
  |false=>
   rw[w]at F;refine ai F ?_;simp(disch:=omega)only[↓nc,if_false,D7];rw[aY a_];exact u (C w)
  |true=>
   rw[w]at F;refine ai F ?_;simp(disch:=omega)only[↓nc,if_true];have X:E [.i (ofNat c.length)] (po H2 id 4 C_ (c++x :: (y :: B)++R)):=k c.length _ _ a_ ⟨c,x,y :: B,R,rfl,rfl,rfl,by
    refine List.Perm.trans ?_ d;simp only[EF,DI,DA];exact qcD _ (List.Perm.swap _ _ _),kb,λb hb=>by
    grind,ua⟩
   have W:((c++[y]++x :: B++R).set c.length x).set (c.length+1) y=c++x :: (y :: B)++R:=by
    simp_all
   have U:((c++[y]++x :: B++R).set c.length x).length=l.length:=kb;have ad:=am M;have Q:(po (po H2 id 4 C_ (c++[y]++x :: B++R)) id 4 C_ ((c++[y]++x :: B++R).set c.length x))[id]?=some (.o (.cells (((c++[y]++x :: B++R).set c.length x).flatMap C_) 4 true)):=by
    rw[gF];exact bI p
   rw[lq a_ g];refine km ?_;refine aP q rfl M ?_;rw[show C_ x=[.int .i64 x.1.1,.int .i64 x.1.2.1,.int .u8 (ofNat x.1.2.2),x.2]from rfl];refine e_ ?_;refine ab S ?_;refine km ?_;rw[lq a_ g];refine km ?_;refine aP q rfl N ?_;rw[show C_ y=[.int .i64 y.1.1,.int .i64 y.1.2.1,.int .u8 (ofNat y.1.2.2),y.2]from rfl];refine e_ ?_;refine ab T ?_;refine km ?_;refine dh (enc:=C_) (i:=c.length) (a:=x) nX hg rfl a_ t rfl ?_;refine km ?_;refine dh (enc:=C_) (i:=c.length+1) (a:=y) nX Q rfl a_ U rfl ?_;rw[gF,gF,W];refine km ?_;rw[lq a_ g]
   simp_all)
 grind
abbrev Dk:=Cl×List Nat
def JJ(l:Ln)(s:Bool)(L:List Dk):List Dk:=L.filter λx=>!decide (dR l x.1=s)
def GA(l:Ln)(s:Bool)(L:List Dk):List Dk:=(L.filter λx=>decide (dR l x.1=s)).map λx=>(aB (wd l) x.1,x.2.reverse)
def E2(o:Bool):List Dk->Dk->List Dk
 | [],a=>[a]
 |x :: S,a=>if x.1=a.1 then(x.1,if o then x.2++a.2 else a.2++x.2) :: S else x :: E2 o S a
def KX{o:Bool}{a:Dk}:∀ {S:List Dk} {k:Nat} {x:Dk},S[k]?=some x->x.1=a.1->(∀j,j<k->∀t,S[j]?=some t->t.1≠a.1)->E2 o S a=S.set k (x.1,if o then x.2++a.2 else a.2++x.2)
 | [],k,x,h,_,_=>by simp at h
 |y :: S,0,x,h,h1,_=>by
  simp at h;subst h;simp[E2,h1]
 |y :: S,k+1,x,h,h1,b=>by
  have c:=b 0 a_ y rfl;simp only[E2,te c,g3];rw[KX (by simpa using h) h1 λj e t d=>b (j+1) a_ t (by simpa using d)]
def zu{o:Bool}{a:Dk}:∀ {S:List Dk},(∀(j:Nat) t,S[j]?=some t->t.1≠a.1)->E2 o S a=S++[a]
 | [],_=>rfl
 |y :: S,h=>by
  have b:=h 0 y rfl;simp only[E2,te b,DI];rw[zu λj t c=>h (j+1) t (by simpa using c)]
def zt{o:Bool}{a:Dk}:∀ {S:List Dk},(E2 o S a).map Prod.fst=if a.1∈S.map Prod.fst then S.map Prod.fst else S.map Prod.fst++[a.1]
 | []=>by simp[E2]
 |y :: S=>by
  unfold E2;by_cases h:y.1=a.1
  .simp_all
  .rw[te h,DD,zt]
   grind
def zw{o:Bool}{a:Dk}:∀ {S:List Dk},((E2 o S a).flatMap Prod.snd).Perm (S.flatMap Prod.snd++a.2)
 | []=>by simp[E2]
 |y :: S=>by
  unfold E2;by_cases h:y.1=a.1
  .grind
  .rw[te h];simp only[S6,EF];exact qcD _ zw
def xw{o:Bool}{a x:Dk}:∀ {S:List Dk},x∈E2 o S a->x∈S∨x=a∨∃y∈S,y.1=a.1/\x=(y.1,if o then y.2++a.2 else a.2++y.2)
 | [],h=>by
  simp[E2]at h;exact .inr (.inl h)
 |y :: S,h=>by
  unfold E2 at h;by_cases h1:y.1=a.1
  .grind
  .rw[te h1]at h;rcases DB.1 h with h|h
   .simp_all
   .rcases xw h with h|h|⟨z,d,b,c⟩
    .simp_all
    .exact .inr (.inl h)
    grind
structure IA(img:Nat->Cl)(X:TC)(L:List Dk):Prop where
 nd:(L.map Prod.fst).Nodup
 at':∀s∈L,∀c∈s.2,img c=s.1
 ne:∀s∈L,s.2≠[]
 pm:(L.flatMap Prod.snd).Perm X
def IA.E2{f:Nat->Cl}{X:TC}{S:List Dk}(h:IA f X S){o:Bool}{a:Dk}(h1:∀c∈a.2,f c=a.1)(j:a.2≠[]):IA f (X++a.2) (E2 o S a):=by
 refine⟨?_,λs d c b=>?_,λs d=>?_,zw.trans (h.pm.append_right _)⟩
 .rw[zt];by_cases g:a.1∈S.map Prod.fst
  .rw[rv g];exact h.nd
  .rw[te g];rw[gD];refine⟨h.nd,c_,λx k y i e=>?_⟩
   simp_all
 .rcases xw d with d|rfl|⟨y,i,g,rfl⟩
  .exact h.at' s d c b
  .exact h1 c b
  .simp only at b ⊢;have b:c∈y.2∨c∈a.2:=by
    grind
   rcases b with b|b
   .exact h.at' y i c b
   simp_all
 .rcases xw d with d|rfl|⟨y,i,g,rfl⟩
  .exact h.ne s d
  .exact j
  .simp only;cases o<;>simp[j]
def IA.mrgs{d:Nat->Cl}{o:Bool}:∀ {A:List Dk} {X:TC} {S:List Dk},IA d X S->(∀a∈A,(∀c∈a.2,d c=a.1)/\a.2≠[])->IA d (X++A.flatMap Prod.snd) (A.foldl (Go.Am.E2 o) S)
 | [],X,S,h,_=>by simpa using h
 |a :: A,X,S,h,h1=>by
  have e:=h1 a Lk;have:=IA.mrgs (o:=o) (h.E2 (o:=o) e.1 e.2) λb f=>h1 b (E7 _ f)
  simp_all
def wQ{L:List Dk}{p:Dk->Bool}:((L.filter λx=>!p x).flatMap Prod.snd++(L.filter p).flatMap Prod.snd).Perm (L.flatMap Prod.snd):=by
 rw[←Y1];refine List.Perm.flatMap_right _ ?_;exact List.perm_append_comm.trans (List.filter_append_perm p L)
def Pj{L:List Dk}{f:Cl->Cl}:((L.map λx=>(f x.1,x.2.reverse)).flatMap Prod.snd).Perm (L.flatMap Prod.snd):=by
 induction L with
 |nil=>simp
 |cons a L b=>
  grind
def I5(l:Ln)(s o:Bool)(L:List Dk):List Dk:=(GA l s L).foldl (E2 o) (JJ l s L)
def IA.fold{f d:Nat->Cl}{X:TC}{L:List Dk}(h:IA f X L){l:Ln}{s o:Bool}(k:∀c∈X,d c=if dR l (f c)=s then aB (wd l) (f c)else f c):IA d X (I5 l s o L):=by
 have j:∀x∈L,∀c∈x.2,c∈X:=λx b c e=>h.pm.mem_iff.1 (Gw.2 ⟨x,b,e⟩);have m:IA d ((JJ l s L).flatMap Prod.snd) (JJ l s L):=by
  refine⟨h.nd.sublist (List.Sublist.map _ List.filter_sublist),λx b c e=>?_,λx b=>?_,YU _⟩
  .obtain⟨b,i⟩:=Gm.1 b;rw[k c (j x b c e),h.at' x b c e,te (by simpa using i)]
  .exact h.ne x (Gm.1 b).1
 have g:=m.mrgs (o:=o) (A:=GA l s L) λa n=>by
  obtain⟨x,b,rfl⟩:=CS.1 n;obtain⟨b,i⟩:=Gm.1 b;refine⟨λc e=>?_,by simpa using h.ne x b⟩;have e:c∈x.2:=by simpa using e
  rw[k c (j x b c e),h.at' x b c e,rv (by simpa using i)]
 refine⟨g.nd,g.at',g.ne,g.pm.trans ?_⟩;refine List.Perm.trans ?_ h.pm;refine List.Perm.trans (qcD _ Pj) ?_;exact wQ
def IA.perm{a:Nat->Cl}{X:TC}{L L':List Dk}(h:IA a X L)(b:L'.Perm L):IA a X L':=
 ⟨(b.map _).nodup_iff.2 h.nd,λs c=>h.at' s (b.mem_iff.1 c),λs c=>h.ne s (b.mem_iff.1 c),(b.flatMap_right _).trans h.pm⟩
def xP{i7 n:Type}{f:i7->n}{l':List n}{l:List i7}(h:l'.Perm (l.map f)):∃m:List i7,m.Perm l/\m.map f=l':=by
 generalize e:l.map f=k at h
 induction h generalizing l with
 |nil=>simp_all
 |cons x _ q=>
  obtain⟨a,l,rfl,rfl,g⟩:=qcL.1 e;obtain⟨m,c,d⟩:=q g;exact⟨a :: m,c.cons a,by rw[DD,d]⟩
 |swap x y _=>
  obtain⟨a,l,rfl,rfl,g⟩:=qcL.1 e;obtain⟨b,l,rfl,rfl,rfl⟩:=qcL.1 g;exact⟨b :: a :: l,List.Perm.swap _ _ _,rfl⟩
 |trans _ _ i j=>
  obtain⟨m,c,d⟩:=j e;obtain⟨r,o,p⟩:=i d;exact⟨r,o.trans c,p⟩
def sN(l:Ln):Tn:=[.int .u8 (ofNat l.1),.int .i64 l.2]
def df(l:Ln):(sN l).length=2:=rfl
def VJ{w v:Nat}(h3:S3 w v){l:TD}{H:HL}{x xs:TR}(hl:q9 H x 3 n4 l)(ax:aF xs=true)(hv:∀c∈l,VC w v c)(bb:∀c∈l,c.2.2≠0)(hn:l.length<=1000){r:Mv}(hr:CM 10000 r){G:TH}(hG:Cz w v l G) :
  ∃z h' d,aA cc ac 45 ([.i (.ofNat w),.i (.ofNat v),.v x]++CT r++[.v xs]) (g_ aa H) [.v z] (g_ aa h')/\v_ H h'/\q9 h' z 2 sN d/\d.length<=1000/\∀y∈d,∃p∈CV w v l G r (4*w*v),p.2.2=y:=by
 have hs:=h3.sh;obtain⟨b1,b2,b3,b4⟩:=h3.n;have hN:=E_ hs;obtain⟨z,h1,c1,bm,b9,hZ⟩:=zR h3 hl ax hv bb hn hr hG;have bC:=lz (w:=w) (v:=v) (l:=l) (G:=G) (r:=r) (n:=4*w*v);have ca:=x45 (ls:=[.i (.ofNat w),.i (.ofNat v),.v x,.i (ofNat r.1),.i r.2.1,.i r.2.2,.v xs]) (K:=λrs h'=>∃z d,rs=[.v z]/\v_ H h'/\q9 h' z 2 sN d/\d.length<=1000/\∀y∈d,∃p∈CV w v l G r (4*w*v),p.2.2=y) (H:=H) (k_ (k_ (q7 hl.i_ (k_ (k_ (k_ (q7 ax t0))))))) (by
  unfold f45;simp only[u5];refine e_ ?_;simp only[CT,DI,DA]at c1;refine ak c1 ?_;refine e_ ?_;generalize bx:CV w v l G r (4*w*v)=P at *;refine bN (g9:=HL×Value) P.length (λj s=>[.v s.2,.i (ofNat j)]) (λ_ s=>s.1) (λj s=>v_ h1 s.1/\∃d:List Ln,h_ h1.length s.1 s.2 2 sN d/\d.length<=j/\∀y∈d,∃p∈P,p.2.2=y) (j0:=0) (s0:=(h1,.slice none 0 0)) rfl rfl (C6 _) ⟨.refl _,[],.nil _ _ _ _,A9 _,λy hy=>by cases hy⟩ ?_;rintro j ⟨h,o⟩ C ⟨u,d,hO,b7,a4⟩ a6 M;simp only at u hO ⊢;refine e_ ?_;refine bz (hZ.pre u) ?_;by_cases R:j<P.length
  case neg=>
   rw[aM a_];refine e_ ?_;exact⟨o,d,rfl,bm.trans u,hO.ls df,a_,a4⟩
  rw[aN R];refine e_ ?_;obtain⟨p,hp⟩:=aq R;have b8:=Cf hp;refine dF (cs:=[.int .u8 (ofNat p.2.2.1),.int .i64 p.2.2.2]) (hZ.pre u) rfl hp rfl a_ ?_;simp(disch:=omega)only[↓Ce];generalize hy:p.2.2=y at *;have aE:=u.len;have f:=hO.ls df;have b6:=f.i_;have bt:∀k,k<=d.length->∀h' o' ,v_ h1 h'->h_ h1.length h' o' 2 sN (d.take k++[y]++d.drop k)->a6 [.v o',.i (ofNat j+1)] h':=λk hk h' o' bl bd=>M (h',o') R ⟨bl,_,bd,ua,λa ha=>by
   grind⟩
  refine cP (λl h'=>∃k,k<=d.length/\l=[.i (ofNat k)]/\h'=h) ?_ ?_
  case refine_2=>
   intro jj b0;refine mf d.length (λ_=>True) (j0:=0) rfl (C6 _) trivial ?_;intro k hk _ bs a7;refine e_ ?_;refine bz f ?_;by_cases Q:k<d.length
   case neg=>
    rw[aM a_];refine e_ ?_
    simp_all
   rw[aN Q];refine e_ ?_;obtain⟨a,ha⟩:=aq Q;refine dF (cs:=[.int .u8 (ofNat a.1)]) f rfl ha rfl a_ ?_;refine e_ ?_;refine xJ (λ_=>?_) (λ_=>?_)
   .simp(disch:=omega)only[↓nc];rw[aY a_]
    simp_all
   refine e_ ?_;refine dF (cs:=[.int .u8 (ofNat a.1)]) f rfl ha rfl a_ ?_;refine e_ ?_;refine rK λt ht=>?_;cases t with
   |false=>
    refine e_ ?_
    simp_all
   |true=>
   refine e_ ?_;refine dF (cs:=[.int .i64 a.2]) f rfl ha rfl a_ ?_;refine e_ ?_;refine xJ (λ_=>?_) (λ_=>?_)
   .simp(disch:=omega)only[↓nc];rw[aY a_]
    simp_all
   .simp(disch:=omega)only[↓nc]
    simp_all
  rintro l' h' ⟨k,hk,rfl,ay⟩;rw[ay];clear ay h';refine e_ ?_;refine bz f ?_;refine rK λt ht=>?_;cases t with
  |true=>
   refine e_ ?_;obtain⟨x1,ad,A,a8⟩:=KR f hk;obtain⟨x2,ag,I,a9⟩:=KP f hk;have a3:∀b,hY o=some b->b<h.length:=λb O=>(hO.hY O).2;have hh:(h++[HO.o (.cells [] 2 true)]).length=h.length+1:=c_;have he:h_ (i7:=Ln) h1.length (h++[HO.o (.cells [] 2 true)]) (.slice (some ⟨h.length,0,le 2⟩) 0 1) 2 sN []:=h_.emp aD aE;refine ae ad ?_;refine ab A.i_ ?_;refine km ?_;refine he.N_ df a_ (A.pre ⟨_,rfl⟩) ua ua ?_;intro z1 g B T E a0 _;have al:=B.ls df;have Y:v_ h1 g:=bO (u.Fa _) λi o m q=>E i o q λe=>by have:=(he.hY e).1;omega
   have J:v_ h g:=bO (h1:=h) ⟨_,rfl⟩ λi o m q=>E i o q λe=>by
    have:h.length=i:=by simpa[hY]using e
    omega
   refine e_ ?_;refine ab T ?_;refine km ?_;refine B.G8 (a:=y) df a_ rfl rfl rfl (by
    unfold bc;rw[DQ ua,DQ ua];rfl) ?_
   intro z2 g2 X U F a1 _;have a5:∀b,hY z1=some b->h.length<=b/\b<g.length:=λb O=>by
    refine⟨?_,(B.hY O).2⟩;rcases ‹hY z1=hY _∨_› with e|⟨j',e,e'⟩
    .rw[O]at e;have:b=h.length:=by simpa[hY]using e
     omega
    grind
   have Z:v_ h1 g2:=bO Y λi o m q=>F i o q λe=>jn;have L:v_ h g2:=bO J λi o m q=>F i o q λe=>jn;refine e_ ?_;refine ab U ?_;refine km ?_;refine ae ag ?_;refine ab I.i_ ?_;refine km ?_;refine X.N_ df a_ (I.pre L) ua ua ?_;intro z3 g3 bk V W a2 _;have bn:v_ h1 g3:=bO Z λi o m q=>W i o q λe=>jn;refine e_ ?_;refine ab V ?_;refine km ?_;have ap:=jJ f;have an:=jJ A;have av:=jJ al;have dA:∀n c N D,Cr (Df (.slice (some ⟨h.length,0,some 12⟩) n c)) (BN 0 (.slice (some ⟨g.length,0,some 12⟩) N D))=true:=λn c N D=>pf λi m C=>by
    have e1:h.length=i:=by simpa[hY]using m
    have S:g.length=i:=by simpa[hY]using C
    omega
   have dB:∀n c N D,Cr (Df (.slice (some ⟨g.length,0,some 12⟩) n c)) (BN 0 (.slice (some ⟨h.length,0,some 12⟩) N D))=true:=λn c N D=>pf λi m C=>by
    have e1:g.length=i:=by simpa[hY]using m
    have S:h.length=i:=by simpa[hY]using C
    omega
   have dC:∀n c,Cr (Df z1) (BN 0 (.slice (some ⟨g.length,0,some 12⟩) n c))=true:=λn c=>uK av ⟨_,_,_,rfl⟩ λi m C=>by
    have S:g.length=i:=by simpa[hY]using C
    simp_all
   have dD:∀n c,Cr (Df (.slice (some ⟨g.length,0,some 12⟩) n c)) (BN 0 x1)=true:=λn c=>uK ⟨_,_,_,rfl⟩ an λi m C=>by
    have S:g.length=i:=by simpa[hY]using m
    grind
   refine ae (x:=()) (by
    repeat' (first|exact eR|refine cZ ?_ ?_)
    all_goals first|exact OZ ap|exact dA _ _ _ _|exact dB _ _ _ _|exact dC _ _|exact dD _ _) ?_
   try simp(disch:=omega)only[↓nc]
   try rw[aY a_]
   try grind
  |false=>
   refine e_ ?_;have Q:k<d.length:=by
    grind
   obtain⟨a,ha⟩:=aq Q;refine aP f rfl ha ?_;rw[show sN a=[.int .u8 (ofNat a.1),.int .i64 a.2]from rfl];refine e_ ?_;refine zK (λbP=>?_) (λb5=>?_)
   .simp(disch:=omega)only[↓nc,DP];rw[aY a_];exact M (h,o) R ⟨u,d,hO,a_,a4⟩
   simp(disch:=omega)only[↓nc,EB];obtain⟨x1,ad,A,a8⟩:=KR f hk;obtain⟨x2,ag,I,a9⟩:=KP f hk;have a3:∀b,hY o=some b->b<h.length:=λb O=>(hO.hY O).2;have hh:(h++[HO.o (.cells [] 2 true)]).length=h.length+1:=c_;have he:h_ (i7:=Ln) h1.length (h++[HO.o (.cells [] 2 true)]) (.slice (some ⟨h.length,0,le 2⟩) 0 1) 2 sN []:=h_.emp aD aE;refine ae ad ?_;refine ab A.i_ ?_;refine km ?_;refine he.N_ df a_ (A.pre ⟨_,rfl⟩) ua ua ?_;intro z1 g B T E a0 _;have al:=B.ls df;have Y:v_ h1 g:=bO (u.Fa _) λi o m q=>E i o q λe=>by have:=(he.hY e).1;omega
   have J:v_ h g:=bO (h1:=h) ⟨_,rfl⟩ λi o m q=>E i o q λe=>by
    have:h.length=i:=by simpa[hY]using e
    omega
   refine e_ ?_;refine ab T ?_;refine km ?_;refine B.G8 (a:=y) df a_ rfl rfl rfl (by
    unfold bc;rw[DQ ua,DQ ua];rfl) ?_
   intro z2 g2 X U F a1 _;have a5:∀b,hY z1=some b->h.length<=b/\b<g.length:=λb O=>by
    refine⟨?_,(B.hY O).2⟩;rcases ‹hY z1=hY _∨_› with e|⟨j',e,e'⟩
    .rw[O]at e;have:b=h.length:=by simpa[hY]using e
     omega
    grind
   have Z:v_ h1 g2:=bO Y λi o m q=>F i o q λe=>jn;have L:v_ h g2:=bO J λi o m q=>F i o q λe=>jn;refine e_ ?_;refine ab U ?_;refine km ?_;refine ae ag ?_;refine ab I.i_ ?_;refine km ?_;refine X.N_ df a_ (I.pre L) ua ua ?_;intro z3 g3 bk V W a2 _;have bn:v_ h1 g3:=bO Z λi o m q=>W i o q λe=>jn;refine e_ ?_;refine ab V ?_;refine km ?_;have ap:=jJ f;have an:=jJ A;have av:=jJ al;have dA:∀n c N D,Cr (Df (.slice (some ⟨h.length,0,some 12⟩) n c)) (BN 0 (.slice (some ⟨g.length,0,some 12⟩) N D))=true:=λn c N D=>pf λi m C=>by
    have e1:h.length=i:=by simpa[hY]using m
    have S:g.length=i:=by simpa[hY]using C
    omega
   have dB:∀n c N D,Cr (Df (.slice (some ⟨g.length,0,some 12⟩) n c)) (BN 0 (.slice (some ⟨h.length,0,some 12⟩) N D))=true:=λn c N D=>pf λi m C=>by
    have e1:g.length=i:=by simpa[hY]using m
    have S:h.length=i:=by simpa[hY]using C
    omega
   have dC:∀n c,Cr (Df z1) (BN 0 (.slice (some ⟨g.length,0,some 12⟩) n c))=true:=λn c=>uK av ⟨_,_,_,rfl⟩ λi m C=>by
    have S:g.length=i:=by simpa[hY]using C
    simp_all
   have dD:∀n c,Cr (Df (.slice (some ⟨g.length,0,some 12⟩) n c)) (BN 0 x1)=true:=λn c=>uK ⟨_,_,_,rfl⟩ an λi m C=>by
    have S:g.length=i:=by simpa[hY]using m
    grind
   refine ae (x:=()) (by
    repeat' (first|exact eR|refine cZ ?_ ?_)
    all_goals first|exact OZ ap|exact dA _ _ _ _|exact dB _ _ _ _|exact dC _ _|exact dD _ _) ?_
   try simp(disch:=omega)only[↓nc]
   try rw[aY a_]
   try grind)
 grind
abbrev Sk:=Cl×Value×List Nat
def Ch(s:Sk):Tn:=bU s.1++[s.2.1]
def dp(s:Sk):(Ch s).length=4:=rfl
def FL(s:Sk):Dk:=(s.1,s.2.2)
def Ey(n0:Nat)(h:HL)(Q:List Sk):Prop:=(∀p∈Q,h_ n0 h p.2.1 1 mc p.2.2)/\Q.Pairwise λp q=>∀b,hY p.2.1=some b->hY q.2.1≠some b
def Ey.nil(n0:Nat)(h:HL):Ey n0 h []:=⟨λp a=>(by cases a),.nil⟩
def Ey.perm{n0:Nat}{h:HL}{Q c:List Sk}(e:Ey n0 h Q)(d:c.Perm Q):Ey n0 h c:=
 ⟨λp h=>e.1 p (d.mem_iff.1 h),(d.pairwise_iff (λh b f a=>h b a f)).2 e.2⟩
def Ey.j9{n0:Nat}{h h':HL}{Q:List Sk}(b:Ey n0 h Q)(c:∀p∈Q,∀(j:Nat) o,h[j]?=some o->hY p.2.1=some j->h'[j]?=some o):Ey n0 h' Q:=
 ⟨λp a=>(b.1 p a).j9 (c p a),b.2⟩
def Ey.cons{n0:Nat}{h:HL}{Q:List Sk}(a:Ey n0 h Q){p:Sk}(d:h_ n0 h p.2.1 1 mc p.2.2)(c:∀q∈Q,∀b,hY p.2.1=some b->hY q.2.1≠some b):Ey n0 h (p :: Q):=
 ⟨λq h=>by
  rcases DB.1 h with rfl|h
  .exact d
  .exact a.1 q h,Jp.2 ⟨c,a.2⟩⟩
def Ey.low{n0:Nat}{h:HL}{Q:List Sk}(a:Ey n0 h Q){b:Nat}(j:b<=n0):Ey b h Q:=
 ⟨λp g=>by
  rcases a.1 p g with d|⟨id,c,e,i,f⟩
  .exact .inl d
  .exact .inr ⟨id,c,e,a_,f⟩,a.2⟩
def fP{i7 i:Type}{n0 e e':Nat}{enc:i7->Tn}{a:i->Tn}{l:List i7}{l':List i}{h:HL}{v v':TR}(o:h_ n0 h v e enc l)(d:h_ n0 h v' e' a l')(n:e≠e'){b:Nat}(g:hY v=some b):hY v'≠some b:=by
 intro c;rcases o with⟨rfl,_⟩|⟨id,p,rfl,s,t,_⟩
 .cases g
 rcases d with⟨rfl,_⟩|⟨f,j,rfl,k,m,_⟩
 .cases c
 have q:id=b:=by simpa[hY]using g
 have r:f=b:=by simpa[hY]using c
 simp_all
structure FW(n0:Nat)(h:HL)(zs za zc:Value)(Ms Ma:List Sk)(C:TD):Prop where
 os:h_ n0 h zs 4 Ch Ms
 oa:h_ n0 h za 4 Ch Ma
 oc:h_ n0 h zc 3 n4 C
 ne:∀b,hY zs=some b->hY za≠some b
 pc:Ey n0 h (Ms++Ma)
section
variable {n0:Nat} {h h':HL} {zs za zc:Value} {Ms Ma:List Sk} {C:TD}
def FW.frame(b:FW n0 h zs za zc Ms Ma C)(c:∀(j:Nat) o,h[j]?=some o->h'[j]?=some o):FW n0 h' zs za zc Ms Ma C:=
 ⟨b.os.j9 λj o a _=>c j o a,b.oa.j9 λj o a _=>c j o a,b.oc.j9 λj o a _=>c j o a,b.ne,b.pc.j9 λ_ _ j o a _=>c j o a⟩
def FW.pre(a:FW n0 h zs za zc Ms Ma C)(c:v_ h h'):FW n0 h' zs za zc Ms Ma C:=a.frame λ_ _ b=>c.get b
theorem FW.symm(a:FW n0 h zs za zc Ms Ma C):FW n0 h za zs zc Ma Ms C:=
 ⟨a.oa,a.os,a.oc,λb d c=>a.ne b c d,a.pc.perm List.perm_append_comm⟩
def FW.pne(a:FW n0 h zs za zc Ms Ma C){p:Sk}(e:p∈Ms++Ma){b:Nat}(d:hY p.2.1=some b):hY zs≠some b/\hY za≠some b/\hY zc≠some b:=
 have c:=a.pc.1 p e
 ⟨fP c a.os a_ d,fP c a.oa a_ d,fP c a.oc a_ d⟩
def FW.apS(d:FW n0 h zs za zc Ms Ma C){c:Cl}{y:TR}{g:TC}(r:h_ n0 h y 1 mc g)(k:∀p∈Ms++Ma,∀b,hY y=some b->hY p.2.1≠some b){i:TR}(m:h_ n0 h' i 4 Ch (Ms++[(c,y,g)]))
  (l:∀(j:Nat) o,h[j]?=some o->hY zs≠some j->h'[j]?=some o) (u:hY i=hY zs∨∃j,hY i=some j/\h.length<=j):FW n0 h' i za zc (Ms++[(c,y,g)]) Ma C:=by
 refine⟨m,d.oa.j9 λj o f a=>l j o f λe=>d.ne j e a,d.oc.j9 λj o f a=>l j o f λe=>fP d.os d.oc a_ e a,λb n q=>?_,?_⟩
 .rcases u with e|⟨j,e,v⟩
  .exact d.ne b (e▸n) q
  .rw[e]at n;cases n;have:=(d.oa.hY q).2;omega
 .have s:Ey n0 h ((c,y,g) :: (Ms++Ma)):=d.pc.cons r k;have t:=s.j9 (h':=h') λp hp j o f a=>l j o f λe=>by
   rcases DB.1 hp with rfl|hp
   .exact fP d.os r a_ e a
   .exact(d.pne hp a).1 e
  refine t.perm ?_
  simp_all
end
def Qv{n0:Nat}{H:HL}{x:TR}{l:TD}(k:h_ n0 H x 3 n4 l)(m:l.length<=1000) :
  ∃l' h',aA cc ac 88 [.v x] (g_ aa H) [.v x] (g_ aa h')/\l'.Perm l/\Fh l'/\h_ n0 h' x 3 n4 l'/\∀(j:Nat) o,H[j]?=some o->hY x≠some j->h'[j]?=some o:=by
 rcases k with⟨rfl,rfl⟩|⟨id,cx,rfl,g,c,h⟩
 .refine⟨[],H,?_,YU _,.nil,.inl ⟨rfl,rfl⟩,λj o b _=>b⟩;exact xK x88 (q7 rfl t0) (by
   unfold f88;simp only[u5]
   repeat (first|simp(disch:=omega)only[↓nc]|refine ae (x:=(0:Int)) rfl ?_|refine zL 2 ?_)
   simp_all)
 .obtain⟨l',d,a,f⟩:=M8 (cx:=cx) c m;refine⟨l',_,d,a,f,.inr ⟨id,cx,by rw[a.length_eq],g,bI (am c),by rw[a.length_eq];exact h⟩,λj o b i=>?_⟩;unfold po;rw[Hj (λe=>i (by rw[e];rfl))];exact b
def O2(w v a b:Nat):Nat:=if Cv w v a 0=some b then 0 else if Cv w v a 1=some b then 1 else 2
def mX{w v:Nat}(h:Sh w v){a b e:Nat}(f:a<4*w*v)(i:e<3)(l:Cv w v a e=some b):O2 w v a b=e:=by
 have m:=(dH h f).2.2.2.2;have n:∀d,d<3->Cv w v a d=some b->d=e:=λd c g=>by
  have j:=(dO h f i l).2.2.2.1;have k:=(dO h f c g).2.2.2.1;exact xA m c i (k.symm.trans j)
 unfold O2
 grind
def OT(w v:Nat)(P:TH)(o:Bool)(p:NG):Eb:=(ofNat p.1,ofNat (O2 w v p.1 p.2.1),if decide ((P p.1).1<4)=o then 2 else 1)
def DN(w v:Nat)(P:TH)(o:Bool)(ln:Ln)(a:List NG):TD:=(a.filter λp=>decide (p.2.2=ln)).map (OT w v P o)
def fT(ln:Ln)(s:Bool)(L:List Dk)(r:Mv)(j:Nat):Mv:=if 0∈(GA ln s (L.take j)).flatMap Prod.snd then af r (wd ln)else r
def RW{ln:Ln}{s:Bool}{L:List Dk}{j:Nat}{c:Cl}{a:TC}(h:L[j]?=some (c,a)):JJ ln s (L.take (j+1))=JJ ln s (L.take j)++(if dR ln c=s then []else [(c,a)]):=by
 unfold JJ;rw[Ii,h,hC]
 grind
def Oc{ln:Ln}{s:Bool}{L:List Dk}{j:Nat}{c:Cl}{a:TC}(h:L[j]?=some (c,a)):GA ln s (L.take (j+1))=GA ln s (L.take j)++(if dR ln c=s then [(aB (wd ln) c,a.reverse)]else []):=by
 unfold GA;rw[Ii,h,hC,Ij]
 grind
def l6{h:HL}{z:TR}{b:List Sk}(c:q9 h z 4 Ch b):q9 h z 4 C_ (b.map λs=>(s.1,s.2.1)):=by
 refine⟨λa _=>rfl,?_⟩;have:(b.map λs:Sk=>((s.1,s.2.1):IB)).flatMap C_=b.flatMap Ch:=by
  rw[hI];rfl
 rw[this,FV];exact c.2
def ls54{h:HL}{z:TR}{b:List Sk}(c:q9 h z 4 C_ (b.map λs=>(s.1,s.2.1))):q9 h z 4 Ch b:=by
 refine⟨λa _=>rfl,?_⟩;have:(b.map λs:Sk=>((s.1,s.2.1):IB)).flatMap C_=b.flatMap Ch:=by
  rw[hI];rfl
 have d:=c.2
 simp_all
def Ey.sub{n0:Nat}{h:HL}{Q a:List Sk}(b:Ey n0 h Q)(c:a.Sublist Q):Ey n0 h a:=⟨λp d=>b.1 p (c.mem d),b.2.sublist c⟩
def uf{i7:Type}{a q:i7}:∀ {l:List i7} {k:Nat},l[k]?=some q->(l.set k a).Perm (a :: l.eraseIdx k)
 | [],k,h=>by simp at h
 |b :: l,0,h=>YU _
 |b :: l,k+1,h=>by
  simp only[z2]at h;simp only[g3,List.eraseIdx_cons_succ];exact((uf h).cons b).trans (List.Perm.swap _ _ _)
def stp{n0:Nat}{h g:HL}{G O S v':TR}{d P Mr:List Sk}{C:TD}{a q:Sk}{k id cx:Nat}{c:TC}(z:G = .slice (some ⟨id,0,le 4⟩) d.length cx)(m:n0<=id)(i':h[id]?=some (.o (.cells (d.flatMap Ch) 4 true)))(B:cx=0∨cx=d.length+1)
  (E:h_ n0 h O 4 Ch P) (x:h_ n0 h S 3 n4 C) (K:hY O≠some id) (L:Ey n0 h (d++a :: Mr)) (I:d[k]?=some q) (R:h_ n0 g v' 1 mc c) (V:∀(j:Nat) o,h[j]?=some o->hY q.2.1≠some j->g[j]?=some o) (T:∀b,hY v'=some b->hY q.2.1=some b∨h.length<=b) :
  g[id]?=some (.o (.cells (d.flatMap Ch) 4 true))/\h_ n0 (po g id 4 Ch (d.set k (q.1,v',c))) G 4 Ch (d.set k (q.1,v',c))/\h_ n0 (po g id 4 Ch (d.set k (q.1,v',c))) O 4 Ch P/\h_ n0 (po g id 4 Ch (d.set k (q.1,v',c))) S 3 n4 C/\Ey n0 (po g id 4 Ch (d.set k (q.1,v',c))) (d.set k (q.1,v',c)++Mr)/\∀(j:Nat) o,j<n0->h[j]?=some o->(po g id 4 Ch (d.set k (q.1,v',c)))[j]?=some o:=by
 have r:Ey n0 h (d++Mr):=L.sub (List.Sublist.append_left (List.sublist_cons_self _ _) _);have N:q∈d++Mr:=Ek.2 (.inl (Cf I));have u:=r.1 q N;have n:h_ n0 h G 4 Ch d:=.inr ⟨id,cx,z,m,i',B⟩;have v:hY G=some id:=by rw[z];rfl
 have l:g[id]?=some (.o (.cells (d.flatMap Ch) 4 true)):=V _ _ i' λe=>fP u n a_ e v;have F:h_ n0 g G 4 Ch d:=.inr ⟨id,cx,z,m,l,B⟩;have i:∀(j:Nat) o,h[j]?=some o->hY q.2.1≠some j->j≠id->(po g id 4 Ch (d.set k (q.1,v',c)))[j]?=some o:=λj o t X Y=>by
  unfold po
  grind
 have s:(d++Mr).Perm (q :: (d.eraseIdx k++Mr)):=by
  have:=(uf (a:=q) I).append_right Mr
  rwa [eN I]at this
 have w:=r.perm s.symm;have M:=Jp.1 w.2;refine⟨l,.inr ⟨id,cx,kb,m,bI (am l),kb⟩,E.j9 λj o t f=>i j o t (λe=>fP u E a_ e f) (λe=>K (e▸f)),x.j9 λj o t f=>i j o t (λe=>fP u x a_ e f) (λe=>fP n x a_ v (by rw[f,e])),?_,λj o U t=>i j o t (λe=>by
  have:=(u.hY e).1;omega) a_⟩
 have y:Ey n0 (po g id 4 Ch (d.set k (q.1,v',c))) (d.eraseIdx k++Mr):=by
  have Q:Ey n0 h (d.eraseIdx k++Mr):=w.sub (List.sublist_cons_self _ _);refine Q.j9 λp H j o t f=>i j o t (λe=>M.1 p H j e f) λe=>?_;subst e;exact fP (Q.1 p H) n a_ f v
 have D:h_ n0 (po g id 4 Ch (d.set k (q.1,v',c))) v' 1 mc c:=R.j9 λj o t f=>by
  unfold po;rw[Hj (λe=>fP R F a_ f (by rw[v,e]))];exact t
 refine(y.cons (p:=(q.1,v',c)) D λp H b A J=>?_).perm ((uf I).append_right Mr);simp only at A;rcases T b A with e|W
 .grind
 .have:=((r.1 p (s.mem_iff.2 (E7 _ H))).hY J).2;omega
def Qm{o:Bool}{a:Dk}:∀ {S:List Dk},E2 o S a≠[]
 | []=>by simp[E2]
 |y :: S=>by
  unfold E2;split<;>simp
def xy{o:Bool}:∀ {A S:List Dk},S≠[]->A.foldl (E2 o) S≠[]
 | [],S,h=>h
 |a :: A,S,_=>by
  rw[WJ];exact xy Qm
def BT{ln:Ln}{s o:Bool}{L:List Dk}(h:L≠[]):I5 ln s o L≠[]:=by
 unfold I5;by_cases b:JJ ln s L=[]
 .cases hA:GA ln s L with
  |cons a A=>
   rw[WJ];exact xy Qm
  |nil=>
   exfalso;cases L with
   |nil=>exact h rfl
   |cons x L=>
    unfold JJ at b;unfold GA at hA
    simp_all
 .exact xy b
def mt{w v:Nat}{l:TD}{G:TH}{r:Mv}{n:Nat}{p:NG}(h:p∈CV w v l G r n):p.1<n/\∃k,k<3/\Cv w v p.1 (eK (p.1%4) k)=some p.2.1/\p.1<p.2.1/\IE w v l p.1 k=0/\p.2.2=s7 (aB (af (G p.1) r) (q8 w p.1)) (eT (af (G p.1) r).1 (eK (p.1%4) k)):=by
 unfold CV at h;obtain⟨a,b,d⟩:=Gw.1 h;have b:=Cm.1 b;obtain⟨k,c,e⟩:=Q_.1 d;have c:=Cm.1 c;unfold Eh at e
 grind
def M0{w v:Nat}{P:TH}{o:Bool}{ln:Ln}{a:List NG}{j:Nat}{p:NG}(h:a[j]?=some p):DN w v P o ln (a.take (j+1))=DN w v P o ln (a.take j)++(if p.2.2=ln then [OT w v P o p]else []):=by
 unfold DN;rw[Ii,h,hC,Ij]
 grind
end Go.Am
end

import Derived.Test.YtohglkignnpogaaGreatDoorOR5
set_option linter.all false
noncomputable section
set_option maxRecDepth 100000
set_option maxHeartbeats 16000000
open Int(ofNat)
open List(range replicate)
namespace Go.Am
open Sx Go.Proofs
section
variable {b:Nat} {c:XC} {U:List Lit} {F:List B5} {pn:Ti} {AT:List K3} {IDS:List (TC)} {CR:TD} {k1:Nat} {mu:Tz} {P:HL->Prop} (R:Ro b c U F pn AT IDS CR k1 mu P) {r:TF} (hF:IL U r)
include R hF
theorem XB{h:HL}(hP:P h){W:TE}{us:Ty}{LV:List (TC)}{lv:Tn}(hM:Mt h c k1 W us LV lv){S:(Nat->Bool)->Prop}{D:List (TC)}{st id:Nat}{d p:TC}(hN:Ny U pn S W D p (DS us d))(Z:IDS[st]?=some d)(hp:LV[st]?=some p)(X:id∈d)(ct:us.getD id false=false)(cw:∀x∈d,x<us.length)(cq:p.length<=1000000)
  {A:Nat} (ht:h[A]?=some (.o (.cells [.slice none 0 0] 1 true))) (c5:k1<=A) (cn:∀v∈lv,g_ v≠some A) :
  ∃ok q T x' v' h',aF cc ac 53 [.v (kb b),.i (ofNat st),.i (ofNat id),.v (kb A)] (h9 aa h) [.b ok] (h9 aa h')/\P h'/\Mt h' c k1 q (us.set id true) (LV.set st (p++[id])) (lv.set st v')/\Hr U q/\
   h'[A]?=some (.o (.cells [x'] 1 true))/\q9 h' x' 1 l_ T/\(T.length<=d.length/\∀i∈T,i<U.length)/\(∀j,g_ x'=some j->h.length<=j/\∀v∈lv.set st v',g_ v≠some j)/\JK T q=W/\(∃j,g_ v'=some j/\h.length<=j)/\
   (ok=true->Ny U pn S q D (p++[id]) ((DS us d).erase id)/\I4 U q F)/\(ok=false->∀Rs,(GK D (p++[id]) ((DS us d).erase id) Rs).filter (Er pn S F)=[])/\
   (∀(j:Nat) o,h[j]?=some o->j≠A->g_ c.va≠some j->g_ c.us≠some j->g_ c.lay≠some j->(∀v,lv[st]?=some v->g_ v≠some j)->h'[j]?=some o)/\h.length<=h'.length:=by
 have J:=R.ib d (A9 Z);have ad:=cw id X;have Y:id∈DS us d:=qy.2 ⟨X,ct⟩;have bm:(DS us d).Nodup:=J.1.filter _;have a4:=ai hp;have a5:st<lv.length:=by rw[hM.ln];exact a4
 obtain⟨v0,I⟩:=am a5;have ca:=A9 I;have dl:=x53 (ls:=[.v (kb b),.i (ofNat st),.i (ofNat id),.v (kb A)]) (K:=λrs h'=>∃ok q T x' v',rs=[.b ok]/\P h'/\Mt h' c k1 q (us.set id true) (LV.set st (p++[id])) (lv.set st v')/\Hr U q/\
   h'[A]?=some (.o (.cells [x'] 1 true))/\q9 h' x' 1 l_ T/\(T.length<=d.length/\∀i∈T,i<U.length)/\(∀j,g_ x'=some j->h.length<=j/\∀v∈lv.set st v',g_ v≠some j)/\JK T q=W/\(∃j,g_ v'=some j/\h.length<=j)/\
   (ok=true->Ny U pn S q D (p++[id]) ((DS us d).erase id)/\I4 U q F)/\(ok=false->∀Rs,(GK D (p++[id]) ((DS us d).erase id) Rs).filter (Er pn S F)=[])/\
   (∀(j:Nat) o,h[j]?=some o->j≠A->g_ c.va≠some j->g_ c.us≠some j->g_ c.lay≠some j->(∀v,lv[st]?=some v->g_ v≠some j)->h'[j]?=some o)/\h.length<=h'.length) (H:=h) (pP (az _) (mc (mc (pP (az _) t0)))) (by
  unfold f53;simp only[ub];refine e_ ?_;refine bz (ds:=[c.us]) (R.hb h hP) (by simp[ah]) rfl ?_;refine e_ ?_;refine ab (hM.us.h_ cU) ?_;refine k_ ?_;refine hM.us.KT cU rfl ad (a:=true) rfl ?_;intro g1 cl bb c6;refine k_ ?_;have b0:P g1:=R.keepU hP λj o z hb _=>bb j o z hb;have E:=hM.setU R.s cl bb;refine kw (ds:=[c.lay]) (R.hb g1 b0) (by simp[ah]) rfl ?_;refine e_ ?_;refine ab (E.ly.h_ bh) ?_;refine k_ ?_;refine kw (ds:=[c.lay]) (R.hb g1 b0) (by simp[ah]) rfl ?_;refine e_ ?_;refine ab (E.ly.h_ bh) ?_;refine k_ ?_;refine SG E.ly rfl I ?_;intro lb co;refine e_ ?_;have a8:=E.tr st v0 p I hp;refine ab a8.h_ ?_;refine k_ ?_;refine a8.Il rfl rfl rfl cq ?_;intro v' g2 an cf L cx bd av;refine e_ ?_;refine ab cf ?_;refine k_ ?_;obtain⟨vb,L,dk⟩:=L;have ag:=R.s.s3;have b8:hY 0 g2 c.lay 1 D4 lv:=E.ly.ka λj o z hb=>bd j o z λe=>by
   have a1:=ag j hb;have a2:=hM.nb st v0 j I e;omega
  refine b8.KT bh rfl a5 (a:=v') rfl ?_;intro C cm be c7;have c8:=R.lt h hP;have c0:∀j,g_ v0=some j->k1<=j:=λj z=>hM.nb st v0 j I z;refine ae (x:=()) (dg (bU ⟨_,_,_,rfl⟩ λi n=>?_) (dg (bU ⟨_,_,_,rfl⟩ λi n=>?_) (dg (bU ⟨_,_,_,rfl⟩ λi n=>?_) (dg (bU (kq a8.ls) λi n=>?_) (dg (bU cx λi n=>?_) fm))))) ?_
  .have a1:=R.bk;have:g1.length=i:=by simpa[g_]using n
   omega
  .have a1:=R.bk;have:g1.length=i:=by simpa[g_]using n
   omega
  .have a1:=ag lb co;have:g1.length=i:=by simpa[g_]using n
   omega
  .have a1:=R.bk
   grind
  .have a1:=R.bk
   grind
  refine k_ ?_;have bC:∀(j:Nat) o,h[j]?=some o->g_ c.us≠some j->g_ c.lay≠some j->g_ v0≠some j->C[j]?=some o:=λj o z O b2 b3=>be j o (bd j o (bb j o z O) b3) b2;have a7:P C:=R.kp h C hP λj o j1 j2 z=>bC j o z (λe=>j2 (R.m1 j (.inr (.inl e)))) (λe=>j2 (R.m1 j (.inr (.inr e)))) λe=>by
   grind
  have a6:Mt C c k1 W (us.set id true) (LV.set st (p++[id])) (lv.set st v'):=by
   refine E.Jz R.s a4 cm (an.ka λj o z hb=>be j o z λe=>?_) (λx hx=>?_) (λj w x _ hw hx cy=>?_) λj o z O b2=>be j o (bd j o z (b2 v0 I)) O
   .grind
   .grind
   .rw[L]at hx;cases hx;obtain⟨l2,av⟩ : ∃l2,LV[j]?=some l2:=am (by rw[←hM.ln];exact ai hw);have:=(E.tr j w l2 hw av).lt cy;omega
  have b6:C[A]?=some (.o (.cells [.slice none 0 0] 1 true)):=bC A _ ht (λe=>by
   have:=(R.s.s2 A e).1;omega) (λe=>by
   grind) (cn v0 ca)
  have c1:h.length<=C.length:=a_;have c3:vb<C.length:=by
   have:=an.lt L;omega
  refine bz (ds:=[c.ids]) (R.hb C a7) (by simp[ah]) rfl ?_;refine e_ ?_;obtain⟨vs,i2,i4⟩:=R.ids;obtain⟨i1,i3⟩:=i4 C a7;refine ab i1.h_ ?_;refine k_ ?_;obtain⟨vi,bs⟩:=am (l:=vs) (i:=st) i_;refine aQ i1 rfl bs ?_;rw[show D4 vi=[vi]from rfl];refine e_ ?_;have bP:=i3 st vi d bs Z;refine ab bP.h_ ?_;refine k_ ?_;refine bw bP ?_;have c2:∀v∈lv.set st v',∀j,g_ v=some j->j<C.length:=λv hv j z=>by
   obtain⟨i,n⟩:=FK hv;obtain⟨l2,av⟩ : ∃l2,(LV.set st (p++[id]))[i]?=some l2:=am (by rw[←a6.ln];exact ai n);exact(a6.tr i v l2 n av).lt z
  refine aH (m:=d.length) (λm ls g=>∃j q T x',ls=[.i (ofNat j)]/\m=d.length - j/\j<=d.length/\P g/\Mt g c k1 q (us.set id true) (LV.set st (p++[id])) (lv.set st v')/\Hr U q/\g[A]?=some (.o (.cells [x'] 1 true))/\hY C.length g x' 1 l_ T/\(T.length<=j/\∀i∈T,i<U.length)/\JK T q=W/\
   Ih U pn S q D p (DS us d) id (DS (us.set id true) (d.take j))/\(∀(i:Nat) o,C[i]?=some o->i≠A->g_ c.va≠some i->g[i]?=some o)/\C.length<=g.length) ⟨0,W,[],_,rfl,rfl,D6 _,a7,a6,hN.ok,b6,.inl ⟨rfl,rfl⟩,⟨B8 _,λi n=>by cases n⟩,rfl,hN.start id,λi o n _ _=>n,B8 _⟩ ?_
  rintro m ls g ⟨j,q,T,x',rfl,rfl,z,u,G,B,a9,M,ap,bx,Q,bl,cp⟩ c4 al;refine Ei ?_;have b9:∀ {k:Nat} {y:Nat},y∈DS (us.set id true) (d.take k)->y∈(DS us d).erase id:=λ{k y} hy=>by
   rw[←uy J.1 ad];obtain⟨a1,a2⟩:=qy.1 hy;exact qy.2 ⟨OO a1,a2⟩
  have b7:∀ {g':HL},(∀(i:Nat) o,C[i]?=some o->i≠A->g_ c.va≠some i->g'[i]?=some o)->(∀(j:Nat) o,h[j]?=some o->j≠A->g_ c.va≠some j->g_ c.us≠some j->g_ c.lay≠some j->(∀v,lv[st]?=some v->g_ v≠some j)->g'[j]?=some o):=λ{g'} hk j o z O b2 b3 b4 b5=>hk j o (bC j o z b3 b4 (b5 v0 I)) O b2;have cb:∀ {g':HL} {x2:TR} {T2:TC},hY C.length g' x2 1 l_ T2->∀j,g_ x2=some j->h.length<=j/\∀v∈lv.set st v',g_ v≠some j:=λ{g' x2 T2} ho j z=>by
   have:=(ho.g_ z).1
   grind
  refine e_ ?_;by_cases ax:j<d.length
  case neg=>
   obtain rfl:j=d.length:=a_;rw[aN (B8 _)];refine e_ ?_;obtain⟨e,ce,e1,e2⟩:=m0 (R.hb g u) (R.up g u) hF B (G.va.ls eO) (R.fo g u) R.fl R.fv;refine ak ce ?_;refine e_ ?_;rw[XQ]at Q;have hB:∀y,y∈DS (us.set id true) d↔y∈(DS us d).erase id:=λy=>by rw[uy J.1 ad]
   refine⟨e,q,T,x',v',D',u,G,B,a9,M.ls bv,ap,cb M,bx,⟨vb,L,a_⟩,λhe=>⟨Q.placed Y bm hB,e1 he⟩,λhe R'=>?_,b7 bl,a_⟩;obtain⟨f,hf,x,hx,hn⟩:=e2 he;exact Q.fail Y bm (λy hy=>(hB y).1 hy) (λV hV ci _=>l1 B hf hx hn V hV ci) R'
  rw[aO ax];refine e_ ?_;obtain⟨y,hy⟩:=am ax;have cA:=A9 hy;have ck:q9 g vi 1 l_ d:=(i4 g u).2 st vi d bs Z;refine aQ ck rfl hy ?_;rw[show l_ y=[.int .i64 (ofNat y)]from rfl];refine e_ ?_;refine bz (ds:=[c.us]) (R.hb g u) (by simp[ah]) rfl ?_;refine e_ ?_;refine ab (G.us.h_ cU) ?_;refine k_ ?_;obtain⟨t,cC⟩:=am (l:=us.set id true) (i:=y) i_;have dj:(us.set id true).getD y false=t:=i_;refine aQ (G.us.ls cU) rfl cC ?_;rw[show B6 t=[.bool t]from rfl];refine e_ ?_;have bn:DS (us.set id true) (d.take (j+1))=DS (us.set id true) (d.take j)++if t=true then []else [y]:=by
   rw[IB,hy];unfold DS
   grind
  cases t with
  |true=>
   simp(disch:=omega)only[↓n9,EX];rw[aU a_];refine al _ _ _ ?_ ⟨j+1,q,T,x',rfl,rfl,ax,u,G,B,a9,M,⟨a_,ap.2⟩,bx,?_,bl,cp⟩
   .omega
   grind
  |false=>
   simp(disch:=omega)only[↓n9,FT];have cd:id≠y:=λe=>by
    grind
   refine ak (kL (R.hb g u) (R.pr g u) id y) ?_;refine e_ ?_;obtain⟨N,x2,g',hr,cs,s1,s2,s3,s4,s5,s6⟩:=gA (R.hb g u) (R.up g u) hF B G.va a9 M a_ a_ (λe=>by
    have:=(R.s.s1 A e).1;omega) (λe=>by
    grind) (λi n e=>by
    have a1:=(M.g_ n).1;have a2:=(R.s.s1 i e).1;omega) (J.2.2 id X y cA cd)
   refine ak cs ?_;refine e_ ?_;have a0:P g':=R.keepV u λi o n O b2=>s4 i o n a_ O λe=>by
    grind
   have aE:Mt g' c k1 (DM q N) (us.set id true) (LV.set st (p++[id])) (lv.set st v'):=G.setV R.s s1 λi o n O b2=>s4 i o n (λe=>by
    grind) O λe=>by
    grind
   have a3:∀(i:Nat) o,C[i]?=some o->i≠A->g_ c.va≠some i->g'[i]?=some o:=λi o n O b2=>s4 i o (bl i o n O b2) O b2 λe=>by
    have a1:=(M.g_ e).1
    grind
   have hz:=Yv bx N;have an:(if q.getD N.1 0=0 then T++[N.1]else T).length<=j+1/\∀i∈(if q.getD N.1 0=0 then T++[N.1]else T),i<U.length:=by
    have:=ap.1;split
    .refine⟨tt,λi n=>?_⟩;rcases Fs.1 n with n|n
     .exact ap.2 i n
     .rw[GM]at n;rw[n];exact hr.lt
    grind
   by_cases ay:(DM q N).getD N.1 0=E0 N
   .rw[Gs ay];simp(disch:=omega)only[↓n9,EX];rw[aU a_];refine al _ _ _ ?_ ⟨j+1,DM q N,_,x2,rfl,rfl,ax,a0,aE,vj B N,s2,s3,?_,hz,?_,a3,a_⟩
    .omega
    .exact an
    .rw[bn];exact Q.set hr ay
   .rw[GI ay];simp(disch:=omega)only[↓n9,FT];obtain⟨cr,c9⟩:=S9 B hr ay;refine⟨false,DM q N,_,x2,v',D',a0,aE,vj B N,s2,s3.ls bv,?_,cb s3,hz,⟨vb,L,a_⟩,λhe=>(by cases he),λ_ R'=>?_,b7 a3,a_⟩
    .grind
    .refine Q.fail Y bm (λy hy=>b9 hy) (λV hV _ cT=>?_) R'
     grind)
 grind
end
section
variable {b:Nat} {c:XC} {U:List Lit} {F:List B5} {pn:Ti} {AT:List K3} {IDS:List (TC)} {CR:TD} {k1:Nat} {mu:Tz} {P:HL->Prop} (R:Ro b c U F pn AT IDS CR k1 mu P)
include R
theorem SO{h:HL}(M:P h){W:TE}{us:Ty}{J:List (TC)}{lv:Tn}(l:Mt h c k1 W us J lv){st id:Nat}{p:TC}(hp:J[st]?=some (p++[id]))(bl:p.length<=1000000)(S:id<us.length)
  {x:TR} {T:TC} (L:q9 h x 1 l_ T) (bm:∀j,g_ x=some j->k1<=j/\∀v∈lv,g_ v≠some j) (a9:T.length<=1000000) (a2:∀i∈T,i<W.length) :
  ∃v' h',aF cc ac 54 [.v (kb b),.i (ofNat st),.v x] (h9 aa h) [] (h9 aa h')/\P h'/\Mt h' c k1 (JK T W) (us.set id false) (J.set st p) (lv.set st v')/\(∀v,lv[st]?=some v->g_ v'=g_ v)/\
   (∀(j:Nat) o,h[j]?=some o->g_ c.va≠some j->g_ c.us≠some j->g_ c.lay≠some j->h'[j]?=some o)/\h'.length=h.length:=by
 have u:=ai hp;have z:st<lv.length:=by rw[l.ln];exact u
 obtain⟨n,d⟩:=am z;have a7:=A9 d;have bn:=x54 (ls:=[.v (kb b),.i (ofNat st),.v x]) (K:=λrs h'=>rs=[]/\∃v',P h'/\Mt h' c k1 (JK T W) (us.set id false) (J.set st p) (lv.set st v')/\(∀v,lv[st]?=some v->g_ v'=g_ v)/\
   (∀(j:Nat) o,h[j]?=some o->g_ c.va≠some j->g_ c.us≠some j->g_ c.lay≠some j->h'[j]?=some o)/\h'.length=h.length) (H:=h) (pP (az _) (mc (pP L.h_ t0))) (by
  unfold f54;simp only[ub];refine e_ ?_;have r:=l.tr st n _ d hp;have X:(p++[id]).length=p.length+1:=c_;refine bz (ds:=[c.lay]) (R.hb h M) (by simp[ah]) rfl ?_;refine e_ ?_;refine ab (l.ly.h_ bh) ?_;refine k_ ?_;refine aQ (l.ly.ls bh) rfl d ?_;rw[show D4 n=[n]from rfl];refine e_ ?_;refine ab r.h_ ?_;refine k_ ?_;refine bw r.ls ?_;rw[X];have Z:∀K:Int->Prop,K (ofNat p.length)->P1.x6 .sub .i64 (ofNat (p.length+1)) 1 (@i' _ ⟨K⟩):=λK hK=>by
   rw[Hw j_ i_]
   simp_all
  refine Z _ ?_;refine k_ ?_;refine bz (ds:=[c.us]) (R.hb h M) (by simp[ah]) rfl ?_;refine e_ ?_;refine ab (l.us.h_ cU) ?_;refine k_ ?_;refine bz (ds:=[c.lay]) (R.hb h M) (by simp[ah]) rfl ?_;refine e_ ?_;refine ab (l.ly.h_ bh) ?_;refine k_ ?_;refine aQ (l.ly.ls bh) rfl d ?_;rw[show D4 n=[n]from rfl];refine e_ ?_;refine ab r.h_ ?_;refine k_ ?_;refine aQ (a:=id) r.ls rfl c_ ?_;rw[show l_ id=[.int .i64 (ofNat id)]from rfl];refine e_ ?_;refine l.us.KT cU rfl S (a:=false) rfl ?_;intro g1 ax D bd;refine k_ ?_;have N:P g1:=R.keepU M λj o f hb _=>D j o f hb;have k:=l.setU R.s ax D;refine bz (ds:=[c.lay]) (R.hb g1 N) (by simp[ah]) rfl ?_;refine e_ ?_;refine ab (k.ly.h_ bh) ?_;refine k_ ?_;refine bz (ds:=[c.lay]) (R.hb g1 N) (by simp[ah]) rfl ?_;refine e_ ?_;refine ab (k.ly.h_ bh) ?_;refine k_ ?_;refine aQ (k.ly.ls bh) rfl d ?_;rw[show D4 n=[n]from rfl];refine e_ ?_;have Q:=k.tr st n _ d hp;refine ab Q.h_ ?_;refine k_ ?_;refine Q.E1 rfl ?_;intro v' a0 an ad;refine ab an ?_;refine k_ ?_;refine k.ly.KT bh rfl z (a:=v') rfl ?_;intro A ay E be;refine k_ ?_
  have a3:=R.s.s3;have Y:∀j,g_ n=some j->k1<=j:=λj f=>l.nb st n j d f;have al:∀(j:Nat) o,h[j]?=some o->g_ c.us≠some j->g_ c.lay≠some j->A[j]?=some o:=λj o f q b2=>E j o (D j o f q) b2;have aE:P A:=R.kp h A M λj o j1 j2 f=>al j o f (λe=>j2 (R.m1 j (.inr (.inl e)))) (λe=>j2 (R.m1 j (.inr (.inr e))));have ap:Mt A c k1 W (us.set id false) (J.set st p) (lv.set st v'):=by
   refine k.Jz R.s u ay (a0.ka λj o f hb=>E j o f λe=>?_) (λx L=>Y x (by rw[←ad];exact L)) (λj w x a4 hw L a5=>a4 (l.dj j st w n x hw d a5 (by rw[←ad];exact L))) λj o f q _=>E j o f q
   grind
  have ag:q9 A x 1 l_ T:=L.ka λj o f hb=>al j o f (λe=>by
   have a1:=(R.s.s2 j e).1
   grind) λe=>by
   grind
  refine bw ag ?_;refine aH (m:=T.length) (λm ls g=>∃j,ls=[.i (ofNat j)]/\m=T.length - j/\j<=T.length/\P g/\Mt g c k1 (JK (T.take j) W) (us.set id false) (J.set st p) (lv.set st v')/\(∀(i:Nat) o,A[i]?=some o->g_ c.va≠some i->g[i]?=some o)/\g.length=A.length) ⟨0,rfl,rfl,D6 _,aE,ap,λi o t _=>t,rfl⟩ ?_;rintro m ls g ⟨j,rfl,rfl,f,O,B,V,bk⟩ a8 I;refine Ei ?_;refine e_ ?_;by_cases G:j<T.length
  case neg=>
   obtain rfl:j=T.length:=a_;rw[aN (B8 _)];refine e_ ?_
   grind
  rw[aO G];refine e_ ?_;obtain⟨y,hy⟩:=am G;have a6:q9 g x 1 l_ T:=ag.ka λi o t hb=>V i o t λe=>by
   have a1:=(R.s.s1 i e).1
   grind
  refine aQ a6 rfl hy ?_;rw[show l_ y=[.int .i64 (ofNat y)]from rfl];refine e_ ?_;refine bz (ds:=[c.va]) (R.hb g O) (by simp[ah]) rfl ?_;refine e_ ?_;refine ab (B.va.h_ eO) ?_;refine k_ ?_;refine B.va.KT eO rfl (by rw[Nw];exact a2 y (A9 hy)) (a:=0) rfl ?_;intro g' av C bb;refine k_ ?_;rw[aU a_];refine I _ _ _ ?_ ⟨j+1,rfl,rfl,G,R.keepV O λi o t q _=>C i o t q,B.setV R.s ?_ λi o t q _=>C i o t q,λi o t q=>C i o (V i o t q) q,a_⟩
  .omega
  .rw[IB,hy,show(some y).toList=[y]from rfl,Yu];exact av)
 grind
end
def KV{e id n o cx:Nat}:FN e (.slice (some ⟨id,o,le e⟩) n cx) none (some (ofNat n)) (some (ofNat n))=some (.slice (some ⟨id,o,le e⟩) n (n+1)):=by
 unfold FN;simp only;rw[rv c_,qs (by simp[bV])];simp[fc,bM]
def Mf{j7:Type}{h:HL}{e:Nat}{enc:j7->Tn}{l:List j7}(b:q9 h (.slice none 0 0) e enc l):l=[]:=by
 rcases b.2.2 with⟨_,g⟩|⟨id,c,f,i,d,a,_,_⟩
 .simp_all
 .cases a
def c9{h:HL}{x:TR}{l:TD}(k:q9 h x 3 mi l)(N:l.length<=1000000) :
  ∃b r h',aF cc ac 89 [.v x] (h9 aa h) [.v b] (h9 aa h')/\(∀g:HL,aF cc ac 88 [.v b] (h9 aa g) [.v r] (h9 aa g))/\hY h.length h' r 3 mi l/\aI b=true/\(∀(j:Nat) o,h[j]?=some o->h'[j]?=some o)/\h.length<=h'.length:=by
 have m:∃b h',aF cc ac 89 [.v x] (h9 aa h) [.v b] (h9 aa h')/\hY h.length h' b 3 mi l/\(∀(j:Nat) o,h[j]?=some o->h'[j]?=some o)/\h.length<=h'.length:=by
  by_cases f:x = .slice none 0 0
  .subst f;refine⟨.slice none 0 0,h,?_,.inl ⟨rfl,Mf k⟩,λj o i=>i,B8 _⟩;exact xK x89 (pP rfl t0) (by
    unfold f89;simp only[ub]
    repeat (first|simp(disch:=omega)only[↓n9]|refine ae (x:=true) rfl ?_)
    simp_all)
  .have B:∃a n c,x = .slice (some a) n c:=by
    rcases k.2.2 with⟨C,_⟩|⟨id,D,y,Q,I,rfl,_,_⟩
    .exact absurd C f
    simp_all
   have O:=x89 (ls:=[.v x]) (K:=λG h'=>∃b,G=[.v b]/\hY h.length h' b 3 mi l/\(∀(j:Nat) o,h[j]?=some o->h'[j]?=some o)/\h.length<=h'.length) (H:=h) (pP k.h_ t0) (by
    unfold f89;simp only[ub];refine e_ ?_;obtain⟨a,n,c,rfl⟩:=B;refine ae (x:=false) rfl ?_;refine e_ ?_;have z:hY h.length (h++[HO.o (.cells [] 3 true)]) (.slice (some ⟨h.length,0,le 3⟩) 0 1) 3 mi []:=hY.emp aK (B8 _);refine z.PE (λ_=>rfl) c_ (k.pre ⟨_,rfl⟩) tt tt ?_;intro J h' s t u w _;refine e_ ?_;refine ab t ?_;refine k_ ?_;refine⟨J,D',by simpa using s,λj o i=>u j o (ey i) λe=>?_,by simp at w;omega⟩;have L:=ai i;have M:h.length=j:=by simpa[g_]using e
    omega)
   grind
 obtain⟨b,h',p,A,q,d⟩:=m;rcases A with⟨rfl,rfl⟩|⟨id,y,rfl,E,F,P⟩
 .refine⟨.slice none 0 0,.slice none 0 0,h',p,λg=>?_,.inl ⟨rfl,rfl⟩,rfl,q,d⟩;exact xK x88 (pP rfl t0) (by
   unfold f88;simp only[ub]
   repeat (first|simp(disch:=omega)only[↓n9]|refine ae (x:=(0:Int)) rfl ?_|refine ae (x:=Value.slice none 0 0) rfl ?_|refine ab rfl ?_)
   simp_all)
 .refine⟨_,.slice (some ⟨id,0,le 3⟩) l.length (l.length+1),h',p,λg=>?_,.inr ⟨id,_,rfl,E,F,.inr rfl⟩,da,q,d⟩;exact xK x88 (pP da t0) (by
   unfold f88;simp only[ub];refine e_ ?_;refine ae (x:=ofNat l.length) rfl ?_;refine ae (x:=ofNat l.length) rfl ?_;refine ae KV ?_;refine ab da ?_
   simp_all)
def hJ{h:HL}{x:TR}{l:TC}(k:q9 h x 1 l_ l)(N:l.length<=1000000) :
  ∃b r h',aF cc ac 91 [.v x] (h9 aa h) [.v b] (h9 aa h')/\(∀g:HL,aF cc ac 90 [.v b] (h9 aa g) [.v r] (h9 aa g))/\hY h.length h' r 1 l_ l/\aI b=true/\(∀(j:Nat) o,h[j]?=some o->h'[j]?=some o)/\h.length<=h'.length:=by
 have m:∃b h',aF cc ac 91 [.v x] (h9 aa h) [.v b] (h9 aa h')/\hY h.length h' b 1 l_ l/\(∀(j:Nat) o,h[j]?=some o->h'[j]?=some o)/\h.length<=h'.length:=by
  by_cases f:x = .slice none 0 0
  .subst f;refine⟨.slice none 0 0,h,?_,.inl ⟨rfl,Mf k⟩,λj o i=>i,B8 _⟩;exact xK x91 (pP rfl t0) (by
    unfold f91;simp only[ub]
    repeat (first|simp(disch:=omega)only[↓n9]|refine ae (x:=true) rfl ?_)
    simp_all)
  .have B:∃a n c,x = .slice (some a) n c:=by
    rcases k.2.2 with⟨C,_⟩|⟨id,D,y,Q,I,rfl,_,_⟩
    .exact absurd C f
    simp_all
   have O:=x91 (ls:=[.v x]) (K:=λG h'=>∃b,G=[.v b]/\hY h.length h' b 1 l_ l/\(∀(j:Nat) o,h[j]?=some o->h'[j]?=some o)/\h.length<=h'.length) (H:=h) (pP k.h_ t0) (by
    unfold f91;simp only[ub];refine e_ ?_;obtain⟨a,n,c,rfl⟩:=B;refine ae (x:=false) rfl ?_;refine e_ ?_;have z:hY h.length (h++[HO.o (.cells [] 1 true)]) (.slice (some ⟨h.length,0,le 1⟩) 0 1) 1 l_ []:=hY.emp aK (B8 _);refine z.PE (λ_=>rfl) c_ (k.pre ⟨_,rfl⟩) tt tt ?_;intro J h' s t u w _;refine e_ ?_;refine ab t ?_;refine k_ ?_;refine⟨J,D',by simpa using s,λj o i=>u j o (ey i) λe=>?_,by simp at w;omega⟩;have L:=ai i;have M:h.length=j:=by simpa[g_]using e
    omega)
   grind
 obtain⟨b,h',p,A,q,d⟩:=m;rcases A with⟨rfl,rfl⟩|⟨id,y,rfl,E,F,P⟩
 .refine⟨.slice none 0 0,.slice none 0 0,h',p,λg=>?_,.inl ⟨rfl,rfl⟩,rfl,q,d⟩;exact xK x90 (pP rfl t0) (by
   unfold f90;simp only[ub]
   repeat (first|simp(disch:=omega)only[↓n9]|refine ae (x:=(0:Int)) rfl ?_|refine ae (x:=Value.slice none 0 0) rfl ?_|refine ab rfl ?_)
   simp_all)
 .refine⟨_,.slice (some ⟨id,0,le 1⟩) l.length (l.length+1),h',p,λg=>?_,.inr ⟨id,_,rfl,E,F,.inr rfl⟩,da,q,d⟩;exact xK x90 (pP da t0) (by
   unfold f90;simp only[ub];refine e_ ?_;refine ae (x:=ofNat l.length) rfl ?_;refine ae (x:=ofNat l.length) rfl ?_;refine ae KV ?_;refine ab da ?_
   simp_all)
abbrev SkO:=K3×Value×List Nat
def Jc(s:SkO):Tn:=Gb s.1++[s.2.1]
def tO(s:SkO):(Jc s).length=4:=rfl
def StO(n0:Nat)(h:HL)(v:Value)(l:List (K3×List Nat)):Prop:=∃L:List SkO,hY n0 h v 4 Jc L/\(∀s∈L,hY n0 h s.2.1 1 l_ s.2.2)/\L.map (λs=>(s.1,s.2.2))=l
section
variable {b:Nat} {c:XC} {U:List Lit} {F:List B5} {pn:Ti} {AT:List K3} {IDS:List (TC)} {CR:TD} {k1:Nat} {mu:Tz} {P:HL->Prop} (R:Ro b c U F pn AT IDS CR k1 mu P)
include R
theorem Yg{h:HL}(J:P h){W:TE}{us:Ty}{n:List (TC)}{lv:Tn}(hM:Mt h c k1 W us n lv)(ad:n.length=AT.length)(ag:∀l∈n,l.length<=1000000) :
  ∃xc X h',aF cc ac 52 [.v (kb b)] (h9 aa h) [.i (ofNat c.w),.i (ofNat c.v),.v xc,.i (ofNat c.r.1),.i c.r.2.1,.i c.r.2.2,.v X] (h9 aa h')/\
   hY h.length h' xc 3 mi CR/\StO h.length h' X (AT.zip n)/\(∀(j:Nat) o,h[j]?=some o->h'[j]?=some o)/\h.length<=h'.length:=by
 have bb:=x52 (ls:=[.v (kb b)]) (K:=λrs h'=>∃xc X,rs=[.i (ofNat c.w),.i (ofNat c.v),.v xc,.i (ofNat c.r.1),.i c.r.2.1,.i c.r.2.2,.v X]/\
   hY h.length h' xc 3 mi CR/\StO h.length h' X (AT.zip n)/\(∀(j:Nat) o,h[j]?=some o->h'[j]?=some o)/\h.length<=h'.length) (H:=h) (pP (az _) t0) (by
  unfold f52;simp only[ub];refine e_ ?_;refine bz (ds:=[.int .i64 (ofNat c.w),.int .i64 (ofNat c.v),c.xc]) (R.hb h J) (by simp[ah]) rfl ?_;refine e_ ?_;have hC:=R.xc h J;refine ab hC.h_ ?_;refine k_ ?_;obtain⟨x1,xc,f,c1,c2,o1,a4,T,aE⟩:=c9 hC R.cl;refine ak c1 ?_;refine e_ ?_;refine ak (c2 f) ?_;refine e_ ?_;have q:P f:=R.kp h f J λj o _ _ Q=>T j o Q;refine kw (ds:=[.int .u8 (ofNat c.r.1),.int .i64 c.r.2.1,.int .i64 c.r.2.2]) (R.hb f q) (by simp[ah]) rfl ?_;refine e_ ?_;refine bz (ds:=[c.at_]) (R.hb f q) (by simp[ah]) rfl ?_;refine e_ ?_;have E:=R.ia f q;refine ab E.h_ ?_;refine k_ ?_;refine bw E ?_;refine ae (dF (by have:=R.al;omega)) ?_;refine k_ ?_;have a1:=R.lt h J;have a6:=R.bk;refine ae (x:=()) (dg (bU ⟨_,_,_,rfl⟩ λi d=>?_) fm) ?_
  .have:f.length=i:=by simpa[g_]using d
   omega
  have ay:(ofNat AT.length).toNat=AT.length:=rfl;rw[ay];have z0:HO.o (.cells (aL [.int .i64 0,.int .i64 0,.int .u8 0,.slice none 0 0] AT.length) 4 true)=HO.o (.cells ((replicate AT.length (((0,0,0),.slice none 0 0,[]):SkO)).flatMap Jc) 4 true):=by
   rw[←cO];rfl
  rw[z0];obtain⟨k,e2⟩ : ∃k,k=f++[HO.o (.cells ((replicate AT.length (((0,0,0),.slice none 0 0,[]):SkO)).flatMap Jc) 4 true)]:=⟨_,rfl⟩;rw[←e2];have av:k[f.length]?=some (.o (.cells ((replicate AT.length (((0,0,0),.slice none 0 0,[]):SkO)).flatMap Jc) 4 true)):=by rw[e2];exact aK
  have D:∀(j:Nat) o,f[j]?=some o->k[j]?=some o:=λj o Q=>i_;have bd:k.length=f.length+1:=by rw[e2];simp
  have M:P k:=R.kp f k q λj o _ _ Q=>D j o Q;refine k_ ?_;refine bz (ds:=[c.at_]) (R.hb k M) (by simp[ah]) rfl ?_;refine e_ ?_;have G:=R.ia k M;refine ab G.h_ ?_;refine k_ ?_;refine bw G ?_;have a2:(AT.zip n).length=AT.length:=j_;refine aH (m:=AT.length) (λm ls g=>∃j L,ls=[.i (ofNat j)]/\m=AT.length - j/\j<=AT.length/\L.length=AT.length/\hY h.length g (.slice (some ⟨f.length,0,le 4⟩) AT.length (AT.length+1)) 4 Jc L/\(∀s∈L,hY h.length g s.2.1 1 l_ s.2.2/\g_ s.2.1≠some f.length)/\(L.take j).map (λs=>(s.1,s.2.2))=(AT.zip n).take j/\
   (∀(i:Nat) o,k[i]?=some o->i≠f.length->g[i]?=some o)/\k.length<=g.length) ⟨0,replicate AT.length ((0,0,0),.slice none 0 0,[]),rfl,rfl,D6 _,qcR ..,.inr ⟨f.length,_,by rw[qcR],aE,av,.inr j_⟩,λs A=>by
    rw[qdg A];exact⟨.inl ⟨rfl,rfl⟩,λe=>by cases e⟩,rfl,λi o d _=>d,B8 _⟩ ?_
  rintro m ls g ⟨j,L,rfl,rfl,Q,a0,I,O,ax,z,a9⟩ a3 B;refine Ei ?_;have C:∀(i:Nat) o,h[i]?=some o->g[i]?=some o:=λi o d=>z i o (D i o (T i o d)) i_;have N:P g:=R.kp h g J λi o _ _ d=>C i o d;have u:Mt g c k1 W us n lv:=hM.ka λi o d _=>C i o d;refine e_ ?_;by_cases t:j<AT.length
  case neg=>
   obtain rfl:j=AT.length:=a_;rw[aN (B8 _)];refine e_ ?_;refine⟨xc,_,rfl,o1.ka λi o d Y=>z i o (D i o d) i_,⟨L,I,λs A=>(O s A).1,?_⟩,λi o d=>C i o d,a_⟩
   grind
  rw[aO t];refine e_ ?_;obtain⟨a,ha⟩:=am t;refine aQ (R.ia g N) rfl ha ?_;rw[show Gb a=[.int .i64 a.1,.int .i64 a.2.1,.int .u8 (ofNat a.2.2)]from rfl];refine e_ ?_;refine bz (ds:=[c.lay]) (R.hb g N) (by simp[ah]) rfl ?_;refine e_ ?_;refine ab (u.ly.h_ bh) ?_;refine k_ ?_;obtain⟨v,hv⟩:=am (l:=lv) (i:=j) (by rw[hM.ln,ad];exact t);obtain⟨p,hp⟩:=am (l:=n) (i:=j) a_;refine aQ (u.ly.ls bh) rfl hv ?_;rw[show D4 v=[v]from rfl];refine e_ ?_;have hT:=(u.tr j v p hv hp).ls;refine ab hT.h_ ?_;refine k_ ?_;obtain⟨y1,Z,g',c3,c4,o3,a5,k3,l3⟩:=hJ hT (ag p (A9 hp));refine ak c3 ?_;refine e_ ?_;refine ak (c4 g') ?_;refine e_ ?_;have an:hY h.length g' (.slice (some ⟨f.length,0,le 4⟩) AT.length (AT.length+1)) 4 Jc L:=I.ka λi o d _=>k3 i o d;refine an.KT tO rfl a_ (a:=(a,Z,p)) rfl ?_;intro g4 ap y a8;refine k_ ?_;rw[aU (by have:=R.al;omega)];have a7:f.length<g.length:=a_;refine B _ _ _ ?_ ⟨j+1,L.set j (a,Z,p),rfl,rfl,t,i_,ap,λs A=>?_,?_,λi o d S=>y i o (k3 i o (z i o d S)) λe=>S (by cases e;rfl),a_⟩
  .omega
  .rcases kA A with A|rfl
   .obtain⟨q1,V⟩:=O s A;refine⟨q1.ka λi o d Y=>y i o (k3 i o d) λe=>V ?_,V⟩;rw[Y,←e];rfl
   .have V:g_ Z≠some f.length:=λe=>by
     have:=(o3.g_ e).1;omega
    refine⟨?_,V⟩;have o5:hY g.length g4 Z 1 l_ p:=o3.ka λi o d Y=>y i o d λe=>V (by rw[Y,←e];rfl);rcases o5 with h0|⟨id,cx,r1,r2,r3⟩
    .exact .inl h0
    .exact .inr ⟨id,cx,r1,a_,r3⟩
  .rw[IB,IB,IV,List.take_set_of_le a_,ax]
   grind)
 grind
end
end Go.Am
namespace Go.Am
open Sx
structure Gl(IDS:List (TC))(N:Nat):Prop where
 ne:∀l∈IDS,l≠[]
 lt:∀l∈IDS,∀x∈l,x<N
 nd:∀l∈IDS,l.Nodup
 dj:IDS.Pairwise λa b=>∀x∈a,x∉b
structure Pb(U:List Lit)(pn:Ti)(S:(Nat->Bool)->Prop)(F:List B5)(N:Nat)(W:TE)(us:Ty)(I0:List (TC))(D:List (TC))(p ids:TC)(Q:List (TC)):Prop where
 nod:Ny U pn S W D p (DS us ids)
 ul:us.length=N
 dl:D.length=I0.length
 pm:(p++DS us ids).Perm ids
 dm:∀(i:Nat) d l,D[i]?=some d->I0[i]?=some l->d.Perm l
 fr:∀l∈Q,∀x∈l,us.getD x false=false
 ev:(p≠[]∨D≠[])->I4 U W F
section
variable {U:List Lit} {pn:Ti} {S:(Nat->Bool)->Prop} {F:List B5} {N:Nat} {W:TE} {us:Ty} {I0 D:List (TC)} {p ids:TC} {Q:List (TC)} (g:Gl (I0++ids :: Q) N) (hn:Pb U pn S F N W us I0 D p ids Q)
include g hn
theorem Pb.child{id:Nat}(i':id∈DS us ids){c:TE}(h1:Ny U pn S c D (p++[id]) ((DS us ids).erase id))(i:I4 U c F):Pb U pn S F N c (us.set id true) I0 D (p++[id]) ids Q:=by
 have f:ids∈I0++ids :: Q:=c_;obtain⟨d,m⟩:=qy.1 i';have b:=uy (us:=us) (g.nd ids f) (id:=id) (by rw[hn.ul];exact g.lt ids f id d);refine⟨by rw[b];exact h1,by rw[GZ];exact hn.ul,hn.dl,?_,hn.dm,λl b x h=>?_,λ_=>i⟩
 .rw[b,FL];refine List.Perm.trans ?_ hn.pm
  grind
 .have a:=g.dj;rw[bb]at a;have j:=(KH.1 a.2.1).1 l b id d;have k:id≠x:=λe=>j (by rw[e];exact h);have:=hn.fr l b x h
  simp_all
theorem Pb.pne(h0:DS us ids=[]):p≠[]:=λe=>by
 have:=hn.pm;rw[h0,e]at this;exact g.ne ids c_ this.symm.eq_nil
theorem Pb.next{l:TC}{h:List (TC)}(h0:DS us ids=[])(j:Q=l :: h):Pb U pn S F N W us (I0++[ids]) (D++[p]) [] l h:=by
 subst j;have k:DS us l=l:=by
  unfold DS;rw[qc1];intro x m;rw[hn.fr l c_ x m];rfl
 have b:=hn.nod;rw[h0]at b;refine⟨by rw[k];exact b.next,hn.ul,by simp[hn.dl],j_,λi d f c a=>?_,λf a=>hn.fr f (by simp[a]),λ_=>hn.ev (.inl (Pb.pne g hn h0))⟩;rw[d8]at c a;by_cases e:i<D.length
 .rw[qs e]at c;rw[qs (by rw[←hn.dl];exact e)]at a;exact hn.dm i d f c a
 .rw[rv e]at c;rw[rv (by rw[←hn.dl];exact e),←hn.dl]at a;have:i - D.length=0:=by
   grind
  rw[this]at c a;cases c;cases a;have:=hn.pm
  simp_all
theorem Pb.leaf{r:TF}(m:IL U r)(h0:DS us ids=[])(n:Q=[])(t:∀f∈F,∀l∈[f.1,f.2.1,f.2.2.1,f.2.2.2],∃q∈I0++ids :: Q,∃a∈q,∃b∈q,a≠b/\l=DC pn a b):Er pn S F (D++[p])=true:=by
 subst n;have c:=hn.nod;rw[h0]at c;refine c.leaf m (hn.ev (.inl (Pb.pne g hn h0))) λf j l u=>?_;obtain⟨q,h,a,w,b,x,o,e⟩:=t f j l u;rcases Fs.1 h with h|h
 .obtain⟨i,k⟩:=FK h;obtain⟨d,s⟩:=am (l:=D) (i:=i) (by rw[hn.dl];exact ai k);have v:=hn.dm i d q s k
  grind
 .rw[GM]at h;subst h;have v:=hn.pm
  grind
end
section
variable {g9:Type} (f:List (TC)->g9->g9×Bool) (ok:List (TC)->Bool)
def UL(D:List (TC))(p r:TC)(Q:List (TC))(l:TC):List (List (TC)):=l.flatMap λa=>GK D (p++[a]) (r.erase a) Q
def L5{D:List (TC)}{p r:TC}{Q:List (TC)}(a:r≠[]):UL D p r Q r=GK D p r Q:=(Aw a).symm
def yv{D:List (TC)}{p r:TC}{Q:List (TC)}{l m:TC}:(UL D p r Q (l++m)).filter ok=(UL D p r Q l).filter ok++(UL D p r Q m).filter ok:=by
 unfold UL
 simp_all
def L6{D:List (TC)}{p r:TC}{Q:List (TC)}{a:Nat}:UL D p r Q [a]=GK D (p++[a]) (r.erase a) Q:=by
 unfold UL;simp
end
end Go.Am
namespace Go.Am
open Sx Go.Proofs
def N7(l:Nat):Ki (.func (.yield l) #[] #[]) (.func (.yield l) #[] #[])=some ():=by
 unfold Ki
 simp_all
abbrev stY(c:XC)(xc a:Value):List S0:=[.agg [.i .i64 (ofNat c.w),.i .i64 (ofNat c.v),.v xc,.i .u8 (ofNat c.r.1),.i .i64 c.r.2.1,.i .i64 c.r.2.2,.v a]]
structure Yl{g9:Type}(l:Nat)(c:XC)(AT:List K3)(CR:TD)(k1:Nat)(mu:Tz)(f:List (TC)->g9->g9×Bool)(X:List (List (TC)))(live:g9->Prop)(J:g9->(Nat->Prop)->HL->Prop):Prop where
 kp:∀s B h h',J s B h->(∀(j:Nat) o,B j->h[j]?=some o->h'[j]?=some o)->J s B h'
 lt:∀s B h,J s B h->∀j,B j->j<h.length
 sp:∀s B h,J s B h->∀j,B j->(mu j∨k1<=j)/\g_ c.va≠some j/\g_ c.us≠some j/\g_ c.lay≠some j
 y:∀s B h,J s B h->live s->∀x∈X,∀n0 xc sv,(∀j,B j->j<n0)->n0<=h.length->hY n0 h xc 3 mi CR->StO n0 h sv (AT.zip x)->
  ∃h' B',iK cc l (ao (stY c xc sv)) (h9 aa h) (.bool (f x s).2) (h9 aa h')/\J (f x s).1 B' h'/\(∀(j:Nat) o,h[j]?=some o->¬B j->j<n0->h'[j]?=some o)/\h.length<=h'.length/\(∀j,B' j->B j∨n0<=j)/\((f x s).2=true->live (f x s).1)
def J9(q1 q2 q3:Nat):Value:=.func (.func 51) ⟨[]⟩ ⟨[kb q1,kb q2,kb q3]⟩
structure Qc(h:HL)(b l q1 q2 q3:Nat):Prop where
 c1:h[q1]?=some (.o (.cells [kb b] 1 true))
 c2:h[q2]?=some (.o (.cells [.func (.yield l) #[] #[]] 1 true))
 c3:h[q3]?=some (.o (.cells [J9 q1 q2 q3] 1 true))
def Qc.ka{h h':HL}{b l q1 q2 q3:Nat}(c:Qc h b l q1 q2 q3)(a:∀(j:Nat) o,h[j]?=some o->j=q1∨j=q2∨j=q3->h'[j]?=some o):Qc h' b l q1 q2 q3:=
 ⟨a _ _ c.c1 (.inl rfl),a _ _ c.c2 (.inr (.inl rfl)),a _ _ c.c3 (.inr (.inr rfl))⟩
section
variable {b:Nat} {c:XC} {U:List Lit} {F:List B5} {pn:Ti} {AT:List K3} {IDS:List (TC)} {CR:TD} {k1:Nat} {mu:Tz} {P:HL->Prop} (R:Ro b c U F pn AT IDS CR k1 mu P)
 {g9:Type} {l:Nat} {f:List (TC)->g9->g9×Bool} {X:List (List (TC))} {live:g9->Prop} {J:g9->(Nat->Prop)->HL->Prop} (Y:Yl l c AT CR k1 mu f X live J)
include R Y
theorem nn{h:HL}(p:P h){W:TE}{us:Ty}{a:List (TC)}{lv:Tn}(z:Mt h c k1 W us a lv)(m:a.length=AT.length)(n:∀l∈a,l.length<=1000000){q1 q2 q3:Nat}(e:Qc h b l q1 q2 q3){s:g9}{B:Tz}(u:J s B h)(r:live s)(A:a∈X) :
  ∃h' B',aF cc ac 51 [.i (ofNat AT.length),.v (kb q1),.v (kb q2),.v (kb q3)] (h9 aa h) [.b (f a s).2] (h9 aa h')/\J (f a s).1 B' h'/\(∀(j:Nat) o,h[j]?=some o->¬B j->h'[j]?=some o)/\h.length<=h'.length/\(∀j,B' j->B j∨h.length<=j)/\((f a s).2=true->live (f a s).1):=by
 have D:=x51 (ls:=[.i (ofNat AT.length),.v (kb q1),.v (kb q2),.v (kb q3)]) (K:=λL h'=>L=[.b (f a s).2]/\∃B',J (f a s).1 B' h'/\(∀(j:Nat) o,h[j]?=some o->¬B j->h'[j]?=some o)/\h.length<=h'.length/\(∀j,B' j->B j∨h.length<=j)/\((f a s).2=true->live (f a s).1)) (H:=h) (mc (pP (az _) (pP (az _) (pP (az _) t0)))) (by
  unfold f51;simp only[ub];refine e_ ?_;refine dc (bF e.c1) rfl ?_;refine e_ ?_;refine ab (az _) ?_;refine k_ ?_;refine bz (ds:=[c.at_]) (R.hb h p) (by simp[ah]) rfl ?_;refine e_ ?_;have hA:=R.ia h p;refine ab hA.h_ ?_;refine k_ ?_;refine bw hA ?_;rw[t_ rfl];refine e_ ?_;refine dc (bF e.c2) rfl ?_;refine e_ ?_;refine ab rfl ?_;refine k_ ?_;refine dc (bF e.c1) rfl ?_;refine e_ ?_;refine ab (az _) ?_;refine k_ ?_;obtain⟨xc,w,g,x,G,I,d,E⟩:=Yg R p z m n;refine ak x ?_;refine e_ ?_;have k:J s B g:=Y.kp s B h g u λj o _ q=>d j o q;obtain⟨h',B',C,M,N,O,Q,S⟩:=Y.y s B g k r a A h.length xc w (λj q=>Y.lt s B h u j q) E G I;have t:=d _ _ e.c2;refine dc (bF t) rfl ?_;refine e_ ?_;refine ab rfl ?_;refine k_ ?_;refine ae (N7 l) ?_;refine k_ ?_;refine Xp (ys:=stY c xc w) C ?_;refine e_ ?_
  grind)
 grind
end
def Co{j7:Type}{h:HL}{v:TR}{e:Nat}{enc:j7->Tn}{l:List j7}(c:q9 h v e enc l){j:Nat}(a:g_ v=some j):j<h.length:=by
 rcases c.2.2 with⟨rfl,_⟩|⟨id,d,g,i,f,rfl,b,_⟩
 .cases a
 .cases a;exact ai b
def lw(q1 q2 q3:Nat):aI (J9 q1 q2 q3)=true:=by simp[J9,aI,nc,aT,bE,bj,aP,aD]
def Ml{j7:Type}{a:j7}:∀ {D Z:List j7} {x:j7},(D++x :: Z).set D.length a=D++a :: Z
 | [],_,_=>rfl
 |d :: D,Z,x=>by
  simp_all
def AE{j7:Type}{D Z:List j7}{x:j7}:(D++x :: Z)[D.length]?=some x:=by
 simp_all
structure Sep(lv:Tn)(B:Tz)(k1 q1 q2 q3:Nat):Prop where
 lb:∀v∈lv,∀j,g_ v=some j->¬B j
 q:∀j,j=q1∨j=q2∨j=q3->k1<=j/\¬B j/\∀v∈lv,g_ v≠some j
section
variable {b:Nat} {c:XC} {U:List Lit} {F:List B5} {pn:Ti} {AT:List K3} {IDS:List (TC)} {CR:TD} {k1:Nat} {mu:Tz} {P:HL->Prop} (R:Ro b c U F pn AT IDS CR k1 mu P)
 {g9:Type} {l:Nat} {f:List (TC)->g9->g9×Bool} {X:List (List (TC))} {live:g9->Prop} {J:g9->(Nat->Prop)->HL->Prop} (Y:Yl l c AT CR k1 mu f X live J)
 {r:TF} (hF:IL U r) {N:Nat} (hG:Gl IDS N) (hf0:∀f∈F,∀l∈[f.1,f.2.1,f.2.2.1,f.2.2.2],∃q∈IDS,∃a∈q,∃b∈q,a≠b/\l=DC pn a b) {S:(Nat->Bool)->Prop} {q1 q2 q3:Nat}
include R Y hF hG hf0
theorem o7:∀(m:Nat) (I0 D:List (TC)) (p d:TC) (Q:List (TC)) (W:TE) (us:Ty) (lv:Tn) (h:HL) (s:g9) (B:Tz),m=(Q.map λl=>l.length+1).sum+(DS us d).length->IDS=I0++d :: Q->Pb U pn S F N W us I0 D p d Q->(∀x∈GK D p (DS us d) Q,x∈X)->P h->Mt h c k1 W us (D++p :: Q.map λ_=>[]) lv->
  Qc h b l q1 q2 q3->Sep lv B k1 q1 q2 q3->J s B h->live s->
  ∃h' B' ad,aF cc ac 51 [.i (ofNat D.length),.v (kb q1),.v (kb q2),.v (kb q3)] (h9 aa h) [.b (HD f ((GK D p (DS us d) Q).filter (Er pn S F)) s).2] (h9 aa h')/\P h'/\Mt h' c k1 W us (D++p :: Q.map λ_=>[]) ad/\
   J (HD f ((GK D p (DS us d) Q).filter (Er pn S F)) s).1 B' h'/\((HD f ((GK D p (DS us d) Q).filter (Er pn S F)) s).2=true->live (HD f ((GK D p (DS us d) Q).filter (Er pn S F)) s).1)/\
   (∀v∈ad,∀j,g_ v=some j->((∃w∈lv,g_ w=some j)∨h.length<=j)/\¬B' j)/\(∀j,B' j->B j∨h.length<=j)/\(∀(j:Nat) o,k1<=j->h[j]?=some o->(∀v∈lv,g_ v≠some j)->¬B j->h'[j]?=some o)/\h.length<=h'.length:=by
 intro m
 induction m using Nat.strongRecOn with
 |_ m ih=>
 intro I0 D p d Q W us lv h s B hm hI hN hX hP hM hq hs hJ M;have es:D.length=I0.length:=hN.dl;have dr:IDS.length=I0.length+(Q.length+1):=by rw[hI];simp
 have ej:=R.il;have ag:IDS[D.length]?=some d:=i_;have bt:(D++p :: Q.map λ_=>([]:TC))[D.length]?=some p:=AE;have av:(D++p :: Q.map λ_=>([]:TC)).length=AT.length:=by
  simp;omega
 have ay:d∈IDS:=A9 ag;obtain⟨d6,ex,eA⟩:=R.ib d ay;have eB:p.length+(DS us d).length=d.length:=by
  have:=hN.pm.length_eq
  grind
 obtain⟨v0,c7⟩:=am (l:=lv) (i:=D.length) (by rw[hM.ln,av];omega);have cq:=hM.tr D.length v0 p c7 bt;obtain⟨vs,i2,i4⟩:=R.ids;obtain⟨i1,i3⟩:=i4 h hP;obtain⟨vi,a8⟩:=am (l:=vs) (i:=D.length) a_;have a5:=i3 D.length vi d a8 ag;have el:D.length<=1000000:=by have:=R.al;omega
 obtain⟨V,eV⟩ : ∃V,V=HD f ((GK D p (DS us d) Q).filter (Er pn S F)) s:=⟨_,rfl⟩;rw[←eV];have eF:=x51 (ls:=[.i (ofNat D.length),.v (kb q1),.v (kb q2),.v (kb q3)]) (K:=λrs h'=>rs=[.b V.2]/\∃B' ad,P h'/\Mt h' c k1 W us (D++p :: Q.map λ_=>[]) ad/\J V.1 B' h'/\(V.2=true->live V.1)/\
   (∀v∈ad,∀j,g_ v=some j->((∃w∈lv,g_ w=some j)∨h.length<=j)/\¬B' j)/\(∀j,B' j->B j∨h.length<=j)/\(∀(j:Nat) o,k1<=j->h[j]?=some o->(∀v∈lv,g_ v≠some j)->¬B j->h'[j]?=some o)/\h.length<=h'.length) (H:=h) (mc (pP (az _) (pP (az _) (pP (az _) t0)))) (by
  unfold f51;simp only[ub];refine e_ ?_;refine dc (bF hq.c1) rfl ?_;refine e_ ?_;refine ab (az _) ?_;refine k_ ?_;refine bz (ds:=[c.at_]) (R.hb h hP) (by simp[ah]) rfl ?_;refine e_ ?_;have hA:=R.ia h hP;refine ab hA.h_ ?_;refine k_ ?_;refine bw hA ?_;rw[xk (λe=>i_)];refine e_ ?_;refine dc (bF hq.c1) rfl ?_;refine e_ ?_;refine ab (az _) ?_;refine k_ ?_;refine bz (ds:=[c.lay]) (R.hb h hP) (by simp[ah]) rfl ?_;refine e_ ?_;refine ab (hM.ly.h_ bh) ?_;refine k_ ?_;refine aQ (hM.ly.ls bh) rfl c7 ?_;rw[show D4 v0=[v0]from rfl];refine e_ ?_;refine ab cq.h_ ?_;refine k_ ?_;refine bw cq.ls ?_;refine dc (bF hq.c1) rfl ?_;refine e_ ?_;refine ab (az _) ?_;refine k_ ?_;refine bz (ds:=[c.ids]) (R.hb h hP) (by simp[ah]) rfl ?_;refine e_ ?_;refine ab i1.h_ ?_;refine k_ ?_;refine aQ i1 rfl a8 ?_;rw[show D4 vi=[vi]from rfl];refine e_ ?_;refine ab a5.h_ ?_;refine k_ ?_;refine bw a5 ?_;by_cases hr:DS us d=[]
  · -- a stack is done
   have d8:(DS us d).length=0:=by rw[hr];rfl
   rw[t_ (congrArg ofNat a_)];refine e_ ?_;refine dc (bF hq.c3) rfl ?_;refine e_ ?_;refine ab (lw q1 q2 q3) ?_;refine k_ ?_;rw[aU a_,show ofNat D.length+1=ofNat (D.length+1)from rfl];cases hQ:Q with
   |nil=>
    subst hQ;have bP:=hN.leaf (hI▸hG) hF hr rfl (λf hf l hl=>by
     have:=hf0 f hf l hl
     rwa [hI]at this)
    have dT:D++[p]∈X:=hX _ (by rw[hr,Au];simp);have bx:V=((f (D++[p]) s).1,(f (D++[p]) s).2):=by
     rw[eV,hr,Au,List.filter_cons,bP,qs rfl,List.filter_nil,pE];cases et:(f (D++[p]) s).2 with
     |true=>rfl
     |false=>rfl
    have dk:D.length+1=AT.length:=by simp at dr;omega
    rw[dk];obtain⟨h',B',cf,j1,j2,j3,j4,j5⟩:=nn R Y hP hM av (λl hl=>by
     obtain⟨i,n⟩:=FK hl;rcases Fs.1 hl with hl|hl
     .obtain⟨i,n⟩:=FK hl;obtain⟨l2,aE⟩:=am (l:=I0) (i:=i) i_;rw[(hN.dm i l l2 n aE).length_eq];exact(R.ib l2 i_).2.1
     grind) hq hJ M dT
    refine jt (iV cf rfl [.leaf (.i .i64 (ofNat AT.length)),.leaf (.v (kb q1)),.leaf (.v (kb q2)),.leaf (.v (kb q3))] rfl rfl rfl) ?_;refine e_ ?_;rw[bx];refine⟨D',B',lv,R.kp h h' hP λj o jk jm hj=>j2 j o hj λhB=>?_,hM.ka λj o hj hb=>j2 j o hj λhB=>?_,j1,j5,λv z j hj=>⟨.inl ⟨v,z,hj⟩,λhB=>?_⟩,j4,λj o _ hj _ hB=>j2 j o hj hB,j3⟩
    .rcases(Y.sp s B h hJ j hB).1 with e|e
     .exact jm e
     .omega
    .obtain⟨_,a1,a2,a3⟩:=Y.sp s B h hJ j hB;rcases hb with hb|hb|hb|⟨v,z,hb⟩
     .exact a1 hb
     .exact a2 hb
     .exact a3 hb
     .exact hs.lb v z j hb hB
    .rcases j4 j hB with e|e
     .exact hs.lb v z j hj e
     .obtain⟨i,n⟩:=FK z;obtain⟨l2,aE⟩:=am (l:=D++p :: ([]:List (TC)).map λ_=>([]:TC)) (i:=i) (by rw[←hM.ln];exact ai n);have:=(hM.tr i v l2 n aE).lt hj;omega
   |cons l0 Q'=>
    subst hQ;have cC:DS us l0=l0:=by
     unfold DS;rw[qc1];intro x hx;rw[hN.fr l0 c_ x hx];rfl
    have dB:=hN.next (hI▸hG) hr rfl
    have ck:D++p :: (l0 :: Q').map (λ_=>([]:TC))=(D++[p])++[] :: Q'.map λ_=>[]:=c_;have bx:V=HD f ((GK (D++[p]) [] (DS us l0) Q').filter (Er pn S F)) s:=by rw[eV,hr,Av,cC]
    obtain⟨h',B',ad,cf,r1,r2,r3,r4,r5,r6,r7,r8⟩:=ih ((Q'.map λl=>l.length+1).sum+(DS us l0).length) i_ (I0++[d]) (D++[p]) [] l0 Q' W us lv h s B rfl (by rw[hI];simp) dB (λx hx=>hX x (by rw[hr,Av];rwa [cC]at hx)) hP (by rw[←ck];exact hM) hq hs hJ M;rw[←bx]at cf r3 r4;rw[show(D++[p]).length=D.length+1 from by simp]at cf;refine jt (iV cf rfl [.leaf (.i .i64 (ofNat (D.length+1))),.leaf (.v (kb q1)),.leaf (.v (kb q2)),.leaf (.v (kb q3))] rfl rfl rfl) ?_;refine e_ ?_;rw[←ck]at r2;exact⟨D',B',ad,r1,r2,r3,r4,r5,r6,r7,r8⟩
  · -- something is left
   have d8:=w4.2 hr;rw[xk (λe=>i_)];refine e_ ?_;refine dc (bF hq.c1) rfl ?_;refine e_ ?_;refine ab (az _) ?_;refine k_ ?_;refine bz (ds:=[c.ids]) (R.hb h hP) (by simp[ah]) rfl ?_;refine e_ ?_;refine ab i1.h_ ?_;refine k_ ?_;refine aQ i1 rfl a8 ?_;rw[show D4 vi=[vi]from rfl];refine e_ ?_;refine ab a5.h_ ?_;refine k_ ?_;refine bw a5 ?_;have ec:Mt h c k1 W us (D++p :: Q.map λ_=>[]) lv:=hM;have d5:∀ {g:HL} {u:Tn} {W2:TE} {dj:Ty} {bs:List (TC)},Mt g c k1 W2 dj bs u->∀v∈u,∀i,g_ v=some i->i<g.length:=λ{g u W2 dj bs} cl v z i n=>by
    obtain⟨k,hk⟩:=FK z;obtain⟨l2,aE⟩:=am (l:=bs) (i:=k) (by rw[←cl.ln];exact ai hk);exact(cl.tr k v l2 hk aE).lt n
   refine aH (m:=d.length) (λm ls g=>∃j u I s2,ls=[.i (ofNat j)]/\m=d.length - j/\j<=d.length/\P g/\Mt g c k1 W us (D++p :: Q.map λ_=>[]) u/\HD f ((UL D p (DS us d) Q (DS us (d.take j))).filter (Er pn S F)) s=(s2,true)/\J s2 I g/\live s2/\
    (∀v∈u,∀i,g_ v=some i->((∃w∈lv,g_ w=some i)∨h.length<=i)/\¬I i)/\(∀i,I i->B i∨h.length<=i)/\(∀(i:Nat) o,k1<=i->h[i]?=some o->(∀v∈lv,g_ v≠some i)->¬B i->g[i]?=some o)/\h.length<=g.length)
    ⟨0,lv,B,s,rfl,rfl,D6 _,hP,hM,rfl,hJ,M,λv z i n=>⟨.inl ⟨v,z,n⟩,hs.lb v z i n⟩,λi n=>.inl n,λi o _ n _ _=>n,B8 _⟩ ?_
   rintro m ls g ⟨j,u,I,s2,rfl,rfl,hj,a6,ax,b6,ci,cT,bC,ek,cy,ee⟩ ei b5;refine Ei ?_;have c4:∀i,i=q1∨i=q2∨i=q3->i<h.length:=λi n=>by
    rcases n with rfl|rfl|rfl
    .exact ai hq.c1
    .exact ai hq.c2
    .exact ai hq.c3
   have b4:Qc g b l q1 q2 q3:=hq.ka λi o n hb=>cy i o (hs.q i hb).1 n (hs.q i hb).2.2 (hs.q i hb).2.1;have an:∀i,i=q1∨i=q2∨i=q3->k1<=i/\¬I i/\∀v∈u,g_ v≠some i:=λi n=>by
    obtain⟨a1,a2,a3⟩:=hs.q i n;have a4:=c4 i n
    grind
   refine e_ ?_;by_cases b0:j<d.length
   case neg=>
    obtain rfl:j=d.length:=a_;rw[aN (B8 _)];refine e_ ?_;rw[XQ,L5 hr,←eV]at b6
    grind
   rw[aO b0];simp(disch:=omega)only[↓C3];obtain⟨y,hy⟩:=am b0;have b7:=A9 hy;have c9:y<us.length:=by rw[hN.ul];exact hG.lt d ay y b7
   have dn:q9 g vi 1 l_ d:=(i4 g a6).2 D.length vi d a8 ag;have bd:∀ {t:Bool},us.getD y false=t->DS us (d.take (j+1))=DS us (d.take j)++if t=true then []else [y]:=λ{t} ht=>by
    rw[IB,hy];unfold DS
    grind
   refine cI (λls g'=>ls=[]/\∃A E s3,P g'/\Mt g' c k1 W us (D++p :: Q.map λ_=>[]) A/\HD f ((UL D p (DS us d) Q (DS us (d.take (j+1)))).filter (Er pn S F)) s=(s3,true)/\J s3 E g'/\live s3/\
    (∀v∈A,∀i,g_ v=some i->((∃w∈lv,g_ w=some i)∨h.length<=i)/\¬E i)/\(∀i,E i->B i∨h.length<=i)/\(∀(i:Nat) o,k1<=i->h[i]?=some o->(∀v∈lv,g_ v≠some i)->¬B i->g'[i]?=some o)/\h.length<=g'.length) ?_ ?_
   case refine_1=>
    rintro ls g' ⟨rfl,A,E,s3,z1,z2,z3,z4,z5,z6,z7,z8,z9⟩;refine e_ ?_;rw[aU a_];exact b5 _ _ _ a_ ⟨j+1,A,E,s3,rfl,rfl,b0,z1,z2,z3,z4,z5,z6,z7,z8,z9⟩
   intro jj d3;refine aQ dn rfl hy ?_;rw[show l_ y=[.int .i64 (ofNat y)]from rfl];simp(disch:=omega)only[↓C3];refine dc (bF b4.c1) rfl ?_;simp(disch:=omega)only[↓C3];refine ab (az _) ?_
   try simp(disch:=omega)only[↓C3]
   refine bz (ds:=[c.us]) (R.hb g a6) (by simp[ah]) rfl ?_;simp(disch:=omega)only[↓C3];refine ab (ax.us.h_ cU) ?_
   try simp(disch:=omega)only[↓C3]
   obtain⟨t,eb⟩:=am c9;have a0:us.getD y false=t:=i_;refine aQ (ax.us.ls cU) rfl eb ?_;rw[show B6 t=[.bool t]from rfl];simp(disch:=omega)only[↓C3];cases t with
   |true=>
    simp(disch:=omega)only[↓C3]
    grind
   |false=>
    simp(disch:=omega)only[↓C3];obtain⟨Z,eZ⟩ : ∃Z,Z=Q.map λ_=>([]:TC):=⟨_,rfl⟩;rw[←eZ]at ax bt av;have ea:y∈DS us d:=qy.2 ⟨b7,a0⟩;obtain⟨L,b9⟩ : ∃L,L=g++[HO.o (.cells [.slice none 0 0] 1 true)]:=⟨_,rfl⟩;rw[←b9];have ap:∀(i:Nat) o,g[i]?=some o->L[i]?=some o:=λi o n=>i_;have eL:L.length=g.length+1:=by rw[b9];simp
    have ct:L[g.length]?=some (.o (.cells [.slice none 0 0] 1 true)):=i_;have cA:=R.lt g a6;have bn:∀j,g_ c.va=some j->j<k1:=λj e=>(R.s.s1 j e).1;have bm:∀j,g_ c.us=some j->j<k1:=λj e=>(R.s.s2 j e).1;have be:=R.s.s3;refine cI (λls G=>∃t W2 T x2 A E s3,ls=[.b t]/\P G/\Mt G c k1 W2 (us.set y true) (D++(p++[y]) :: Z) A/\W2.length=U.length/\G[g.length]?=some (.o (.cells [x2] 1 true))/\q9 G x2 1 l_ T/\T.length<=1000000/\(∀i∈T,i<U.length)/\JK T W2=W/\
     (∀i,g_ x2=some i->k1<=i/\∀v∈A,g_ v≠some i)/\HD f ((GK D (p++[y]) ((DS us d).erase y) Q).filter (Er pn S F)) s2=(s3,t)/\J s3 E G/\(t=true->live s3)/\(∀v∈A,∀i,g_ v=some i->((∃w∈u,g_ w=some i)∨g.length<=i)/\¬E i)/\(∀i,E i->I i∨g.length<=i)/\
     (∀(i:Nat) o,k1<=i->g[i]?=some o->(∀v∈u,g_ v≠some i)->¬I i->G[i]?=some o)/\g.length<=G.length) ?_ ?_
    case refine_1=>
     rintro ls G ⟨t,W2,T,x2,A,E,s3,rfl,z1,z2,z3,z4,z5,z6,z7,z8,z9,y1,y2,y3,y4,y5,y6,y7⟩;simp(disch:=omega)only[↓C3];have a7:Qc G b l q1 q2 q3:=b4.ka λi o n hb=>y6 i o (an i hb).1 n (an i hb).2.2 (an i hb).2.1;refine dc (bF a7.c1) rfl ?_;simp(disch:=omega)only[↓C3];refine ab (az _) ?_
     try simp(disch:=omega)only[↓C3]
     refine dc (bF z4) rfl ?_;simp(disch:=omega)only[↓C3];refine ab z5.h_ ?_
     try simp(disch:=omega)only[↓C3]
     obtain⟨v4,g3,cr,co,cm,eC,d4,ez⟩:=SO R z1 z2 (st:=D.length) (id:=y) (p:=p) AE a_ i_ z5 z9 z6 (λi n=>by rw[z3];exact z7 i n);refine ak cr ?_;simp(disch:=omega)only[↓C3];rw[z8,Yr a0,Ml]at cm;have cn:Mt g3 c k1 W us (D++p :: Q.map λ_=>[]) (A.set D.length v4):=by rw[←eZ];exact cm
     have c6:D.length<A.length:=by rw[z2.ln];simp
     have bk:∀v∈A.set D.length v4,∀i,g_ v=some i->((∃w∈lv,g_ w=some i)∨h.length<=i)/\¬E i:=λv z i n=>by
      obtain⟨v5,c8,e5⟩ : ∃v5∈A,g_ v5=some i:=by
       rcases kA z with z|rfl
       .exact⟨v,z,n⟩
       .obtain⟨v5,c8⟩:=am c6
        grind
      obtain⟨a1,a2⟩:=y4 v5 c8 i e5;refine⟨?_,a2⟩;rcases a1 with⟨w,hw,e⟩|e
      .exact(bC w hw i e).1
      omega
     have ca:∀i,E i->B i∨h.length<=i:=λi n=>by
      grind
     have cw:∀(i:Nat) o,k1<=i->h[i]?=some o->(∀v∈lv,g_ v≠some i)->¬B i->g3[i]?=some o:=λi o C n b1 b2=>by
      have ev:=ai n;refine d4 i o (y6 i o C (cy i o C n b1 b2) (λv z e=>?_) λe=>?_) (λe=>by have:=bn i e;omega) (λe=>by have:=bm i e;omega) λe=>by have:=be i e;omega
      .rcases(bC v z i e).1 with⟨w,hw,e2⟩|e2
       .exact b1 w hw e2
       .omega
      grind
     have ce:J s3 E g3:=Y.kp s3 E G g3 y2 λi o n ho=>by
      obtain⟨_,a1,a2,a3⟩:=Y.sp s3 E G y2 i n
      grind
     cases t with
     |true=>
      simp(disch:=omega)only[↓C3,EX];refine d3 _ _ ⟨rfl,A.set D.length v4,E,s3,co,cn,?_,ce,y3 rfl,bk,ca,cw,a_⟩;rw[bd a0,rv m_,yv,vu,b6,qs rfl,L6];exact y1
     |false=>
      simp(disch:=omega)only[↓C3,FT];have hV:V=(s3,false):=by
       have d9:DS us d=(DS us (d.take j)++[y])++DS us (d.drop (j+1)):=by
        have e1:=bd a0;rw[rv m_]at e1;rw[←e1];unfold DS;rw[←qcn,XU]
       have e2:=congrArg (UL D p (DS us d) Q) d9;rw[L5 hr]at e2;rw[eV,e2,yv,yv,FL,vu,b6,qs rfl,L6,vu,y1];rfl
      rw[hV];exact⟨D',E,A.set D.length v4,co,cn,ce,λe=>(by cases e),bk,ca,cw,a_⟩
    intro eE bb;have dD:P L:=R.kp g L a6 λi o _ _ n=>ap i o n;have dA:Mt L c k1 W us (D++p :: Z) u:=ax.ka λi o n _=>ap i o n;have bl:Qc L b l q1 q2 q3:=b4.ka λi o n _=>ap i o n;have cb:J s2 I L:=Y.kp s2 I g L ci λi o _ n=>ap i o n;have ef:D.length<u.length:=by rw[ax.ln];simp
    refine dc (bF bl.c1) rfl ?_;simp(disch:=omega)only[↓C3];refine ab (az _) ?_
    try simp(disch:=omega)only[↓C3]
    obtain⟨ok,W2,T,x2,v',G,cp,p1,p2,p3,p4,p5,p6,p7,p8,p9,o1,o2,o3,o4⟩:=XB R hF dD dA hN.nod ag bt b7 a0 (λx hx=>by rw[hN.ul];exact hG.lt d ay x hx) a_ ct cA (λv z e=>by
     grind)
    rw[Ml]at p2;obtain⟨vb,eD,eg⟩:=p9;refine ak cp ?_;simp(disch:=omega)only[↓C3];have c0:∀v∈u.set D.length v',v∈u∨v=v':=λv z=>kA z;have a9:∀i,I i->i<g.length:=λi n=>Y.lt s2 I g ci i n;have b8:∀(i:Nat) o,k1<=i->L[i]?=some o->i≠g.length->(∀v∈u,g_ v≠some i)->G[i]?=some o:=λi o C n d7 b1=>o3 i o n d7 (λe=>by have:=bn i e;omega) (λe=>by have:=bm i e;omega) (λe=>by have:=be i e;omega) λv z=>b1 v (A9 z);have cd:J s2 I G:=Y.kp s2 I L G cb λi o n ho=>by
     obtain⟨_,a1,a2,a3⟩:=Y.sp s2 I L cb i n;exact o3 i o ho i_ a1 a2 a3 λv z e=>(bC v (A9 z) i e).2 n
    have O:∀i,g_ x2=some i->k1<=i/\L.length<=i/\i<G.length/\∀v∈u.set D.length v',g_ v≠some i:=λi n=>by
     obtain⟨a1,a2⟩:=p7 i n;exact⟨a_,a1,Co p5 n,a2⟩
    have b3:∀v∈u.set D.length v',∀i,g_ v=some i->((∃w∈u,g_ w=some i)∨L.length<=i)/\¬I i:=λv z i n=>by
     rcases c0 v z with z|rfl
     .grind
     grind
    have cs:T.length<=1000000:=a_;cases ok with
    |false=>
     simp(disch:=omega)only[↓C3,FT];refine bb _ _ ⟨true,W2,T,x2,u.set D.length v',I,s2,rfl,p1,p2,p3.1,p4,p5,cs,p6.2,p8,λi n=>⟨(O i n).1,(O i n).2.2.2⟩,?_,cd,λ_=>cT,λv z i n=>?_,λi n=>.inl n,λi o C n b1 b2=>b8 i o C (ap i o n) i_ b1,a_⟩
     .rw[o2 rfl Q];rfl
     grind
    |true=>
     simp(disch:=omega)only[↓C3,EX];have a7:Qc G b l q1 q2 q3:=bl.ka λi o n hb=>b8 i o (an i hb).1 n (by
      grind) (an i hb).2.2
     refine dc (bF a7.c3) rfl ?_;simp(disch:=omega)only[↓C3];refine ab (lw q1 q2 q3) ?_
     try simp(disch:=omega)only[↓C3]
     obtain⟨d0,d1⟩:=o1 rfl;have dC:=hN.child (hI▸hG) ea d0 d1;have d2:(DS us d).erase y=DS (us.set y true) d:=(uy d6 c9).symm;have c5:Sep (u.set D.length v') I k1 q1 q2 q3:=⟨λv z i n=>(b3 v z i n).2,λi n=>by
      obtain⟨a1,a2,a3⟩:=an i n
      grind⟩
     obtain⟨g3,E,A,cf,r1,r2,r3,r4,r5,r6,r7,r8⟩:=ih ((Q.map λl=>l.length+1).sum+(DS (us.set y true) d).length) i_ I0 D (p++[y]) d Q W2 (us.set y true) (u.set D.length v') G s2 I rfl hI dC (λx hx=>hX x (by
      rw[Aw hr]
      grind)) p1 (by rw[←eZ];exact p2) a7 c5 cd cT
     rw[←d2]at cf r3 r4;rw[←eZ]at r2;refine jt (iV cf rfl [.leaf (.i .i64 (ofNat D.length)),.leaf (.v (kb q1)),.leaf (.v (kb q2)),.leaf (.v (kb q3))] rfl rfl rfl) ?_;simp(disch:=omega)only[↓C3];have cx:∀i,k1<=i->L.length<=i->∀o,G[i]?=some o->(∀v∈u.set D.length v',g_ v≠some i)->g3[i]?=some o:=λi C n o ho b1=>r7 i o C ho b1 λe=>by have:=a9 i e;omega
     refine bb _ _ ⟨_,W2,T,x2,A,E,_,rfl,r1,r2,p3.1,?_,p5.ka λi o n hb=>cx i (O i hb).1 (O i hb).2.1 o n (O i hb).2.2.2,cs,p6.2,p8,λi n=>⟨(O i n).1,λv z e=>?_⟩,rfl,r3,r4,λv z i n=>?_,λi n=>?_,λi o C n b1 b2=>?_,a_⟩
     .refine r7 g.length _ cA p4 (λv z e=>?_) λe=>by have:=a9 _ e;omega
      grind
     .obtain⟨_,_,a3,a4⟩:=O i n;rcases(r5 v z i e).1 with⟨w,hw,e2⟩|e2
      .exact a4 w hw e2
      .omega
     .obtain⟨a1,a2⟩:=r5 v z i n;refine⟨?_,a2⟩;rcases a1 with⟨w,hw,e⟩|e
      .grind
      omega
     .grind
     .have eu:=ai n;refine r7 i o C (b8 i o C (ap i o n) a_ b1) (λv z e=>?_) b2
      grind)
 grind
end
def t2{l a:Nat}{st:LoopState}{b:Tm}{vs:Tn}{h:HL}{j:Code}{K:HL->Prop}(d:h[l]?=some (.lp a st b vs))(c:K (h.set l (.lp a .done (some j) vs))):P1.HU l (some j) h (@i' _ ⟨K⟩):=
 ⟨{ FC (aa a) a vs with state:=st,pending:=b },h.set l (.lp a .done (some j) vs),wv d,iP,c⟩
def hY.C2{j7:Type}{n0 e:Nat}{enc:j7->Tn}{l:List j7}{h h':HL}{v:TR}(i:hY n0 h v e enc l)(g:∀(j:Nat) cs,Sx.g_ v=some j->h[j]?=some (.o (.cells cs e true))->h'[j]?=some (.o (.cells cs e true))):hY n0 h' v e enc l:=by
 rcases i with b|⟨id,a,rfl,c,d,f⟩
 .exact .inl b
 .exact .inr ⟨id,a,rfl,c,g _ _ rfl d,f⟩
def hY.n0{j7:Type}{n0 e:Nat}{enc:j7->Tn}{l:List j7}{h:HL}{v:TR}(f:hY n0 h v e enc l):hY 0 h v e enc l:=by
 rcases f with b|⟨id,a,rfl,g,c,d⟩
 .exact .inl b
 .exact .inr ⟨id,a,rfl,D6 _,c,d⟩
def hY.wid{j7:Type}{n0 e:Nat}{enc:j7->Tn}{l:List j7}{h:HL}{v:TR}(c:hY n0 h v e enc l){j:Nat}(a:Sx.g_ v=some j):∃cs,h[j]?=some (.o (.cells cs e true)):=by
 rcases c with⟨rfl,_⟩|⟨id,d,rfl,f,b,g⟩
 .cases a
 .cases a;exact⟨_,b⟩
section
variable {b:Nat} {c:XC} {U:List Lit} {F:List B5} {pn:Ti} {AT:List K3} {IDS:List (TC)} {CR:TD} {k1:Nat} {mu:Tz} {P:HL->Prop} (R:Ro b c U F pn AT IDS CR k1 mu P)
 {g9:Type} {l:Nat} {f:List (TC)->g9->g9×Bool} {X:List (List (TC))} {live:g9->Prop} {J:g9->(Nat->Prop)->HL->Prop} (Y:Yl l c AT CR k1 mu f X live J)
 {r:TF} (hF:IL U r) {N:Nat} (hG:Gl IDS N) (hf0:∀f∈F,∀l∈[f.1,f.2.1,f.2.2.1,f.2.2.2],∃q∈IDS,∃a∈q,∃b∈q,a≠b/\l=DC pn a b) {S:(Nat->Bool)->Prop} {q0:Nat}
include R Y hF hG hf0
theorem fu{d:TC}{Q:List (TC)}{W:TE}{us:Ty}{lv:Tn}{h:HL}{s:g9}{B:Tz}(hI:IDS=d :: Q)(hN:Pb U pn S F N W us [] [] [] d Q)(hX:∀x∈CV (DS us d :: Q),x∈X)(hP:P h)(G:Mt h c k1 W us ([] :: Q.map λ_=>[]) lv)
  (h0:h[q0]?=some (.o (.cells [kb b] 1 true))) (al:k1<=q0) (ag:¬B q0) (an:∀v∈lv,g_ v≠some q0) (T:∀v∈lv,∀j,g_ v=some j->¬B j) (D:J s B h) (t:live s) :
  ∃h' B',aF cc ac 50 [.v (.func (.yield l) #[] #[]),.v (kb q0)] (h9 aa h) [] (h9 aa h')/\J (HD f ((CV (DS us d :: Q)).filter (Er pn S F)) s).1 B' h'/\P h':=by
 have y:GK [] [] (DS us d) Q=CV (DS us d :: Q):=by
  unfold GK;rw[show CV (DS us d :: Q)=(Iy (DS us d).length (DS us d)).flatMap λp=>(CV Q).map (p :: ·)from rfl];simp
 have av:=x50 (ls:=[.v (.func (.yield l) #[] #[]),.v (kb q0)]) (K:=λrs h'=>rs=[]/\∃B',J (HD f ((CV (DS us d :: Q)).filter (Er pn S F)) s).1 B' h'/\P h') (H:=h) (pP rfl (pP (az _) t0)) (by
  unfold f50;simp only[ub];refine e_ ?_;have M:=R.lt h hP;obtain⟨g,e1⟩ : ∃g,g=h++[HO.o (.cells [.func (.yield l) #[] #[]] 1 true)]:=⟨_,rfl⟩;rw[←e1];have l1:g.length=h.length+1:=by rw[e1];simp
  obtain⟨u,A⟩ : ∃u,u=g++[HO.o (.cells [.nilFunc] 1 true)]:=⟨_,rfl⟩;rw[←A];have l2:u.length=h.length+2:=by rw[A];simp;omega
  have ad:Value.func (.func 51) ⟨[]⟩ ⟨[kb q0,kb h.length,kb g.length]⟩=J9 q0 h.length g.length:=rfl;refine ab (lw q0 h.length g.length) ?_;refine k_ ?_;have L:u[g.length]?=some (.o (.cells [.nilFunc] 1 true)):=by rw[A];exact aK
  refine yW L rfl ?_;obtain⟨m,e3⟩ : ∃m,m=u.set g.length (.o (.cells [J9 q0 h.length g.length] 1 true)):=⟨_,rfl⟩;have C:u.set g.length (.o (.cells [.func (.func 51) ⟨[]⟩ ⟨[kb q0,kb h.length,kb g.length]⟩] 1 true))=m:=e3.symm
  try rw[C]
  have z:∀(i:Nat) o,h[i]?=some o->m[i]?=some o:=λi o n=>by
   grind
  have l3:m.length=h.length+2:=i_;have Z:m[g.length]?=some (.o (.cells [J9 q0 h.length g.length] 1 true)):=i_;have c2:m[h.length]?=some (.o (.cells [.func (.yield l) #[] #[]] 1 true)):=by
   grind
  have w:P m:=R.kp h m hP λi o _ _ n=>z i o n;have I:Mt m c k1 W us ([] :: Q.map λ_=>[]) lv:=G.ka λi o n _=>z i o n;have E:J s B m:=Y.kp s B h m D λi o _ n=>z i o n;refine k_ ?_;refine dc (bF (z _ _ h0)) rfl ?_;refine e_ ?_;refine ab (az _) ?_;refine k_ ?_;refine bz (ds:=[.bool false]) (R.hb m w) (by simp[ah]) rfl ?_;simp(disch:=omega)only[↓n9,FT];refine dc (bF Z) rfl ?_;refine e_ ?_;refine ab (lw q0 h.length g.length) ?_;refine k_ ?_;have hq:Qc m b l q0 h.length g.length:=⟨z _ _ h0,c2,Z⟩;have ap:∀v∈lv,∀i,g_ v=some i->i<h.length:=λv V i n=>by
   obtain⟨k,hk⟩:=FK V;obtain⟨l2,O⟩:=am (l:=[] :: Q.map λ_=>([]:TC)) (i:=k) (by rw[←G.ln];exact ai hk);exact(G.tr k v l2 hk O).lt n
  have hs:Sep lv B k1 q0 h.length g.length:=⟨T,λi n=>by
   rcases n with rfl|rfl|rfl
   .grind
   .exact⟨M,λe=>by have:=Y.lt s B h D _ e;omega,λv V e=>i_⟩
   .exact⟨a_,λe=>by have:=Y.lt s B h D _ e;omega,λv V e=>i_⟩⟩
  obtain⟨h',B',ax,cf,r1,r2,r3,_⟩:=o7 R Y hF hG hf0 (S:=S) (q1:=q0) (q2:=h.length) (q3:=g.length) _ [] [] [] d Q W us lv m s B rfl hI hN (λx hx=>hX x (by rw[←y];exact hx)) w I hq hs E t;rw[y]at cf r3;refine jt (iV cf rfl [.leaf (.i .i64 (ofNat 0)),.leaf (.v (kb q0)),.leaf (.v (kb h.length)),.leaf (.v (kb g.length))] rfl rfl rfl) ?_;refine e_ ?_
  grind)
 grind
end
def stC(c:XC)(xc a:Value):Tn:=[.int .i64 (ofNat c.w),.int .i64 (ofNat c.v),xc,.int .u8 (ofNat c.r.1),.int .i64 c.r.2.1,.int .i64 c.r.2.2,a]
def z7:Tn:=[.int .i64 0,.int .i64 0,.slice none 0 0,.int .u8 0,.int .i64 0,.int .i64 0,.slice none 0 0]
structure I8(CR:TD)(AT:List K3)(C:Tz)(h:HL)(xc sv:Value)(x:List (TC)):Prop where
 xo:hY 0 h xc 3 mi CR
 xb:∀j,g_ xc=some j->C j
 st:∃L:List SkO,hY 0 h sv 4 Jc L/\(∀j,g_ sv=some j->C j)/\(∀s∈L,hY 0 h s.2.1 1 l_ s.2.2/\∀j,g_ s.2.1=some j->C j)/\L.map (λs=>(s.1,s.2.2))=AT.zip x
def I8.ka{CR:TD}{AT:List K3}{C k:Tz}{h h':HL}{xc n:TR}{x:List (TC)}(t:I8 CR AT C h xc n x)(f:∀j,C j->k j)(g:∀(j:Nat) b e,C j->e≠7->h[j]?=some (.o (.cells b e true))->h'[j]?=some (.o (.cells b e true))):I8 CR AT k h' xc n x:=by
 obtain⟨p,l,L,q,m,d,r⟩:=t;exact⟨p.C2 λj b c a=>g j b 3 (l j c) m_ a,λj a=>f j (l j a),L,q.C2 λj b c a=>g j b 4 (m j c) m_ a,λj a=>f j (m j a),λs i=>⟨(d s i).1.C2 λj b c a=>g j b 1 ((d s i).2 j c) m_ a,λj a=>f j ((d s i).2 j a)⟩,r⟩
def RX{CR:TD}{AT:List K3}{h:HL}{n0:Nat}{xc f:TR}{x:List (TC)}(e:hY n0 h xc 3 mi CR)(i:StO n0 h f (AT.zip x)):I8 CR AT (λj=>n0<=j/\j<h.length) h xc f x:=by
 obtain⟨L,b,c,g⟩:=i;exact⟨e.n0,λj a=>e.g_ a,L,b.n0,λj a=>b.g_ a,λs d=>⟨(c s d).n0,λj a=>(c s d).g_ a⟩,g⟩
def Bnd(c:XC)(k1:Nat)(mu:Tz)(B:Tz)(h:HL):Prop:=∀j,B j->j<h.length/\(mu j∨k1<=j)/\g_ c.va≠some j/\g_ c.us≠some j/\g_ c.lay≠some j
structure JSv(c:XC)(AT:List K3)(CR:TD)(k1:Nat)(mu:Tz)(l a1 a2:Nat)(s:Option (List (TC)))(B:Tz)(h:HL):Prop where
 bs:B l/\B a1/\B a2
 bd:Bnd c k1 mu B h
 ne:l≠a1/\l≠a2/\a1≠a2
 m2:h[a2]?=some (.o (.cells [.int .i64 0] 1 true))
 st:match s with
  |none=>h[l]?=some (.lp 320 .ready none [kb a1,kb a2])/\h[a1]?=some (.o (.cells z7 7 true))
  |some x=>h[l]?=some (.lp 320 .done (some .ret) [kb a1,kb a2])/\∃xc sv,h[a1]?=some (.o (.cells (stC c xc sv) 7 true))/\I8 CR AT (λj=>B j/\j≠l/\j≠a1/\j≠a2) h xc sv x
section
variable {c:XC} {AT:List K3} {CR:TD} {k1:Nat} {mu:Tz} {l a1 a2:Nat} (s3:S3x c k1)
include s3
theorem VG{B:Tz}{h h':HL}{n0:Nat}(g:Bnd c k1 mu B h)(k:k1<=n0)(i:h.length<=h'.length):Bnd c k1 mu (λj=>B j∨(n0<=j/\j<h'.length)) h':=by
 intro j d;rcases d with d|⟨d,f⟩
 .obtain⟨a,b⟩:=g j d;exact⟨a_,b⟩
 .exact⟨f,.inr a_,λe=>by have:=(s3.s1 j e).1;omega,λe=>by have:=(s3.s2 j e).1;omega,λe=>by have:=s3.s3 j e;omega⟩
end
abbrev T7:=Value×Value×List (TC)
def Ke(c:XC)(t:T7):Tn:=stC c t.1 t.2.1
def oL(c:XC)(t:T7):(Ke c t).length=7:=rfl
def fA(a:Nat)(x:List (TC))(s:List (List (TC))):List (List (TC))×Bool:=(s++[x],!decide (s.length+1=a))
structure JA(c:XC)(AT:List K3)(CR:TD)(k1:Nat)(mu:Tz)(lim l a1 a2:Nat)(s:List (List (TC)))(B:Tz)(h:HL):Prop where
 bs:B l/\B a1/\B a2
 bd:Bnd c k1 mu B h
 ne:l≠a1/\l≠a2/\a1≠a2
 m1:h[a1]?=some (.o (.cells [.int .i64 (ofNat lim)] 1 true))
 lp:h[l]?=some (if s.length<lim then .lp 160 .ready none [kb a1,kb a2]else .lp 160 .done (some (.exit 0)) [kb a1,kb a2])
 out:∃(xo:Value) (L:List T7),h[a2]?=some (.o (.cells [xo] 1 true))/\hY 0 h xo 7 (Ke c) L/\(∀j,g_ xo=some j->B j)/\L.map (λt=>t.2.2)=s/\∀t∈L,I8 CR AT (λj=>B j/\j≠l/\j≠a1/\j≠a2) h t.1 t.2.1 t.2.2
section
variable {c:XC} {AT:List K3} {CR:TD} {k1:Nat} {mu:Tz} {l a1 a2:Nat} (s3:S3x c k1)
include s3
theorem yl_A{f:Nat}(be:f<=1000)(hl:k1<=l)(X:List (List (TC))):Yl l c AT CR k1 mu (fA f) X (λs=>s.length<f) (JA c AT CR k1 mu f l a1 a2):=by
 refine⟨λs B h M O hk=>?_,λs B h O j d=>(O.bd j d).1,λs B h O j d=>(O.bd j d).2,λs B h O a4 x hx n0 xc A N hn o1 o2=>?_⟩
 .obtain⟨k,hd,g,Q,p,J,L,R,C,E,ad,hL⟩:=O;refine⟨k,λj d=>?_,g,hk _ _ k.2.1 Q,hk _ _ k.1 p,J,L,hk _ _ k.2.2 R,C.ka λj o d m=>hk j o (E j m) d,E,ad,λt I=>(hL t I).ka (λj d=>d) λj V e d _ C=>hk j _ d.1 C⟩;obtain⟨q1,q2⟩:=hd j d
  grind
 .obtain⟨k,hd,g,Q,p,J,L,R,C,E,ad,hL⟩:=O;rw[qs a4]at p;have bl:=N l k.1;have a8:=N a1 k.2.1;have a9:=N a2 k.2.2;have aE:L.length=s.length:=i_;obtain⟨bb,M,hu,hK⟩:=xy160 (K:=λrs M=>rs=[.b (fA f x s).2]/\JA c AT CR k1 mu f l a1 a2 (s++[x]) (λj=>B j∨(n0<=j/\j<M.length)) M/\(∀(j:Nat) o,h[j]?=some o->¬B j->j<n0->M[j]?=some o)/\h.length<=M.length) (ys:=stY c xc A) (ls:=[.i (ofNat c.w),.i (ofNat c.v),.v xc,.i (ofNat c.r.1),.i c.r.2.1,.i c.r.2.2,.v A]) p ⟨rfl,rfl,by
   intro y hy z hz;simp only[EL,SE,or_false]at hy;subst hy;simp only[S0.cells,EL,SE,or_false]at hz;have g1:aI xc=true:=hY.h_ (e:=3) (enc:=mi) (λ_=>rfl) o1;have g2:aI A=true:=by
    obtain⟨L,h3,_⟩:=o2;exact h3.h_ tO
   rcases hz with rfl|rfl|rfl|rfl|rfl|rfl|rfl
   all_goals first|trivial|exact g1|exact g2⟩ (by
   have g1:aI xc=true:=hY.h_ (e:=3) (enc:=mi) (λ_=>rfl) o1;have g2:aI A=true:=by
    obtain⟨L,h3,_⟩:=o2;exact h3.h_ tO
   unfold y160;simp only[ub];refine e_ ?_;refine ab (az _) ?_;refine k_ ?_;refine ab (az _) ?_;refine k_ ?_;have hm:(h++[HO.o (.cells z7 7 true)])[h.length]?=some (.o (.cells z7 7 true)):=aK;refine yW hm rfl ?_;obtain⟨G,eA⟩ : ∃G,G=(h++[HO.o (.cells z7 7 true)]).set h.length (.o (.cells (stC c xc A) 7 true)):=⟨_,rfl⟩;have ax:(h++[HO.o (.cells [.int .i64 0,.int .i64 0,.slice none 0 0,.int .u8 0,.int .i64 0,.int .i64 0,.slice none 0 0] 7 true)]).set h.length (.o (.cells [.int .i64 (ofNat c.w),.int .i64 (ofNat c.v),xc,.int .u8 (ofNat c.r.1),.int .i64 c.r.2.1,.int .i64 c.r.2.2,A] 7 true))=G:=eA.symm;rw[ax];have kA:∀(i:Nat) o,h[i]?=some o->G[i]?=some o:=λi o T=>by
    grind
   have lA:G.length=h.length+1:=j_;have mA:G[h.length]?=some (.o (.cells (stC c xc A) 7 true)):=j_;refine k_ ?_;refine r1 (kA _ _ p) ?_;obtain⟨gB,eB⟩ : ∃gB,gB=G.set l (.lp 160 .busy none [kb a1,kb a2]):=⟨_,rfl⟩;rw[←eB];have kB:∀(i:Nat) o,i≠l->G[i]?=some o->gB[i]?=some o:=λi o g T=>by
    grind
   have lB:gB.length=h.length+1:=j_;have pB:gB[l]?=some (.lp 160 .busy none [kb a1,kb a2]):=i_;have H:=kB _ _ (Ej g.2.1) (kA _ _ R);have av:g_ J≠some l:=λe=>by
    obtain⟨V,P⟩:=C.wid e
    simp_all
   have a5:hY 0 gB J 7 (Ke c) L:=C.ka λj o d m=>kB j o (λe=>av (by rw[m,e])) (kA j o d);refine k_ ?_;refine dc (bF H) rfl ?_;refine e_ ?_;refine ab (C.h_ (oL c)) ?_;refine k_ ?_;refine dc (bF (kB _ _ a_ mA)) rfl ?_;simp only[stC];refine e_ ?_;refine ab g1 ?_;refine k_ ?_;refine ab g2 ?_;refine k_ ?_;refine a5.Il (a:=((xc,A,x):T7)) (oL c) (D6 _) rfl rfl rfl (by unfold bc;rw[EY a_,EY a_];rfl) ?_;intro U Y hC gv kC lC bC;have F:∀(j:Nat) o,gB[j]?=some o->g_ J≠some j->Y[j]?=some o:=λj o d k=>kC j o d k;have bs:gB.length<=Y.length:=lC;refine e_ ?_;refine ab gv ?_;refine k_ ?_;have ap:g_ J≠some a2:=λe=>by
    obtain⟨V,P⟩:=C.wid e
    simp_all
   have an:g_ J≠some a1:=λe=>by
    obtain⟨V,P⟩:=C.wid e
    simp_all
   have Z:=F _ _ H ap;refine yW Z rfl ?_;obtain⟨n,eD⟩ : ∃n,n=Y.set a2 (.o (.cells [U] 1 true)):=⟨_,rfl⟩;rw[←eD];have kD:∀(i:Nat) o,i≠a2->Y[i]?=some o->n[i]?=some o:=λi o g T=>by
    grind
   have lD:n.length=Y.length:=j_;have mD:n[a2]?=some (.o (.cells [U] 1 true)):=i_;have a6:g_ U≠some a2:=λe=>by
    grind
   have al:hY 0 n U 7 (Ke c) (L++[(xc,A,x)]):=hC.ka λj o d m=>kD j o (λe=>a6 (by rw[m,e])) d;refine k_ ?_;refine dc (bF mD) rfl ?_;refine e_ ?_;refine ab gv ?_;refine k_ ?_;refine bw (al.ls (oL c)) ?_;have nD:n[a1]?=some (.o (.cells [.int .i64 (ofNat f)] 1 true)):=kD _ _ g.2.2 (F _ _ (kB _ _ (Ej g.1) (kA _ _ Q)) an);refine dc (bF nD) rfl ?_;refine e_ ?_;have pD:n[l]?=some (.lp 160 .busy none [kb a1,kb a2]):=kD _ _ g.2.1 (F _ _ pB av);have ag:(L++[((xc,A,x):T7)]).length=s.length+1:=by simp[aE]
   rw[ag];have a7:g_ U≠some l:=λe=>by
    grind
   have W:∀(o:HO),o=(if s.length+1<f then HO.lp 160 .ready none [kb a1,kb a2]else .lp 160 .done (some (.exit 0)) [kb a1,kb a2])->∀D,D=n.set l o->JA c AT CR k1 mu f l a1 a2 (s++[x]) (λj=>B j∨(n0<=j/\j<D.length)) D/\(∀(j:Nat) o,h[j]?=some o->¬B j->j<n0->D[j]?=some o)/\h.length<=D.length:=by
    intro o bn D eE;have kE:∀(i:Nat) o,i≠l->n[i]?=some o->D[i]?=some o:=λi o g T=>by
     grind
    have lE:D.length=n.length:=j_;have u:∀(i:Nat) o,i≠l->i≠a2->g_ J≠some i->h[i]?=some o->D[i]?=some o:=λi o q1 q2 q3 T=>kE i o q1 (kD i o q2 (F i o (kB i o q1 (kA i o T)) q3));have bm:(s++[x]).length=s.length+1:=c_;refine⟨⟨⟨.inl k.1,.inl k.2.1,.inl k.2.2⟩,VG s3 hd a_ a_,g,kE _ _ (Ej g.1) nD,?_,U,L++[(xc,A,x)],kE _ _ (Ej g.2.1) mD,al.ka λj o d m=>kE j o (λe=>a7 (by rw[m,e])) d,λj d=>?_,j_,λt I=>?_⟩,λj o d hB _=>u j o (λe=>hB (by rw[e];exact k.1)) (λe=>hB (by rw[e];exact k.2.2)) (λe=>hB (E j e)) d,a_⟩
    .grind
    .rcases bC with e|⟨i,e,T⟩
     .simp_all
     .rw[e]at d;cases d;have:=(hC.g_ e).2;omega
    .rcases Fs.1 I with I|I
     .refine(hL t I).ka (λj d=>⟨.inl d.1,d.2⟩) λj V e d he S=>u j _ d.2.1 d.2.2.2 (λe2=>?_) S;obtain⟨bk,P⟩:=C.wid e2
      grind
     .rw[GM]at I;subst I;refine(RX o1 o2).ka (λj d=>⟨.inr ⟨d.1,a_⟩,a_,a_,a_⟩) λj V e d _ S=>u j _ a_ a_ (λe2=>by
       grind) S
   by_cases he:s.length+1=f
   .rw[t_ (congrArg ofNat he)];refine e_ ?_;refine t2 pD ?_;refine k_ ?_;obtain⟨w1,w2,w3⟩:=W _ (by rw[rv a_]) _ rfl;refine⟨?_,w1,w2,w3⟩;simp[fA,he]
   .rw[xk (λe=>he (H4 e))];refine e_ ?_;refine r2 pD ?_;refine k_ ?_;obtain⟨w1,w2,w3⟩:=W _ (by rw[qs a_]) _ rfl;refine⟨?_,w1,w2,w3⟩;simp[fA,he])
  obtain⟨e1,ay,a0,a3⟩:=hK;have e2:bb=(fA f x s).2:=by
   simp_all
  subst e2;refine⟨M,_,hu,ay,a0,a3,λj d=>d.imp id λq=>q.1,λe=>?_⟩;show(s++[x]).length<f;have:s.length+1≠f:=by simpa[fA]using e
  simp;omega
end
def Z5{a:Nat}:∀(L s:List (List (TC))),s.length<a->(HD (fA a) L s).1=s++L.take (a - s.length)
 | [],s,_=>by simp[HD]
 |x :: L,s,h=>by
  rw[pE];by_cases e:s.length+1=a
  .have:(fA a x s).2=false:=by simp[fA,e]
   rw[this,rv m_,show a - s.length=1 by omega];rfl
  .have:(fA a x s).2=true:=by simp[fA,e]
   rw[this,qs rfl];show(HD (fA a) L (s++[x])).1=_;rw[Z5 L (s++[x]) tt];rw[show a - s.length=(a - (s++[x]).length)+1 by simp;omega,hy,FL];rfl
def AgP(h1:HL)(mu:Tz)(g:HL):Prop:=h1.length<=g.length/\∀(j:Nat) o,j<h1.length->¬mu j->h1[j]?=some o->g[j]?=some o
structure NpR(b:Nat)(c:XC)(n:Bool)(h1:HL)(mu:Tz)(AT:List K3)(CR:TD)(IDS:List (TC))(pn:Ti)(S:(Nat->Bool)->Prop)(F:List B5):Prop where
 hb:h1[b]?=some (.o (.cells (ah c n) 15 true))
 s:S3x c h1.length
 mb:¬mu b
 no:n=true->∀x,Er pn S F x=false
 run:n=false->∃U W us lv r N ids Q,Ro b c U F pn AT IDS CR h1.length mu (AgP h1 mu)/\IL U r/\Gl IDS N/\(∀f∈F,∀l∈[f.1,f.2.1,f.2.2.1,f.2.2.2],∃q∈IDS,∃a∈q,∃b∈q,a≠b/\l=DC pn a b)/\IDS=ids :: Q/\Pb U pn S F N W us [] [] [] ids Q/\DS us ids=ids/\Mt h1 c h1.length W us ([] :: Q.map λ_=>[]) lv/\∀v∈lv,g_ v=none
def NpC(h:HL)(w v:Nat)(a:Value)(t:Nat)(x y:Int)(AT:List K3)(CR:TD)(IDS:List (TC))(pn:Ti)(S:(Nat->Bool)->Prop)(F:List B5):Prop:=
 ∀E:Nat->Prop,(∀j,E j->j<h.length/\g_ a≠some j)->∃b c n h1,aF cc ac 24 [.i (ofNat w),.i (ofNat v),.v a,.i (ofNat t),.i x,.i y] (h9 aa h) [.v (kb b),.i 0] (h9 aa h1)/\
  (c.w=w/\c.v=v/\c.r=(t,x,y))/\(∀j,E j->g_ c.va≠some j/\g_ c.us≠some j/\g_ c.lay≠some j)/\(∀(j:Nat) o,h[j]?=some o->h1[j]?=some o)/\h.length<=h1.length/\(∀j,g_ c.va=some j∨g_ c.us=some j∨g_ c.lay=some j->h.length<=j)/\
  NpR b c n h1 (λj=>E j∨g_ c.va=some j∨g_ c.us=some j∨g_ c.lay=some j) AT CR IDS pn S F
section
variable {b:Nat} {c:XC} {n:Bool} {h1:HL} {mu:Tz} {AT:List K3} {CR:TD} {IDS:List (TC)} {pn:Ti} {S:(Nat->Bool)->Prop} {F:List B5} (hn:NpR b c n h1 mu AT CR IDS pn S F)
include hn
theorem W3{g9:Type}{l:Nat}{f:List (TC)->g9->g9×Bool}{d:g9->Prop}{J:g9->(Nat->Prop)->HL->Prop}(Y:Yl l c AT CR h1.length mu f (CV IDS) d J){g:HL}(D:AgP h1 mu g)(ad:∀j,g_ c.va=some j∨g_ c.us=some j∨g_ c.lay=some j->∀o,h1[j]?=some o->g[j]?=some o)
  {e:Nat} (h0:g[e]?=some (.o (.cells [kb b] 1 true))) (G:h1.length<=e) {s:g9} {B:Tz} (y:¬B e) (V:J s B g) (h:d s) :
  ∃h' B',aF cc ac 50 [.v (.func (.yield l) #[] #[]),.v (kb e)] (h9 aa g) [] (h9 aa h')/\J (HD f ((CV IDS).filter (Er pn S F)) s).1 B' h'/\AgP h1 mu h':=by
 cases n with
 |true=>
  have he:(CV IDS).filter (Er pn S F)=[]:=List.filter_eq_nil_iff.2 λx _=>by rw[hn.no rfl x];decide
  rw[he];have E:g[b]?=some (.o (.cells (ah c true) 15 true)):=D.2 b _ (ai hn.hb) hn.mb hn.hb;have M:=x50 (ls:=[.v (.func (.yield l) #[] #[]),.v (kb e)]) (K:=λrs h'=>rs=[]/\∃B',J s B' h'/\AgP h1 mu h') (H:=g) (pP rfl (pP (az _) t0)) (by
   unfold f50;simp only[ub];refine e_ ?_;obtain⟨a,O⟩ : ∃a,a=g++[HO.o (.cells [.func (.yield l) #[] #[]] 1 true)]:=⟨_,rfl⟩;rw[←O];have l1:a.length=g.length+1:=by rw[O];simp
   obtain⟨k,P⟩ : ∃k,k=a++[HO.o (.cells [.nilFunc] 1 true)]:=⟨_,rfl⟩;rw[←P];refine ab (lw e g.length a.length) ?_;refine k_ ?_;have A:k[a.length]?=some (.o (.cells [.nilFunc] 1 true)):=by rw[P];exact aK
   refine yW A rfl ?_;obtain⟨m,e3⟩ : ∃m,m=k.set a.length (.o (.cells [J9 e g.length a.length] 1 true)):=⟨_,rfl⟩;have u:k.set a.length (.o (.cells [.func (.func 51) ⟨[]⟩ ⟨[kb e,kb g.length,kb a.length]⟩] 1 true))=m:=e3.symm
   try rw[u]
   have t:∀(i:Nat) o,g[i]?=some o->m[i]?=some o:=λi o X=>by
    grind
   refine k_ ?_;refine dc (bF (t _ _ h0)) rfl ?_;refine e_ ?_;refine ab (az _) ?_;refine k_ ?_;refine bz (ds:=[.bool true]) (t _ _ E) (by simp[ah]) rfl ?_;simp(disch:=omega)only[↓n9,EX];refine⟨D',B,Y.kp s B g m V λi o _ X=>t i o X,?_,λj o h1 w h3=>t j o (D.2 j o h1 w h3)⟩
   grind)
  obtain⟨rs,h',w,rfl,B',q⟩:=M;exact⟨h',B',w,q⟩
 |false=>
  obtain⟨U,W,us,lv,r,N,L,Q,R,hF,hG,C,T,hN,I,hM,p⟩:=hn.run rfl;have z:Mt g c h1.length W us ([] :: Q.map λ_=>[]) lv:=hM.ka λj o hj hb=>by
   grind
  have hX:∀x∈CV (DS us L :: Q),x∈CV IDS:=λx hx=>by rwa [I,←T]at hx
  obtain⟨h',B',cf,j1,j2⟩:=fu R Y hF hG C (S:=S) T hN hX D z h0 G y (λv Z=>by rw[p v Z];simp) (λv Z j hj=>i_) V h
  grind
end
def Xy{a c:Prop}{ks:List (Nat×Prop)}(b:a):P1.Fg none (@i' _ ⟨a⟩) c ks:=b
def eX{g:HL}{b:Nat}:aF cc ac 25 [.v (kb b)] (h9 aa g) [.v (.func (.func 50) ⟨[]⟩ ⟨[kb g.length]⟩)] (h9 aa (g++[.o (.cells [kb b] 1 true)])):=by
 exact xK x25 (pP (az _) t0) (by
  unfold f25;simp only[ub];refine e_ ?_;refine ab (by simp[aI,nc,aT,bE,bj,aP,aD]) ?_
  try simp_all)
section
variable {h:HL} {w v:Nat} {xv:Value} {t:Nat} {x y:Int} {AT:List K3} {CR:TD} {IDS:List (TC)} {pn:Ti} {S:(Nat->Bool)->Prop} {F:List B5}
end
def VP{j7:Type}{n0:Nat}{enc:j7->Tn}{h:HL}{v:TR}{l:List j7}(a:hY n0 h v 7 enc l):∃v',aF cc ac 26 [.v v] (h9 aa h) [.v v'] (h9 aa h)/\hY n0 h v' 7 enc l/\VJ v'=some (ofNat l.length):=by
 rcases a with⟨rfl,rfl⟩|⟨id,d,rfl,b,c,e⟩
 .refine⟨.slice none 0 0,?_,.inl ⟨rfl,rfl⟩,rfl⟩;exact xK x26 (pP rfl t0) (by
   unfold f26;simp only[ub]
   repeat (first|simp(disch:=omega)only[↓n9]|refine ae (x:=(0:Int)) rfl ?_|refine ae (x:=Value.slice none 0 0) rfl ?_|refine ab rfl ?_)
   simp_all)
 .refine⟨.slice (some ⟨id,0,le 7⟩) l.length (l.length+1),?_,.inr ⟨id,_,rfl,b,c,.inr rfl⟩,rfl⟩;exact xK x26 (pP da t0) (by
   unfold f26;simp only[ub];refine e_ ?_;refine ae (x:=ofNat l.length) rfl ?_;refine ae (x:=ofNat l.length) rfl ?_;refine ae KV ?_;refine ab da ?_
   simp_all)
section
variable {h:HL} {w v:Nat} {xv:Value} {t:Nat} {x y:Int} {AT:List K3} {CR:TD} {IDS:List (TC)} {pn:Ti} {S:(Nat->Bool)->Prop} {F:List B5}
def Lv(w v t:Nat)(x y:Int)(s:T7):Tn:=[.int .i64 (ofNat w),.int .i64 (ofNat v),s.1,.int .u8 (ofNat t),.int .i64 x,.int .i64 y,s.2.1]
def AlR(w v:Nat)(t:Nat)(x y:Int)(AT:List K3)(CR:TD)(h':HL)(o:List (List (TC)))(b:TG):Prop:=
 ∃(a:Value) (L:List T7),b=[.v a,.i 0]/\hY 0 h' a 7 (Lv w v t x y) L/\VJ a=some (ofNat L.length)/\L.map (λt=>t.2.2)=o/\∀t∈L,I8 CR AT (λ_=>True) h' t.1 t.2.1 t.2.2
def xt(a:Int)(an:aI xv=true)(a9:∀j,g_ xv=some j->j<h.length)(G:NpC (h++[.o (.cells [.int .i64 a] 1 true)]) w v xv t x y AT CR IDS pn S F) :
  ∃z h',aF cc ac 10 [.i (ofNat w),.i (ofNat v),.v xv,.i (ofNat t),.i x,.i y,.i a] (h9 aa h) z (h9 aa h')/\(a<1∨1000<a->z=[.v (.slice none 0 0),.i 1])/\(1<=a/\a<=1000->AlR w v t x y AT CR h' (((CV IDS).filter (Er pn S F)).take a.toNat) z)/\∀(j:Nat) o,h[j]?=some o->h'[j]?=some o:=by
 have bb:=x10 (ls:=[.i (ofNat w),.i (ofNat v),.v xv,.i (ofNat t),.i x,.i y,.i a]) (K:=λz h'=>(a<1∨1000<a->z=[.v (.slice none 0 0),.i 1])/\(1<=a/\a<=1000->AlR w v t x y AT CR h' (((CV IDS).filter (Er pn S F)).take a.toNat) z)/\∀(j:Nat) o,h[j]?=some o->h'[j]?=some o) (H:=h) (mc (mc (pP an (mc (mc (mc (mc t0))))))) (by
  unfold f10;simp only[ub];simp(disch:=omega)only[↓C3];obtain⟨A,I⟩ : ∃A,A=h++[HO.o (.cells [.int .i64 a] 1 true)]:=⟨_,rfl⟩;rw[←I]at G;rw[←I];have l2:A.length=h.length+1:=by rw[I];simp
  have m1:A[h.length]?=some (.o (.cells [.int .i64 a] 1 true)):=by rw[I];exact aK
  have k2:∀(i:Nat) o,h[i]?=some o->A[i]?=some o:=λi o V=>i_;obtain⟨b,c,n,f,cn,⟨hw,hv,hr⟩,hE,C,a7,a6,hn⟩:=G (λj=>j=h.length) (λj d=>by
   grind)
  refine ak cn ?_;simp(disch:=omega)only[↓C3];have u:=C _ _ m1;refine dc (bF u) rfl ?_;simp(disch:=omega)only[↓C3];by_cases X:a<1
  .rw[ua X];refine e_ ?_
   grind
  rw[v_ a_];simp(disch:=omega)only[↓C3];refine dc (bF u) rfl ?_;simp(disch:=omega)only[↓C3];by_cases Z:1000<a
  .rw[DI Z];refine e_ ?_
   grind
  rw[CX a_];simp(disch:=omega)only[↓C3];obtain⟨m,rfl⟩ : ∃m:Nat,a=ofNat m:=⟨a.toNat,i_⟩;have a8:1<=m:=i_;have ag:m<=1000:=i_;obtain⟨p,e3⟩ : ∃p,p=f++[HO.o (.cells [.slice none 0 0] 1 true)]:=⟨_,rfl⟩;rw[←e3];have l3:p.length=f.length+1:=by rw[e3];simp
  have k3:∀(i:Nat) o,f[i]?=some o->p[i]?=some o:=λi o V=>i_;have m3:p[f.length]?=some (.o (.cells [.slice none 0 0] 1 true)):=by rw[e3];exact aK
  refine ak eX ?_;simp(disch:=omega)only[↓C3];obtain⟨k,O⟩ : ∃k,k=p++[HO.o (.cells [kb b] 1 true)]:=⟨_,rfl⟩;rw[←O];have lA:k.length=f.length+2:=by rw[O];simp;omega
  have J:∀(i:Nat) o,p[i]?=some o->k[i]?=some o:=λi o V=>i_;obtain⟨gB,P⟩ : ∃gB,gB=k++[HO.lp 160 .ready none [kb h.length,kb f.length]]:=⟨_,rfl⟩;have lB:gB.length=f.length+3:=by rw[P];simp;omega
  have kB:∀(i:Nat) o,k[i]?=some o->gB[i]?=some o:=λi o V=>i_;have pB:gB[k.length]?=some (.lp 160 .ready none [kb h.length,kb f.length]):=by rw[P];exact aK
  have qB:gB[p.length]?=some (.o (.cells [kb b] 1 true)):=kB _ _ (by rw[O];exact aK);have M:=hn.s;have Y:=yl_A (c:=c) (AT:=AT) (CR:=CR) (k1:=f.length) (mu:=λj=>j=h.length∨g_ c.va=some j∨g_ c.us=some j∨g_ c.lay=some j) (l:=k.length) (a1:=h.length) (a2:=f.length) M ag a_ (CV IDS);have ax:∀j,f.length<=j->g_ c.va≠some j/\g_ c.us≠some j/\g_ c.lay≠some j:=λj d=>⟨λe=>by have:=(M.s1 _ e).1;omega,λe=>by have:=(M.s2 _ e).1;omega,λe=>by have:=M.s3 _ e;omega⟩;have hJ:JA c AT CR f.length (λj=>j=h.length∨g_ c.va=some j∨g_ c.us=some j∨g_ c.lay=some j) m k.length h.length f.length [] (λj=>j=k.length∨j=h.length∨j=f.length) gB:=by
   refine⟨⟨.inl rfl,.inr (.inl rfl),.inr (.inr rfl)⟩,λj d=>?_,⟨a_,a_,a_⟩,kB _ _ (J _ _ (k3 _ _ u)),?_,.slice none 0 0,[],kB _ _ (J _ _ m3),.inl ⟨rfl,rfl⟩,λj d=>(by cases d),rfl,λt ht=>by cases ht⟩
   .grind
   grind
  obtain⟨hF,B',N,B,Q⟩:=W3 hn Y (g:=gB) ⟨a_,λj o _ _ d=>kB _ _ (J _ _ (k3 _ _ d))⟩ (λj _ o d=>kB _ _ (J _ _ (k3 _ _ d))) qB a_ (λe=>a_) hJ tt;rw[Z5 _ _ tt,EG,qdz,Nat.sub_zero]at B;rw[P]at N;obtain⟨a3,a5,E,ad,q,xo,L,D,ho,aE,T,hL⟩:=B;have ay:∀(j:Nat) o,h[j]?=some o->hF[j]?=some o:=λj o d=>by
   have:=ai d;refine Q.2 j o a_ (λe=>?_) (C _ _ (k2 _ _ d))
   grind
  refine cI (λls h'=>ls=[]/\h'[f.length]?=some (.o (.cells [xo] 1 true))/\hY 0 h' xo 7 (Ke c) L/\(∀t∈L,I8 CR AT (λ_=>True) h' t.1 t.2.1 t.2.2)/\∀(j:Nat) o,h[j]?=some o->h'[j]?=some o) ?_ ?_
  case refine_1=>
   rintro ls h' ⟨rfl,w1,w2,w3,w4⟩;refine e_ ?_;refine dc (bF w1) rfl ?_;refine e_ ?_;refine ab (w2.h_ (oL c)) ?_;refine k_ ?_;obtain⟨av,cx,o2,o3⟩:=VP w2;refine ak cx ?_;refine e_ ?_;refine⟨λhc=>a_,λ_=>⟨av,L,rfl,?_,o3,T,w3⟩,w4⟩;have e7:Ke c=Lv w v t x y:=by
    funext s
    unfold Ke stC Lv;rw[hw,hv,hr]
   simp_all
  intro jj W;have a0:∀R:HL,(∀(i:Nat) o,i≠k.length->hF[i]?=some o->R[i]?=some o)->jj [] R:=λR kG=>by
   have ap:g_ xo≠some k.length:=λe=>by
    obtain⟨cs,a4⟩:=ho.wid e
    grind
   exact W _ _ ⟨rfl,kG _ _ (Ej E.2.1) D,ho.ka λj o d U=>kG j o (λe=>ap (by rw[U,e])) d,λt ht=>(hL t ht).ka (λ_ _=>trivial) λj cs e d _ al=>kG j _ d.2.1 al,λj o d=>by
    grind⟩
  by_cases r:(((CV IDS).filter (Er pn S F)).take m).length<m
  .rw[qs r]at q;refine R9 (sg:=⟨[lv,lv],[]⟩) (xs:=[.leaf (.v (.func (.yield k.length) #[] #[])),.leaf (.v (kb p.length))]) N rfl rfl rfl rfl q c_ ?_;refine Xy ?_
   try grind
  .rw[rv r]at q;refine R9 (sg:=⟨[lv,lv],[]⟩) (xs:=[.leaf (.v (.func (.yield k.length) #[] #[])),.leaf (.v (kb p.length))]) N rfl rfl rfl rfl q c_ ?_;refine⟨_,GM.2 rfl,?_⟩
   try grind)
 omega
def VY(a:Int)(b:aI xv=true)(k:∀j,g_ xv=some j->j<h.length)(f:NpC (h++[.o (.cells [.int .i64 a] 1 true)]) w v xv t x y AT CR IDS pn S F) :
  ∃h',aF cc ac 5 [.i (ofNat w),.i (ofNat v),.v xv,.i (ofNat t),.i x,.i y,.i a] (h9 aa h) [.i (if 1<=a/\a<=1000 then ofNat (((CV IDS).filter (Er pn S F)).take a.toNat).length else 0),.i (if 1<=a/\a<=1000 then 0 else 1)] (h9 aa h')/\∀(j:Nat) o,h[j]?=some o->h'[j]?=some o:=by
 obtain⟨d,h',m,n,p,q⟩:=xt a b k f;refine⟨h',?_,q⟩;by_cases c:1<=a/\a<=1000
 .rw[qs c,qs c];obtain⟨u,L,rfl,r,s,o3,_⟩:=p c;rw[←o3,GY];have l:=x5 (ls:=[.i (ofNat w),.i (ofNat v),.v xv,.i (ofNat t),.i x,.i y,.i a]) (K:=λd g=>d=[.i (ofNat L.length),.i 0]/\g=h') (H:=h) (mc (mc (pP b (mc (mc (mc (mc t0))))))) (by
   unfold f5;simp only[ub];refine e_ ?_;refine ak m ?_;refine e_ ?_;refine bw (hY.ls (e:=7) (enc:=Lv w v t x y) (λ_=>rfl) r) ?_
   try simp_all)
  simp_all
 .rw[rv c,rv c];have:=n a_;subst this;have l:=x5 (ls:=[.i (ofNat w),.i (ofNat v),.v xv,.i (ofNat t),.i x,.i y,.i a]) (K:=λd g=>d=[.i 0,.i 1]/\g=h') (H:=h) (mc (mc (pP b (mc (mc (mc (mc t0))))))) (by
   unfold f5;simp only[ub];refine e_ ?_;refine ak m ?_;refine e_ ?_;refine ae (x:=(0:Int)) rfl ?_
   try simp_all)
  simp_all
end
def qY{j7:Type}{h:HL}{v:TR}{e:Nat}{enc:j7->Tn}{l:List j7}(q:q9 h v e enc l){n:Nat}(y:n<=l.length):∃v',FN e v none (some (ofNat n)) none=some v'/\q9 h v' e enc (l.take n)/\aI v'=true/\g_ v'=g_ v:=by
 have C:=aM (l:=l) q.1;have m:=aM (l:=l.take n) λa i=>q.1 a (OO i);have c:(l.take n).length=n:=j_;obtain⟨w,B,⟨rfl,g⟩|⟨id,b,d,A,r,rfl,g,x⟩⟩:=q
 .have p:n=0:=a_;have j:l=[]:=Ph.1 g;subst p j;exact⟨.slice none 0 0,rfl,q9.nil _ _ _,rfl,rfl⟩
 .have z:FN e (.slice (some ⟨id,b,le e⟩) l.length d) none (some (ofNat n)) none=some (.slice (some ⟨id,b,le e⟩) n d):=by
   unfold FN;have s:¬(le e≠some 1/\le e≠le e):=c_;simp only[rv s];have u:(0:Int)<=(none:Tt).getD 0/\(none:Tt).getD 0<=(some (ofNat n)).getD ((l.length:Nat):Int)/\bV l.length d (some (ofNat n)) none:=by
    refine⟨c_,c_,?_⟩;unfold bV
    simp_all
   rw[qs u,fc,fc,fc];simp[bM]
  have f:q9 h (.slice (some ⟨id,b,le e⟩) n d) e enc (l.take n):=by
   refine⟨λa i=>w a (OO i),by rw[m],.inr ⟨id,b,d,A,r,by rw[c],g,?_⟩⟩;have t:=mG x (o:=0) (k:=n*e) (by
    rw[F9];exact Pn e y)
   rw[e2,XN]at t;rw[c,t]
   congr 1
   have s:l.flatMap enc=(l.take n).flatMap enc++(l.drop n).flatMap enc:=by rw[←ZO,XU]
   simp_all
  exact⟨_,z,f,f.h_,rfl⟩
structure Pi(h:HL)(b:Nat)(c:XC)(n:Bool)(U:List Lit)(W:TE)(pn:Ti)(F:List B5):Prop where
 hb:h[b]?=some (.o (.cells (ah c n) 15 true))
 up:hY 0 h c.up 2 Ep U
 va:hY 0 h c.va 1 DD W
 fo:hY 0 h c.fo 8 Kf F
 pr:Pe h c.pr pn
 fr:∃r,IL U r
 ok:Hr U W
def S1(h:HL)(b:Nat)(c:XC)(N:Nat)(W:TE)(pn:Ti)(F:List B5)(C:(Nat->Bool)->Prop)(g:HL):Prop:=
 ∃n U,Pi g b c n U W pn F/\U.length=N/\(∀V,(n=false/\Rs U W V)↔C V)/\(∀(j:Nat) o,h[j]?=some o->j≠b->g_ c.up≠some j->g[j]?=some o)/\g.length=h.length
def S1.congr{h g:HL}{b:Nat}{c:XC}{N:Nat}{W:TE}{pn:Ti}{F:List B5}{C a:(Nat->Bool)->Prop}(k:S1 h b c N W pn F C g)(e:∀V,C V↔a V):S1 h b c N W pn F a g:=by
 obtain⟨n,U,d,f,i,j⟩:=k;exact⟨n,U,d,f,λV=>(i V).trans (e V),j⟩
def Ha(pn:Ti)(V:Tx)(x y x' y':Nat):Prop:=v7 V (DC pn x y)=v7 V (DC pn x' y')
def su{g:HL}{b e:Nat}{id:Nat}{pn:Ti}{cs:Tn}(d:Pe g id pn)(i:g[b]?=some (.o (.cells cs e true))):id≠b:=λc=>by
 subst c;obtain⟨k,a,_⟩:=d;obtain⟨f,j,h,_⟩:=a
 simp_all
section
variable {h g:HL} {b:Nat} {c:XC} {N:Nat} {W:TE} {pn:Ti} {F:List B5} {C:(Nat->Bool)->Prop} (hs:S1 h b c N W pn F C g)
include hs
theorem S1.below(x y:Nat):aF cc ac 87 [.v (kb b),.i (ofNat x),.i (ofNat y)] (h9 aa g) [.i (ofNat (DC pn x y).1),.b (DC pn x y).2] (h9 aa g):=by
 obtain⟨n,U,a,_⟩:=hs;exact kL a.hb a.pr x y
theorem S1.equal{x y x' y':Nat}(h1:(DC pn x y).1<N)(k:(DC pn x' y').1<N):∃m,aF cc ac 86 [.v (kb b),.i (ofNat (DC pn x y).1),.b (DC pn x y).2,.i (ofNat (DC pn x' y').1),.b (DC pn x' y').2] (h9 aa g) [] (h9 aa m)/\S1 h b c N W pn F (λV=>C V/\Ha pn V x y x' y') m:=by
 obtain⟨n,U,a,P,B,E,G⟩:=hs;obtain⟨r,u⟩:=a.fr;obtain⟨Q,lb,m,M,O,w,J,K,s,L⟩:=Wg a.hb a.up u a.ok a.va (p:=DC pn x y) (q:=DC pn x' y') a_ a_;obtain⟨z,A,e3⟩:=qB u a.ok n M O;have I:∀j e d,g_ c.up=some j->g[j]?=some (.o (.cells d e true))->e=2:=λj e d l f=>by
  obtain⟨t,k⟩:=a.up.wid l
  simp_all
 have D:∀j e d,j=b->g[j]?=some (.o (.cells d e true))->e=15:=λj e d l f=>by
  subst l;rw[a.hb]at f;exact(VM f).symm
 refine⟨m,w,_,_,⟨J,K,a.va.C2 λj d _ f=>s j _ f (λe=>i_) (λe=>i_),a.fo.C2 λj d _ f=>s j _ f (λe=>i_) (λe=>i_),a.pr.ka λo H=>s _ o H (su a.pr a.hb) (λe=>?_),z,A⟩,?_,λV=>?_,λj o l h1 k=>s j o (E j o l h1 k) h1 k,by rw[L,G]⟩
 .obtain⟨t,k⟩:=a.up.wid e;exact su a.pr k rfl
 .unfold Fo
  grind
 .rw[e3 V];show _↔C V/\_;rw[←B V,and_assoc];rfl
end
def N5(a:Option Addr):Kh a a=true:=by
 rcases a with _|⟨b,o,s⟩
 .rfl
 .unfold Kh;simp only[qdB];rcases s with _|s
  .rfl
  .exact qdB s
def N8{v:TR}(h:∃a n c,v = .slice a n c):QC v v=some ():=by
 obtain⟨a,n,c,rfl⟩:=h;show(match Kh a a,Nat.beq n n,Nat.beq c c with
  |true,true,true=>some ()
  |_,_,_=>none)=_
 rw[N5,qdB,qdB]
def wI{j7:Type}{h:HL}{v:TR}{e:Nat}{enc:j7->Tn}{l:List j7}(d:q9 h v e enc l){j:Nat}(b:g_ v=some j):∃cs a,h[j]?=some (.o (.cells cs e a)):=by
 rcases d.2.2 with⟨rfl,_⟩|⟨id,f,g,i,a,rfl,c,_⟩
 .cases b
 .cases b;exact⟨_,_,c⟩
def HK(pn:Ti)(a b c:List K2)(V:Tx)(i:Nat):Prop:=∀p,a[i]?=some p->(∀(j:Nat) q,j<i->a[j]?=some q->Ha pn V p.1 q.1 p.2 q.2)/\(∀o∈b,Ha pn V p.1 o.1 p.1 o.2)/\(∀o∈c,Ha pn V p.2 o.1 p.2 o.2)
def four(pn:Ti)(o u:K2):B5:=(DC pn o.1 u.1,DC pn o.2 u.1,DC pn o.1 u.2,DC pn o.2 u.2)
def UM(pn:Ti)(L:List K2)(i:Nat):List B5:=match L[i]? with
 |some o=>(L.take i).map (four pn o)
 |none=>[]
def GB(pn:Ti)(L:List K2)(n:Nat):List B5:=(range n).flatMap (UM pn L)
def uf{pn:Ti}{L:List K2}{n:Nat}:GB pn L (n+1)=GB pn L n++UM pn L n:=by
 unfold GB;rw[MT,ZO];simp
def yj{pn:Ti}{L:List K2}(a:L.length<=1000):∀n,n<=1000->(GB pn L n).length<=n*1000
 |0,_=>by simp[GB]
 |n+1,h=>by
  have b:=yj (pn:=pn) a n a_;rw[uf,HY];have:(UM pn L n).length<=1000:=by
   unfold UM
   grind
  omega
def S2(h:HL)(b:Nat)(c:XC)(N:Nat)(W:TE)(pn:Ti)(F:List B5)(C:(Nat->Bool)->Prop)(g:HL):Prop:=
 ∃fo n U,Pi g b { c with fo:=fo } n U W pn F/\U.length=N/\(∀V,(n=false/\Rs U W V)↔C V)/\(g_ fo=g_ c.fo∨∃j,g_ fo=some j/\h.length<=j)/\(∀(j:Nat) o,h[j]?=some o->j≠b->g_ c.up≠some j->g_ c.fo≠some j->g[j]?=some o)/\h.length<=g.length
def S1.two{h g:HL}{b:Nat}{c:XC}{N:Nat}{W:TE}{pn:Ti}{F:List B5}{C:(Nat->Bool)->Prop}(l:S1 h b c N W pn F C g):S2 h b c N W pn F C g:=by
 obtain⟨n,U,d,e,f,i,m⟩:=l;exact⟨c.fo,n,U,d,e,f,.inl rfl,λj o k a b _=>i j o k a b,a_⟩
def Sd{x y:TR}{s:Nat}(a:s<2):ir [(.v x:Lf),.v y] 0 [(ofNat s,1)] 1=some [.v (if s=0 then x else y)]:=by
 obtain rfl|rfl:s=0∨s=1:=a_
 .rfl
 .rfl
def Sc{x y:Int}{s:Nat}(a:s<2):ir [(.i x:Lf),.i y] 0 [(ofNat s,1)] 1=some [.i (if s=0 then x else y)]:=by
 obtain rfl|rfl:s=0∨s=1:=a_
 .rfl
 .rfl
def WA{s:Nat}(a:s<2):FV 2 (ofNat s)=some ():=by
 obtain rfl|rfl:s=0∨s=1:=a_
 .rfl
 .rfl
def S2.four{h g:HL}{b:Nat}{c:XC}{N:Nat}{W:TE}{pn:Ti}{F:List B5}{C:(Nat->Bool)->Prop}{fo:TR}{n:Bool}{U:List Lit}(a:Pi g b { c with fo:=fo } n U W pn F)(y:U.length=N)(x:∀V,(n=false/\Rs U W V)↔C V)(I:g_ fo=g_ c.fo∨∃j,g_ fo=some j/\h.length<=j)(B:∀(j:Nat) o,h[j]?=some o->j≠b->g_ c.up≠some j->g_ c.fo≠some j->g[j]?=some o)(J:h.length<=g.length)
  {f:B5} {v':TR} {m:HL} (z:hY 0 m v' 8 Kf (F++[f])) (l:∀(j:Nat) o,g[j]?=some o->g_ fo≠some j->m[j]?=some o) (D:g.length<=m.length) (A:g_ v'=g_ fo∨∃j,g_ v'=some j/\g.length<=j) :
  S2 h b c N W pn (F++[f]) C (m.set b (.o (.cells (ah { c with fo:=v' } n) 15 true))):=by
 have q:∀j e d,g_ fo=some j->g[j]?=some (.o (.cells d e true))->e=8:=λj e d s i=>by
  obtain⟨p,u⟩:=a.fo.wid s
  simp_all
 have r:m[b]?=some (.o (.cells (ah { c with fo:=fo } n) 15 true)):=l b _ a.hb λe=>by have:=q b _ _ e a.hb;omega
 have k:∀(j:Nat) d e,e≠15->e≠8->g[j]?=some (.o (.cells d e true))->(m.set b (.o (.cells (ah { c with fo:=v' } n) 15 true)))[j]?=some (.o (.cells d e true)):=λj d e G H i=>by
  grind
 refine⟨v',n,U,⟨fZ r,a.up.C2 λj d _ i=>k j d 2 m_ m_ i,a.va.C2 λj d _ i=>k j d 1 m_ m_ i,z.C2 λj d _ i=>de i λe=>?_,a.pr.ka λo E=>de (l _ o E λe=>?_) (Ej (su a.pr a.hb)),a.fr,a.ok⟩,y,x,?_,λj o s t v w=>de (l j o (B j o s t v w) λe=>?_) (Ej t),i_⟩
 .simp_all
 .obtain⟨p,u⟩:=a.fo.wid e;exact su a.pr u rfl
 .grind
 grind
def X2{h:HL}{b:Nat}{c:XC}{N:Nat}{W:TE}{pn:Ti}{F:List B5}{C:(Nat->Bool)->Prop}(hs:S1 h b c N W pn F C h){sb:Nat}{xp x0 x1:TR}{r t z:List K2}(S:h[sb]?=some (.o (.cells [xp,x0,x1] 3 true)))(R:q9 h xp 2 Fj r)(bd:q9 h x0 2 Fj t)(be:q9 h x1 2 Fj z)
  (bm:∀j,g_ c.up=some j->g_ xp≠some j/\g_ x0≠some j/\g_ x1≠some j) (an:r.length<=1000/\t.length<=1000/\z.length<=1000) (cp:F.length<=1000000000) (Y:2<=r.length+t.length+z.length->∀x y,(DC pn x y).1<N) :
  ∃g,aF cc ac 49 [.v (kb b),.v (kb sb)] (h9 aa h) [] (h9 aa g)/\S2 h b c N W pn (F++GB pn t t.length++GB pn z z.length) (λV=>C V/\∀i,i<r.length->HK pn r t z V i) g:=by
 have bC:∀ {j e X G},h[j]?=some (.o (.cells X e G))->e≠15->j≠b:=λ{j e X G} T he e2=>by
  obtain⟨n,U,w,_⟩:=hs;subst e2;rw[w.hb]at T
  simp_all
 have cb:∀ {j e X G},h[j]?=some (.o (.cells X e G))->e≠2->g_ c.up≠some j:=λ{j e X G} T he e2=>by
  obtain⟨n,U,w,_⟩:=hs;obtain⟨a8,h2⟩:=w.up.wid e2
  simp_all
 have b5:∀ {j e X G},h[j]?=some (.o (.cells X e G))->e≠8->g_ c.fo≠some j:=λ{j e X G} T he e2=>by
  obtain⟨n,U,w,_⟩:=hs;obtain⟨a8,h2⟩:=w.fo.wid e2
  simp_all
 have J:∀ {g:HL} {v:TR} {l:List K2},q9 h v 2 Fj l->(∀j,g_ c.up=some j->g_ v≠some j)->(∀(j:Nat) o,h[j]?=some o->j≠b->g_ c.up≠some j->g_ c.fo≠some j->g[j]?=some o)->q9 g v 2 Fj l:=λ{g v l} hl hv L=>hl.ka λj o T hb=>by
  obtain⟨X,G,h2⟩:=wI hl hb
  grind
 have ax:∀ {g:HL},(∀(j:Nat) o,h[j]?=some o->j≠b->g_ c.up≠some j->g_ c.fo≠some j->g[j]?=some o)->g[sb]?=some (.o (.cells [xp,x0,x1] 3 true)):=λ{g} L=>L sb _ S (bC S m_) (cb S m_) (b5 S m_);have f1:∀ {C:(Nat->Bool)->Prop} {g:HL},S1 h b c N W pn F C g->∀(j:Nat) o,h[j]?=some o->j≠b->g_ c.up≠some j->g_ c.fo≠some j->g[j]?=some o:=λ{C g} q j o T b1 b2 _=>by
  obtain⟨_,_,_,_,_,L,_⟩:=q;exact L j o T b1 b2
 have cr:=x49 (ls:=[.v (kb b),.v (kb sb)]) (K:=λrs g=>rs=[]/\S2 h b c N W pn (F++GB pn t t.length++GB pn z z.length) (λV=>C V/\∀i,i<r.length->HK pn r t z V i) g) (H:=h) (pP (az _) (pP (az _) t0)) (by
  unfold f49;simp only[ub];refine e_ ?_;refine bz (ds:=[xp]) S c_ rfl ?_;refine e_ ?_;refine ab R.h_ ?_;refine k_ ?_;refine bw R ?_;refine aH (m:=r.length) (λm ls g=>∃i,ls=[.i (ofNat i)]/\m=r.length - i/\i<=r.length/\S1 h b c N W pn F (λV=>C V/\∀k,k<i->HK pn r t z V k) g) ⟨0,rfl,rfl,D6 _,hs.congr λV=>⟨λq=>⟨q,λk L=>a_⟩,λq=>q.1⟩⟩ ?_;rintro m ls g ⟨i,rfl,rfl,hi,hg⟩ co aE;refine Ei ?_;refine e_ ?_;by_cases ay:i<r.length
  case pos=>
   rw[aO ay];refine e_ ?_;obtain⟨p,w⟩:=am ay;refine aQ (J R (λj e=>(bm j e).1) (f1 hg)) rfl w ?_;rw[show Fj p=[.int .i64 (ofNat p.1),.int .i64 (ofNat p.2)]from rfl];refine e_ ?_;refine bz (ds:=[xp]) (ax (f1 hg)) c_ rfl ?_;refine e_ ?_;have bn:=J R (λj e=>(bm j e).1) (f1 hg);refine ab bn.h_ ?_;refine k_ ?_;obtain⟨xt,et,lt,gt,bt⟩:=qY R hi;refine ae et (ab gt ?_);refine k_ ?_;have a0:(r.take i).length=i:=j_;refine bw lt ?_;rw[a0];refine aH (m:=i) (λm ls g=>∃j,ls=[.i (ofNat j)]/\m=i - j/\j<=i/\S1 h b c N W pn F (λV=>(C V/\∀k,k<i->HK pn r t z V k)/\∀(k:Nat) q,k<j->r[k]?=some q->Ha pn V p.1 q.1 p.2 q.2) g) ⟨0,rfl,rfl,D6 _,hg.congr λV=>⟨λq=>⟨q,λk _ L=>a_⟩,λq=>q.1⟩⟩ ?_;rintro m2 ct g2 ⟨j,rfl,rfl,T,O⟩ ci ad;refine Ei ?_;refine e_ ?_;by_cases ap:j<i
   case pos=>
    rw[aO ap];refine e_ ?_;obtain⟨q,hq⟩:=am (l:=r) (i:=j) a_;have b9:(r.take i)[j]?=some q:=i_;refine aQ (J lt (λj e=>i_) (f1 O)) rfl b9 ?_;rw[show Fj q=[.int .i64 (ofNat q.1),.int .i64 (ofNat q.2)]from rfl];refine e_ ?_;refine ak (O.below p.1 q.1) ?_;refine e_ ?_;refine ak (O.below p.2 q.2) ?_;refine e_ ?_;obtain⟨g3,ce,B⟩:=O.equal (x:=p.1) (y:=q.1) (x':=p.2) (y':=q.2) (Y a_ _ _) (Y a_ _ _);refine ak ce ?_;refine e_ ?_;rw[aU a_];refine ad _ _ _ a_ ⟨j+1,rfl,rfl,ap,B.congr λV=>?_⟩
    grind
   obtain rfl:j=i:=a_;rw[aN (B8 _)];refine e_ ?_;refine bz (ds:=[x0,x1]) (ax (f1 O)) c_ rfl ?_;refine e_ ?_;refine ab bd.h_ ?_;refine k_ ?_;refine ab be.h_ ?_;refine k_ ?_;refine aH (m:=2) (λm ls g=>∃s,ls=[.i (ofNat s)]/\m=2 - s/\s<=2/\S1 h b c N W pn F (λV=>((C V/\∀k,k<j->HK pn r t z V k)/\∀(k:Nat) q,k<j->r[k]?=some q->Ha pn V p.1 q.1 p.2 q.2)/\(1<=s->∀o∈t,Ha pn V p.1 o.1 p.1 o.2)/\(2<=s->∀o∈z,Ha pn V p.2 o.1 p.2 o.2)) g) ⟨0,rfl,rfl,m_,O.congr λV=>⟨λq=>⟨q,λL=>a_,λL=>a_⟩,λq=>q.1⟩⟩ ?_;rintro m3 cd g3 ⟨s,rfl,rfl,ca,B⟩ a6 D;refine Ei ?_;refine e_ ?_;by_cases d:s<2
   case pos=>
    rw[ua i_];refine e_ ?_;refine ae (WA d) ?_;refine ae (Sd d) ?_;refine k_ ?_;obtain⟨f,eL⟩ : ∃f,f=if s=0 then t else z:=⟨_,rfl⟩
    obtain⟨xs,eX⟩ : ∃xs,xs=if s=0 then x0 else x1:=⟨_,rfl⟩
    obtain⟨Q,eP⟩ : ∃Q,Q=if s=0 then p.1 else p.2:=⟨_,rfl⟩
    rw[←eX];have M:q9 h xs 2 Fj f:=by
     grind
    have P:∀j,g_ c.up=some j->g_ xs≠some j:=λj e=>by
     grind
    have bl:f.length<=1000:=by
     grind
    refine bw (J M P (f1 B)) ?_;refine aH (m:=f.length) (λm ls g=>∃k,ls=[.i (ofNat k)]/\m=f.length - k/\k<=f.length/\S1 h b c N W pn F (λV=>(((C V/\∀k,k<j->HK pn r t z V k)/\∀(k:Nat) q,k<j->r[k]?=some q->Ha pn V p.1 q.1 p.2 q.2)/\(1<=s->∀o∈t,Ha pn V p.1 o.1 p.1 o.2)/\(2<=s->∀o∈z,Ha pn V p.2 o.1 p.2 o.2))/\∀(i:Nat) o,i<k->f[i]?=some o->Ha pn V Q o.1 Q o.2) g) ⟨0,rfl,rfl,D6 _,B.congr λV=>⟨λq=>⟨q,λk _ L=>a_⟩,λq=>q.1⟩⟩ ?_;rintro m4 cf g4 ⟨k,rfl,rfl,L,I⟩ a7 E;refine Ei ?_;refine e_ ?_;by_cases A:k<f.length
    case pos=>
     rw[aO A];refine e_ ?_;obtain⟨o,ho⟩:=am A;refine aQ (J M P (f1 I)) rfl ho ?_;rw[show Fj o=[.int .i64 (ofNat o.1),.int .i64 (ofNat o.2)]from rfl];refine e_ ?_;have a9:(if s=0 then(ofNat p.1:Int)else ofNat p.2)=ofNat Q:=by
      grind
     refine ae (WA d) ?_;refine ae (Sc d) ?_;rw[a9];refine k_ ?_;have bk:2<=r.length+t.length+z.length:=by
      grind
     refine ak (I.below Q o.1) ?_;refine e_ ?_;refine ae (WA d) ?_;refine ae (Sc d) ?_;rw[a9];refine k_ ?_;refine ak (I.below Q o.2) ?_;refine e_ ?_;obtain⟨g5,ce,Z⟩:=I.equal (x:=Q) (y:=o.1) (x':=Q) (y':=o.2) (Y bk _ _) (Y bk _ _);refine ak ce ?_;refine e_ ?_;rw[aU a_];refine E _ _ _ a_ ⟨k+1,rfl,rfl,A,Z.congr λV=>?_⟩
     grind
    obtain rfl:k=f.length:=a_;rw[aN (B8 _)];refine e_ ?_;rw[aU a_];refine D _ _ _ a_ ⟨s+1,rfl,rfl,d,I.congr λV=>?_⟩;have cn:(∀(i:Nat) o,i<f.length->f[i]?=some o->Ha pn V Q o.1 Q o.2)↔∀o∈f,Ha pn V Q o.1 Q o.2:=by
     constructor
     .intro q o ho;obtain⟨i,hi⟩:=FK ho
      grind
     grind
    grind
   obtain rfl:s=2:=a_;rw[v_ m_];refine e_ ?_;rw[aU a_];refine aE _ _ _ a_ ⟨j+1,rfl,rfl,ay,B.congr λV=>?_⟩;constructor
   .rintro⟨⟨⟨a1,a2⟩,a3⟩,a4,a5⟩;refine⟨a1,λk L=>?_⟩;by_cases e:k=j
    .subst e;intro p' cq
     grind
    grind
   .rintro⟨a1,a2⟩;obtain⟨b1,b2,b3⟩:=a2 j a_ p w
    grind
  obtain rfl:i=r.length:=a_;rw[aN (B8 _)];refine e_ ?_;refine bz (ds:=[x0,x1]) (ax (f1 hg)) c_ rfl ?_;refine e_ ?_;refine ab bd.h_ ?_;refine k_ ?_;refine ab be.h_ ?_;refine k_ ?_;have f2:∀ {F':List B5} {C:(Nat->Bool)->Prop} {g:HL},S2 h b c N W pn F' C g->∀(j:Nat) o,h[j]?=some o->j≠b->g_ c.up≠some j->g_ c.fo≠some j->g[j]?=some o:=λ{F' C g} q=>by
   obtain⟨_,_,_,_,_,_,_,L,_⟩:=q;exact L
  refine aH (m:=2) (λm ls g=>∃s,ls=[.i (ofNat s)]/\m=2 - s/\s<=2/\S2 h b c N W pn (F++(if 1<=s then GB pn t t.length else [])++(if 2<=s then GB pn z z.length else [])) (λV=>C V/\∀i,i<r.length->HK pn r t z V i) g) ⟨0,rfl,rfl,m_,by simpa using hg.two⟩ ?_;rintro m3 cd g3 ⟨s,rfl,rfl,ca,B⟩ a6 D;refine Ei ?_;refine e_ ?_;by_cases d:s<2
  case neg=>
   obtain rfl:s=2:=a_;rw[v_ m_];refine e_ ?_
   grind
  rw[ua i_];refine e_ ?_;refine ae (WA d) ?_;refine ae (Sd d) ?_;refine k_ ?_;obtain⟨f,eL⟩ : ∃f,f=if s=0 then t else z:=⟨_,rfl⟩
  obtain⟨xs,eX⟩ : ∃xs,xs=if s=0 then x0 else x1:=⟨_,rfl⟩
  obtain⟨FF,eF⟩ : ∃FF,FF=F++(if 1<=s then GB pn t t.length else [])++(if 2<=s then GB pn z z.length else []):=⟨_,rfl⟩;rw[←eX];rw[←eF]at B;have cl:FF.length<=1001000000:=by
   have q0:=yj (pn:=pn) an.2.1 t.length an.2.1
   grind
  have M:q9 h xs 2 Fj f:=by
   grind
  have P:∀j,g_ c.up=some j->g_ xs≠some j:=λj e=>by
   grind
  have bl:f.length<=1000:=by
   grind
  refine bw (J M P (f2 B)) ?_;refine aH (m:=f.length) (λm ls g=>∃k,ls=[.i (ofNat k)]/\m=f.length - k/\k<=f.length/\S2 h b c N W pn (FF++GB pn f k) (λV=>C V/\∀i,i<r.length->HK pn r t z V i) g) ⟨0,rfl,rfl,D6 _,by simpa[GB]using B⟩ ?_;rintro m4 cf g4 ⟨k,rfl,rfl,L,I⟩ a7 E;refine Ei ?_;refine e_ ?_;by_cases A:k<f.length
  case neg=>
   obtain rfl:k=f.length:=a_;rw[aN (B8 _)];refine e_ ?_;rw[aU a_];refine D _ _ _ a_ ⟨s+1,rfl,rfl,d,?_⟩
   grind
  rw[aO A];refine e_ ?_;obtain⟨o,ho⟩:=am A;refine aQ (J M P (f2 I)) rfl ho ?_;rw[show Fj o=[.int .i64 (ofNat o.1),.int .i64 (ofNat o.2)]from rfl];refine e_ ?_;obtain⟨xt,et,lt,gt,bt⟩:=qY M L;refine ae et (ab gt ?_);refine k_ ?_;have a0:(f.take k).length=k:=i_;refine bw lt ?_;rw[a0];refine aH (m:=k) (λm ls g=>∃j,ls=[.i (ofNat j)]/\m=k - j/\j<=k/\S2 h b c N W pn (FF++GB pn f k++((f.take k).take j).map (four pn o)) (λV=>C V/\∀i,i<r.length->HK pn r t z V i) g) ⟨0,rfl,rfl,D6 _,by simpa using I⟩ ?_;rintro m5 cw g5 ⟨j,rfl,rfl,T,Z⟩ ck ag;refine Ei ?_;refine e_ ?_;by_cases av:j<k
  case neg=>
   obtain rfl:j=k:=a_;rw[aN (B8 _)];refine e_ ?_;rw[aU a_];refine E _ _ _ a_ ⟨j+1,rfl,rfl,A,?_⟩;rw[uf,←FL];have:UM pn f j=((f.take j).take j).map (four pn o):=by
    unfold UM
    grind
   grind
  rw[aO av];refine e_ ?_;obtain⟨u,hu⟩:=am (l:=f.take k) (i:=j) a_;refine aQ (J lt (λj e=>by rw[bt];exact P j e) (f2 Z)) rfl hu ?_;rw[show Fj u=[.int .i64 (ofNat u.1),.int .i64 (ofNat u.2)]from rfl];refine e_ ?_;obtain⟨fo,n,U,w,hN,hC,bP,b0,b4⟩:=Z;refine kw (ds:=[fo]) w.hb (by simp[ah]) rfl ?_;refine e_ ?_;have bb:=w.fo.h_ tN;refine ab bb ?_;refine k_ ?_;refine ak (kL w.hb w.pr o.1 u.1) ?_;refine e_ ?_;refine ak (kL w.hb w.pr o.2 u.1) ?_;refine e_ ?_;refine ak (kL w.hb w.pr o.1 u.2) ?_;refine e_ ?_;refine ak (kL w.hb w.pr o.2 u.2) ?_;refine e_ ?_;have cm:(FF++GB pn f k++((f.take k).take j).map (four pn o)).length<=1100000000:=by
   have q1:=yj (pn:=pn) bl k a_
   grind
  refine w.fo.Il (a:=four pn o u) tN (D6 _) rfl rfl rfl (by unfold bc;rw[EY a_,EY a_];rfl) ?_;intro v' g6 hO gv b7 b8 bx;have al:∀(j:Nat) o,g5[j]?=some o->g_ fo≠some j->g6[j]?=some o:=λj o T hb=>b7 j o T hb;refine e_ ?_;refine ab gv ?_;refine k_ ?_;have b6:g6[b]?=some (.o (.cells (ah { c with fo:=fo } n) 15 true)):=al b _ w.hb λe=>by
   obtain⟨a8,h2⟩:=w.fo.wid e;rw[w.hb]at h2
   grind
  refine gH (b:=b) b6 (by simp[ah]) ?_;refine k_ ?_;have bs:HJ (g5++[HO.o (.cells (Kf (four pn o u)) 8 true)]) (.pointer (some ⟨b,13,none⟩)) [fo]:=⟨b,13,_,15,true,rfl,ey w.hb,gz.2 ⟨by simp[ah],rfl⟩⟩;refine dH (bs.lg rfl) ?_;refine e_ ?_;refine ab bb ?_;refine k_ ?_;refine ae (N8 (kq (w.fo.ls tN))) ?_;refine k_ ?_;rw[aU a_];refine ag _ _ _ a_ ⟨j+1,rfl,rfl,av,?_⟩;rw[IB,hu,IV,←FL];exact S2.four w hN hC bP b0 b4 hO al b8 bx)
 grind
structure Sm(n1:Nat)(h:HL)(mm:Nat)(kv:Value)(ks:List K6)(is:TC)(vs:Tn)(ls:List (List K2)):Prop where
 mp:Ek Lq h mm (ks.zip (is.map kb))
 kl:hY n1 h kv 1 D4 (is.map kb)
 nd:ks.Nodup
 il:is.length=ks.length
 idn:is.Nodup
 vl:vs.length=3*ks.length
 ll:ls.length=vs.length
 bl:∀(i:Nat) id,is[i]?=some id->n1<=id/\∃x y z,vs[3*i]?=some x/\vs[3*i+1]?=some y/\vs[3*i+2]?=some z/\h[id]?=some (.o (.cells [x,y,z] 3 true))
 ow:∀(j:Nat) v l,vs[j]?=some v->ls[j]?=some l->hY n1 h v 2 Fj l
 dj:∀(i j:Nat) v w x,vs[i]?=some v->vs[j]?=some w->g_ v=some x->g_ w=some x->i=j
def Sm.ka{f:Nat}{h h':HL}{e:Nat}{kv:TR}{ks:List K6}{is:TC}{vs:Tn}{ls:List (List K2)}(a:Sm f h e kv ks is vs ls)(d:∀(j:Nat) o,f<=j∨j=e->h[j]?=some o->h'[j]?=some o):Sm f h' e kv ks is vs ls:=
 ⟨a.mp.ka _ λo n=>d _ o (.inr rfl) n,a.kl.ka λj o m b=>d j o (.inl (a.kl.g_ b).1) m,a.nd,a.il,a.idn,a.vl,a.ll,λi id c=>by
  obtain⟨p,x,y,z,q,r,s,t⟩:=a.bl i id c
  simp_all,λj v l g k=>(a.ow j v l g k).ka λi o c b=>d i o (.inl ((a.ow j v l g k).g_ b).1) c,a.dj⟩
def TV{d:Nat}{h:HL}{b:Nat}(h0:h[b]?=some (.o (.map [] 0))):Sm d h b (.slice none 0 0) [] [] [] []:=
 ⟨⟨[],0,h0,rfl⟩,.inl ⟨rfl,rfl⟩,hZ,rfl,hZ,rfl,rfl,λi id c=>(by cases c),λj v l a=>(by cases a),λi j v w x a=>(by cases a)⟩
section
variable {n1:Nat} {h h':HL} {mm:Nat} {kv:Value} {ks:List K6} {is:TC} {vs:Tn} {ls:List (List K2)} (hs:Sm n1 h mm kv ks is vs ls)
include hs
theorem Sm.HW{j e:Nat}{cs:Tn}{a:Bool}(f:h[j]?=some (.o (.cells cs e a))):j≠mm:=λb=>by
 subst b;obtain⟨c,g,d,_⟩:=hs.mp
 simp_all
theorem Sm.new{k:K6}(U:k∉ks){id:Nat}{kv':TR}(i':h.length<=id)(N:n1<=h.length)(V:h'[id]?=some (.o (.cells [.slice none 0 0,.slice none 0 0,.slice none 0 0] 3 true)))(M:Ek Lq h' mm (ks.zip (is.map kb)++[(k,kb id)]))(D:hY n1 h' kv' 1 D4 ((is++[id]).map kb))
  (d:∀(j:Nat) o,h[j]?=some o->n1<=j->j≠mm->g_ kv≠some j->h'[j]?=some o):Sm n1 h' mm kv' (ks++[k]) (is++[id]) (vs++[.slice none 0 0,.slice none 0 0,.slice none 0 0]) (ls++[[],[],[]]):=by
 have q:∀ {j e:Nat} {s:Tn} {r:Bool},h[j]?=some (.o (.cells s e r))->e≠1->g_ kv≠some j:=λ{j e s r} G T K=>by
  obtain⟨J,m⟩:=hs.kl.wid K
  simp_all
 have B:∀x∈is,x<h.length:=λx O=>by
  obtain⟨i,c⟩:=FK O;obtain⟨_,_,_,_,_,_,_,p⟩:=hs.bl i x c;exact ai p
 have H:∀(j:Nat) v,([.slice none 0 0,.slice none 0 0,.slice none 0 0]:Tn)[j]?=some v->v = .slice none 0 0:=λj v G=>by
  grind
 have g:∀(j:Nat) v,(vs++[.slice none 0 0,.slice none 0 0,.slice none 0 0])[j]?=some v->(j<vs.length/\vs[j]?=some v)∨(vs.length<=j/\v = .slice none 0 0):=λj v G=>by
  grind
 refine⟨?_,D,?_,by simp[hs.il],?_,by simp[hs.vl];omega,by simp[hs.ll],λi x c=>?_,λj v l n m=>?_,λi j v w x n m t F=>?_⟩
 .rw[IV,List.zip_append (by rw[GY,hs.il])];exact M
 .rw[p7];exact⟨hs.nd,c_,λa L b u e=>by
   simp_all⟩
 .rw[p7];exact⟨hs.idn,c_,λa L b u e=>by
   grind⟩
 .rw[d8]at c;split at c
  next f=>
   obtain⟨E,P,y,z,Q,R,S,p⟩:=hs.bl i x c;refine⟨E,P,y,z,?_,?_,?_,d x _ p E (hs.HW p) (q p m_)⟩
   .grind
   .grind
   grind
  next f=>
   have A:=ai c;simp only[qcS]at A;have C:i=is.length:=a_;subst C;rw[SA]at c;cases c;have t:3*is.length=vs.length:=by rw[hs.vl,hs.il]
   grind
 .rcases g j v n with⟨f,n⟩|⟨f,rfl⟩
  .rw[H3 (by rw[hs.ll];exact f)]at m;have I:=hs.ow j v l n m;exact I.C2 λi s u c=>d i _ c (I.g_ u).1 (hs.HW c) (q c m_)
  .rw[Iz (by rw[hs.ll];exact f)]at m;have:l=[]:=by
    grind
   rw[this];exact .inl ⟨rfl,rfl⟩
 .rcases g i v n with⟨_,n⟩|⟨_,rfl⟩
  .rcases g j w m with⟨_,m⟩|⟨_,rfl⟩
   .exact hs.dj i j v w x n m t F
   .cases F
  .cases t
theorem Sm.put{i s id:Nat}{v:TR}{l l':List K2}(X:is[i]?=some id)(ag:s<3)(F:vs[3*i+s]?=some v)(Y:ls[3*i+s]?=some l){g:HL}{v':TR}(S:hY n1 g v' 2 Fj l')(N:∀(j:Nat) o,h[j]?=some o->g_ v≠some j->g[j]?=some o)(hb:g_ v'=g_ v∨∃j,g_ v'=some j/\h.length<=j)
  {cs p:Tn} (A:h[id]?=some (.o (.cells cs 3 true))) (U:p=cs.set s v'):Sm n1 (g.set id (.o (.cells p 3 true))) mm kv ks is (vs.set (3*i+s) v') (ls.set (3*i+s) l'):=by
 have O:=hs.ow _ v l F Y;have G:∀ {j e:Nat} {cs:Tn} {d:Bool},h[j]?=some (.o (.cells cs e d))->e≠2->g_ v≠some j:=λ{j e cs d} b V k=>by
  obtain⟨a,f⟩:=O.wid k
  simp_all
 have M:g[id]?=some (.o (.cells cs 3 true)):=N id _ A (G A m_);have hw:∀ {j e:Nat} {a:Tn} {d:Bool},g[j]?=some (.o (.cells a e d))->e≠3->j≠id:=λ{j e a d} b V k=>by
  simp_all
 have C:3*i+s<vs.length:=ai F;have c:∀(j:Nat) w,(vs.set (3*i+s) v')[j]?=some w->(j=3*i+s/\w=v')∨(j≠3*i+s/\vs[j]?=some w):=λj w b=>by
  grind
 have Q:∀j w,j≠3*i+s->vs[j]?=some w->(vs.set (3*i+s) v')[j]?=some w:=λj w e b=>i_;have P:∀(j:Nat) w x,j≠3*i+s->vs[j]?=some w->g_ w=some x->x<h.length/\g_ v≠some x:=λj w x e b H=>by
  obtain⟨I,B⟩:=am (l:=ls) (i:=j) (by rw[hs.ll];exact ai b);exact⟨((hs.ow j w I b B).g_ H).2,λk=>e (hs.dj j _ w v x b F H k)⟩
 refine⟨hs.mp.ka _ λo D=>de (N mm o D λe=>?_) (Ej (hs.HW A).symm),hs.kl.C2 λj a T b=>?_,hs.nd,hs.il,hs.idn,by rw[GZ];exact hs.vl,by rw[GZ,GZ];exact hs.ll,λr t m=>?_,λj w I q f=>?_,λr n u w x q f K L=>?_⟩
 .obtain⟨a,f⟩:=O.wid e;exact hs.HW f rfl
 .grind
 .obtain⟨R,x,y,z,a2,a3,a4,J⟩:=hs.bl r t m;by_cases e:r=i
  .subst e;rw[X]at m;cases m;rw[A]at J;cases J;refine⟨R,?_⟩;obtain rfl|rfl|rfl:s=0∨s=1∨s=2:=a_
   .grind
   .grind
   grind
  .have ad:t≠id:=λk=>by
    subst k;have Z:=hs.idn;rw[XT,KI]at Z
    grind
   grind
 .rcases c j w q with⟨rfl,rfl⟩|⟨e,q⟩
  .rw[Ia (by rw[hs.ll];exact C)]at f;cases f;exact S.C2 λj a _ b=>de b (Ej (hw b m_))
  .rw[IA (Ej e)]at f;have E:=hs.ow j w I q f;refine E.C2 λx a H b=>?_
   grind
 .have W:∀n w x,n≠3*i+s->vs[n]?=some w->g_ w=some x->g_ v'≠some x:=λn w x e f L K=>by
   grind
  rcases c r u q with⟨rfl,rfl⟩|⟨e1,p1⟩
  .grind
  .rcases c n w f with⟨rfl,rfl⟩|⟨k,p2⟩
   .grind
   .exact hs.dj r n u w x p1 p2 K L
end
abbrev _root_.TH:=Nat->Mv
def mz(w v:Nat)(l:TD)(G:TH):Prop:=∀c e n,c<4*w*v->e<3->y0 w v c e=some n->G n=E_ w l (G c) c n e
def ES:Ty->Nat
 | []=>0
 |b :: l=>(if b then 1 else 0)+ES l
def jc:∀l:List Bool,ES l<=l.length
 | []=>B8 _
 |b :: l=>by
  have:=jc l;simp only[ES,ZJ];split<;>omega
def ic:∀ {l:Ty} {n:Nat},l[n]?=some false->ES (l.set n true)=ES l+1
 | [],n,h=>by simp at h
 |b :: l,0,h=>by
  simp only[qcd,G_]at h;subst h;simp[ES];omega
 |b :: l,n+1,h=>by
  simp only[bm]at h;have:=ic h;simp only[qcH,ES,this];omega
structure JS(w v:Nat)(l:TD)(A:TO)(B:Ty)(q:TC)(D:Nat->Nat->Prop):Prop where
 a0:A[0]?=some CW
 b0:B[0]?=some true
 q1:∀c∈q,B[c]?=some true
 dn:∀c e n,D c e->c<4*w*v->e<3->y0 w v c e=some n->B[c]?=some true->c∉q->B[n]?=some true/\∃a,A[c]?=some a/\A[n]?=some (E_ w l a c n e)
 bd:∀(c:Nat) a,B[c]?=some true->A[c]?=some a->DV (20*(ES B:Int)) a
 un:∀G,mz w v l G->G 0=CW->∀(c:Nat) a,B[c]?=some true->A[c]?=some a->a=G c
structure Hb(w v:Nat)(l:TD)(A:TO):Prop where
 len:A.length=4*w*v
 a0:A[0]?=some CW
 ok:∀a∈A,DV 2000 a
 cons:∀c e n a,c<4*w*v->e<3->y0 w v c e=some n->A[c]?=some a->A[n]?=some (E_ w l a c n e)
section
variable {w v:Nat} {l:TD} {A:TO} {B:Ty} {q:TC}
def JS.start(f:Sh w v):JS w v l (replicate (4*w*v) CW) ((replicate (4*w*v) false).set 0 true) [0] λ_ _=>True:=by
 have i:0<4*w*v:=by
  have g:=f.1;have h:=f.2.2.1;have:0<w*v:=qdF g h
  grind
 have j:∀c,((replicate (4*w*v) false).set 0 true)[c]?=some true->c=0:=by
  grind
 refine⟨j_,j_,λc o=>?_,λc e n _ _ _ _ d p=>?_,λc a d b=>?_,λG m k c a d b=>?_⟩
 .simp_all
 .simp_all
 .have:=j c d;subst this;rw[ZL,qs i]at b;cases b;exact AO a_
 simp_all
def JS.pop{c0:Nat}(h:JS w v l A B (c0 :: q) λ_ _=>True):JS w v l A B q λc e=>c=c0->e<0:=by
 refine⟨h.a0,h.b0,λc a=>h.q1 c (FZ _ a),λc e n i a f g b k=>?_,h.bd,h.un⟩;by_cases d:c=c0
 .omega
 .exact h.dn c e n trivial a f g b λj=>by
   simp_all
def JS.skip{c0 j:Nat}(h:JS w v l A B q λc e=>c=c0->e<j)(m:y0 w v c0 j=none):JS w v l A B q λc e=>c=c0->e<j+1:=by
 refine⟨h.a0,h.b0,h.q1,λc e n k d g a b i=>?_,h.bd,h.un⟩;refine h.dn c e n (λf=>?_) d g a b i
 grind
def JS.seen{c0 j n:Nat}{a:Mv}(h:JS w v l A B q λc e=>c=c0->e<j)(u:y0 w v c0 j=some n)(r:B[n]?=some true)(p:A[c0]?=some a)(t:A[n]?=some (E_ w l a c0 n j)):JS w v l A B q λc e=>c=c0->e<j+1:=by
 refine⟨h.a0,h.b0,h.q1,λc e o s f k d b m=>?_,h.bd,h.un⟩;by_cases i:c=c0/\e=j
 .simp_all
 .exact h.dn c e o (λg=>a_) f k d b m
def JS.fresh(F:Sh w v){c0 j n:Nat}{a:Mv}(h:JS w v l A B q λc e=>c=c0->e<j)(M:A.length=4*w*v)(N:B.length=4*w*v)(i:c0<4*w*v)(x:j<3)(y:y0 w v c0 j=some n)(p:B[c0]?=some true)(I:B[n]?=some false)(D:A[c0]?=some a) :
  JS w v l (A.set n (E_ w l a c0 n j)) (B.set n true) (q++[n]) λc e=>c=c0->e<j+1:=by
 obtain⟨U,_,_,_,V⟩:=cQ F i x y;have H:(B.set n true)[n]?=some true:=Ia a_;have m:(A.set n (E_ w l a c0 n j))[n]?=some (E_ w l a c0 n j):=Ia a_;have r:∀c,c≠n->(B.set n true)[c]?=B[c]?:=λc g=>IA (Ej g);have hA:∀c,c≠n->(A.set n (E_ w l a c0 n j))[c]?=A[c]?:=λc g=>IA (Ej g);have k:(0:Nat)≠n:=λe=>by have:=h.b0;simp_all
 have C:DV (20*(ES B:Int)) a:=h.bd c0 a p D;refine⟨by rw[hA 0 k];exact h.a0,by rw[r 0 k];exact h.b0,λc g=>?_,λc e P W g L z f E=>?_,λc s f d=>?_,λG t o c s f d=>?_⟩
 .rcases Fs.1 g with g|g
  .have:=h.q1 c g
   grind
  simp_all
 .have b:c≠n:=λe=>E (by rw[e];simp);have u:c∉q:=λO=>E (KF _ O);rw[r c b]at f;by_cases K:c=c0/\e=j
  .simp_all
  .obtain⟨R,Q,S,T⟩:=h.dn c e P (λJ=>a_) g L z f u
   grind
 .rw[ic I];by_cases b:c=n
  .rw[b,m]at d;cases d;exact aZ (zF F i x y C a_) a_
  .rw[r c b]at f;rw[hA c b]at d;exact aZ (h.bd c s f d) a_
 .by_cases b:c=n
  .rw[b,m]at d;cases d;rw[b,t c0 j n i x y,←h.un G t o c0 a p D]
  .rw[r c b]at f;rw[hA c b]at d;exact h.un G t o c s f d
def JS.done{c0:Nat}(h:JS w v l A B q λc e=>c=c0->e<3):JS w v l A B q λ_ _=>True:=
 ⟨h.a0,h.b0,h.q1,λc e n _ d a f b g=>h.dn c e n (λ_=>a) d a f b g,h.bd,h.un⟩
def Gp(a:Sh w v):0<4*w*v/\4*w*v<=100:=by
 have b:1*1<=w*v:=z' a.1 a.2.2.1;have c:w*v<=5*5:=z' a.2.1 a.2.2.2
 grind
def JS.h_(o:Sh w v)(h:JS w v l A B [] λ_ _=>True)(g:A.length=4*w*v)(r:B.length=4*w*v):Hb w v l A:=by
 have b:∀n,n<4*w*v->B[n]?=some true:=yG o h.b0 λc e n d f j p=>(h.dn c e n trivial d f j p c_).1;have y:=Gp o;have k:=jc B;refine⟨g,h.a0,λa s=>?_,λc e n a d f j z=>?_⟩
 .obtain⟨i,m⟩:=FK s;have:=ai m;exact aZ (h.bd i a (b i a_) m) a_
 .obtain⟨_,t,u,x⟩:=h.dn c e n trivial d f j (b c d) c_
  simp_all
def JS.tear(r:Sh w v){c0 j n:Nat}{a b:Mv}{D:Nat->Nat->Prop}(h:JS w v l A B q D)(g:c0<4*w*v)(o:j<3)(p:y0 w v c0 j=some n)(e:B[c0]?=some true)(m:B[n]?=some true)(k:A[c0]?=some a)(f:A[n]?=some b)(i:b≠E_ w l a c0 n j):¬ ∃G,mz w v l G/\G 0=CW:=by
 rintro⟨G,d,c⟩;refine i ?_;rw[h.un G d c n b m f,d c0 j n g o p,←h.un G d c c0 a e k]
end
def left(B:Ty)(q:TC):Nat:=q.length+(B.length - ES B)
def ga:Bool:=(range 5).all λw=>(range 5).all λv=>jC 123 [.i (.ofNat (w+1)),.i (.ofNat (v+1))] [.i (.ofNat (4*(w+1)*(v+1)))]
def VU:ga=true:=d_
def eL{w v:Nat}(h:Sh w v):Cc 123 [.i (.ofNat w),.i (.ofNat v)] [.i (.ofNat (4*w*v))]:=by
 have b:=A_.1 VU (w - 1) (CY.2 (by have:=h.2.1;omega));have a:=A_.1 b (v - 1) (CY.2 (by have:=h.2.2.1;have:=h.2.2.2;omega));rw[show w - 1+1=w by have:=h.1;omega,show v - 1+1=v by have:=h.2.2.1;omega]at a;exact dN a rfl d_ rfl
def kG{a b:Mv}{K:Tp}:P1.eqs [(.i (ofNat a.1),.i (ofNat b.1)),(.i a.2.1,.i b.2.1),(.i a.2.2,.i b.2.2)] (@i' _ ⟨K⟩)=K (decide (a=b)):=by
 show K (cu _)=_;have e:cu [(.i (ofNat a.1),.i (ofNat b.1)),(.i a.2.1,.i b.2.1),(.i a.2.2,.i b.2.2)]=decide (a=b):=by
  rw[OP];simp[cu,iM,ay];omega
 rw[e]
def Yz(w v:Nat)(l:TD)(H:HL)(a:TG)(h':HL):Prop:=
 u_ H h'/\((∃A id,a=[.v (.slice (some ⟨id,0,le 3⟩) (4*w*v) (4*w*v+1)),.i 0]/\H.length<=id/\h'[id]?=some (.o (.cells (A.flatMap sd) 3 true))/\Hb w v l A)∨
  (a=[.v (.slice none 0 0),.i 11]/\¬ ∃G,mz w v l G/\G 0=CW))
def CA{w v:Nat}(F:Sh w v){l:TD}(hk:(l.map aS).Nodup)(a8:l.length<=1000){H:HL}{x:TR}(hl:q9 H x 3 mi l) :
  ∃rs h',aF cc ac 105 [.i (.ofNat w),.i (.ofNat v),.v x] (h9 aa H) rs (h9 aa h')/\Yz w v l H rs h':=by
 have hN:=Gp F;obtain⟨rs,h',h1,T⟩:=x105 (K:=λrs h'=>Yz w v l H rs h') (H:=H) (mc (mc (pP hl.h_ t0))) (by
  unfold Wh;simp only[ub]
  repeat (first|simp(disch:=omega)only[↓n9]|refine dc (bF aK) rfl ?_|refine ab hl.h_ ?_)
  obtain⟨M,V,U⟩:=NV (w:=.ofNat w) (v:=.ofNat v) (hl.pre (h':=H++[HO.o (.cells [.int .i64 (.ofNat w),.int .i64 (.ofNat v),x] 3 true)]) ⟨_,rfl⟩) hk a8;rw[show(H++[HO.o (.cells [.int .i64 (.ofNat w),.int .i64 (.ofNat v),x] 3 true)]).length=H.length+1 by simp]at V U;have k0:(H++[HO.o (.cells [.int .i64 (.ofNat w),.int .i64 (.ofNat v),x] 3 true)]++[M]).length=H.length+2:=c_;have kp:(H++[HO.o (.cells [.int .i64 (.ofNat w),.int .i64 (.ofNat v),x] 3 true)]++[M])[H.length]?=some (HO.o (.cells [.int .i64 (.ofNat w),.int .i64 (.ofNat v),x] 3 true)):=c_;have kH:u_ H (H++[HO.o (.cells [.int .i64 (.ofNat w),.int .i64 (.ofNat v),x] 3 true)]++[M]):=⟨_,FL ..⟩;refine ak V ?_;clear V;generalize H++[HO.o (.cells [.int .i64 (.ofNat w),.int .i64 (.ofNat v),x] 3 true)]++[M]=T at *;refine e_ ?_;refine yW aK rfl ?_;rw[pA];have m0:(T++[HO.o (.cells [.map (some (H.length+1))] 1 true)]).length=H.length+3:=by simp[k0]
  have mp:=kp |> (u_.get (b:=T++[HO.o (.cells [.map (some (H.length+1))] 1 true)]) ⟨_,rfl⟩)
  have mv:(T++[HO.o (.cells [.map (some (H.length+1))] 1 true)])[H.length+2]?=some (HO.o (.cells [.map (some (H.length+1))] 1 true)):=j_;have mH:u_ H (T++[HO.o (.cells [.map (some (H.length+1))] 1 true)]):=kH.Gq _;have mS:I9 (T++[HO.o (.cells [.map (some (H.length+1))] 1 true)]) (H.length+1) l:=by
   obtain⟨S,c,I,J⟩:=U;exact⟨S,c,u_.get ⟨_,rfl⟩ I,J⟩
  rw[k0];generalize T++[HO.o (.cells [.map (some (H.length+1))] 1 true)]=h3 at *;clear kp kH U k0
  repeat (first|simp(disch:=omega)only[↓n9]|refine sE (p:=kb H.length) (cs:=[.int .i64 (.ofNat w),.int .i64 (.ofNat v),x]) (ds:=[.int .i64 (.ofNat w),.int .i64 (.ofNat v)]) (bF mp) c_ rfl ?_|refine aj (eL F) ?_|refine ae (dF a_) ?_)
  rw[show(ofNat (4*w*v)).toNat=4*w*v from rfl];have z0:HO.o (.cells (aL [.int .u8 0,.int .i64 0,.int .i64 0] (4*w*v)) 3 true)=HO.o (.cells ((replicate (4*w*v) CW).flatMap sd) 3 true):=by
   rw[←cO (enc:=sd) (z:=CW) (n:=4*w*v)];rfl
  rw[z0,m0];have n0:(h3++[HO.o (.cells ((replicate (4*w*v) CW).flatMap sd) 3 true)]).length=H.length+4:=by simp[m0]
  have np:=mp |> (u_.get (b:=h3++[HO.o (.cells ((replicate (4*w*v) CW).flatMap sd) 3 true)]) ⟨_,rfl⟩)
  have nv:=mv |> (u_.get (b:=h3++[HO.o (.cells ((replicate (4*w*v) CW).flatMap sd) 3 true)]) ⟨_,rfl⟩)
  have na:(h3++[HO.o (.cells ((replicate (4*w*v) CW).flatMap sd) 3 true)])[H.length+3]?=some (HO.o (.cells ((replicate (4*w*v) CW).flatMap sd) 3 true)):=j_;have nH:u_ H (h3++[HO.o (.cells ((replicate (4*w*v) CW).flatMap sd) 3 true)]):=mH.Gq _;have nS:I9 (h3++[HO.o (.cells ((replicate (4*w*v) CW).flatMap sd) 3 true)]) (H.length+1) l:=by
   obtain⟨S,c,I,J⟩:=mS;exact⟨S,c,u_.get ⟨_,rfl⟩ I,J⟩
  generalize h3++[HO.o (.cells ((replicate (4*w*v) CW).flatMap sd) 3 true)]=h4 at *;clear mp mv mH mS m0;refine yW aK rfl ?_;rw[pA];refine k_ ?_;refine dc (bF aK) rfl ?_;refine e_ ?_;refine ab (by simp[aI,nc,aT,bE,bj,aP,aD]) ?_;refine e_ ?_;refine ae (x:=ofNat (4*w*v)) rfl ?_;refine ae (dF a_) ?_;refine e_ ?_;rw[n0,show(ofNat (4*w*v)).toNat=4*w*v from rfl];refine ab (by simp[aI,nc,aT,bE,bj,aP,aD]) ?_;have o0:(h4++[HO.o (.cells [.slice (some ⟨H.length+3,0,some 13⟩) (4*w*v) (4*w*v+1)] 1 true)]).length=H.length+5:=by simp[n0]
  have op:=np |> (u_.get (b:=h4++[HO.o (.cells [.slice (some ⟨H.length+3,0,some 13⟩) (4*w*v) (4*w*v+1)] 1 true)]) ⟨_,rfl⟩)
  have om:=nv |> (u_.get (b:=h4++[HO.o (.cells [.slice (some ⟨H.length+3,0,some 13⟩) (4*w*v) (4*w*v+1)] 1 true)]) ⟨_,rfl⟩)
  have oa:=na |> (u_.get (b:=h4++[HO.o (.cells [.slice (some ⟨H.length+3,0,some 13⟩) (4*w*v) (4*w*v+1)] 1 true)]) ⟨_,rfl⟩)
  have ov:(h4++[HO.o (.cells [.slice (some ⟨H.length+3,0,some 13⟩) (4*w*v) (4*w*v+1)] 1 true)])[H.length+4]?=some (HO.o (.cells [.slice (some ⟨H.length+3,0,some 13⟩) (4*w*v) (4*w*v+1)] 1 true)):=j_;have oH:u_ H (h4++[HO.o (.cells [.slice (some ⟨H.length+3,0,some 13⟩) (4*w*v) (4*w*v+1)] 1 true)]):=nH.Gq _;have oS:I9 (h4++[HO.o (.cells [.slice (some ⟨H.length+3,0,some 13⟩) (4*w*v) (4*w*v+1)] 1 true)]) (H.length+1) l:=by
   obtain⟨S,c,I,J⟩:=nS;exact⟨S,c,u_.get ⟨_,rfl⟩ I,J⟩
  generalize h4++[HO.o (.cells [.slice (some ⟨H.length+3,0,some 13⟩) (4*w*v) (4*w*v+1)] 1 true)]=h5 at *;clear np nv na nH nS n0;have z1:HO.o (.cells (aL [.bool false] (4*w*v)) 1 true)=HO.o (.cells ((replicate (4*w*v) false).flatMap B6) 1 true):=by
   rw[←cO (enc:=B6) (z:=false) (n:=4*w*v)];rfl
  rw[z1,o0];have r0:RS H (h5++[HO.o (.cells ((replicate (4*w*v) false).flatMap B6) 1 true)]) w v x l (replicate (4*w*v) CW) (replicate (4*w*v) false):=by
   obtain⟨S,c,I,J⟩:=oS;exact⟨oH.Gq _,by simp[o0],u_.get ⟨_,rfl⟩ op,⟨S,c,u_.get ⟨_,rfl⟩ I,J⟩,u_.get ⟨_,rfl⟩ om,u_.get ⟨_,rfl⟩ oa,u_.get ⟨_,rfl⟩ ov,j_,c_,c_⟩
  generalize h5++[HO.o (.cells ((replicate (4*w*v) false).flatMap B6) 1 true)]=h6 at *;clear op om oa ov oH oS o0;refine dy (enc:=B6) (l:=replicate (4*w*v) false) (i:=0) (a:=true) cU r0.kn rfl (by simpa using hN.1) c_ rfl ?_;have r1:=r0.putB (B':=(replicate (4*w*v) false).set 0 true) c_;generalize oo h6 (H.length+5) 1 B6 ((replicate (4*w*v) false).set 0 true)=h7 at *;refine k_ ?_;have r2:RS H (h7++[HO.o (.cells [.int .i64 0] 1 true)]) w v x l (replicate (4*w*v) CW) ((replicate (4*w*v) false).set 0 true):=r1.ka (λj o _ ho=>u_.get ⟨_,rfl⟩ ho) c_;have ax:WQ (H.length+6) (h7++[HO.o (.cells [.int .i64 0] 1 true)]) (.slice (some ⟨h7.length,0,some 11⟩) 1 2) [0]:=⟨h7.length,0,2,_,rfl,r1.len,aK,Sx.vd rfl,.inr rfl⟩;have al:=JS.start (l:=l) F;have ag:[0].length<=ES ((replicate (4*w*v) false).set 0 true):=by
   rw[ic j_];simp
  generalize h7++[HO.o (.cells [.int .i64 0] 1 true)]=h8 at *;generalize Value.slice (some ⟨h7.length,0,some 11⟩) 1 2=v8 at *;generalize replicate (4*w*v) CW=A0 at *;generalize (replicate (4*w*v) false).set 0 true=B0 at *;clear r0 r1;refine aH (m:=left B0 [0]) (λm ls h'=>∃A B q vv,ls=[.v vv]/\RS H h' w v x l A B/\WQ (H.length+6) h' vv q/\JS w v l A B q (λ_ _=>True)/\q.length<=ES B/\m=left B q) ⟨A0,B0,[0],v8,rfl,r2,ax,al,ag,rfl⟩ ?_;clear r2 ax al ag;rintro m ls h' ⟨A,B,q,vv,rfl,d,G,D,b1,rfl⟩ bt X;refine Ei ?_;refine e_ ?_;refine bw G.ls ?_;cases q with
  |nil=>
   rw[CX j_]
   repeat (first|simp(disch:=omega)only[↓n9]|refine dc (bF d.ov) rfl ?_|refine ab d.lsA.h_ ?_)
   exact⟨d.pre,.inl ⟨A,H.length+3,rfl,a_,d.ol,D.h_ F d.la d.lb⟩⟩
  |cons C q=>
   rw[DI j_];refine e_ ?_;refine aQ G.ls (i:=0) rfl rfl ?_;unfold l_;refine e_ ?_;refine l8 G ?_;intro v1 ay av;refine ab av ?_;have g:B[C]?=some true:=D.q1 C KG;have r:C<4*w*v:=by have:=ai g;have:=d.lb;omega
   have bC:=jc B;refine bK (g9:=Value×HL×List Mv×List Bool×List Nat) 3 (λj s=>[.v s.1,.i (ofNat j)]) (λ_ s=>s.2.1) (λj s=>RS H s.2.1 w v x l s.2.2.1 s.2.2.2.1/\WQ (H.length+6) s.2.1 s.1 s.2.2.2.2/\JS w v l s.2.2.1 s.2.2.2.1 s.2.2.2.2 (λc e=>c=C->e<j)/\s.2.2.2.2.length<=ES s.2.2.2.1/\left s.2.2.2.1 s.2.2.2.2=left B q/\s.2.2.2.1[C]?=some true) (j0:=0) (s0:=(v1,h',A,B,q)) rfl rfl a_ ⟨d,ay,D.pop,i_,rfl,g⟩ ?_;clear d G D ay av g;rintro j ⟨v2,ad,Q,P,q2⟩ bP ⟨d,G,D,N,f,g⟩ Y y;simp only at d G D N f g y;refine e_ ?_;by_cases u:j<3
   case neg=>
    obtain rfl:j=3:=a_;rw[v_ j_];refine e_ ?_;refine X (left B q) _ _ ?_ ⟨Q,P,q2,v2,rfl,d,G,D.done,N,f.symm⟩;unfold left
    simp_all
   rw[ua i_];refine e_ ?_;have next:∀(v3:TR) (k:HL) (A3:TO) (R:Ty) (q3:TC),RS H k w v x l A3 R->WQ (H.length+6) k v3 q3->JS w v l A3 R q3 (λc e=>c=C->e<j+1)->q3.length<=ES R->left R q3=left B q->R[C]?=some true->Y [.v v3,.i (ofNat j+1)] k:=λv3 k A3 R q3 I J a3 a4 a5 a6=>y (v3,k,A3,R,q3) u ⟨I,J,a3,a4,a5,a6⟩
   have E:∀K:Int->Prop,P1.x6 .add .u8 (ofNat j) 1 (@i' _ ⟨K⟩)=K (ofNat j+1):=λK=>KB i_ i_;refine sE (p:=kb H.length) (cs:=[.int .i64 (.ofNat w),.int .i64 (.ofNat v),x]) (ds:=[.int .i64 (.ofNat w),.int .i64 (.ofNat v)]) (bF d.p) c_ rfl ?_;refine e_ ?_;refine aj (f2 F r u) ?_;have bn:=jc P;have bs:=d.lb;cases h:y0 w v C j with
   |none=>
    unfold wP;rw[h];refine e_ ?_;rw[E];exact next _ _ _ _ _ d G (D.skip h) N f g
   |some n=>
    unfold wP;rw[h];refine e_ ?_;obtain⟨a,ha⟩:=am (l:=Q) (i:=C) (by rw[d.la];exact r);have bb:=D.bd C a g ha;have aE:=PB F (bF d.p) (bF d.mv) d.mp (bF d.ov) d.lsA r u h ha bb a_;refine jt (iV (args:=[.int .i64 (ofNat C),.int .u8 (ofNat j)]) aE rfl [.leaf (.i .i64 (ofNat C)),.leaf (.i .u8 (ofNat j)),.leaf (.v (kb H.length)),.leaf (.v (kb (H.length+2))),.leaf (.v (kb (H.length+4)))] rfl rfl rfl) ?_;have W:=(cQ F r u h).1;have b0:=(cQ F r u h).2.2.2.2;generalize hm:E_ w l a C n j=m at *;simp only[D5];refine e_ ?_;obtain⟨t,Z⟩:=am (l:=P) (i:=n) a_;refine aQ d.lsB rfl Z ?_;unfold B6;refine e_ ?_;cases t with
    |true=>
     repeat (first|simp(disch:=omega)only[↓n9,EX]|refine dc (bF d.ov) rfl ?_|refine ab d.lsA.h_ ?_)
     obtain⟨b,hb⟩:=am (l:=Q) (i:=n) (by rw[d.la];exact W);refine aQ d.lsA rfl hb ?_;unfold sd;refine e_ ?_;rw[kG];by_cases L:b=m
     .rw[Gs L];simp(disch:=omega)only[↓n9,EX];rw[E];exact next _ _ _ _ _ d G (D.seen h Z ha (by rw[hb,L,hm])) N f g
     .rw[GI L];simp(disch:=omega)only[↓n9,FT];exact⟨d.pre,.inr ⟨rfl,D.tear F r u h g Z ha hb (by rw[hm];exact L)⟩⟩
    |false=>
     repeat (first|simp(disch:=omega)only[↓n9,FT]|refine dc (bF d.ov) rfl ?_|refine ab d.lsA.h_ ?_)
     refine dy (enc:=sd) (l:=Q) (i:=n) (a:=m) di d.ol rfl (by rw[d.la];exact W) d.la rfl ?_;have an:=d.GF (A':=Q.set n m) c_;have bl:=G.ka (h':=oo ad (H.length+3) 3 sd (Q.set n m)) (λj o a0 ho=>by rw[cz a_];exact ho);generalize oo ad (H.length+3) 3 sd (Q.set n m)=k at *;refine k_ ?_;refine dy (enc:=B6) (l:=P) (i:=n) (a:=true) cU an.kn rfl a_ d.lb rfl ?_;have ap:=an.putB (B':=P.set n true) c_;have bm:=bl.ka (h':=oo k (H.length+5) 1 B6 (P.set n true)) (λj o a0 ho=>by rw[cz a_];exact ho);generalize oo k (H.length+5) 1 B6 (P.set n true)=h4' at *;refine k_ ?_;refine r_apQ (n:=n) bm ap.len rfl rfl a_ ?_;intro v5 bx bk be a7 a9;have O:=ap.ka a7 a9
     repeat (first|simp(disch:=omega)only[↓n9]|refine ab be ?_|refine dc (bF O.ov) rfl ?_|refine ab O.lsA.h_ ?_)
     refine aQ O.lsA (a:=m) rfl (Ia (by rw[d.la];exact W)) ?_;unfold sd;simp(disch:=omega)only[↓n9]
     try rw[kG,Gs rfl]
     simp(disch:=omega)only[↓n9,EX];rw[E];refine next _ _ _ _ _ O bk ?_ ?_ ?_ ?_
     .rw[←hm];exact D.fresh F d.la d.lb r u h g Z ha
     .rw[ic Z];simp;omega
     .rw[←f];have:=jc (P.set n true);unfold left;rw[ic Z]at this ⊢
      grind
     simp_all)
 grind
def bW(c:Cl):Tn:=[.int .i64 c.1,.int .i64 c.2.1,.int .u8 (ofNat c.2.2)]
def cK(c:Cl):(bW c).length=3:=rfl
def wO{m:Mv}{n:Int}(a:DV n m){c:Cl}{k:Int}(b:-k<=c.1/\c.1<=k/\-k<=c.2.1/\c.2.1<=k):-(n+k+1)<=(ar m c).1/\(ar m c).1<=n+k+1/\-(n+k+1)<=(ar m c).2.1/\(ar m c).2.1<=n+k+1/\(ar m c).2.2<4:=by
 have d:=Mb a.1 b;have e:=a.2;unfold ar;simp only;refine⟨?_,?_,?_,?_,dR⟩<;>split<;>omega
def O'(m:Mv):Bool:=decide (-16384<=m.2.1/\m.2.1<=16384/\-16384<=m.2.2/\m.2.2<=16384)
def K7(c:Cl):Bool:=decide (-4096<=c.1/\c.1<=4096/\-4096<=c.2.1/\c.2.1<=4096)
def p4{n:Int}{m:Mv}(h:DV n m)(a:O' m=true):DV 16384 m:=by
 unfold O' at a;rw[E6]at a;exact⟨h.1,a.1,a.2.1,a.2.2.1,a.2.2.2,h.2.2.2.2.2⟩
def Z4(t x y:Int):Bool:=decide (t<8/\(-16384<=x/\x<=16384)/\(-16384<=y/\y<=16384)/\(x+y)%2=0)
def rI{n:Int}:Cc 121 [.i n] [.b (!decide (-16384<=n/\n<=16384))]:=by
 refine q121 rfl ?_;unfold Us;simp only[ub];refine e_ ?_;by_cases a:n < -16384
 .rw[ua (show n < -16384 by omega)];refine e_ ?_
  simp_all
 .rw[v_ (show(-16384:Int)<=n by omega)];refine e_ ?_;by_cases c:n<=16384
  .rw[CX a_];refine e_ ?_
   simp_all
  .rw[DI a_];refine e_ ?_
   simp_all
def AB{t x y:Int}(g:0<=t/\t<=255):Cc 104 [.i t,.i x,.i y] [.i (if Z4 t x y then 0 else 1)]:=by
 by_cases a:Z4 t x y=true
 .rw[qs a];unfold Z4 at a;rw[E6]at a;exact RB ⟨g.1,a.1⟩ a.2.1 a.2.2.1 a.2.2.2
 .rw[rv a];unfold Z4 at a;rw[E6]at a;refine q104 rfl ?_;unfold Uq;simp only[ub];refine e_ ?_;by_cases f:8<=t
  .rw[G8 f];simp(disch:=omega)only[↓n9]
   try rfl
  rw[G7 a_]
  repeat (first|simp(disch:=omega)only[↓n9]|refine aj rI ?_)
  by_cases b:-16384<=x/\x<=16384
  case neg=>
   rw[GI b];simp(disch:=omega)only[↓n9,FT]
   try rfl
  rw[Gs b]
  repeat (first|simp(disch:=omega)only[↓n9,EX]|refine aj rI ?_)
  by_cases c:-16384<=y/\y<=16384
  case neg=>
   rw[GI c];simp(disch:=omega)only[↓n9,FT]
   try rfl
  rw[Gs c];simp(disch:=omega)only[↓n9,EX];have j:(x+y)%2≠0:=λe=>a ⟨a_,b,c,e⟩;rcases qdu 0 (x+y)with d|d
  .repeat (first|simp(disch:=omega)only[↓n9]|rw[Gj d a_])
   try rfl
  .have h:-(-(x+y)%2)≠0:=a_
   repeat (first|simp(disch:=omega)only[↓n9]|rw[Hv d a_])
   try rfl
def On{m:Mv}{n:Int}(h:DV n m)(c:n<=100000):Cc 128 (D5 m) (if O' m then D5 m++[.i 0]else [.i 0,.i 0,.i 0,.i 3]):=by
 refine q128 rfl ?_;unfold Ut;simp only[ub]
 repeat (first|simp(disch:=omega)only[↓n9]|refine aj (AB (by have:=h.1;grind)) ?_)
 have e:Z4 (ofNat m.1) m.2.1 m.2.2=O' m:=by
  have a:=h.1;have b:=h.2.2.2.2.2;unfold Z4 O'
  grind
 rw[e];cases O' m with
 |true=>
  simp only[if_true];simp(disch:=omega)only[↓n9]
  try rfl
 |false=>
  simp only[Fh,if_false];simp(disch:=omega)only[↓n9]
  try rfl
def v5{a b:Mv}(c:DV 2000 a)(d:DV 16384 b):Cc 106 (D5 a++D5 b) (if O' (af a b)then D5 (af a b)++[.i 0]else [.i 0,.i 0,.i 0,.i 3]):=by
 have e:=eS c d;refine q106 rfl ?_;unfold Ur;simp only[ub];simp only[D5,EQ,EG]
 repeat (first|simp(disch:=omega)only[↓n9]|refine aj (wM c a_) ?_|refine aj (wM d a_) ?_|refine ae (Cg d.1) ?_|refine ae (wX d.1) ?_|refine aj (RG d.1 ⟨by have:=c.2;omega,by have:=c.2;omega,by have:=c.2;omega,by have:=c.2;omega⟩) ?_|refine ae (Cg c.1) ?_|refine ae (wX c.1) ?_|refine aj (Np c.1 d.1) ?_|refine aj (RO bR) ?_)
 have k:=e;obtain⟨_,f,g,h,j,_⟩:=k;unfold af at f g h j;simp only at f g h j;rw[Gi a_ a_,Gi a_ a_];refine aj (On (m:=af a b) e a_) ?_;cases O' (af a b)with
 |true=>
  simp only[if_true];simp only[D5,EQ,EG];simp(disch:=omega)only[↓n9]
  try rfl
 |false=>
  simp only[Fh,if_false];simp(disch:=omega)only[↓n9]
  try rfl
def P7{c:Cl}(b:c.2.2<4):Cc 31 (Et c) [.i (if K7 c then 0 else 1)]:=by
 by_cases a:K7 c=true
 .rw[qs a];unfold K7 at a;rw[E6]at a;exact P8 ⟨a.1,a.2.1,a.2.2.1,a.2.2.2,b⟩
 .rw[rv a];unfold K7 at a;rw[E6]at a;refine q31 rfl ?_;unfold f31;simp only[ub];simp only[Et];refine e_ ?_;by_cases d:c.1 < -4096
  .repeat (first|simp(disch:=omega)only[↓n9])
   try rfl
  by_cases e:4096<c.1
  .repeat (first|simp(disch:=omega)only[↓n9])
   try rfl
  by_cases f:c.2.1 < -4096
  .repeat (first|simp(disch:=omega)only[↓n9])
   try rfl
  .have g:4096<c.2.1:=a_
   repeat (first|simp(disch:=omega)only[↓n9])
   try rfl
def RI{m:Mv}(b:DV 16384 m){c:Cl}(a:-1000<=c.1/\c.1<=1000/\-1000<=c.2.1/\c.2.1<=1000/\c.2.2<4):Cc 82 (D5 m++Et c) (if K7 (ar m c)then Et (ar m c)++[.i 0]else [.i 0,.i 0,.i 0,.i 3]):=by
 have d:=wO b (k:=1000) ⟨a.1,a.2.1,a.2.2.1,a.2.2.2.1⟩;refine q82 rfl ?_;unfold f82;simp only[ub];simp only[D5,Et,EQ,EG]
 repeat (first|simp(disch:=omega)only[↓n9]|refine aj (wM b a_) ?_|refine aj (P8 (c:=c) ⟨a_,a_,a_,a_,a.2.2.2.2⟩) ?_)
 refine aj (W6 b a) ?_;simp only[Et];refine e_ ?_;refine aj (P7 (c:=ar m c) d.2.2.2.2) ?_;cases K7 (ar m c)with
 |true=>
  simp only[if_true];simp(disch:=omega)only[↓n9]
  try rfl
 |false=>
  simp only[Fh,if_false];simp(disch:=omega)only[↓n9]
  try rfl
def Hb.eq{w v:Nat}{l:TD}{A:TO}(g:Sh w v)(hA:Hb w v l A){G:TH}(f:mz w v l G)(h0:G 0=CW):∀c,c<4*w*v->A[c]?=some (G c):=
 yG g (by rw[h0];exact hA.a0) λc e n a b d h=>by rw[f c e n a b d];exact hA.cons c e n _ a b d h
def EW(w v:Nat)(G:TH)(r:Mv):TO:=(range (4*w*v)).map λc=>af (G c) r
abbrev _root_.TM:=List Cl
def z_(w v:Nat)(G:TH)(r:Mv):TM:=(range (4*w*v)).map λc=>ar (af (G c) r) (pu w c)
def kY{w v:Nat}{G:TH}{r:Mv}{c:Nat}(h:c<4*w*v):(EW w v G r)[c]?=some (af (G c) r):=by
 unfold EW
 simp_all
def cv{w v:Nat}{G:TH}{r:Mv}{c:Nat}(h:c<4*w*v):(z_ w v G r)[c]?=some (ar (af (G c) r) (pu w c)):=by
 unfold z_
 simp_all
def take_set{j7:Type}{L A:List j7}{j:Nat}{a:j7}(b:L[j]?=some a)(c:L.length=A.length):(L.take j++A.drop j).set j a=L.take (j+1)++A.drop (j+1):=by
 have e:=ai b;have d:(L.take j).length=j:=i_;rw[g3 _ _ a_,d,SA,Pg a_,qcI,IB,b];simp
def WV{j7:Type}{L A:List j7}{j:Nat}{a:j7}(hA:A[j]?=some a)(b:L.length=A.length):(L.take j++A.drop j)[j]?=some a:=by
 grind
def yA{j7:Type}{L A:List j7}{j:Nat}(a:L.length=A.length)(b:j<=L.length):(L.take j++A.drop j).length=A.length:=by
 simp_all
def dZ{j7:Type}{e cx n:Nat}{enc:j7->Tn}(b:∀a,(enc a).length=e){h:HL}{id:Nat}{L:List j7}(d:h[id]?=some (.o (.cells (L.flatMap enc) e true)))(f:n=L.length):q9 h (.slice (some ⟨id,0,le e⟩) n cx) e enc L:=by
 subst f;have c:=aM (e:=e) (enc:=enc) (l:=L) λa _=>b a;exact⟨λa _=>b a,c,.inr ⟨id,0,cx,_,true,rfl,d,Sx.vd c⟩⟩
def Ful{j7:Type}(h:HL)(x:Value)(e:Nat)(enc:j7->Tn)(l:List j7):Prop:=∃id,x = .slice (some ⟨id,0,le e⟩) l.length (l.length+1)/\h[id]?=some (.o (.cells (l.flatMap enc) e true))
def Ful.ls{j7:Type}{h:HL}{x:TR}{e:Nat}{enc:j7->Tn}{l:List j7}(b:∀a,(enc a).length=e)(d:Ful h x e enc l):q9 h x e enc l:=by
 obtain⟨id,rfl,c⟩:=d;exact dZ b c rfl
abbrev rA:Value:=.slice none 0 0
def Ik(w:Nat)(G:TH)(r:Mv)(n:Nat):Prop:=∀c,c<n->O' (af (G c) r)=true/\K7 (ar (af (G c) r) (pu w c))=true
def Ik.succ{w:Nat}{G:TH}{r:Mv}{n:Nat}(h:Ik w G r n)(h1:O' (af (G n) r)=true)(a:K7 (ar (af (G n) r) (pu w n))=true):Ik w G r (n+1):=λc b=>by
 by_cases e:c=n
 .simp_all
 .exact h c a_
structure A2(w v:Nat)(l:TD)(G:TH):Prop where
 g:mz w v l G
 z:G 0=CW
 ok:∀c,c<4*w*v->DV 2000 (G c)
def Hb.consO{w v:Nat}(k:Sh w v){l:TD}{A:TO}(h:Hb w v l A):A2 w v l (λc=>A.getD c CW):=by
 have m:=Gp k;have d:∀c,c<4*w*v->A[c]?=some (A.getD c CW):=λc b=>by
  obtain⟨a,o⟩:=am (l:=A) (i:=c) (by rw[h.len];exact b)
  simp_all
 refine⟨λc e n b g j=>?_,?_,λc b=>h.ok _ (A9 (d c b))⟩
 .have f:=h.cons c e n _ b g j (d c b)
  grind
 .have f:=h.a0
  grind
def dS{w v:Nat}(a:Sh w v){j:Nat}(e:j<4*w*v):-1000<=(pu w j).1/\(pu w j).1<=1000/\-1000<=(pu w j).2.1/\(pu w j).2.1<=1000/\(pu w j).2.2<4:=by
 have d:=Gp a;have b:j / 4%w<=j / 4:=qdH _ _;have c:j / 4 / w<=j / 4:=qc2 _ _;refine⟨?_,?_,?_,?_,KK _ a_⟩
 .exact Int.le_trans (show(-1000:Int)<=0 by decide) (G9 _)
 .exact qdv.2 (show j / 4%w<=1000 by omega)
 .exact Int.le_trans (show(-1000:Int)<=0 by decide) (G9 _)
 .exact qdv.2 (show j / 4 / w<=1000 by omega)
def Yx(w v:Nat)(l:TD)(r:Mv)(a:TG)(h':HL):Prop:=
 (a=[.v rA,.v rA,.i 11]/\¬ ∃G,mz w v l G/\G 0=CW)∨
 ∃G,A2 w v l G/\((a=[.v rA,.v rA,.i 3]/\¬Ik w G r (4*w*v))∨
  (∃b ix,a=[.v b,.v ix,.i 0]/\Ik w G r (4*w*v)/\Ful h' b 3 sd (EW w v G r)/\Ful h' ix 3 bW (z_ w v G r)))
def P5{w v:Nat}(f:Sh w v){l:TD}(hk:(l.map aS).Nodup)(ag:l.length<=1000){H:HL}{x:TR}(hl:q9 H x 3 mi l)(ad:aF cc ac 27 [.i (.ofNat w),.i (.ofNat v),.v x] (h9 aa H) [.i 0] (h9 aa H))
  {r:Mv} (hr:DV 16384 r) :
  ∃U h',aF cc ac 78 ([.i (.ofNat w),.i (.ofNat v),.v x]++D5 r) (h9 aa H) U (h9 aa h')/\u_ H h'/\Yx w v l r U h':=by
 have hN:=Gp f;obtain⟨a2,p,c1,d,P⟩:=CA f hk ag hl;have a1:=x78 (ls:=[.i (.ofNat w),.i (.ofNat v),.v x,.i (ofNat r.1),.i r.2.1,.i r.2.2]) (K:=λU h'=>u_ H h'/\Yx w v l r U h') (H:=H) (mc (mc (pP hl.h_ (mc (mc (mc t0)))))) (by
  unfold f78;simp only[ub]
  repeat (first|simp(disch:=omega)only[↓n9]|refine ak ad ?_|refine aj (wM hr a_) ?_)
  refine ak c1 ?_;rcases P with⟨A,id,rfl,i',O,hA⟩|⟨rfl,al⟩
  case inr=>
   refine e_ ?_;exact⟨d,.inl ⟨D',al⟩⟩
  refine e_ ?_;have I:=hA.consO f;generalize a0:(λc=>A.getD c CW)=G at I;have V:=hA.eq f I.g I.z;have t:(EW w v G r).length=A.length:=by rw[hA.len];simp[EW]
  have hI:(z_ w v G r).length=4*w*v:=by simp[z_]
  have ax:=ai O;refine ae (x:=ofNat (4*w*v)) rfl ?_;refine ae (dF a_) ?_;refine e_ ?_;rw[show(ofNat (4*w*v)).toNat=4*w*v from rfl];have z0:HO.o (.cells (aL [.int .i64 0,.int .i64 0,.int .u8 0] (4*w*v)) 3 true)=HO.o (.cells ((replicate (4*w*v) ((0,0,0):Cl)).flatMap bW) 3 true):=by
   rw[←cO (enc:=bW) (z:=((0,0,0):Cl)) (n:=4*w*v)];rfl
  rw[z0];refine ae (x:=ofNat (4*w*v)) rfl ?_;have hZ:(z_ w v G r).length=(replicate (4*w*v) ((0,0,0):Cl)).length:=by rw[hI];simp
  have k:(p++[HO.o (.cells ((replicate (4*w*v) ((0,0,0):Cl)).flatMap bW) 3 true)])[id]?=some (.o (.cells (A.flatMap sd) 3 true)):=u_.get ⟨_,rfl⟩ O;have J:(p++[HO.o (.cells ((replicate (4*w*v) ((0,0,0):Cl)).flatMap bW) 3 true)])[p.length]?=some (HO.o (.cells ((replicate (4*w*v) ((0,0,0):Cl)).flatMap bW) 3 true)):=aK;have L:u_ H (p++[HO.o (.cells ((replicate (4*w*v) ((0,0,0):Cl)).flatMap bW) 3 true)]):=d.Gq _;have N:p.length≠id:=a_;have M:H.length<=p.length:=d.len;generalize replicate (4*w*v) ((0,0,0):Cl)=Z at *;generalize p++[HO.o (.cells (Z.flatMap bW) 3 true)]=h2 at *;generalize p.length=iX at *;refine bK (g9:=HL) (4*w*v) (λj _=>[.i (ofNat j)]) (λ_ s=>s) (λj s=>u_ H s/\s[id]?=some (.o (.cells (((EW w v G r).take j++A.drop j).flatMap sd) 3 true))/\s[iX]?=some (.o (.cells (((z_ w v G r).take j++Z.drop j).flatMap bW) 3 true))/\Ik w G r j) (j0:=0) (s0:=h2) rfl rfl (D6 _) ⟨L,by simpa using k,by simpa using J,λc hc=>a_⟩ ?_;clear k J L;rintro j h hj ⟨L,k,J,u⟩ aE C;refine e_ ?_;by_cases b:j<4*w*v
  .rw[aO b];refine e_ ?_;have ha:=V j b;have X:=kY (G:=G) (r:=r) b;have W:=cv (G:=G) (r:=r) b;have e:=yA (j:=j) t (by rw[t,hA.len];omega);have ay:=yA (j:=j) hZ a_;refine aQ (dZ di k (by rw[e,hA.len])) rfl (WV ha t) ?_;unfold sd;refine e_ ?_;refine aj (J5 (sW w v f.1 f.2.1 f.2.2.1 f.2.2.2) b) ?_;unfold vE;refine e_ ?_;have Q:DV 2000 (G j):=hA.ok _ (A9 ha);have av:=eS Q hr;refine aj (v5 Q hr) ?_;cases D:O' (af (G j) r)with
   |false=>
    simp only[Fh,if_false]
    repeat (first|simp(disch:=omega)only[↓n9]|refine dy (enc:=sd) (l:=(EW w v G r).take j++A.drop j) (i:=j) (a:=CW) di k rfl i_ (by rw[e,hA.len]) rfl ?_)
    exact⟨ju L i',.inr ⟨G,I,.inl ⟨D',λq=>by rw[(q j b).1]at D;cases D⟩⟩⟩
   |true=>
   simp only[if_true];have y:O' (af (G j) r)=true:=D;have R:=p4 av y;have B:=dS f b;have an:=y;generalize hm:af (G j) r=m at *;simp only[D5,EQ,EG];refine e_ ?_;refine dy (enc:=sd) (l:=(EW w v G r).take j++A.drop j) (i:=j) (a:=m) di k rfl i_ (by rw[e,hA.len]) rfl ?_;rw[take_set X t];have S:(oo h id 3 sd ((EW w v G r).take (j+1)++A.drop (j+1)))[id]?=some (.o (.cells (((EW w v G r).take (j+1)++A.drop (j+1)).flatMap sd) 3 true)):=bL (ai k);have F:(oo h id 3 sd ((EW w v G r).take (j+1)++A.drop (j+1)))[iX]?=some (.o (.cells (((z_ w v G r).take j++Z.drop j).flatMap bW) 3 true)):=by rw[cz N];exact J
   have T:u_ H (oo h id 3 sd ((EW w v G r).take (j+1)++A.drop (j+1))):=ju L i';generalize oo h id 3 sd ((EW w v G r).take (j+1)++A.drop (j+1))=h3 at *;refine e_ ?_;have E:=yA (j:=j+1) t (by rw[t,hA.len];omega);refine aQ (a:=m) (dZ di S (by rw[E,hA.len])) rfl ?_ ?_
   .grind
   unfold sd;refine e_ ?_;refine aj (RI (c:=pu w j) R B) ?_;cases ap:K7 (ar m (pu w j))with
   |false=>
    simp only[Fh,if_false]
    repeat (first|simp(disch:=omega)only[↓n9]|refine dy (enc:=bW) (l:=(z_ w v G r).take j++Z.drop j) (i:=j) (a:=((0,0,0):Cl)) cK F rfl a_ a_ rfl ?_)
    exact⟨ju T M,.inr ⟨G,I,.inl ⟨D',λq=>by
     have:=(q j b).2
     simp_all⟩⟩⟩
   |true=>
   simp only[if_true];generalize Y:ar m (pu w j)=ci at *;simp only[Et,EQ,EG];refine e_ ?_;refine dy (enc:=bW) (l:=(z_ w v G r).take j++Z.drop j) (i:=j) (a:=ci) cK F rfl a_ a_ rfl ?_;rw[take_set W hZ];refine e_ ?_;rw[aU a_];refine C _ b ⟨ju T M,by rw[cz (Ej N)];exact S,bL (ai F),u.succ (by rw[hm];exact an) (by rw[hm,Y];exact ap)⟩
  .obtain rfl:j=4*w*v:=a_;rw[aN (B8 _)];refine e_ ?_;rw[IW (by rw[t,hA.len];omega),h7 (by rw[hA.len];omega),HF]at k;rw[IW a_,h7 a_,HF]at J;have e1:(EW w v G r).length=4*w*v:=by rw[t,hA.len]
   refine⟨L,.inr ⟨G,I,.inr ⟨_,_,rfl,u,⟨id,?_,k⟩,⟨iX,?_,J⟩⟩⟩⟩
   .rw[e1]
   .rw[hI];rfl)
 grind
structure BothC(ls:TG)(H:HL)(lx ix:Value)(e:Int)(h1:HL):Prop where
 c:aF cc ac 78 ls (h9 aa H) [.v lx,.v ix,.i e] (h9 aa h1)
 p:u_ H h1
 g1:aI lx=true
 g2:aI ix=true
section
variable {w v t a b e:Int} {x lx ix:Value} {H h1:HL} (hx:aI x=true) (hb:BothC [.i w,.i v,.v x,.i t,.i a,.i b] H lx ix e h1)
include hx hb
theorem Sn:aF cc ac 81 [.i w,.i v,.v x,.i t,.i a,.i b] (h9 aa H) [.v lx,.i e] (h9 aa h1):=by
 exact xK x81 (mc (mc (pP hx (mc (mc (mc t0)))))) (by
  unfold f81;simp only[ub]
  repeat (first|simp(disch:=omega)only[↓n9]|refine ak hb.c ?_)
  simp_all)
theorem Q1:aF cc ac 45 [.i w,.i v,.v x,.i t,.i a,.i b] (h9 aa H) [.v ix,.i e] (h9 aa h1):=by
 exact xK x45 (mc (mc (pP hx (mc (mc (mc t0)))))) (by
  unfold f45;simp only[ub]
  repeat (first|simp(disch:=omega)only[↓n9]|refine ak hb.c ?_)
  simp_all)
end
section
variable {w v:Nat} {l:TD} {A:TO} {B:Ty} {q:TC}
def JS.begin{c0:Nat}(h:JS w v l A B q λ_ _=>True):JS w v l A B (q.filter λc=>!Nat.beq c c0) λc e=>c=c0->False:=by
 refine⟨h.a0,h.b0,λc a=>h.q1 c (GH.1 a).1,λc e n i a d f b g=>?_,h.bd,h.un⟩;refine h.dn c e n trivial a d f b λj=>g ?_
 simp_all
def JS.skipP{c0 j:Nat}{P:Tz}(h:JS w v l A B q λc e=>c=c0->P e)(m:y0 w v c0 j=none):JS w v l A B q λc e=>c=c0->P e∨e=j:=by
 refine⟨h.a0,h.b0,h.q1,λc e n k d g a b i=>?_,h.bd,h.un⟩;refine h.dn c e n (λf=>?_) d g a b i
 grind
def JS.seenP{c0 j n:Nat}{a:Mv}{P:Tz}(h:JS w v l A B q λc e=>c=c0->P e)(x:y0 w v c0 j=some n)(t:B[n]?=some true)(s:A[c0]?=some a)(u:A[n]?=some (E_ w l a c0 n j)):JS w v l A B q λc e=>c=c0->P e∨e=j:=by
 refine⟨h.a0,h.b0,h.q1,λc e r m k o i d p=>?_,h.bd,h.un⟩;by_cases f:c=c0/\e=j
 .simp_all
 .exact h.dn c e r (λb=>(m b).resolve_right λg=>f ⟨b,g⟩) k o i d p
def JS.freshP(J:Sh w v){c0 j n:Nat}{a:Mv}{P:Tz}(h:JS w v l A B q λc e=>c=c0->P e)(O:A.length=4*w*v)(Q:B.length=4*w*v)(i:c0<4*w*v)(C:j<3)(D:y0 w v c0 j=some n)(p:B[c0]?=some true)(L:B[n]?=some false)(H:A[c0]?=some a) :
  JS w v l (A.set n (E_ w l a c0 n j)) (B.set n true) (q++[n]) λc e=>c=c0->P e∨e=j:=by
 obtain⟨X,_,_,_,Y⟩:=cQ J i C D;have K:(B.set n true)[n]?=some true:=Ia a_;have m:(A.set n (E_ w l a c0 n j))[n]?=some (E_ w l a c0 n j):=Ia a_;have s:∀c,c≠n->(B.set n true)[c]?=B[c]?:=λc g=>IA (Ej g);have hA:∀c,c≠n->(A.set n (E_ w l a c0 n j))[c]?=A[c]?:=λc g=>IA (Ej g);have k:(0:Nat)≠n:=λe=>by have:=h.b0;simp_all
 have F:DV (20*(ES B:Int)) a:=h.bd c0 a p H;refine⟨by rw[hA 0 k];exact h.a0,by rw[s 0 k];exact h.b0,λc g=>?_,λc e S M g N E f I=>?_,λc t f d=>?_,λG u o c t f d=>?_⟩
 .rcases Fs.1 g with g|g
  .have:=h.q1 c g
   grind
  simp_all
 .have b:c≠n:=λe=>I (by rw[e];simp);have y:c∉q:=λR=>I (KF _ R);rw[s c b]at f;by_cases x:c=c0/\e=j
  .simp_all
  .obtain⟨U,T,V,W⟩:=h.dn c e S (λr=>(M r).resolve_right λz=>x ⟨r,z⟩) g N E f y
   grind
 .rw[ic L];by_cases b:c=n
  .rw[b,m]at d;cases d;exact aZ (zF J i C D F a_) a_
  .rw[s c b]at f;rw[hA c b]at d;exact aZ (h.bd c t f d) a_
 .by_cases b:c=n
  .rw[b,m]at d;cases d;rw[b,u c0 j n i C D,←h.un G u o c0 a p H]
  .rw[s c b]at f;rw[hA c b]at d;exact h.un G u o c t f d
def JS.doneP{c0:Nat}{P:Tz}(h:JS w v l A B q λc e=>c=c0->P e)(g:∀e,e<3->P e):JS w v l A B q λ_ _=>True:=
 ⟨h.a0,h.b0,h.q1,λc e n _ d a f b i=>h.dn c e n (λ_=>g e a) d a f b i,h.bd,h.un⟩
def JS.Mn{c0:Nat}{P Q:Tz}(h:JS w v l A B q λc e=>c=c0->P e)(i:∀e,Q e->P e):JS w v l A B q λc e=>c=c0->Q e:=
 ⟨h.a0,h.b0,h.q1,λc e n d a f g b j=>h.dn c e n (λa=>i e (d a)) a f g b j,h.bd,h.un⟩
end
def eK(q k:Nat):Nat:=if k=0 then 0 else if decide (q%2=0)=decide (k=1)then 1 else 2
def iL(q k:Nat):eK q k<3:=by
 unfold eK
 grind
def y6{q:Nat}(e:Nat)(c:e<3):∃k,k<3/\eK q k=e:=by
 have a:q%2=0∨q%2=1:=a_;have b:e=0∨e=1∨e=2:=a_;rcases a with a|a<;>rcases b with rfl|rfl|rfl
 .exact⟨0,a_,rfl⟩
 .exact⟨1,a_,by simp[eK,a]⟩
 .exact⟨2,a_,by simp[eK,a]⟩
 .exact⟨0,a_,rfl⟩
 .exact⟨2,a_,by simp[eK,a]⟩
 .exact⟨1,a_,by simp[eK,a]⟩
def EP(m:Mv)(p:Int×Int):Int×Int:=(mA m.1*p.1+mB m.1*p.2+6*m.2.1,mC m.1*p.1+mD m.1*p.2+6*m.2.2)
def s5(q:Nat):Int:=match q with
 |0=>3
 |1=>5
 |2=>3
 |_=>1
def kg(q:Nat):Int:=match q with
 |0=>1
 |1=>3
 |2=>5
 |_=>3
def DY(c:Cl):Int×Int:=(6*c.1+s5 c.2.2,6*c.2.1+kg c.2.2)
def atQ(x y:Int):Nat:=if y<x/\x+y<6 then 0 else if y<x then 1 else if 6<x+y then 2 else 3
def eP(p:Int×Int):Cl:=(p.1 / 6,p.2 / 6,atQ (p.1 - 6*(p.1 / 6)) (p.2 - 6*(p.2 / 6)))
def FE{q:Nat}(h:q<4):q=0∨q=1∨q=2∨q=3:=a_
def m5{m:Mv}{c:Cl}(a:m.1<8)(b:c.2.2<4):eP (EP m (DY c))=ar m c:=by
 obtain⟨t,X,Y⟩:=m;obtain⟨x,y,q⟩:=c;simp only at a b;rcases t8 a with rfl|rfl|rfl|rfl|rfl|rfl|rfl|rfl<;>rcases FE b with rfl|rfl|rfl|rfl
 all_goals
  simp only[eP,EP,DY,s5,kg,mA,mB,mC,mD,ar,qT];refine SF ?_ (SF ?_ ?_)
  .simp;omega
  .simp;omega
  .simp only[atQ]
   grind
end Go.Am
namespace Go.Am
open Sx
def Wx{a b:Mv}(c:a.1<8)(d:b.1<8)(p:Int×Int):EP b (EP a p)=EP (af a b) p:=by
 obtain⟨s,X,Y⟩:=a;obtain⟨t,U,V⟩:=b;obtain⟨x,y⟩:=p;simp only at c d;rcases t8 c with rfl|rfl|rfl|rfl|rfl|rfl|rfl|rfl<;>rcases t8 d with rfl|rfl|rfl|rfl|rfl|rfl|rfl|rfl
 all_goals
  simp[EP,af,DE,mA,mB,mC,mD];omega
def WS{s t:Nat}(d:s<8)(e:t<8)(h1:mA s=mA t)(a:mC s=mC t)(b:mB s=mB t)(c:mD s=mD t):s=t:=by
 rcases t8 d with rfl|rfl|rfl|rfl|rfl|rfl|rfl|rfl<;>rcases t8 e with rfl|rfl|rfl|rfl|rfl|rfl|rfl|rfl
 all_goals first
  |rfl
  |(exfalso;simp[mA,mB,mC,mD]at h1 a b c)
end Go.Am
namespace Go.Am
open Sx Go.Proofs
def IR(w v c k:Nat):Int:=match y0 w v c (eK (c%4) k)with
 |some n=>ofNat n
 |none=>-1
def cb(w v c k:Nat):Bool:=match y0 w v c (eK (c%4) k)with
 |some n=>jC 77 (Et (pu w c)++Et (pu w n)) (D5 (Do (q8 (pu w c) (eK (c%4) k))))
 |none=>true
def JF(w v c k:Nat):Bool:=jC 70 [.i (.ofNat w),.i (.ofNat v),.i (.ofNat c),.i (.ofNat k)] [.i (IR w v c k)]&&(jC 101 (Et (pu w c)++[.i (.ofNat k)]) (Et (EO (pu w c) (eK (c%4) k)))&&(jC 100 [.i (.ofNat w),.i (.ofNat v),.i (.ofNat c),.i (.ofNat k)] [.i (.ofNat (eK (c%4) k))]&&cb w v c k))
def tab4(w v:Nat):Bool:=(range (4*w*v)).all λc=>jC 35 [.i (.ofNat w),.i (.ofNat v),.i (.ofNat c)] (Et (pu w c))&&(range 3).all λk=>JF w v c k
def all4:∀w v:Nat,1<=w->w<=3->1<=v->v<=3->tab4 w v=true:=by
 have a:((range 3).all λw=>(range 3).all λv=>tab4 (w+1) (v+1))=true:=d_;intro w v c d e f;have b:=A_.1 a (w - 1) (CY.2 a_);have g:=A_.1 b (v - 1) (CY.2 a_)
 simp_all
def S3(w v:Nat):Prop:=1<=w/\w<=3/\1<=v/\v<=3
def S3.sh{w v:Nat}(h:S3 w v):Sh w v:=⟨h.1,by have:=h.2.1;omega,h.2.2.1,by have:=h.2.2.2;omega⟩
section
variable {w v c k:Nat}
def vq(h:S3 w v)(a:c<4*w*v):jC 35 [.i (.ofNat w),.i (.ofNat v),.i (.ofNat c)] (Et (pu w c))=true/\∀k,k<3->JF w v c k=true:=by
 have:=A_.1 (all4 w v h.1 h.2.1 h.2.2.1 h.2.2.2) c (CY.2 a)
 simp_all
def lu(h:S3 w v)(a:c<4*w*v):Cc 35 [.i (.ofNat w),.i (.ofNat v),.i (.ofNat c)] (Et (pu w c)):=dN (vq h a).1 rfl d_ rfl
def AJ(h:S3 w v)(a:c<4*w*v)(b:k<3):Cc 70 [.i (.ofNat w),.i (.ofNat v),.i (.ofNat c),.i (.ofNat k)] [.i (IR w v c k)]:=by
 have:=(vq h a).2 k b;unfold JF at this;rw[te]at this;exact dN this.1 rfl d_ rfl
def Qt(h:S3 w v)(a:c<4*w*v)(b:k<3):Cc 100 [.i (.ofNat w),.i (.ofNat v),.i (.ofNat c),.i (.ofNat k)] [.i (.ofNat (eK (c%4) k))]:=by
 have:=(vq h a).2 k b;unfold JF at this;rw[te,te,te]at this;exact dN this.2.2.1 rfl d_ rfl
def WW(h:S3 w v)(a:c<4*w*v)(b:k<3){n:Nat}(d:y0 w v c (eK (c%4) k)=some n):Cc 77 (Et (pu w c)++Et (pu w n)) (D5 (Do (q8 (pu w c) (eK (c%4) k)))):=by
 have:=(vq h a).2 k b;unfold JF cb at this;rw[te,te,te,d]at this;exact dN this.2.2.2 rfl d_ rfl
end
def g5:ofNat 0=0:=rfl
def p1:ofNat 1=1:=rfl
def cf:ofNat 2=2:=rfl
def hK:ofNat 3=3:=rfl
def hg:ofNat 4=4:=rfl
def b5:ofNat 5=5:=rfl
def o2:ofNat 6=6:=rfl
def bP:ofNat 7=7:=rfl
def wn{m:Mv}{x y:Int}(a:m.1<8)(b:-100000<=m.2.1/\m.2.1<=100000/\-100000<=m.2.2/\m.2.2<=100000)(c:-10000000<=x/\x<=10000000/\-10000000<=y/\y<=10000000):Cc 73 (D5 m++[.i x,.i y]) [.i (EP m (x,y)).1,.i (EP m (x,y)).2]:=by
 obtain⟨t,X,Y⟩:=m;simp only at a b;refine q73 rfl ?_;unfold f73;simp only[ub];simp only[D5,EQ,EG];rcases t8 a with rfl|rfl|rfl|rfl|rfl|rfl|rfl|rfl
 all_goals
  simp only[g5,p1,cf,hK,hg,b5,o2,bP]
  repeat (first|simp(disch:=omega)only[↓n9]|refine AW 5 ?_)
  simp only[EP,mA,mB,mC,mD,IU,Lf.i.injEq,and_true];omega
def sa{c:Cl}(a:c.2.2<4)(b:-100000<=c.1/\c.1<=100000/\-100000<=c.2.1/\c.2.1<=100000):Cc 72 (Et c) [.i (DY c).1,.i (DY c).2]:=by
 obtain⟨x,y,q⟩:=c;simp only at a b;refine q72 rfl ?_;unfold f72;simp only[ub];simp only[Et];have d:Cc 102 [.i x,.i y,.i (ofNat q)] (match q with
  |0=>[.i (6*x+3),.i (6*y+3),.i (6*x),.i (6*y),.i (6*x+6),.i (6*y)]
  |1=>[.i (6*x+3),.i (6*y+3),.i (6*x+6),.i (6*y),.i (6*x+6),.i (6*y+6)]
  |2=>[.i (6*x+3),.i (6*y+3),.i (6*x+6),.i (6*y+6),.i (6*x),.i (6*y+6)]
  |_=>[.i (6*x+3),.i (6*y+3),.i (6*x),.i (6*y+6),.i (6*x),.i (6*y)]):=by
  refine q102 rfl ?_;unfold Ux;simp only[ub];rcases FE a with rfl|rfl|rfl|rfl
  all_goals
   simp only[g5,p1,cf,hK,hg,b5,o2,bP]
   repeat (first|simp(disch:=omega)only[↓n9] )
 rcases FE a with rfl|rfl|rfl|rfl
 all_goals
  repeat (first|simp(disch:=omega)only[↓n9]|refine aj d ?_)
  simp only[DY,s5,kg,IU,Lf.i.injEq,and_true];omega
def tL{a:Int}(h:-100000000<=a/\a<=100000000):Cc 74 [.i a,.i 6] [.i (a / 6)]:=by
 refine q74 rfl ?_;unfold f74;simp only[ub];by_cases b:a<0
 .repeat (first|simp(disch:=omega)only[↓n9]|rw[Hu a_ a_ a_])
  simp only[IU,Lf.i.injEq,and_true];omega
 .repeat (first|simp(disch:=omega)only[↓n9]|rw[Hu a_ a_ a_])
def sT{x y:Int}(h:-100000000<=x/\x<=100000000/\-100000000<=y/\y<=100000000):Cc 75 [.i x,.i y] (Et (eP (x,y))):=by
 refine q75 rfl ?_;unfold f75;simp only[ub]
 repeat (first|simp(disch:=omega)only[↓n9]|refine aj (tL a_) ?_)
 have e:Et (eP (x,y))=[.i (x / 6),.i (y / 6),.i (ofNat (atQ (x - 6*(x / 6)) (y - 6*(y / 6))))]:=rfl;rw[e];have g:0<=x - 6*(x / 6)/\x - 6*(x / 6)<=5:=a_;have j:0<=y - 6*(y / 6)/\y - 6*(y / 6)<=5:=a_;generalize x / 6=a at *;generalize y / 6=b at *;by_cases c:y - 6*b<x - 6*a<;>by_cases d:x - 6*a+(y - 6*b)<6<;>by_cases f:6<x - 6*a+(y - 6*b)
 all_goals
  first|(exfalso;omega)|skip
  repeat (first|simp(disch:=omega)only[↓n9])
  try simp only[atQ,c,d,f,and_true,and_false,true_and,false_and,if_true,if_false]
  try rfl
def qu{m:Mv}{c:Cl}(a:m.1<8)(f:-100000<=m.2.1/\m.2.1<=100000/\-100000<=m.2.2/\m.2.2<=100000)(b:c.2.2<4)(g:-100000<=c.1/\c.1<=100000/\-100000<=c.2.1/\c.2.1<=100000):Cc 40 (D5 m++Et c) (Et (ar m c)):=by
 refine q40 rfl ?_;unfold f40;simp only[ub];have e:=m5 a b;have l:-1000000<=(DY c).1/\(DY c).1<=1000000/\-1000000<=(DY c).2/\(DY c).2<=1000000:=by
  obtain⟨x,y,q⟩:=c;simp only at b g;rcases FE b with rfl|rfl|rfl|rfl<;>simp only[DY,s5,kg]<;>omega
 have k:-100000000<=(EP m (DY c)).1/\(EP m (DY c)).1<=100000000/\-100000000<=(EP m (DY c)).2/\(EP m (DY c)).2<=100000000:=by
  generalize DY c=p at *;obtain⟨t,X,Y⟩:=m;obtain⟨x,y⟩:=p;simp only at a f l;rcases t8 a with rfl|rfl|rfl|rfl|rfl|rfl|rfl|rfl<;>simp only[EP,mA,mB,mC,mD]<;>omega
 have h:=sa b g;have i:=wn (m:=m) (x:=(DY c).1) (y:=(DY c).2) a f a_;have d:=sT (x:=(EP m (DY c)).1) (y:=(EP m (DY c)).2) k;have j:eP ((EP m (DY c)).1,(EP m (DY c)).2)=ar m c:=e;rw[j]at d;simp only[D5,Et,EQ,EG]at h i d ⊢
 repeat (first|simp(disch:=omega)only[↓n9]|refine aj h ?_|refine aj i ?_|refine aj d ?_)
def Zc{a b c d:Int}{K:Tp}:P1.eqs [(.i a,.i b),(.i c,.i d)] (@i' _ ⟨K⟩)=K (decide (a=b/\c=d)):=by
 show K (cu _)=_;have e:cu [(.i a,.i b),(.i c,.i d)]=decide (a=b/\c=d):=by
  rw[OP];simp[cu,iM]
 rw[e]
def BD{a b:Mv}(ha:DV 30000 a)(hb:DV 30000 b):Cc 39 (D5 a++D5 b) (D5 (af a b)):=by
 obtain⟨d,B,C,D,E,R⟩:=ha;obtain⟨o,S,T,U,V,W⟩:=hb;have p:=eS (n:=30000) (k:=30000) ⟨d,B,C,D,E,R⟩ ⟨o,S,T,U,V,W⟩;obtain⟨N,Z,g3,g4,g5,_⟩:=p;refine q39 rfl ?_;unfold f39;simp only[ub];have F:∀(x y:Int),(0<=x/\x<=6/\0<=y/\y<=6)->-1000000<=(EP a (x,y)).1/\(EP a (x,y)).1<=1000000/\-1000000<=(EP a (x,y)).2/\(EP a (x,y)).2<=1000000:=by
  intro x y h;obtain⟨t,X,Y⟩:=a;simp only at d B C D E;rcases t8 d with rfl|rfl|rfl|rfl|rfl|rfl|rfl|rfl<;>simp only[EP,mA,mB,mC,mD]<;>omega
 have g:∀(x y:Int),(0<=x/\x<=6/\0<=y/\y<=6)->Cc 73 (D5 a++[.i x,.i y]) [.i (EP a (x,y)).1,.i (EP a (x,y)).2]:=λx y h=>wn d a_ a_;have l:∀(x y:Int),(0<=x/\x<=6/\0<=y/\y<=6)->Cc 73 (D5 b++[.i (EP a (x,y)).1,.i (EP a (x,y)).2]) [.i (EP (af a b) (x,y)).1,.i (EP (af a b) (x,y)).2]:=λx y h=>by
  have:=wn (m:=b) (x:=(EP a (x,y)).1) (y:=(EP a (x,y)).2) o a_ (by have:=F x y h;omega);rw[show EP b ((EP a (x,y)).1,(EP a (x,y)).2)=EP (af a b) (x,y)from Wx d o (x,y)]at this;exact this
 generalize af a b=G at *;have K:EP G (0,0)=(6*G.2.1,6*G.2.2):=by simp[EP]
 have L:∀t X Y,EP (t,X,Y) (6,0)=(mA t*6+6*X,mC t*6+6*Y):=λt X Y=>by simp[EP]
 have M:∀t X Y,EP (t,X,Y) (0,6)=(mB t*6+6*X,mD t*6+6*Y):=λt X Y=>by simp[EP]
 have O:=g 0 0 a_;have P:=g 6 0 a_;have Q:=g 0 6 a_;have u:=l 0 0 a_;have v:=l 6 0 a_;have w:=l 0 6 a_;obtain⟨t,X,Y⟩:=G;simp only at N Z g3 g4 g5 K;rw[K]at u;rw[L t X Y]at v;rw[M t X Y]at w;simp only[D5,EQ,EG]at O P Q u v w ⊢;clear F g l;generalize EP a (0,0)=q0 at *;generalize EP a (6,0)=q1 at *;generalize EP a (0,6)=q2 at *
 repeat (first|simp(disch:=omega)only[↓n9]|refine aj O ?_|refine aj P ?_|refine aj Q ?_|refine aj u ?_|refine aj v ?_|refine aj w ?_)
 refine bK (g9:=Unit) 8 (λj _=>[.i (ofNat j)]) (λ_ _=>_) (λj _=>j<=t) (j0:=0) (s0:=()) rfl rfl (D6 _) (D6 _) ?_;intro j _ ad ag e c;have q:j<8:=a_;have z:=wn (m:=(j,X,Y)) (x:=6) (y:=0) q i_ a_;have A:=wn (m:=(j,X,Y)) (x:=0) (y:=6) q i_ a_;rw[L]at z;rw[M]at A;have H:=tL (a:=6*X) a_;have I:=tL (a:=6*Y) a_;rw[show 6*X / 6=X by omega]at H;rw[show 6*Y / 6=Y by omega]at I;simp only[D5,EQ,EG]at z A;have hn:(0:Int)<=ofNat j/\ofNat j<=7:=⟨G9 _,i_⟩;have go:j≠t->e [.i (ofNat j+1)] []:=λh=>c () a_ a_;have r:=λh1 h2 h3 h4=>WS (s:=j) (t:=t) q N h1 h2 h3 h4
 repeat (first|simp(disch:=omega)only[↓n9]|refine aj H ?_|refine aj I ?_|refine aj z ?_)
 by_cases f:mA j=mA t/\mC j=mC t
 .obtain⟨f,J⟩:=f;rw[←f,←J]
  repeat (first|simp(disch:=omega)only[↓n9]|refine aj A ?_)
  by_cases e3:mB j=mB t/\mD j=mD t
  .obtain⟨e3,e4⟩:=e3;obtain rfl:=r f J e3 e4
   repeat (first|simp(disch:=omega)only[↓n9])
  .rw[Zc,GI a_]
   repeat (first|simp(disch:=omega)only[↓n9])
   grind
 .rw[Zc,GI a_]
  repeat (first|simp(disch:=omega)only[↓n9])
  grind
def rx{q k:Nat}(h:k<3):eK q (eK q k)=k:=by
 have b:k=0∨k=1∨k=2:=a_;have a:q%2=0∨q%2=1:=a_;rcases a with a|a<;>rcases b with rfl|rfl|rfl<;>simp[eK,a]
def yE{c:Cl}{e f:Nat}(a:c.2.2<4)(g:e<3)(i:f<3)(h:EO c e=EO c f):e=f:=by
 obtain⟨x,y,q⟩:=c;simp only at a;have b:e=0∨e=1∨e=2:=a_;have d:f=0∨f=1∨f=2:=a_;rcases FE a with rfl|rfl|rfl|rfl<;>rcases b with rfl|rfl|rfl<;>rcases d with rfl|rfl|rfl
 all_goals first
  |rfl
  |(exfalso;simp[EO]at h;done)
  |(exfalso;simp[EO]at h;omega)
def W9{w v:Nat}(i:Sh w v){c e f n:Nat}(d:c<4*w*v)(g:e<3)(h:f<3)(h1:y0 w v c e=some n)(j:y0 w v c f=some n):e=f:=by
 obtain⟨_,_,_,a,_⟩:=cQ i d g h1;obtain⟨_,_,_,b,_⟩:=cQ i d h j;exact yE (c:=pu w c) (KK _ a_) g h (a.symm.trans b)
def UQ(l:TD)(u e:Nat):Int:=l.foldl (λa c=>if aS c=((ofNat u,ofNat e):Ku)then c.2.2 else a) 0
def yu{l:TD}{c:EJ}{u e:Nat}:UQ (l++[c]) u e=if aS c=((ofNat u,ofNat e):Ku)then c.2.2 else UQ l u e:=by
 unfold UQ
 simp_all
def se{l:TD}(d:∀c∈l,c.2.2≠0){u e:Nat}:UQ l u e≠0↔Dy l u e=true:=by
 have b:∀(l:TD) (a:Int),(∀c∈l,c.2.2≠0)->(l.foldl (λa c=>if aS c=((ofNat u,ofNat e):Ku)then c.2.2 else a) a≠0↔a≠0∨((ofNat u,ofNat e):Ku)∈l.map aS):=by
  intro l
  induction l with
  |nil=>intro a _;simp
  |cons c l f=>
   grind
 unfold Dy UQ;rw[E6,b l 0 d];simp
def JU(w v:Nat)(l:TD)(c k:Nat):Int:=match y0 w v c (eK (c%4) k)with
 |some n=>UQ l (min c n) (eK (c%4) k)
 |none=>0
def D8(w v:Nat)(l:TD):TE:=(range (12*w*v)).map λi=>JU w v l (i / 3) (i%3)
def jR{w v:Nat}{l:TD}:(D8 w v l).length=12*w*v:=by simp[D8]
def pC{w v:Nat}{l:TD}{c k:Nat}(a:c<4*w*v)(b:k<3):(D8 w v l)[3*c+k]?=some (JU w v l c k):=by
 have:12*w*v=3*(4*w*v):=i_;unfold D8
 grind
def Ue{w v:Nat}:D8 w v []=replicate (12*w*v) 0:=by
 unfold D8;rw[List.eq_replicate_iff];refine⟨c_,λx a=>?_⟩;obtain⟨i,_,rfl⟩:=DJ.1 a;unfold JU;split<;>rfl
def Ug{w v:Nat}(s:Sh w v){l:TD}{u e n:Nat}{kd:Int}(E:u<4*w*v)(g:e<3)(r:y0 w v u e=some n)(C:u<n) :
  D8 w v (l++[(ofNat u,ofNat e,kd)])=((D8 w v l).set (3*u+eK (u%4) e) kd).set (3*n+eK (n%4) e) kd:=by
 obtain⟨G,y,_,_,H⟩:=cQ s E g r;have L:=iL (u%4) e;have M:=iL (n%4) e;have J:=rx (q:=u%4) g;have K:=rx (q:=n%4) g;have z:12*w*v=3*(4*w*v):=i_;refine Ib λi=>?_;by_cases I:i<12*w*v
 case neg=>rw[Hy (by rw[jR];omega),Hy (by rw[GZ,GZ,jR];omega)]
 obtain⟨c,k,h,j,rfl⟩ : ∃c k,c<4*w*v/\k<3/\i=3*c+k:=⟨i / 3,i%3,a_,a_,a_⟩;rw[pC h j,HZ,HZ,GZ,jR,pC h j,qs (show 3*n+eK (n%4) e<12*w*v by omega),qs (show 3*u+eK (u%4) e<12*w*v by omega)];have b:∀a f:Nat,aS (ofNat u,ofNat e,kd)=((ofNat a,ofNat f):Ku)↔u=a/\e=f:=by
  intro a f;unfold aS
  grind
 have d:=rx (q:=c%4) j;have B:=iL (c%4) k;unfold JU;by_cases o:3*n+eK (n%4) e=3*c+k
 .obtain rfl:c=n:=a_;have:eK (c%4) k=e:=j_;rw[qs o,this,y];simp only;rw[yu,qs ((b _ _).2 ⟨a_,rfl⟩)]
 .rw[rv o];by_cases p:3*u+eK (u%4) e=3*c+k
  .obtain rfl:c=u:=a_;have:eK (c%4) k=e:=j_;rw[qs p,this,r];simp only;rw[yu,qs ((b _ _).2 ⟨a_,rfl⟩)]
  .rw[rv p];cases t:y0 w v c (eK (c%4) k)with
   |none=>rfl
   |some m=>
    simp only;rw[yu,rv ?_];rw[b];rintro⟨N,x⟩;rw[←x]at t;have d:eK (c%4) e=k:=by rw[x];exact d
    by_cases A:c<=m
    .simp_all
    .have D:m=u:=a_;subst D;obtain⟨_,F,_⟩:=cQ s h g t
     grind
def qF{a b:Nat}{K:Tw}(h:a*b<=1000000000):P1.x6 .mul .i64 (ofNat a) (ofNat b) (@i' _ ⟨K⟩)=K (ofNat (a*b)):=by
 have e:ofNat a*ofNat b=ofNat (a*b):=rfl;rw[Ht i_ i_,e]
def Mq{b:Nat}{K:Tw}(h:b<=100000000):P1.x6 .mul .i64 3 (ofNat b) (@i' _ ⟨K⟩)=K (ofNat (3*b)):=qF (a:=3) a_
def Zr{b:Nat}{K:Tw}(h:b<=100000000):P1.x6 .mul .i64 4 (ofNat b) (@i' _ ⟨K⟩)=K (ofNat (4*b)):=qF (a:=4) a_
def zz{b:Nat}{K:Tw}(h:b<=10000000):P1.x6 .mul .i64 12 (ofNat b) (@i' _ ⟨K⟩)=K (ofNat (12*b)):=qF (a:=12) a_
def zG{a b:Nat}{K:Tw}(h:a+b<=1000000000):P1.x6 .add .i64 (ofNat a) (ofNat b) (@i' _ ⟨K⟩)=K (ofNat (a+b)):=by
 have e:ofNat a+ofNat b=ofNat (a+b):=rfl;rw[Gi i_ i_,e]
def Gc(k:Int):Tn:=[.int .u8 k]
def oM(k:Int):(Gc k).length=1:=rfl
def VC(w v:Nat)(c:EJ):Prop:=∃u e n:Nat,c.1=ofNat u/\c.2.1=ofNat e/\u<4*w*v/\e<3/\y0 w v u e=some n/\u<n/\0<=c.2.2/\c.2.2<=255
abbrev Fi(T:TE):HO:=.o (.cells (T.flatMap Gc) 1 true)
def S3.n{w v:Nat}(h:S3 w v):4*w<=12/\4*w*v<=36/\12*w*v<=108/\w*v<=9:=by
 obtain⟨c,a,d,b⟩:=h;have:w*v<=3*3:=z' a b
 grind
def xE{w v:Nat}(C:S3 w v){l:TD}{H:HL}{x:TR}(N:q9 H x 3 mi l)(hv:∀c∈l,VC w v c)(hn:l.length<=1000) :
  aF cc ac 69 [.i (.ofNat w),.i (.ofNat v),.v x] (h9 aa H) [.v (.slice (some ⟨H.length,0,le 1⟩) (12*w*v) (12*w*v+1))] (h9 aa (H++[Fi (D8 w v l)])):=by
 have R:=C.sh;obtain⟨b1,b2,b3,b4⟩:=C.n;exact xK x69 (mc (mc (pP N.h_ t0))) (by
  unfold f69;simp only[ub];refine e_ ?_;rw[zz a_];refine k_ ?_;rw[qF a_];refine k_ ?_;refine ae (dF a_) ?_;refine e_ ?_;rw[show(ofNat (12*w*v)).toNat=12*w*v from rfl];have z0:HO.o (.cells (aL [.int .u8 0] (12*w*v)) 1 true)=Fi (D8 w v (l.take 0)):=by
   rw[a9,Ue];unfold Fi;rw[←cO (enc:=Gc) (z:=0) (n:=12*w*v)];rfl
  rw[z0];refine bK (g9:=Unit) l.length (λj _=>[.i (ofNat j)]) (λj _=>H++[Fi (D8 w v (l.take j))]) (λ_ _=>True) (j0:=0) (s0:=()) rfl rfl (D6 _) trivial ?_;intro i _ hi _ K b;refine e_ ?_;refine bw N ?_;by_cases s:i<l.length
  case neg=>
   obtain rfl:i=l.length:=a_;rw[aN (B8 _)];refine e_ ?_;exact⟨D',by rw[XQ]⟩
  rw[aO s];refine e_ ?_;obtain⟨c,M⟩:=am s;have O:=N.pre (h':=H++[Fi (D8 w v (l.take i))]) ⟨_,rfl⟩;refine aQ O rfl M ?_;obtain⟨u,e,n,q1,q2,L,D,t,S,q3,q4⟩:=hv c (A9 M);have A:D8 w v (l.take (i+1))=((D8 w v (l.take i)).set (3*u+eK (u%4) e) c.2.2).set (3*n+eK (n%4) e) c.2.2:=by
   rw[IB,M];have:=Ug (l:=l.take i) (kd:=c.2.2) R L D t S
   grind
  obtain⟨W,X,_,_,g5⟩:=cQ R L D t;unfold mi;refine e_ ?_;rw[q1,q2];have ag:=iL (u%4) e;have an:=iL (n%4) e;have F:=rx (q:=u%4) D;have Q:=rx (q:=n%4) D;have Z:(D8 w v (l.take i)).length=12*w*v:=jR;have b:K [.i (ofNat i+1)] (H++[Fi (D8 w v (l.take (i+1)))]):=b () s trivial;generalize D8 w v (l.take i)=T at *;generalize D8 w v (l.take (i+1))=T' at *;have Y:12*w*v=3*(4*w*v):=i_;have eu:ofNat e<=255/\(0:Int)<=ofNat e:=⟨i_,G9 _⟩;refine bK (g9:=Unit) 3 (λj _=>[.i (ofNat j)]) (λj _=>H++[Fi (if j<=eK (u%4) e then T else T')]) (λ_ _=>True) (j0:=0) (s0:=()) rfl j_ (D6 _) trivial ?_;intro j _ hj _ B f;refine e_ ?_;by_cases p:j<3
  case neg=>
   obtain rfl:j=3:=a_;rw[v_ (show(3:Int)<=ofNat 3 from dT _)];refine e_ ?_;rw[aU a_,rv a_];exact b
  rw[ua (show ofNat j<3 by grind)];refine e_ ?_;refine aj (AJ C L p) ?_;have y:j≠eK (u%4) e->B [.i (ofNat j+1)] (H++[Fi (if j<=eK (u%4) e then T else T')]):=by
   intro I;have:=f () p trivial
   grind
  cases U:y0 w v u (eK (u%4) j)with
  |none=>
   rw[show IR w v u j = -1 by unfold IR;rw[U]];refine e_ ?_;rw[aU a_]
   grind
  |some m=>
   rw[show IR w v u j=ofNat m by unfold IR;rw[U]];refine e_ ?_;rw[v_ (show(0:Int)<=ofNat m from G9 m)];refine e_ ?_;refine aj (Qt C L p) ?_;refine e_ ?_;by_cases E:j=eK (u%4) e
   case neg=>
    rw[D0 (λh=>E (by rw[←H4 h,rx p]))];refine e_ ?_;rw[aU a_];exact y E
   rw[DZ (by rw[E,F])];refine e_ ?_;have J:=U;rw[E,F,t]at J;cases J;rw[Mq a_];refine k_ ?_;rw[zG a_];refine k_ ?_;rw[qs a_];have r:(H++[Fi T])[H.length]?=some (Fi T):=aK;refine dy (enc:=Gc) (l:=T) (i:=3*u+j) (a:=c.2.2) oM r rfl a_ Z rfl ?_;unfold oo;rw[pA];refine k_ ?_;have P:(T.set (3*u+j) c.2.2).length=12*w*v:=j_;rw[←E]at A;generalize ad:T.set (3*u+j) c.2.2=T1 at *;refine bK (g9:=Unit) 3 (λj _=>[.i (ofNat j)]) (λj _=>H++[Fi (if j<=eK (n%4) e then T1 else T')]) (λ_ _=>True) (j0:=0) (s0:=()) rfl j_ (D6 _) trivial ?_;intro k _ al _ V g;refine e_ ?_;by_cases d:k<3
   case neg=>
    obtain rfl:k=3:=a_;rw[v_ (show(3:Int)<=ofNat 3 from dT _)];refine e_ ?_;rw[aU a_,rv a_];have:=f () p trivial
    grind
   rw[ua (show ofNat k<3 by grind)];refine e_ ?_;refine aj (AJ C W d) ?_;by_cases G:k=eK (n%4) e
   .rw[show IR w v n k=ofNat u by unfold IR;rw[G,Q,X]];refine e_ ?_;rw[Mq a_];refine k_ ?_;rw[zG a_];refine k_ ?_;rw[qs a_];have r:(H++[Fi T1])[H.length]?=some (Fi T1):=aK;refine dy (enc:=Gc) (l:=T1) (i:=3*n+k) (a:=c.2.2) oM r rfl a_ P rfl ?_;unfold oo;rw[pA];refine k_ ?_;rw[aU a_];have:=g () d trivial
    grind
   .have I:IR w v n k≠ofNat u:=by
     unfold IR;cases hy:y0 w v n (eK (n%4) k)with
     |none=>simp_all
     |some z=>
      intro h;obtain rfl:=H4 h;have:=W9 R W (iL _ _) D hy X;exact G (by rw[←this,rx d])
    simp(disch:=omega)only[↓n9]
    try rw[xk I]
    refine k_ ?_;rw[aU a_];have:=g () d trivial
    grind)
def zt{k:Int}{a b r:Mv}(d:a.1<8)(e:b.1<8)(c:DV k r)(h:af a r=af b r):a=b:=by
 have f:(E4 r).1<8:=(Xh c).1;have this:af (af a r) (E4 r)=af (af b r) (E4 r):=by rw[h]
 rw[aW d c.1 f,aW e c.1 f,wz c.1,iC d,iC e]at this;exact this
structure PS(w v:Nat)(l:TD)(r:Mv)(O A:TO)(B:Ty)(q:TC)(D:Nat->Nat->Prop):Prop where
 js:JS w v l A B q D
 la:A.length=4*w*v
 lb:B.length=4*w*v
 lo:O.length=4*w*v
 rel:∀(c:Nat) a,B[c]?=some true->A[c]?=some a->O[c]?=some (af a r)
def Fl(b:Bool)(q:TC)(B:Ty)(j a:Nat):Prop:=(b=false->(∀c∈q,j<=c)/\ES B=a)/\(b=true->a<ES B)
abbrev o3(H:HL)(O:TO)(B:Ty)(T:TE):HL:=H++[.o (.cells (O.flatMap sd) 3 true),.o (.cells (B.flatMap B6) 1 true),Fi T]
def Xe{H:HL}{O:TO}{B:Ty}{T:TE}:(o3 H O B T)[H.length]?=some (.o (.cells (O.flatMap sd) 3 true)):=c_
def b9{H:HL}{O:TO}{B:Ty}{T:TE}:(o3 H O B T)[H.length+1]?=some (.o (.cells (B.flatMap B6) 1 true)):=c_
def o3_2{H:HL}{O:TO}{B:Ty}{T:TE}:(o3 H O B T)[H.length+2]?=some (Fi T):=c_
def b7{H:HL}{O a:TO}{B:Ty}{T:TE}:oo (o3 H O B T) H.length 3 sd a=o3 H a B T:=by simp[oo]
def b6{H:HL}{O:TO}{B B':Ty}{T:TE}:oo (o3 H O B T) (H.length+1) 1 B6 B'=o3 H O B' T:=by
 simp[oo,qdA]
def PlR(w v:Nat)(l:TD)(r:Mv)(H:HL)(a:TG)(h':HL):Prop:=
 (a=[.v rA,.i 0]/\¬ ∃G,mz w v l G/\G 0=CW)∨∃G T,A2 w v l G/\a=[.v (.slice (some ⟨H.length,0,le 3⟩) (4*w*v) (4*w*v+1)),.i 1]/\∃B,h'=o3 H (EW w v G r) B T
def PS.restart{w v:Nat}{l:TD}{r:Mv}{O A:TO}{B:Ty}{q:TC}{D:Nat->Nat->Prop}(h:PS w v l r O A B q D):∃q',PS w v l r O A B q' (λ_ _=>True):=by
 refine⟨(range (4*w*v)).filter λc=>B.getD c false,⟨h.js.a0,h.js.b0,λc a=>?_,λc e n _ a _ _ d b=>absurd ?_ b,h.js.bd,h.js.un⟩,h.la,h.lb,h.lo,h.rel⟩
 .grind
 simp_all
def sJ{w v:Nat}(V:S3 w v){l:TD}{H:HL}{x:TR}(hl:q9 H x 3 mi l)(hv:∀c∈l,VC w v c)(a6:∀c∈l,c.2.2≠0)(hn:l.length<=1000){r:Mv}(hr:DV 20000 r) :
  ∃rs h',aF cc ac 42 ([.i (.ofNat w),.i (.ofNat v),.v x]++D5 r) (h9 aa H) rs (h9 aa h')/\PlR w v l r H rs h'/\u_ H h':=by
 have L:=V.sh;obtain⟨b1,b2,b3,b4⟩:=V.n;have hN:=Gp L;have bt:=x42 (ls:=[.i (.ofNat w),.i (.ofNat v),.v x,.i (ofNat r.1),.i r.2.1,.i r.2.2]) (K:=λrs h'=>PlR w v l r H rs h'/\u_ H h') (H:=H) (mc (mc (pP hl.h_ (mc (mc (mc t0)))))) (by
  unfold f42;simp only[ub];refine e_ ?_;rw[Zr a_];refine k_ ?_;rw[qF a_];refine k_ ?_;refine ae (dF a_) ?_;refine e_ ?_;rw[show(ofNat (4*w*v)).toNat=4*w*v from rfl];have z0:HO.o (.cells (aL [.int .u8 0,.int .i64 0,.int .i64 0] (4*w*v)) 3 true)=HO.o (.cells ((replicate (4*w*v) CW).flatMap sd) 3 true):=by
   rw[←cO (enc:=sd) (z:=CW) (n:=4*w*v)];rfl
  have z1:HO.o (.cells (aL [.bool false] (4*w*v)) 1 true)=HO.o (.cells ((replicate (4*w*v) false).flatMap B6) 1 true):=by
   rw[←cO (enc:=B6) (z:=false) (n:=4*w*v)];rfl
  rw[z0];refine ae (dF a_) ?_;refine e_ ?_;rw[z1,v_ (show(1:Int)<=ofNat (4*w*v)by grind)];refine e_ ?_;have ag:((replicate (4*w*v) CW)).length=4*w*v:=c_;have ay:((replicate (4*w*v) false)).length=4*w*v:=c_;have e2:((H++[HO.o (.cells ((replicate (4*w*v) CW).flatMap sd) 3 true)])++[HO.o (.cells ((replicate (4*w*v) false).flatMap B6) 1 true)])=H++[HO.o (.cells ((replicate (4*w*v) CW).flatMap sd) 3 true),HO.o (.cells ((replicate (4*w*v) false).flatMap B6) 1 true)]:=c_;have m1:(H++[HO.o (.cells ((replicate (4*w*v) CW).flatMap sd) 3 true)]).length=H.length+1:=c_;rw[e2,m1];generalize hA:replicate (4*w*v) CW=A0 at *;generalize hB:replicate (4*w*v) false=B0 at *;refine dy (enc:=sd) (l:=A0) (i:=0) (a:=r) di c_ rfl a_ ag rfl ?_;have p0:oo (H++[HO.o (.cells (A0.flatMap sd) 3 true),HO.o (.cells (B0.flatMap B6) 1 true)]) H.length 3 sd (A0.set 0 r)=H++[HO.o (.cells ((A0.set 0 r).flatMap sd) 3 true),HO.o (.cells (B0.flatMap B6) 1 true)]:=by simp[oo]
  rw[p0];refine k_ ?_;refine dy (enc:=B6) (l:=B0) (i:=0) (a:=true) cU c_ rfl a_ ay rfl ?_;have p1:oo (H++[HO.o (.cells ((A0.set 0 r).flatMap sd) 3 true),HO.o (.cells (B0.flatMap B6) 1 true)]) (H.length+1) 1 B6 (B0.set 0 true)=H++[HO.o (.cells ((A0.set 0 r).flatMap sd) 3 true),HO.o (.cells ((B0.set 0 true).flatMap B6) 1 true)]:=by simp[oo,qdA]
  rw[p1];refine k_ ?_;have hT:=xE V (hl.pre (h':=H++[HO.o (.cells ((A0.set 0 r).flatMap sd) 3 true),HO.o (.cells ((B0.set 0 true).flatMap B6) 1 true)]) ⟨_,rfl⟩) hv hn;have e3:(H++[HO.o (.cells ((A0.set 0 r).flatMap sd) 3 true),HO.o (.cells ((B0.set 0 true).flatMap B6) 1 true)])++[Fi (D8 w v l)]=o3 H (A0.set 0 r) (B0.set 0 true) (D8 w v l):=c_;have m2:(H++[HO.o (.cells ((A0.set 0 r).flatMap sd) 3 true),HO.o (.cells ((B0.set 0 true).flatMap B6) 1 true)]).length=H.length+2:=c_;rw[e3,m2]at hT;refine ak hT ?_;refine e_ ?_;have bb:PS w v l r (A0.set 0 r) A0 (B0.set 0 true) [0] λ_ _=>True:=by
   have js:=JS.start (l:=l) L;rw[hA,hB]at js;refine⟨js,ag,j_,j_,λc a X I=>?_⟩;have J:c=0:=by
    grind
   subst J;rw[Ia a_];rw[js.a0]at I;cases I;rw[jH hr.1]
  generalize A0.set 0 r=O0 at *;generalize B0.set 0 true=B1 at *;clear p0 p1 e2 e3 m1 m2 hT z0 z1 hA hB ag ay;refine aH (m:=4*w*v - ES B1+1) (λm ls h=>∃f O A B q,ls=[.b f]/\h=o3 H O B (D8 w v l)/\PS w v l r O A B q (λ_ _=>True)/\((f=true/\m=4*w*v - ES B+1)∨(f=false/\q=[]))) ⟨true,O0,A0,B1,[0],rfl,rfl,bb,.inl ⟨rfl,rfl⟩⟩ ?_;rintro m ls h ⟨f,O,A,B,q,rfl,rfl,d,hm⟩ bs M;refine Ei ?_;refine e_ ?_;rcases hm with⟨rfl,rfl⟩|⟨rfl,rfl⟩
  case inr=>
   refine e_ ?_;have hA:=d.js.h_ L d.la d.lb;have a3:∀n,n<4*w*v->B[n]?=some true:=yG L d.js.b0 λc e n J he hn X=>(d.js.dn c e n trivial J he hn X c_).1;have hO:O=EW w v (λc=>A.getD c CW) r:=by
    refine Ib λi=>?_;by_cases hi:i<4*w*v
    .rw[kY hi];obtain⟨a,I⟩:=am (l:=A) (i:=i) (by rw[d.la];exact hi);rw[d.rel i a (a3 i hi) I,List.getD_eq_getElem?_getD,I];rfl
    .rw[Hy (by rw[d.lo];omega),Hy (by simp[EW];omega)]
   refine⟨.inr ⟨_,D8 w v l,hA.consO L,rfl,B,by rw[hO]⟩,⟨_,rfl⟩⟩
  refine e_ ?_;generalize Z:ES B=cnt0 at *;have aE:∃A q,PS w v l r O A B q (λ_ _=>True)/\Fl false q B 0 cnt0:=⟨A,q,d,⟨λ_=>⟨λ_ _=>D6 _,Z⟩,λh=>by cases h⟩⟩;refine bK (g9:=List Mv×List Bool×Bool) (4*w*v) (λj s=>[.b s.2.2,.i (ofNat j)]) (λj s=>o3 H s.1 s.2.1 (D8 w v l)) (λj s=>∃A q,PS w v l r s.1 A s.2.1 q (λ_ _=>True)/\Fl s.2.2 q s.2.1 j cnt0) (j0:=0) (s0:=(O,B,false)) rfl rfl (D6 _) aE ?_;clear aE d Z;rintro j ⟨O,B,f⟩ hj ⟨A,q,d,y⟩ bm D;simp only at d y ⊢;refine e_ ?_;by_cases g:j<4*w*v
  case neg=>
   obtain rfl:j=4*w*v:=a_;rw[aN (B8 _)];refine e_ ?_;cases f with
   |false=>
    have hq:q=[]:=by
     rw[List.eq_nil_iff_forall_not_mem];intro c J;have h1:=(y.1 rfl).1 c J;have U:=ai (d.js.q1 c J);rw[d.lb]at U;omega
    subst hq;exact M 0 _ _ a_ ⟨false,O,A,B,[],rfl,rfl,d,.inr ⟨rfl,rfl⟩⟩
   |true=>
    obtain⟨q',a9⟩:=d.restart;have h1:=y.2 rfl;have U:=jc B;rw[d.lb]at U;exact M _ _ _ a_ ⟨true,O,A,B,q',rfl,rfl,a9,.inl ⟨rfl,rfl⟩⟩
  rw[aO g];refine e_ ?_;obtain⟨t,G⟩:=am (l:=B) (i:=j) (by rw[d.lb];exact g);have R:∀(O:TO) (B:Ty),B.length=4*w*v->q9 (o3 H O B (D8 w v l)) (.slice (some ⟨H.length+1,0,le 1⟩) (4*w*v) (4*w*v+1)) 1 B6 B:=λO B X=>dZ cU b9 X.symm;have ap:∀(O:TO) (B:Ty),O.length=4*w*v->q9 (o3 H O B (D8 w v l)) (.slice (some ⟨H.length,0,le 3⟩) (4*w*v) (4*w*v+1)) 3 sd O:=λO B X=>dZ di Xe X.symm;have bk:∀(O:TO) (B:Ty),q9 (o3 H O B (D8 w v l)) (.slice (some ⟨H.length+2,0,le 1⟩) (12*w*v) (12*w*v+1)) 1 Gc (D8 w v l):=λO B=>dZ oM o3_2 jR.symm;cases t with
  |false=>
   refine AW 2 ?_;refine e_ ?_;refine aQ (R O B d.lb) rfl G ?_;unfold B6;refine e_ ?_;rw[aU a_];refine D (O,B,f) g ⟨A,q,d,⟨λh=>⟨λc J=>?_,(y.1 h).2⟩,y.2⟩⟩;have h1:=(y.1 h).1 c J;have U:=d.js.q1 c J
   grind
  |true=>
  have a1:∃A q,PS w v l r O A B q (λc e=>c=j->∃Q,Q<0/\eK (j%4) Q=e)/\Fl f q B (j+1) cnt0/\B[j]?=some true:=by
   refine⟨A,q.filter λc=>!Nat.beq c j,⟨(d.js.begin (c0:=j)).Mn λe h=>?_,d.la,d.lb,d.lo,d.rel⟩,⟨λh=>⟨λc J=>?_,(y.1 h).2⟩,y.2⟩,G⟩
   .omega
   .obtain⟨h1,U⟩:=GH.1 J;have V:=(y.1 h).1 c h1;have:c≠j:=λe=>by subst e;simp at U
    omega
  refine bK (g9:=List Mv×List Bool×Bool) 3 (λk s=>[.b s.2.2,.i (ofNat k)]) (λk s=>o3 H s.1 s.2.1 (D8 w v l)) (λk s=>∃A q,PS w v l r s.1 A s.2.1 q (λc e=>c=j->∃Q,Q<k/\eK (j%4) Q=e)/\Fl s.2.2 q s.2.1 (j+1) cnt0/\s.2.1[j]?=some true) (j0:=0) (s0:=(O,B,f)) rfl rfl (D6 _) a1 ?_;clear a1 G d y;rintro k ⟨O,B,f⟩ hk ⟨A,q,d,y,G⟩ bn u;simp only at d y G ⊢;refine e_ ?_;by_cases E:k<3
  case neg=>
   obtain rfl:k=3:=a_;rw[v_ (show(3:Int)<=ofNat 3 from dT _)];refine e_ ?_;rw[aU a_];exact D (O,B,f) g ⟨A,q,⟨d.js.doneP λe he=>by obtain⟨k,h1,U⟩:=y6 (q:=j%4) e he;exact⟨k,h1,U⟩,d.la,d.lb,d.lo,d.rel⟩,y⟩
  rw[ua (show ofNat k<3 by grind)];refine e_ ?_;refine aQ (R O B d.lb) rfl G ?_;unfold B6;refine e_ ?_;refine aj (AJ V g E) ?_;have F:=iL (j%4) k;have C:∀(P:Tz),(∀e,P e↔(∃Q,Q<k/\eK (j%4) Q=e)∨e=eK (j%4) k)->∀e,(∃Q,Q<k+1/\eK (j%4) Q=e)->P e:=by
   grind
  cases N:y0 w v j (eK (j%4) k)with
  |none=>
   rw[show IR w v j k = -1 by unfold IR;rw[N]];refine e_ ?_;rw[aU a_];exact u (O,B,f) E ⟨A,q,⟨(d.js.skipP N).Mn (C _ λ_=>Iff.rfl),d.la,d.lb,d.lo,d.rel⟩,y,G⟩
  |some n=>
  rw[show IR w v j k=ofNat n by unfold IR;rw[N]];obtain⟨g1,g2,g3,g4,g5⟩:=cQ L g F N;refine e_ ?_;rw[v_ (show(0:Int)<=ofNat n from G9 n)];refine e_ ?_;obtain⟨a,I⟩:=am (l:=A) (i:=j) (by rw[d.la];exact g);have a2:=d.rel j a G I;have av:DV 2000 a:=aZ (d.js.bd j a G I) (by have:=jc B;rw[d.lb]at this;omega);refine aQ (ap O B d.lo) rfl a2 ?_;unfold sd;refine e_ ?_;rw[Mq a_];refine k_ ?_;rw[zG a_];refine k_ ?_;refine aQ (bk O B) rfl (pC g E) ?_;unfold Gc;refine e_ ?_;have ax:JU w v l j k=UQ l (min j n) (eK (j%4) k):=by unfold JU;rw[N]
  have a8:DV 30000 (af a r):=aZ (eS av hr) a_;have a7:DV 3000 (E_ w l a j n (eK (j%4) k)):=aZ (zF L g F N av a_) a_;obtain⟨W,hW⟩ : ∃W,W=af (E_ w l a j n (eK (j%4) k)) r:=⟨_,rfl⟩;obtain⟨tn,p⟩:=am (l:=B) (i:=n) (by rw[d.lb];exact g1);obtain⟨b,S⟩:=am (l:=A) (i:=n) (by rw[d.la];exact g1);by_cases an:JU w v l j k=0
  case' pos=>
   have a5:Dy l (min j n) (eK (j%4) k)=false:=by
    rw[←Hz,←se a6,←ax];omega
   have e1:af a r=W:=by rw[hW];unfold E_;grind
   rw[DZ an,e1];simp(disch:=omega)only[↓n9]
  case' neg=>
   have a5:Dy l (min j n) (eK (j%4) k)=true:=by
    rw[←se a6,←ax];exact an
   have e1:af (Do (q8 (pu w j) (eK (j%4) k))) (af a r)=W:=by
    rw[hW];unfold E_;rw[qs a5,(yD L g F N).2,aW (lW _) av.1 hr.1]
   have ad:=Rm L g F;have c1:=lu V g;have c2:=lu V g1;have c3:=WW V g E N;have c4:=BD (aZ (AM (n:=10) ⟨ad.2.2.1,ad.2.2.2⟩) a_) a8;rw[e1]at c4;simp only[D5,Et,EQ,EG]at c1 c2 c3 c4;rw[D0 an];refine e_ ?_;refine aj c1 ?_;refine e_ ?_;refine aj c2 ?_;refine e_ ?_;refine aj c3 ?_;refine e_ ?_;refine aQ (ap O B d.lo) rfl a2 ?_;unfold sd;refine e_ ?_;refine aj c4 ?_;simp(disch:=omega)only[↓n9]
  all_goals
   refine aQ (R O B d.lb) rfl p ?_;unfold B6;cases tn with
   |true=>
    simp(disch:=omega)only[↓n9,EX,FT];refine aQ (ap O B d.lo) rfl (d.rel n b p S) ?_;unfold sd;simp(disch:=omega)only[↓n9,EX,FT];rw[kG];have bl:DV 2000 b:=aZ (d.js.bd n b p S) (by have:=jc B;rw[d.lb]at this;omega);by_cases T:af b r=W
    .have X:b=E_ w l a j n (eK (j%4) k):=zt bl.1 a7.1 hr (T.trans hW);rw[Gs T];simp(disch:=omega)only[↓n9,EX,FT];refine aQ (R O B d.lb) rfl p ?_;unfold B6;simp(disch:=omega)only[↓n9,EX,FT];rw[aU a_];exact u (O,B,f) E ⟨A,q,⟨(d.js.seenP N p I (by rw[←X];exact S)).Mn (C _ λ_=>Iff.rfl),d.la,d.lb,d.lo,d.rel⟩,y,G⟩
    .rw[GI T];simp(disch:=omega)only[↓n9,EX,FT];refine⟨.inl ⟨D',?_⟩,⟨_,rfl⟩⟩;exact d.js.tear L g F N G p I S λh=>T (by rw[h,hW])
   |false=>
    simp(disch:=omega)only[↓n9,EX,FT];refine aQ (R O B d.lb) rfl p ?_;unfold B6;simp(disch:=omega)only[↓n9,EX,FT];refine dy (enc:=sd) (l:=O) (i:=n) (a:=W) di Xe rfl (by rw[d.lo];exact g1) d.lo rfl ?_;rw[b7]
    try simp(disch:=omega)only[↓n9,EX,FT]
    refine dy (enc:=B6) (l:=B) (i:=n) (a:=true) cU b9 rfl (by rw[d.lb];exact g1) d.lb rfl ?_;rw[b6]
    try simp(disch:=omega)only[↓n9,EX,FT]
    rw[aU a_];have be:=ic p;refine u (O.set n W,B.set n true,true) E ⟨A.set n (E_ w l a j n (eK (j%4) k)),q++[n],⟨(d.js.freshP L d.la d.lb g F N G p I).Mn (C _ λ_=>Iff.rfl),by rw[GZ,d.la],by rw[GZ,d.lb],by rw[GZ,d.lo],λc a' a4 al=>?_⟩,⟨λh=>(by cases h),λ_=>?_⟩,?_⟩
    .by_cases Y:n=c
     .subst Y;rw[Ia (by rw[d.la];exact g1)]at al;rw[Ia (by rw[d.lo];exact g1)]
      grind
     .rw[IA Y]at a4 al ⊢;exact d.rel c a' a4 al
    .show cnt0<ES (B.set n true);rw[be];cases f with
     |false=>have:=(y.1 rfl).2;omega
     |true=>have:=y.2 rfl;omega
    grind)
 grind
def Kg(n:Int):Tn:=[.int .i64 n]
def Cq{l:Ln}(c:1<=l.1/\l.1<=4)(b:-100000<=l.2/\l.2<=100000):Cc 37 [.i (.ofNat l.1),.i l.2] (D5 (Do l)):=by
 obtain⟨k,n⟩:=l;simp only at c b;refine q37 rfl ?_;unfold f37;simp only[ub];have a:k=1∨k=2∨k=3∨k=4:=a_;rcases a with rfl|rfl|rfl|rfl
 all_goals
  simp only[g5,p1,cf,hK,hg,b5,o2,bP]
  repeat (first|simp(disch:=omega)only[↓n9])
  try simp[Do,D5]
def TT{l:Ln}{c:Cl}(u:1<=l.1/\l.1<=4)(v:-100000<=l.2/\l.2<=100000)(j:c.2.2<4)(r:-100000<=c.1/\c.1<=100000/\-100000<=c.2.1/\c.2.1<=100000):Cc 38 ([.i (.ofNat l.1),.i l.2]++Et c) [.i (if eh l c then 1 else 0)]:=by
 obtain⟨k,n⟩:=l;simp only at u v;have s:=sa j r;have w:-1000000<=(DY c).1/\(DY c).1<=1000000/\-1000000<=(DY c).2/\(DY c).2<=1000000:=by
  obtain⟨x,y,q⟩:=c;simp only at j r;rcases FE j with rfl|rfl|rfl|rfl<;>simp only[DY,s5,kg]<;>omega
 have b:∀d:Int,(match k with|1=>(DY c).1|2=>(DY c).2|3=>(DY c).1+(DY c).2|_=>(DY c).2 - (DY c).1)=d->(eh (k,n) c=true↔¬d<6*n):=by
  intro d t;subst t;obtain⟨x,y,q⟩:=c;simp only at j;have m:k=1∨k=2∨k=3∨k=4:=a_;rcases m with rfl|rfl|rfl|rfl<;>rcases FE j with rfl|rfl|rfl|rfl
  all_goals
   simp[eh,DY,s5,kg];omega
 refine q38 rfl ?_;unfold f38;simp only[ub];simp only[Et,EQ,EG]at s ⊢;generalize DY c=p at *
 let L:TE:=[0,p.1,p.2,p.1+p.2,p.2 - p.1]
 have f:q9 [HO.o (.cells [.int .i64 0,.int .i64 p.1,.int .i64 p.2,.int .i64 (p.1+p.2),.int .i64 (p.2 - p.1)] 1 true)] (.slice (some ⟨([]:HL).length,0,le 1⟩) 5 6) 1 Kg L:=dZ (enc:=Kg) (e:=1) (L:=L) (λ_=>rfl) rfl rfl;have m:k=1∨k=2∨k=3∨k=4:=a_;rcases m with rfl|rfl|rfl|rfl
 all_goals
  have b:=b _ rfl;simp only at b;simp only[g5,p1,cf,hK,hg,b5,o2,bP]
  repeat (first|simp(disch:=omega)only[↓n9]|refine aj s ?_)
 case' inl=>refine aQ (i:=1) (a:=p.1) f rfl rfl ?_
 case' inr.inl=>refine aQ (i:=2) (a:=p.2) f rfl rfl ?_
 case' inr.inr.inl=>refine aQ (i:=3) (a:=p.1+p.2) f rfl rfl ?_
 case' inr.inr.inr=>refine aQ (i:=4) (a:=p.2 - p.1) f rfl rfl ?_
 all_goals
  unfold Kg;refine e_ ?_;cases g:eh _ c with
  |true=>
   have:=b.1 g
   try rw[v_ a_]
   try simp(disch:=omega)only[↓n9]
   try rfl
  |false=>
   have:¬ ¬_:=λh=>by rw[b.2 h]at g;cases g
   try rw[ua a_]
   try simp(disch:=omega)only[↓n9]
   try rfl
def Rf{a b:Int}:Cc 103 [.i a,.i b] [.i (max a b)]:=by
 refine q103 rfl ?_;unfold Uy;simp only[ub];refine e_ ?_;by_cases h:b<a
 .rw[DI h];refine e_ ?_
  grind
 .rw[CX a_];refine e_ ?_
  grind
def t6{c:Cl}{e:Nat}(a:c.2.2<4)(f:e<3)(d:-100000<=c.1/\c.1<=100000/\-100000<=c.2.1/\c.2.1<=100000):Cc 77 (Et c++Et (EO c e)) (D5 (Do (q8 c e))):=by
 obtain⟨x,y,q⟩:=c;simp only at a d;have b:e=0∨e=1∨e=2:=a_;refine q77 rfl ?_;unfold f77;simp only[ub];rcases FE a with rfl|rfl|rfl|rfl<;>rcases b with rfl|rfl|rfl
 all_goals
  simp only[EO,Et,EQ,EG,show [1,0,3,2].getD 0 0=1 from rfl,show [1,0,3,2].getD 1 0=0 from rfl,show [1,0,3,2].getD 2 0=3 from rfl,show [1,0,3,2].getD 3 0=2 from rfl,show [3,2,1,0].getD 0 0=3 from rfl,show [3,2,1,0].getD 1 0=2 from rfl,show [3,2,1,0].getD 2 0=1 from rfl,show [3,2,1,0].getD 3 0=0 from rfl,g5,p1,cf,hK]
  repeat (first|simp(disch:=omega)only[↓n9]|refine aj Rf ?_)
  try (simp[Do,q8,D5];done)
  try (simp[Do,q8,D5];omega)
def NH{c:Cl}{e:Nat}(a:c.2.2<4)(h:e<3)(d:-100000<=c.1/\c.1<=100000/\-100000<=c.2.1/\c.2.1<=100000):Cc 71 (Et c++Et (EO c e)) [.i (.ofNat (q8 c e).1),.i (q8 c e).2]:=by
 have b:=t6 a h d;refine q71 rfl ?_;unfold f71;simp only[ub];simp only[Et,EQ,EG]at b ⊢;have f:((q8 c e).1=1∨(q8 c e).1=2∨(q8 c e).1=3∨(q8 c e).1=4)/\-300000<=(q8 c e).2/\(q8 c e).2<=300000:=by
  obtain⟨x,y,q⟩:=c;simp only at a d;have g:e=0∨e=1∨e=2:=a_;rcases FE a with rfl|rfl|rfl|rfl<;>rcases g with rfl|rfl|rfl<;>simp[q8]<;>omega
 generalize q8 c e=l at *;obtain⟨k,n⟩:=l;simp only at f;obtain⟨rfl|rfl|rfl|rfl,j,m⟩:=f
 all_goals
  simp only[Do,D5,hg,b5,o2,bP]at b
  repeat (first|simp(disch:=omega)only[↓n9]|refine aj b ?_)
  try simp_all
abbrev JN:=Cl×Value
def Eh(s:JN):Tn:=bW s.1++[s.2]
def oK(s:JN):(Eh s).length=4:=rfl
def StL(h:HL)(x:Value)(L:List (Cl×List Nat)):Prop:=∃M:List JN,q9 h x 4 Eh M/\M.length=L.length/\∀(i:Nat) m,M[i]?=some m->∃l,L[i]?=some (m.1,l)/\q9 h m.2 1 l_ l
def wk(w v:Nat):List (Cl×List Nat):=(range (4*w*v)).map λi=>(pu w i,[i])
def Ud(w v c k:Nat):Bool:=match y0 w v c (eK (c%4) k)with
 |some n=>jC 43 [.i (.ofNat w),.i (.ofNat v),.i (.ofNat c),.i (.ofNat n)] [.i (.ofNat (eK (c%4) k))]
 |none=>true
def allE:∀w v:Nat,1<=w->w<=3->1<=v->v<=3->((range (4*w*v)).all λc=>(range 3).all λk=>Ud w v c k)=true:=by
 have a:((range 3).all λw=>(range 3).all λv=>(range (4*(w+1)*(v+1))).all λc=>(range 3).all λk=>Ud (w+1) (v+1) c k)=true:=d_;intro w v d e f g;have b:=A_.1 a (w - 1) (CY.2 a_);have h:=A_.1 b (v - 1) (CY.2 a_)
 simp_all
def Qu{w v c k n:Nat}(h:S3 w v)(a:c<4*w*v)(b:k<3)(d:y0 w v c (eK (c%4) k)=some n):Cc 43 [.i (.ofNat w),.i (.ofNat v),.i (.ofNat c),.i (.ofNat n)] [.i (.ofNat (eK (c%4) k))]:=by
 have:=A_.1 (A_.1 (allE w v h.1 h.2.1 h.2.2.1 h.2.2.2) c (CY.2 a)) k (CY.2 b);unfold Ud at this;rw[d]at this;exact dN this rfl d_ rfl
def LY(a b:EJ):Bool:=decide (b.1<a.1)||(decide (a.1=b.1)&&decide (b.2.1<a.2.1))
def Gx(l:TD):Prop:=l.Pairwise λa b=>LY a b=false
def Cf{a b:EJ}:LY a b=false↔a.1<b.1∨(a.1=b.1/\a.2.1<=b.2.1):=by
 unfold LY
 grind
def C9{a b:EJ}:LY a b=true↔b.1<a.1∨(a.1=b.1/\b.2.1<a.2.1):=by
 unfold LY
 simp_all
def X9{A B:TD}{x:EJ}(h:Gx (A++B))(h1:∀a∈A,LY a x=false)(d:∀b∈B,LY b x=true):Gx (A++x :: B):=by
 unfold Gx at *;rw[bb]at h ⊢;refine⟨h.1,KH.2 ⟨λb c=>?_,h.2.1⟩,λa e b c=>?_⟩
 .have:=C9.1 (d b c);exact Cf.2 a_
 grind
def gT{j7:Type}{h:HL}{id e:Nat}{enc:j7->Tn}{l l':List j7}:oo (oo h id e enc l) id e enc l'=oo h id e enc l':=by
 unfold oo;rw[List.set_set]
def OI{H:HL}{id cx:Nat}{l:TD}(i':H[id]?=some (.o (.cells (l.flatMap mi) 3 true)))(hn:l.length<=1000) :
  ∃l',aF cc ac 44 [.v (.slice (some ⟨id,0,le 3⟩) l.length cx)] (h9 aa H) [.v (.slice (some ⟨id,0,le 3⟩) l.length cx)] (h9 aa (oo H id 3 mi l'))/\l'.Perm l/\Gx l':=by
 have u:=ai i';have k:∀c:EJ,(mi c).length=3:=λ_=>rfl;have G:∀L:List EJ,L.length=l.length->q9 (oo H id 3 mi L) (.slice (some ⟨id,0,le 3⟩) l.length cx) 3 mi L:=λL h=>dZ k (bL u) h.symm;have ag:=x44 (ls:=[.v (.slice (some ⟨id,0,le 3⟩) l.length cx)]) (K:=λrs W=>rs=[.v (.slice (some ⟨id,0,le 3⟩) l.length cx)]/\∃l',W=oo H id 3 mi l'/\l'.Perm l/\Gx l') (H:=H) (pP (dZ k i' rfl).h_ t0) (by
  unfold f44;simp only[ub];refine e_ ?_;have P:oo H id 3 mi l=H:=fi i';refine bK (g9:=List EJ) (max 1 l.length) (λj _=>[.i (ofNat j)]) (λ_ L=>oo H id 3 mi L) (λj L=>L.Perm l/\1<=j/\Gx (L.take j)) (j0:=1) (s0:=l) rfl P.symm a_ ⟨UV _,B8 _,?_⟩ ?_
  .cases l with
   |nil=>exact .nil
   |cons a l=>exact KH.2 ⟨λ_ h=>(by cases h),.nil⟩
  intro i L hi ⟨w,hi1,r⟩ self hself;have F:L.length=l.length:=w.length_eq;refine e_ ?_;refine bw (G L F) ?_;rw[F];by_cases O:i<l.length
  case neg=>
   rw[aN a_];refine e_ ?_;rw[IW a_]at r
   grind
  rw[aO O];refine e_ ?_;obtain⟨V,T⟩:=am (l:=L) (i:=i) a_;have p:L=L.take i++V :: []++L.drop (i+1):=by
   conv=>lhs;rw[←XU i L]
   rw[Pg a_]
   simp_all
  refine aH (m:=i) (λm ls h=>∃(A:TD) (x:EJ) (B R:TD),ls=[.i (ofNat A.length)]/\m=A.length/\h=oo H id 3 mi (A++x :: B++R)/\(A++x :: B++R).Perm l/\Gx (A++B)/\(∀b∈B,LY b x=true)/\A.length+B.length=i)
   ⟨L.take i,V,[],L.drop (i+1),i_,i_,by rw[←p],i_,by simpa using r,λb U=>(by cases U),i_⟩ ?_
  clear p T r w F;rintro m ls h ⟨A,x,B,R,rfl,rfl,rfl,w,r,Y,I⟩ D n;refine Ei ?_;refine e_ ?_;have F:(A++x :: B++R).length=l.length:=w.length_eq;have s:(∀a∈A,LY a x=false)->self [.i (ofNat i+1)] (oo H id 3 mi (A++x :: B++R)):=λh=>hself _ a_ ⟨w,a_,by
   rw[qcV tt,IW tt];exact X9 r h Y⟩
  rcases List.eq_nil_or_concat A with rfl|⟨g,y,rfl⟩
  .rw[CX (show ofNat ([]:TD).length<=0 from dT _)];refine e_ ?_;rw[aU a_]
   simp_all
  rw[List.concat_eq_append]at *;have hk:(g++[y]).length=g.length+1:=c_;rw[hk]at I n ⊢;have t:LY y x=false->∀a∈g++[y],LY a x=false:=by
   intro h a J;rcases Fs.1 J with J|J
   .have E:LY a y=false:=by
     unfold Gx at r
     grind
    have E:=Cf.1 E;have h:=Cf.1 h;exact Cf.2 a_
   simp_all
  have C:(g++[y]++x :: B++R)[g.length]?=some y:=c_;have z:(g++[y]++x :: B++R)[g.length+1]?=some x:=by
   rw[FL,Iz c_];simp
  have f:=G _ F;have Z:=bL (l:=g++[y]++x :: B++R) (e:=3) (enc:=mi) u;rw[DI (show(0:Int)<ofNat (g.length+1)by simp_all)];have d:g.length+1<=4294967296:=a_;refine e_ ?_;rw[lT a_ d];refine k_ ?_;refine dK (cs:=[.int .i64 y.1]) f rfl C rfl a_ ?_;refine e_ ?_;refine dK (cs:=[.int .i64 x.1]) f rfl z rfl a_ ?_;refine e_ ?_;have S:LY y x=true->D [.i (ofNat g.length)] (oo H id 3 mi (g++x :: (y :: B)++R)):=λh=>n g.length _ _ a_ ⟨g,x,y :: B,R,rfl,rfl,rfl,by
   grind,j_,λb U=>by
   grind,tt⟩
  have Q:((g++[y]++x :: B++R).set g.length x).set (g.length+1) y=g++x :: (y :: B)++R:=by
   simp_all
  have N:((g++[y]++x :: B++R).set g.length x).length=l.length:=j_;have ad:=ai z;have M:(oo (oo H id 3 mi (g++[y]++x :: B++R)) id 3 mi ((g++[y]++x :: B++R).set g.length x))[id]?=some (.o (.cells (((g++[y]++x :: B++R).set g.length x).flatMap mi) 3 true)):=by
   rw[gT];exact bL u
  by_cases q:LY y x=true
  case neg=>
   have q:=qcK.2 q;rcases Cf.1 q with E|⟨E,X⟩
   .rw[CX a_];refine e_ ?_;rw[lT a_ d];refine k_ ?_;refine dK (cs:=[.int .i64 y.1]) f rfl C rfl a_ ?_;refine e_ ?_;refine dK (cs:=[.int .i64 x.1]) f rfl z rfl a_ ?_;simp(disch:=omega)only[↓n9]
    try rw[xk a_]
    refine k_ ?_;rw[aU a_];exact s (t q)
   .rw[CX a_];refine e_ ?_;rw[lT a_ d];refine k_ ?_;refine dK (cs:=[.int .i64 y.1]) f rfl C rfl a_ ?_;refine e_ ?_;refine dK (cs:=[.int .i64 x.1]) f rfl z rfl a_ ?_;simp(disch:=omega)only[↓n9]
    try rw[t_ a_]
    refine k_ ?_;rw[lT a_ d];refine k_ ?_;refine dK (cs:=[.int .u8 y.2.1]) f rfl C rfl a_ ?_;refine e_ ?_;refine dK (cs:=[.int .u8 x.2.1]) f rfl z rfl a_ ?_;simp(disch:=omega)only[↓n9]
    try rw[CX a_]
    refine k_ ?_;rw[aU a_];exact s (t q)
  rcases C9.1 q with E|⟨E,X⟩
  case' inl=>
   rw[DI a_];simp(disch:=omega)only[↓n9]
  case' inr=>
   rw[CX a_];refine e_ ?_;rw[lT a_ d];refine k_ ?_;refine dK (cs:=[.int .i64 y.1]) f rfl C rfl a_ ?_;refine e_ ?_;refine dK (cs:=[.int .i64 x.1]) f rfl z rfl a_ ?_;simp(disch:=omega)only[↓n9]
   try rw[t_ a_]
   refine k_ ?_;rw[lT a_ d];refine k_ ?_;refine dK (cs:=[.int .u8 y.2.1]) f rfl C rfl a_ ?_;refine e_ ?_;refine dK (cs:=[.int .u8 x.2.1]) f rfl z rfl a_ ?_;simp(disch:=omega)only[↓n9]
   try rw[DI a_]
   try simp(disch:=omega)only[↓n9]
  all_goals
   rw[lT a_ d];refine k_ ?_;refine aQ f rfl z ?_;rw[show mi x=[.int .i64 x.1,.int .u8 x.2.1,.int .u8 x.2.2]from rfl];refine e_ ?_;rw[lT a_ d];refine k_ ?_;refine aQ f rfl C ?_;rw[show mi y=[.int .i64 y.1,.int .u8 y.2.1,.int .u8 y.2.2]from rfl];refine e_ ?_;refine dy (enc:=mi) (i:=g.length) (a:=x) k Z rfl a_ F rfl ?_;refine k_ ?_;refine dy (enc:=mi) (i:=g.length+1) (a:=y) k M rfl a_ N rfl ?_;rw[gT,gT,Q];refine k_ ?_;rw[lT a_ d]
   simp_all)
 grind
abbrev U6:=Int×Int×Int
def tM(p:U6):Tn:=[.int .u8 p.1,.int .u8 p.2.1,.int .u8 p.2.2]
def vS(p:U6):(tM p).length=3:=rfl
def OE(p:U6):Prop:=0<=p.1/\p.1<=255/\0<=p.2.1/\p.2.1<=255/\0<=p.2.2/\p.2.2<=255
def KL{h:HL}{v:TR}{l:List U6}{i o:Nat}{a:U6}{n:Int}{cs:Tn}{K:Tf}(s:q9 h v 3 tM l)(r:n=ofNat i)(k:l[i]?=some a)(u:o<3)(b:cs=((tM a).drop o).take 1)(m:K cs) :
  P1.jw (B_ 3 v n) (@i' _ ⟨λx=>P1.jw (QX 3 1 x (ofNat o)) (@i' _ ⟨λy=>P1.n4 y (@i' _ ⟨P1.ma (.lg cc 1 y) h (@i' _ ⟨K⟩)⟩)⟩)⟩):=by
 subst r b;obtain⟨p,g,d⟩:=s.at k;obtain⟨q,j,f⟩:=d.fd o 1 (by rw[vS];omega);refine ae g (ae (x:=q) ?_ (ab f.h_ (dH (f.lg ?_) m)))
 .obtain⟨id,w,z,e,t,rfl,_,_⟩:=d;have c:o=0∨o=1∨o=2:=a_;rcases c with rfl|rfl|rfl<;>· rw[←j];rfl
 .rw[XP,qcU,vS];omega
def VK(w v:Nat)(c:EJ):Prop:=VC w v c/\1<=c.2.2/\c.2.2<=3
def KO{w v:Nat}(k:Sh w v){l:TD}{G m:TH}(h:A2 w v l G)(d:A2 w v l m){c:Nat}(b:c<4*w*v):G c=m c:=by
 have r:=Gp k;have hA:Hb w v l ((range (4*w*v)).map G):=by
  have j:∀c,c<4*w*v->((range (4*w*v)).map G)[c]?=some (G c):=λc b=>j_;refine⟨c_,by rw[j 0 a_,h.z],λa f=>?_,λc e n a b o p f=>?_⟩
  .obtain⟨i,q,rfl⟩:=DJ.1 f;exact h.ok i (CY.1 q)
  .rw[j c b]at f;cases f;rw[j n (cQ k b o p).1,h.g c e n b o p]
 have:=hA.eq k d.g d.z c b
 simp_all
def Lr{w v:Nat}{l:TD}(g:∀c∈l,VK w v c)(d:l.Pairwise λa b=>FX a b=true):Hh (ofNat w) (ofNat v) l=0:=by
 have h:l.all Oh=true:=A_.2 λc f=>by
  have:=(g c f).2;unfold Oh
  simp_all
 have j:l.all (U2 (ofNat w) (ofNat v))=true:=A_.2 λc f=>by
  obtain⟨u,e,n,m,o,z,x,y,d,_⟩:=(g c f).1;unfold U2 GS;rw[m,o];have p:(0:Int)<=ofNat u:=G9 u;have q:ofNat u<4*ofNat w*ofNat v:=show(u:Int)<((4*w*v:Nat):Int)by omega
  have r:ofNat e<=2:=i_
  simp_all
 have k:F3 l=true:=jE.2 λi a b s t=>by
  rw[KI]at d
  grind
 unfold Hh;rw[h,j,k];rfl
def u7{w v:Nat}{c:EJ}(h:VK w v c)(a:4*w*v<=100):ej c:=by
 obtain⟨⟨u,e,n,f,g,d,b,_,_,i,j⟩,_⟩:=h;unfold ej
 grind
abbrev Pc:=Nat×Nat×Ln
def Qv(p:Pc):Tn:=[.int .i64 (ofNat p.1),.int .i64 (ofNat p.2.1),.int .u8 (ofNat p.2.2.1),.int .i64 p.2.2.2]
def Fq(w v:Nat)(l:TD)(G:TH)(r:Mv)(a k:Nat):Option Pc:=match y0 w v a (eK (a%4) k)with
 |some b=>if a<b/\JU w v l a k=0 then some (a,b,q8 (ar (af (G a) r) (pu w a)) (eT (af (G a) r).1 (eK (a%4) k)))else none
 |none=>none
def Sa(w v:Nat)(l:TD)(G:TH)(r:Mv)(a:Nat):List Pc:=(range 3).filterMap (Fq w v l G r a)
def D7(w v:Nat)(l:TD)(G:TH)(r:Mv)(n:Nat):List Pc:=(range n).flatMap (Sa w v l G r)
def wU{w v:Nat}{l:TD}{G:TH}{r:Mv}{n:Nat}:D7 w v l G r (n+1)=D7 w v l G r n++Sa w v l G r n:=by
 unfold D7;rw[MT,ZO];simp
def AZ{w v:Nat}{l:TD}{G:TH}{r:Mv}{a k:Nat}:((range k).filterMap (Fq w v l G r a)).length<=k:=Pm (List.length_filterMap_le _ _) c_
def lY{w v:Nat}{l:TD}{G:TH}{r:Mv}:∀ {n:Nat},(D7 w v l G r n).length<=3*n
 |0=>by simp[D7]
 |n+1=>by
  rw[wU,HY];have a:=lY (w:=w) (v:=v) (l:=l) (G:=G) (r:=r) (n:=n);have b:(Sa w v l G r n).length<=3:=AZ;omega
def vZ{j7:Type}{f:Nat->Option j7}{k:Nat}:(range (k+1)).filterMap f=(range k).filterMap f++(f k).toList:=by
 rw[MT,qco]
 grind
def Ba{w v:Nat}(E:S3 w v){l:TD}{H:HL}{x xs:TR}(hl:q9 H x 3 mi l)(ap:aI xs=true)(hv:∀c∈l,VC w v c)(S:∀c∈l,c.2.2≠0)(hn:l.length<=1000){r:Mv}(hr:DV 10000 r){G:TH}(R:A2 w v l G) :
  ∃z h',aF cc ac 36 ([.i (.ofNat w),.i (.ofNat v),.v x]++D5 r++[.v xs]) (h9 aa H) [.v z] (h9 aa h')/\u_ H h'/\aI z=true/\q9 h' z 4 Qv (D7 w v l G r (4*w*v)):=by
 have V:=E.sh;obtain⟨b1,b2,b3,b4⟩:=E.n;have hN:=Gp V;obtain⟨a6,h1,c1,a0,J⟩:=sJ E hl hv S hn (r:=r) (aZ hr a_);have a5:=x36 (ls:=[.i (.ofNat w),.i (.ofNat v),.v x,.i (ofNat r.1),.i r.2.1,.i r.2.2,.v xs]) (K:=λrs h'=>∃z,rs=[.v z]/\u_ H h'/\aI z=true/\q9 h' z 4 Qv (D7 w v l G r (4*w*v))) (H:=H) (mc (mc (pP hl.h_ (mc (mc (mc (pP ap t0))))))) (by
  unfold f36;simp only[ub];refine e_ ?_;refine ak c1 ?_;rcases a0 with⟨rfl,I⟩|⟨G',T,Z,rfl,B,rfl⟩
  .exact absurd ⟨G,R.g,R.z⟩ I
  refine e_ ?_;have ad:EW w v G' r=EW w v G r:=by
   unfold EW;refine ZP λc hc=>?_;rw[KO V Z R (CY.1 hc)]
  have ax:q9 (o3 H (EW w v G r) B T) (.slice (some ⟨H.length,0,le 3⟩) (4*w*v) (4*w*v+1)) 3 sd (EW w v G r):=dZ di Xe (by simp[EW]);rw[ad]at J ⊢;have c3:=xE E (hl.pre J) hv hn;refine ak c3 ?_;refine e_ ?_;generalize o3 H (EW w v G r) B T=h2 at *;have av:q9 (h2++[Fi (D8 w v l)]) (.slice (some ⟨h2.length,0,le 1⟩) (12*w*v) (12*w*v+1)) 1 Gc (D8 w v l):=dZ oM aK jR.symm;have U:u_ h2 (h2++[Fi (D8 w v l)]):=⟨_,rfl⟩;have y:=ax.pre U;have aE:=J.trans U;generalize h2++[Fi (D8 w v l)]=h4 at *;refine bK (g9:=HL×Value) (4*w*v) (λj s=>[.v s.2,.i (ofNat j)]) (λ_ s=>s.1) (λj s=>u_ h4 s.1/\aI s.2=true/\MkL h4.length s.1 s.2 4 Qv (D7 w v l G r j)) (j0:=0) (s0:=(h4,.slice none 0 0)) rfl rfl (D6 _) ⟨.refl _,rfl,.nil _ _ _ _⟩ ?_;rintro a ⟨h,z⟩ ha ⟨f,p,A⟩ a2 L;simp only at f p A ⊢;refine e_ ?_;refine bw (y.pre f) ?_;rw[show(EW w v G r).length=4*w*v by simp[EW]];by_cases o:a<4*w*v
  case neg=>
   obtain rfl:a=4*w*v:=a_;rw[aN (B8 _)];refine e_ ?_;exact⟨z,rfl,aE.trans f,p,A.ls⟩
  rw[aO o];refine e_ ?_;refine bK (g9:=HL×Value) 3 (λk s=>[.v s.2,.i (ofNat k)]) (λ_ s=>s.1) (λk s=>u_ h4 s.1/\aI s.2=true/\MkL h4.length s.1 s.2 4 Qv (D7 w v l G r a++(range k).filterMap (Fq w v l G r a))) (j0:=0) (s0:=(h,z)) rfl rfl (D6 _) ⟨f,p,by simpa using A⟩ ?_;clear f p A;rintro k ⟨h,z⟩ hk ⟨f,p,A⟩ O t;simp only at f p A ⊢;refine e_ ?_;by_cases C:k<3
  case neg=>
   obtain rfl:k=3:=a_;rw[v_ (show(3:Int)<=ofNat 3 from dT _)];refine e_ ?_;rw[aU a_];exact L (h,z) o ⟨f,p,by rw[wU];exact A⟩
  rw[ua (show ofNat k<3 by grind)];refine e_ ?_;refine aj (AJ E o C) ?_;have q:Fq w v l G r a k=none->O [.v z,.i (ofNat k+1)] h:=λI=>t (h,z) C ⟨f,p,by rw[vZ,I];simpa using A⟩;have D:=iL (a%4) k;cases W:y0 w v a (eK (a%4) k)with
  |none=>
   rw[show IR w v a k = -1 by unfold IR;rw[W]];refine e_ ?_;rw[ua (show(-1:Int)<ofNat a by grind)];refine e_ ?_;rw[aU a_];exact q (by unfold Fq;rw[W])
  |some b=>
  rw[show IR w v a k=ofNat b by unfold IR;rw[W]];obtain⟨Q,g2,g3,Y,g5⟩:=cQ V o D W;refine e_ ?_;by_cases an:b<a
  .rw[aO an];refine e_ ?_;rw[aU a_];exact q (by unfold Fq;grind)
  rw[aN a_];refine e_ ?_;rw[Mq a_];refine k_ ?_;rw[zG a_];refine k_ ?_;refine aQ (av.pre f) rfl (pC o C) ?_;rw[show Gc (JU w v l a k)=[.int .u8 (JU w v l a k)]from rfl];refine e_ ?_;by_cases F:JU w v l a k=0
  case neg=>
   rw[D0 F];refine e_ ?_;rw[aU a_];exact q (by unfold Fq;simp_all)
  rw[DZ F];refine e_ ?_;have a3:Dy l (min a b) (eK (a%4) k)=false:=by
   rw[←Hz,←se S];intro h;refine h ?_;unfold JU at F
   simp_all
  have ag:G b=G a:=by
   rw[R.g a _ b o D W];unfold E_
   simp_all
  have u:DV 20000 (af (G a) r):=aZ (eS (R.ok a o) hr) a_;have P:=dS V o;have rb:=dS V Q;have pa:=kY (G:=G) (r:=r) o;have pb:=kY (G:=G) (r:=r) Q;rw[ag]at pb;have M:Fq w v l G r a k=some (a,b,q8 (ar (af (G a) r) (pu w a)) (eT (af (G a) r).1 (eK (a%4) k))):=by
   unfold Fq
   grind
  generalize af (G a) r=m at *;have rm:=wO u (c:=pu w a) (k:=1000) ⟨P.1,P.2.1,P.2.2.1,P.2.2.2.1⟩;have X:=qu (m:=m) (c:=pu w a) u.1 (by obtain⟨_,Q,g2,g3,Y,_⟩:=u;omega) P.2.2.2.2 a_;have N:=qu (m:=m) (c:=pu w b) u.1 (by obtain⟨_,Q,g2,g3,Y,_⟩:=u;omega) rb.2.2.2.2 a_;rw[Y,io u.1 P.2.2.2.2 D]at N;have bt:=NH (c:=ar m (pu w a)) (e:=eT m.1 (eK (a%4) k)) rm.2.2.2.2 (mJ D) a_;have k1:=lu E o;have k2:=lu E Q;rw[Y]at k2;generalize EO (ar m (pu w a)) (eT m.1 (eK (a%4) k))=d at *;generalize q8 (ar m (pu w a)) (eT m.1 (eK (a%4) k))=ln at *;simp only[Et,D5,EQ,EG]at k1 k2 X N bt;refine aQ (y.pre f) rfl pa ?_;rw[show sd m=[.int .u8 (ofNat m.1),.int .i64 m.2.1,.int .i64 m.2.2]from rfl];refine e_ ?_;refine aj k1 ?_;refine e_ ?_;refine aj X ?_;refine e_ ?_;refine aQ (y.pre f) rfl pb ?_;rw[show sd m=[.int .u8 (ofNat m.1),.int .i64 m.2.1,.int .i64 m.2.2]from rfl];refine e_ ?_;refine aj k2 ?_;refine e_ ?_;refine aj N ?_;refine e_ ?_;refine aj bt ?_;refine e_ ?_;have a4:=lY (w:=w) (v:=v) (l:=l) (G:=G) (r:=r) (n:=a);have a1:=AZ (w:=w) (v:=v) (l:=l) (G:=G) (r:=r) (a:=a) (k:=k)
  refine y4 (h0:=h4) (a:=((a,b,ln):Pc)) f A rfl rfl rfl rfl (by
   unfold bc;rw[HY,EY a_,EY a_];rfl) ?_
  intro z' h' ay al hg _ _;refine e_ ?_;refine ab hg ?_;refine k_ ?_;rw[aU a_];exact t (h',z') C ⟨ay,hg,by rw[vZ,M,←FL];exact al⟩)
 grind
def aE{j7:Type}{e b:Nat}{enc:j7->Tn}{h:HL}{x:TR}{new:List j7}{m:Nat}{K:Tb}(f:h[m]?=some (.o (.cells [] e true)))(j:q9 h x e enc new)(l:0<new.length)(k:new.length*b<=140737488355328)(d:new.length<=140737488355328)
  (g:K [.slice (some ⟨h.length,0,le e⟩) new.length 0] (h++[.o (.cells (new.flatMap enc) e true)])) :
  P1.heap (.ap cc e b (.slice (some ⟨m,0,le e⟩) 0 1) x) h (@i' _ ⟨K⟩):=by
 have i:bc (0+new.length) b=true:=by
  rw[F9];unfold bc
  simp_all
 have c:cut ([]:Tn) 0 (0*e)=some []:=Sx.vd c_;have a:Fw cc e b (.slice (some ⟨m,0,le e⟩) 0 1) x (s7 aa h) h.length=some ([.push (.cells ([]++new.flatMap enc) e true)],[.slice (some ⟨h.length,0,le e⟩) (0+new.length) 0]):=by
  unfold Fw;rw[ml j.2];simp only[ne_eq,not_true_eq_false,if_false];rw[bB f]
  grind
 refine bH (show(Hp.ap cc e b (.slice (some ⟨m,0,le e⟩) 0 1) x).run _ _=_ from a) ?_;rw[F9];exact g
def DX(a b:Cl):Bool:=decide (b.2.1<a.2.1∨(a.2.1=b.2.1/\(b.1<a.1∨(a.1=b.1/\b.2.2<a.2.2))))
def NB{a b:Cl}:Cc 76 (Et a++Et b) [.i (if DX a b then 1 else 0)]:=by
 obtain⟨x,y,q⟩:=a;obtain⟨d,e,c⟩:=b;refine q76 rfl ?_;unfold f76;simp only[ub];simp only[Et,EQ,EG];refine e_ ?_;have l:(ofNat c<ofNat q)↔c<q:=Int.ofNat_lt;by_cases h:e<y
 .rw[DI h];refine e_ ?_;rw[show DX (x,y,q) (d,e,c)=true from Gs (.inl h)];rfl
 rw[CX a_];refine e_ ?_;by_cases f:y=e
 case neg=>
  rw[xk f];refine e_ ?_;rw[show DX (x,y,q) (d,e,c)=false from GI (by simp only;omega)];rfl
 rw[t_ f];refine e_ ?_;by_cases j:d<x
 .rw[DI j];refine e_ ?_;rw[show DX (x,y,q) (d,e,c)=true from Gs (.inr ⟨f,.inl j⟩)];rfl
 rw[CX a_];refine e_ ?_;by_cases g:x=d
 case neg=>
  rw[xk g];refine e_ ?_;rw[show DX (x,y,q) (d,e,c)=false from GI (by simp only;omega)];rfl
 rw[t_ g];refine e_ ?_;by_cases k:c<q
 .rw[DI (l.2 k)];refine e_ ?_;rw[show DX (x,y,q) (d,e,c)=true from Gs (.inr ⟨f,.inr ⟨g,k⟩⟩)];rfl
 .rw[CX a_];refine e_ ?_;rw[show DX (x,y,q) (d,e,c)=false from GI (by simp only;omega)];rfl
end Go.Am
end

import Derived.Test.YtohimaenikegoaaGreatDoorOE7
import Derived.Shelf.SlSortCmp.WholeK
set_option linter.all false
noncomputable section
set_option maxRecDepth 100000
set_option maxHeartbeats 16000000
open Int(ofNat)
open List(range replicate)
namespace Go.Am
open Sx Go.Proofs
def NV(w v:Nat)(l:TD)(G:TH)(r:Mv)(L:List Dk)(ln:Ln)(s o:Bool)(H:HL)(e:TG)(h':HL):Prop:=
 ∃z d l' c,e=[.i (.ofNat w),.i (.ofNat v),.v z,.i (ofNat (fT ln s L r L.length).1),.i (fT ln s L r L.length).2.1,.i (fT ln s L r L.length).2.2,.v d]/\v_ H h'/\
  h_ H.length h' z 3 n4 l'/\l'.Perm (l++DN w v (λa=>af (G a) r) o ln (CV w v l G r (4*w*v)))/\Fh l'/\q9 h' d 4 Ch c/\Ey H.length h' c/\(c.map FL).Perm (I5 ln s o L)/\c.Pairwise λa b=>CX a.1 b.1=false
def Pm{w v:Nat}(h3:S3 w v){l:TD}{H:HL}{x xs:TR}(hl:q9 H x 3 n4 l)(hv:∀c∈l,VC w v c)(ek:∀c∈l,c.2.2≠0)(hn:l.length<=800){r:Mv}(hr:CM 10000 r){G:TH}(hG:Cz w v l G)
  {L:List Dk} (hL:StL H xs L) (fr:0<L.length) (hh:L.length<=100) (fs:∀a∈L,a.1.2.2<4/\-20000<=a.1.1/\a.1.1<=20000/\-20000<=a.1.2.1/\a.1.2.1<=20000) (c0:∀a∈L,a.2≠[]/\a.2.length<=100)
  {ln:Ln} (ev:1<=ln.1/\ln.1<=4) (gd:-10000<=ln.2/\ln.2<=10000) (s o:Bool) :
  ∃rs h',aA cc ac 46 ([.i (.ofNat w),.i (.ofNat v),.v x]++CT r++[.v xs,.i (.ofNat ln.1),.i ln.2,.i (if s then 1 else 0),.b o]) (g_ aa H) rs (g_ aa h')/\NV w v l G r L ln s o H rs h':=by
 have hs:=h3.sh;obtain⟨b1,b2,b3,b4⟩:=h3.n;have hN:=E_ hs;obtain⟨M,hM,gg,hm⟩:=hL;have cm:=Bh ev (by omega:-100000<=ln.2/\ln.2<=100000);have bm:CM 20000 (wd ln):=zA (n:=10000) gd;have ce:=As (aZ hr a_) (aZ bm a_);exact x46 (ls:=[.i (.ofNat w),.i (.ofNat v),.v x,.i (ofNat r.1),.i r.2.1,.i r.2.2,.v xs,.i (.ofNat ln.1),.i ln.2,.i (if s then 1 else 0),.b o]) (K:=NV w v l G r L ln s o H) (H:=H) (k_ (k_ (q7 hl.i_ (k_ (k_ (k_ (q7 hM.i_ (k_ (k_ (k_ (H0 t0))))))))))) (by
  unfold f46;simp only[u5];refine e_ ?_;refine ai cm ?_;simp only[CT,Dl,DI,DA]at ce ⊢;refine e_ ?_;refine(h_.emp (i7:=Eb) (enc:=n4) (n0:=H.length) aD (A9 _)).N_ (λ_=>rfl) c_ (hl.pre ⟨_,rfl⟩) ua ua ?_;intro zc h0 A f2 el g0 _;rw[DA]at A;have gu:v_ H h0:=bO ⟨_,rfl⟩ λi o O ho=>el i o ho λe=>by
   have:H.length=i:=by simpa[hY]using e
   omega
  refine e_ ?_;refine ab f2 ?_;refine km ?_;generalize go:wd ln=m at *;refine bN (g9:=HL×Value×Value×List Sk×List Sk) L.length (λj t=>[.v t.2.1,.v t.2.2.1,.i (ofNat j),.i (.ofNat w),.i (.ofNat v),.v zc,.i (ofNat (fT ln s L r j).1),.i (fT ln s L r j).2.1,.i (fT ln s L r j).2.2,.v (.slice none 0 0)]) (λ_ t=>t.1)
   (λj t=>v_ H t.1/\FW H.length t.1 t.2.1 t.2.2.1 zc t.2.2.2.1 t.2.2.2.2 l/\t.2.2.2.1.map FL=JJ ln s (L.take j)/\t.2.2.2.2.map FL=GA ln s (L.take j))
   (j0:=0) (s0:=(h0,.slice none 0 0,.slice none 0 0,[],[])) (by simp[fT,GA]) rfl (C6 _) ⟨gu,⟨.nil _ _ _ _,.nil _ _ _ _,A,(λb C=>by cases C),.nil _ _⟩,rfl,rfl⟩ ?_
  rintro j ⟨h,zs,za,Ms,Z⟩ Y ⟨E,hf,Q,a4⟩ a2 D;simp only at E hf Q a4 ⊢;refine e_ ?_;refine bz (hM.pre E) ?_;rw[gg];by_cases I:j<L.length
  case neg=>
   rw[aM a_];refine e_ ?_;obtain rfl:j=L.length:=a_;clear D I;rw[YW]at Q a4;have a1:Ms.length<=100:=by
    have:=congrArg List.length Q;rw[FV]at this;have h2:(JJ ln s L).length<=L.length:=qcE _ _;omega
   have ex:Z.length<=100:=by
    have:=congrArg List.length a4;rw[FV]at this;have h2:(GA ln s L).length<=L.length:=by
     unfold GA
     grind
    omega
   have ds:∀a∈Z,a.2.2.length<=100:=λa ha=>by
    have h1:FL a∈GA ln s L:=a4▸CS.2 ⟨a,ha,rfl⟩;obtain⟨b,C,dj⟩:=CS.1 h1;have h3:=(c0 b (Gm.1 C).1).2;have h4:=congrArg (λx:Dk=>x.2.length) dj;simp only[List.length_reverse]at h4;have:(FL a).2=a.2.2:=rfl
    simp_all
   refine bN (g9:=HL×Value×List Sk) Z.length (λi t=>[.v t.2.1,.i (ofNat i)]) (λ_ t=>t.1)
    (λi t=>v_ H t.1/\h_ H.length t.1 t.2.1 4 Ch t.2.2/\h_ H.length t.1 za 4 Ch Z/\h_ H.length t.1 zc 3 n4 l/\(∀b,hY t.2.1=some b->hY za≠some b)/\Ey H.length t.1 (t.2.2++Z.drop i)/\t.2.2.map FL=((GA ln s L).take i).foldl (E2 o) (JJ ln s L)/\t.2.2.length<=100+i/\∀q∈t.2.2,q.2.2.length<=100+100*i)
    (j0:=0) (s0:=(h,zs,Ms)) rfl rfl (C6 _) ⟨E,hf.os,hf.oa,hf.oc,hf.ne,by simpa using hf.pc,by simpa using Q,a_,λq hq=>by
     have h1:FL q∈JJ ln s L:=Q▸CS.2 ⟨q,hq,rfl⟩;exact(c0 _ (Gm.1 h1).1).2⟩ ?_
   clear E hf Q a1;rintro i ⟨h,zs,Ms⟩ O ⟨E,ap,a0,A,aE,U,Q,a1,cp⟩ a2 D;simp only at E ap a0 A aE U Q a1 cp ⊢;refine e_ ?_;have bk:=a0.ls dp;have bl:=ap.ls dp;refine bz bk ?_;by_cases I:i<Z.length
   case neg=>
    rw[aM a_];refine e_ ?_;obtain rfl:i=Z.length:=a_;clear D I;have g6:(GA ln s L).length=Z.length:=jn;rw[Ik a_]at Q;rw[List.drop_length,GU]at U;have eB:0<Ms.length:=by
     have:=congrArg List.length Q;rw[FV]at this;rw[this];exact C0.2 (BT (ln:=ln) (s:=s) (o:=o) (L:=L) λe=>by subst e;simp at fr)
    obtain⟨l4,h4,zS,c4,ca,dT,eZ,fa⟩:=RF (l6 bl) (by simpa using eB) jn (λt ht=>by
     obtain⟨q,hq,rfl⟩:=CS.1 ht;exact(U.1 q hq).i_ bu)
    refine ak c4 ?_;refine e_ ?_;obtain⟨a3,eX,rfl⟩:=xP eZ;have dT:=ls54 dT;have ct:=E.trans ca;obtain⟨hI,h5,c5,a6,dA⟩:=rR h3 (hl.pre ct) hv ek a_ (r:=r) (aZ hr a_);simp only[CT,DI,DA]at c5;refine ak c5 ?_;rcases a6 with⟨rfl,b9⟩|⟨G',T,d9,rfl,B,rfl⟩
    .exact absurd ⟨G,hG.g,hG.z⟩ b9
    refine e_ ?_;have ea:DO w v G' r=DO w v G r:=by
     unfold DO;refine WN λc hc=>?_;rw[Jv hs d9 hG (Cm.1 hc)]
    have ay:q9 (o3 h4 (DO w v G r) B T) (.slice (some ⟨h4.length,0,le 3⟩) (4*w*v) (4*w*v+1)) 3 sd (DO w v G r):=dM db V_ (by simp[DO]);rw[ea]at dA ⊢;generalize hw:h4.length=bP at *;generalize o3 h4 (DO w v G r) B T=h5 at *;have cw:=ct.trans dA;obtain⟨zP,h6,c6,dB,hg,R⟩:=zR h3 (hl.pre cw) hM.i_ hv ek a_ hr hG;simp only[CT,DI,DA]at c6;refine ak c6 ?_;refine e_ ?_;have cy:=cw.trans dB;have bn:=dA.trans dB;have eM:=λp (E:p∈CV w v l G r (4*w*v))=>mt E;have hu:=lz (w:=w) (v:=v) (l:=l) (G:=G) (r:=r) (n:=4*w*v);have av:∀b,hY zc=some b->b≠bP:=λb C=>by
     have:=(A.hY C).2;have:=ca.len;omega
    have cq:h_ H.length h6 zc 3 n4 l:=A.j9 λj d Y _=>(ca.trans bn).get Y;have cA:Ey H.length h6 a3:=(U.j9 λp _ j d Y _=>(ca.trans bn).get Y).perm eX;have cS:=dT.pre bn;have cn:=ay.pre dB;unfold NV;generalize CV w v l G r (4*w*v)=ps at *;generalize bt:fT ln s L r L.length=rt at *;clear c4 c5 c6 bl bk ap a0 aE A U hm d9 ea;refine bN (g9:=HL×Value) ps.length (λj t=>[.i (ofNat j),.i (.ofNat w),.i (.ofNat v),.v t.2,.i (ofNat rt.1),.i rt.2.1,.i rt.2.2,.v zS]) (λ_ t=>t.1)
     (λj t=>v_ H t.1/\h_ H.length t.1 t.2 3 n4 (l++DN w v (λa=>af (G a) r) o ln (ps.take j))/\q9 t.1 zS 4 Ch a3/\Ey H.length t.1 a3/\q9 t.1 zP 4 O5 ps/\q9 t.1 (.slice (some ⟨bP,0,le 3⟩) (4*w*v) (4*w*v+1)) 3 sd (DO w v G r)/\∀b,hY t.2=some b->b≠bP)
     (j0:=0) (s0:=(h6,zc)) rfl rfl (C6 _) ⟨cy,by simpa[DN]using cq,cS,cA,R,cn,av⟩ ?_
    clear cy cq cS cA R cn av;rintro j ⟨g,zc⟩ Y ⟨bs,A,al,ag,R,ay,av⟩ a2 D;simp only at bs A al ag R ay av ⊢;have hC:(DN w v (λa=>af (G a) r) o ln (ps.take j)).length<=j:=by
     unfold DN
     grind
    have fx:(l++DN w v (λa=>af (G a) r) o ln (ps.take j)).length<=950:=by
     grind
    refine e_ ?_;refine bz R ?_;by_cases I:j<ps.length
    case neg=>
     obtain rfl:j=ps.length:=a_;rw[aM (A9 _)];refine e_ ?_;rw[YW]at A fx;obtain⟨l8,h8,c8,e0,fb,eG,dn⟩:=Qv A a_;refine ak c8 ?_;refine e_ ?_;have gv:v_ H h8:=bO bs λi d O ho=>dn i d ho λe=>by
      have:=(A.hY e).1;omega
     refine⟨zc,zS,l8,a3,by rw[←bt]<;>rfl,gv,eG,e0,fb,al.j9 λi d O C=>dn i d O λe=>P' (e:=3) (e':=4) (A.ls λ_=>rfl) al oo e C,ag.j9 λp E i d O C=>dn i d O λe=>fP A (ag.1 p E) a_ e C,?_,?_⟩
     .show(a3.map FL).Perm (List.foldl (E2 o) (JJ ln s L) (GA ln s L))
      grind
     .have:=Nf.1 (show(a3.map λt:Sk=>((t.1,t.2.1):IB)).Pairwise _ from fa);exact this
    rw[aN I];refine e_ ?_;obtain⟨p,E⟩:=aq I;obtain⟨dC,k,hk,eP,a6,hE,hD⟩:=eM p (Cf E);have bx:=M0 (w:=w) (v:=v) (P:=λa=>af (G a) r) (o:=o) (ln:=ln) E;refine dF (cs:=[.int .u8 (ofNat p.2.2.1),.int .i64 p.2.2.2]) R rfl E rfl a_ ?_;refine e_ ?_;refine zK (λf1=>?_) (λaE=>?_)
    case refine_2=>
     simp(disch:=omega)only[↓nc,EB];rw[aY a_];refine D (g,zc) I ⟨bs,?_,al,ag,R,ay,av⟩
     grind
    simp(disch:=omega)only[↓nc,DP];have gy:p.2.2=ln:=WO jn f1.2;rw[rv gy]at bx;refine dF (cs:=[.int .i64 (ofNat p.1)]) R rfl E rfl a_ ?_;refine e_ ?_;have gx:(DO w v G r)[p.1]?=some (af (G p.1) r):=kq dC;refine dF (cs:=[.int .u8 (ofNat (af (G p.1) r).1)]) ay rfl gx rfl a_ ?_;refine e_ ?_;have d0:=O4 h3 dC hk eP;have ef:O2 w v p.1 p.2.1=eK (p.1%4) k:=mX hs dC (iq _ _) eP;rw[←ef]at d0;have bb:∀kd:Int,kd=(if decide ((af (G p.1) r).1<4)=o then 2 else 1)->∀z2 N,h_ H.length N z2 3 n4 ((l++DN w v (λa=>af (G a) r) o ln (ps.take j))++[((ofNat p.1,ofNat (O2 w v p.1 p.2.1),kd):Eb)])->(∀(i:Nat) d,g[i]?=some d->hY zc≠some i->N[i]?=some d)->(hY z2=hY zc∨∃i,hY z2=some i/\g.length<=i)->a2 [.i (ofNat j+1),.i (.ofNat w),.i (.ofNat v),.v z2,.i (ofNat rt.1),.i rt.2.1,.i rt.2.2,.v zS] N:=by
     intro kd ga z2 N J f dj;refine D (N,z2) I ⟨bO bs λi d O ho=>f i d ho λe=>by
      have:=(A.hY e).1;omega,?_,al.j9 λi d O C=>f i d O λe=>P' (e:=3) (e':=4) (A.ls λ_=>rfl) al oo e C,ag.j9 λp E i d O C=>f i d O λe=>fP A (ag.1 p E) a_ e C,R.j9 λi d O C=>f i d O λe=>P' (e:=3) (e':=4) (A.ls λ_=>rfl) R oo e C,ay.j9 λi d O C=>f i d O λe=>av i e ?_,λb C=>?_⟩
     .rw[bx,←EF];have:OT w v (λa=>af (G a) r) o p=(ofNat p.1,ofNat (O2 w v p.1 p.2.1),kd):=by
       unfold OT;rw[ga]
      simp_all
     .have:bP=i:=by simpa[hY]using C
      omega
     .simp only at C;rcases dj with e|⟨i,e,et⟩
      .exact av b (e▸C)
      .rw[e]at C;cases C;have:=ay.blkLt (i:=bP) rfl;omega
    by_cases fl:(af (G p.1) r).1<4
    case' pos=>rw[ub (show ofNat (af (G p.1) r).1<4 by grind)]
    case' neg=>rw[vc (show(4:Int)<=ofNat (af (G p.1) r).1 by grind)]
    case' pos=>have hd:=E8 fl
    case' neg=>have hd:=Fv fl
    all_goals
     rw[hd]at bb;cases o
    all_goals
     try rw[Ig rfl]
     simp(disch:=omega)only[↓nc,DP,EB];refine dF (cs:=[.int .i64 (ofNat p.1)]) R rfl E rfl a_ ?_;refine e_ ?_;refine dF (cs:=[.int .i64 (ofNat p.1)]) R rfl E rfl a_ ?_;refine e_ ?_;refine dF (cs:=[.int .i64 (ofNat p.2.1)]) R rfl E rfl a_ ?_;refine e_ ?_;refine ai d0 ?_;refine e_ ?_;refine A.G8 (a:=((ofNat p.1,ofNat (O2 w v p.1 p.2.1),_):Eb)) (λ_=>rfl) (by have:=bs.len;omega) rfl rfl rfl (by
      unfold bc;rw[DQ a_,DQ a_];rfl) ?_
     intro z2 N J X f ad F;refine e_ ?_;refine ab X ?_;refine km ?_;rw[aY a_]
     simp_all
   rw[aN I];refine e_ ?_;obtain⟨a,ha⟩:=aq I;have dl:Z.drop i=a :: Z.drop (i+1):=by
    rw[SZ I]
    simp_all
   have fp:(GA ln s L)[i]?=some (FL a):=by
    grind
   have cd:((GA ln s L).take (i+1)).foldl (E2 o) (JJ ln s L)=E2 o (Ms.map FL) (FL a):=by
    rw[Ii,fp,l3,←Q];rfl
   rw[dl]at U;have c9:=ds a (Cf ha);refine bN (g9:=HL×List Sk×Bool) Ms.length (λk t=>[.b t.2.2,.i (ofNat k)]) (λ_ t=>t.1)
    (λk t=>(t.2.2=false/\t.1=h/\t.2.1=Ms/\∀j,j<k->∀q,Ms[j]?=some q->q.1≠a.1)∨(t.2.2=true/\v_ H t.1/\h_ H.length t.1 zs 4 Ch t.2.1/\h_ H.length t.1 za 4 Ch Z/\h_ H.length t.1 zc 3 n4 l/\Ey H.length t.1 (t.2.1++Z.drop (i+1))/\t.2.1.map FL=E2 o (Ms.map FL) (FL a)/\t.2.1.length=Ms.length/\∀q∈t.2.1,q.2.2.length<=100+100*(i+1)))
    (j0:=0) (s0:=(h,Ms,false)) rfl rfl (C6 _) (.inl ⟨rfl,rfl,rfl,λj Y=>a_⟩) ?_
   rintro k ⟨g,M2,fd⟩ hk cl b0 W;simp only at cl ⊢;refine e_ ?_;rcases cl with⟨rfl,rfl,rfl,b9⟩|⟨rfl,V,cr,eE,eF,eV,eC,g7,eA⟩
   case inr=>
    refine bz (cr.ls dp) ?_;have bb:a2 [.v zs,.i (ofNat i+1)] g:=D (g,zs,M2) I ⟨V,cr,eE,eF,aE,eV,by rw[cd];exact eC,jn,eA⟩;refine xJ (λ_=>?_) (λ_=>?_)
    all_goals
     simp(disch:=omega)only[↓nc,DP];rw[aY a_];exact bb
   refine bz bl ?_;by_cases ax:k<M2.length
   case neg=>
    rw[aM a_];simp(disch:=omega)only[↓nc,EB];have b7:=U.1 a (Ek.2 (.inr Lk));have b6:=b7.i_ bu;refine aP bk rfl ha ?_;rw[show Ch a=[.int .i64 a.1.1,.int .i64 a.1.2.1,.int .u8 (ofNat a.1.2.2),a.2.1]from rfl];refine e_ ?_;refine ab b6 ?_;refine km ?_;refine ap.G8 (a:=a) dp (by have:=E.len;omega) rfl rfl rfl (by
     unfold bc;rw[DQ a_,DQ a_];rfl) ?_
    intro z2 N J X f ad F;refine e_ ?_;refine ab X ?_;refine km ?_;rw[aY a_];have a6:=E.len;refine D (N,z2,M2++[a]) I ⟨bO E λj d Y ho=>f j d ho λe=>by
     have:=(ap.hY e).1;omega,J,a0.j9 λj d Y C=>f j d Y λe=>aE j e C,A.j9 λj d Y C=>f j d Y λe=>fP ap A a_ e C,λb C a8=>?_,?_,?_,jn,λq hq=>?_⟩
    .rcases F with e|⟨j,e,et⟩
     .grind
     .simp only at C;rw[e]at C;cases C;have:=(a0.hY a8).2;omega
    .rw[EF];exact U.j9 λp E j d Y C=>f j d Y λe=>fP ap (U.1 p E) a_ e C
    .rw[cd,zu]
     .grind
     .intro j t ht;rw[Ew]at ht;cases hx:M2[j]? with
      |none=>rw[hx]at ht;cases ht
      |some q=>
       rw[hx]at ht;cases ht;exact b9 j jn q hx
    grind
   rw[aN ax];simp(disch:=omega)only[↓nc,EB];obtain⟨q,hq⟩:=aq ax;refine dF (cs:=[.int .i64 q.1.1,.int .i64 q.1.2.1,.int .u8 (ofNat q.1.2.2)]) bl rfl hq rfl a_ ?_;refine e_ ?_;refine dF (cs:=[.int .i64 a.1.1,.int .i64 a.1.2.1,.int .u8 (ofNat a.1.2.2)]) bk rfl ha rfl a_ ?_;refine e_ ?_;rw[eqsC];by_cases he:q.1=a.1
   case neg=>
    rw[Fv he];simp(disch:=omega)only[↓nc,EB];rw[aY a_];exact W (g,M2,false) ax (.inl ⟨rfl,rfl,rfl,λj Y t ht=>by
     grind⟩)
   rw[E8 he];simp(disch:=omega)only[↓nc,DP];have e7:=Cf hq;have dD:=U.1 q (Ek.2 (.inl e7));have b7:=U.1 a (Ek.2 (.inr Lk));have e6:=dD.i_ bu;have b6:=b7.i_ bu;have c9:=b7.ls bu;have g8:=cp q e7;have a6:=E.len;have cf:∀(id cx:Nat) (v':TR) (N:HL) (bC:TC),zs = .slice (some ⟨id,0,le 4⟩) M2.length cx->H.length<=id->g[id]?=some (.o (.cells (M2.flatMap Ch) 4 true))->(cx=0∨cx=M2.length+1)->h_ H.length N v' 1 mc bC->(∀(j:Nat) d,g[j]?=some d->hY q.2.1≠some j->N[j]?=some d)->(∀b,hY v'=some b->hY q.2.1=some b∨g.length<=b)->bC=(if o then q.2.2++a.2.2 else a.2.2++q.2.2)->
     N[id]?=some (.o (.cells (M2.flatMap Ch) 4 true))/\b0 [.b true,.i (ofNat k+1)] (po N id 4 Ch (M2.set k (q.1,v',bC))):=by
    intro id cx v' N bC c1 c2 c3 c4 c5 c6 c7 c8;obtain⟨d1,d2,d3,d4,d5,d6⟩:=stp (Mr:=Z.drop (i+1)) (a:=a) c1 c2 c3 c4 a0 A (λe=>aE id (by rw[c1];rfl) e) U hq c5 c6 c7;refine⟨d1,W (_,M2.set k (q.1,v',bC),true) ax (.inr ⟨rfl,bO E d6,d2,d3,d4,d5,?_,c_,λt ht=>?_⟩)⟩
    .rw[l1,KX (a:=FL a) (x:=FL q) (k:=k) jn he,c8]
     .rfl
     .intro j Y t ht;rw[Ew]at ht;cases hx:M2[j]? with
      |none=>rw[hx]at ht;cases ht
      |some q'=>
       rw[hx]at ht;cases ht;exact b9 j Y q' hx
    grind
   obtain⟨id,cx,gA,ck,i',ee⟩ : ∃id cx,zs = .slice (some ⟨id,0,le 4⟩) M2.length cx/\H.length<=id/\g[id]?=some (.o (.cells (M2.flatMap Ch) 4 true))/\(cx=0∨cx=M2.length+1):=by
    rcases ap with⟨_,e⟩|h
    .subst e;simp at ax
    .exact h
   subst gA;cases o with
   |true=>
    refine e_ ?_;refine dF (cs:=[q.2.1]) bl rfl hq rfl a_ ?_;refine e_ ?_;refine ab e6 ?_;refine km ?_;refine dF (cs:=[a.2.1]) bk rfl ha rfl a_ ?_;refine e_ ?_;refine ab b6 ?_;refine km ?_;refine dD.N_ bu a6 c9 a_ a_ ?_;intro v' N J X f ad F;obtain⟨d1,d2⟩:=cf id cx v' N _ rfl ck i' ee J f (λb C=>F.elim (λe=>.inl (e▸C)) λ⟨j,e,et⟩=>.inr jn) rfl;refine e_ ?_;refine ab X ?_;refine km ?_;refine xU (a':=((q.1,v',q.2.2++a.2.2):Sk)) dp d1 rfl hq rfl c_ rfl ?_;refine e_ ?_;rw[aY a_];exact d2
   |false=>
    refine e_ ?_;obtain⟨gC,fo,fn,f6,ci,_⟩ : ∃id cx,za = .slice (some ⟨id,0,le 4⟩) Z.length cx/\H.length<=id/\g[id]?=some (.o (.cells (Z.flatMap Ch) 4 true))/\(cx=0∨cx=Z.length+1):=by
     rcases a0 with⟨_,e⟩|h
     .subst e;simp at I
     .exact h
    have hB:id≠gC:=λe=>aE id rfl (by rw[fn,e];rfl);subst fn;have hz:=am i';have g5:=am ci;have b8:v_ g (g++[HO.o (.cells [] 1 true)]):=⟨_,rfl⟩;obtain⟨w1,w2,w3⟩:=Qy (o:=3) (k:=1) (cx:=fo) (n:=Z.length) dp (b8.get ci) ha rfl a_;refine ae w1 (ae w2 (ab (vV _ _) ?_));refine cU w3 rfl ?_;rw[show((Ch a).drop 3).take 1=[a.2.1]from rfl];refine e_ ?_;refine ab b6 ?_;refine km ?_;have f0:h_ (i7:=Nat) H.length (g++[HO.o (.cells [] 1 true)]) (.slice (some ⟨g.length,0,le 1⟩) 0 1) 1 mc []:=h_.emp aD a6;refine f0.N_ bu ua (c9.pre b8) ua ua ?_;intro v1 N J eg f ad F;rw[DA]at J;have bd:∀(j:Nat) d,g[j]?=some d->N[j]?=some d:=λj d Y=>f j d (cX Y) λe=>by
     have e':g.length=j:=by simpa[hY]using e
     grind
    have an:v_ g N:=Jn bd;refine e_ ?_;refine ab eg ?_;refine km ?_;obtain⟨u1,u2,u3⟩:=Qy (o:=3) (k:=1) (cx:=cx) (n:=M2.length) dp (bd _ _ i') hq rfl a_;refine ae u1 (ae u2 (ab (vV _ _) ?_));refine cU u3 rfl ?_;rw[show((Ch q).drop 3).take 1=[q.2.1]from rfl];refine e_ ?_;refine ab e6 ?_;refine km ?_;refine J.N_ bu (by have:=an.len;omega) ((dD.ls bu).pre an) a_ a_ ?_;intro v2 g3 gt ei f9 g4 gE;have hH:∀b,hY v1=some b->g.length<=b:=λb C=>by
     rcases F with e|⟨j,e,e'⟩
     .rw[C]at e;have:b=g.length:=by simpa[hY]using e
      omega
     grind
    have es:∀(j:Nat) d,g[j]?=some d->g3[j]?=some d:=λj d Y=>f9 j d (bd j d Y) λe=>by
     grind
    have fv:∀b,hY v2=some b->hY q.2.1=some b∨g.length<=b:=λb C=>by
     grind
    obtain⟨d1,d2⟩:=cf id cx v2 g3 _ rfl ck i' ee gt (λj d Y _=>es j d Y) fv rfl;refine e_ ?_;refine ab ei ?_;refine km ?_;refine xU (a':=((q.1,v2,a.2.2++q.2.2):Sk)) dp d1 rfl hq rfl c_ rfl ?_;refine km ?_;have gD:=jJ (J.ls bu);have n1:∀b,g.length≠id:=λ_=>a_;refine ae (x:=()) (by
     refine cZ (bR ⟨_,_,_,rfl⟩ λi O=>?_) (cZ (bR ⟨_,_,_,rfl⟩ λi O=>?_) (cZ (bR ⟨_,_,_,rfl⟩ λi O=>?_) (cZ (bR gD λi O=>?_) eR)))
     .have e:g.length=i:=by simpa[hY]using O
      omega
     .have e:g.length=i:=by simpa[hY]using O
      omega
     .have e:g.length=i:=by simpa[hY]using O
      omega
     grind) ?_
    refine km ?_;rw[aY a_];exact d2
  rw[aN I];refine e_ ?_;obtain⟨⟨c,y⟩,ez⟩:=aq (l:=M) (i:=j) a_;obtain⟨S,b5,a7⟩:=hm j _ ez;simp only at b5 a7;have ec:=Cf b5;have dk:=fs _ ec;have co:=c0 _ ec;simp only at dk co;have a1:Ms.length<=100:=by
   have:=congrArg List.length Q;rw[FV]at this;have h2:(JJ ln s (L.take j)).length<=(L.take j).length:=qcE _ _
   grind
  have ex:Z.length<=100:=by
   have:=congrArg List.length a4;rw[FV]at this;have h2:(GA ln s (L.take j)).length<=(L.take j).length:=by
    unfold GA
    grind
   grind
  have dr:=E.len;have gz:=a7.i_;refine aP (hM.pre E) rfl ez ?_;rw[show C_ (c,y)=[.int .i64 c.1,.int .i64 c.2.1,.int .u8 (ofNat c.2.2),y]from rfl];refine e_ ?_;refine ab gz ?_;refine km ?_;have d8:=Rz (l:=ln) (c:=c) ev a_ dk.1 a_;simp only[Dl,DI,DA]at d8;refine ai d8 ?_;refine e_ ?_;have e1:=RW (ln:=ln) (s:=s) b5;have e2:=Oc (ln:=ln) (s:=s) b5;have e9:(if dR ln c then(1:Int)else 0)=(if s then 1 else 0)↔dR ln c=s:=by
   grind
  have hF:v_ H h:=E;by_cases cb:dR ln c=s
  case neg=>
   rw[CA (λe=>cb (e9.1 e))];refine e_ ?_;have he:h_ (i7:=Nat) H.length (h++[HO.o (.cells [] 1 true)]) (.slice (some ⟨h.length,0,le 1⟩) 0 1) 1 mc []:=h_.emp aD dr;refine he.N_ bu ua (a7.pre (E.Fa _)) ua ua ?_;intro y1 g1 eD b8 f7 eu eb;rw[DA]at eD;have gb:∀(i:Nat) d,h[i]?=some d->g1[i]?=some d:=λi d O=>f7 i d (cX O) λe=>by
    have:h.length=i:=by simpa[hY]using e
    simp_all
   have V:v_ h g1:=Jn gb;refine e_ ?_;refine ab b8 ?_;refine km ?_;have a9:=hf.pre V;refine a9.os.G8 (a:=((c,y1,S):Sk)) dp (by simp at eu;omega) rfl rfl rfl (by
    unfold bc;rw[DQ a_,DQ a_];rfl) ?_
   intro z2 N J X f ad F;have fu:∀b,hY y1=some b->h.length<=b:=λb C=>by
    rcases eb with e|⟨i,e,e'⟩
    .rw[C]at e;have:b=h.length:=by simpa[hY]using e
     omega
    grind
   have dm:=a9.apS (c:=c) eD (λp E b C a8=>by
    have k1:=fu b C;have k2:=((hf.pc.1 p E).hY a8).2;omega) J f F
   have an:v_ H N:=bO (E.trans V) λi d O ho=>f i d ho λe=>by
    have:=(hf.os.hY e).1;omega
   refine e_ ?_;refine ab X ?_;refine km ?_;rw[aY a_];have bt:fT ln s L r j=fT ln s L r (j+1):=by
    unfold fT
    grind
   rw[bt];exact D (N,z2,za,Ms++[(c,y1,S)],Z) I ⟨an,dm,by
    rw[Ij,Q,e1,te cb];rfl,kb⟩
  rw[CN (e9.2 cb)];refine e_ ?_;refine bz (a7.pre E) ?_;have hy:0<S.length:=C0.2 co.1;refine km ?_;rw[K' jn jn];refine km ?_;refine bN (g9:=HL×Value) S.length (λk t=>[.v t.2,.i ((S.length:Int) - 1 - (k:Int)),.i (.ofNat w),.i (.ofNat v),.v zc,.i (ofNat (if 0∈S.reverse.take k then af r m else fT ln s L r j).1),.i (if 0∈S.reverse.take k then af r m else fT ln s L r j).2.1,.i (if 0∈S.reverse.take k then af r m else fT ln s L r j).2.2,.v (.slice none 0 0)]) (λ_ t=>t.1)
   (λk t=>v_ h t.1/\h_ h.length t.1 t.2 1 mc (S.reverse.take k)) (j0:=0) (s0:=(h,.slice none 0 0)) c_ rfl (C6 _) ⟨.refl _,.nil _ _ _ _⟩ ?_
  rintro k ⟨g,u⟩ hk ⟨V,a5⟩ b0 W;simp only at V a5 ⊢;refine e_ ?_;by_cases ax:k<S.length
  case pos=>
   rw[FT (show(0:Int)<=(S.length:Int) - 1 - (k:Int)by omega)];refine e_ ?_;obtain⟨id,i'⟩:=aq (l:=S) (i:=S.length - 1 - k) a_;have ej:S.reverse[k]?=some id:=jn;have cd:S.reverse.take (k+1)=S.reverse.take k++[id]:=by rw[Ii,ej];rfl
   have cC:(S.length:Int) - 1 - (k:Int)=ofNat (S.length - 1 - k):=by
    grind
   refine aP ((a7.pre E).pre V) cC i' ?_;rw[show mc id=[.int .i64 (ofNat id)]from rfl];refine e_ ?_;refine a5.G8 (a:=id) bu V.len rfl rfl rfl (by
    unfold bc;rw[C1,DQ a_,DQ a_];rfl) ?_
   intro u2 N J X f ad F;have an:v_ h N:=bO V λi d O ho=>f i d ho λe=>by
    have:=(a5.hY e).1;omega
   refine e_ ?_;refine ab X ?_;refine km ?_;refine aP ((a7.pre E).pre an) cC i' ?_;rw[show mc id=[.int .i64 (ofNat id)]from rfl];refine e_ ?_;rw[←cd]at J;have gs:(S.length:Int) - 1 - (k:Int) - 1=(S.length:Int) - 1 - ((k+1:Nat):Int):=a_;by_cases h0:id=0
   .subst h0;rw[ra (show ofNat 0=0 from rfl)];refine e_ ?_;refine ai ce ?_;refine e_ ?_
    simp_all
   .rw[wb (show ¬ofNat id=0 from λe=>h0 (by exact Jr e))];refine e_ ?_;rw[gs];have:=W (N,u2) ax ⟨an,J⟩
    grind
  obtain rfl:k=S.length:=a_;rw[FR (show(S.length:Int) - 1 - (S.length:Int)<0 by omega)];refine e_ ?_;rw[Ik c_]at a5 ⊢;have d7:=pL (m:=m) (c:=c) bm.1 (by obtain⟨_,q1,q2,q3,q4,_⟩:=bm;omega) dk.1 a_;simp only[Dl,CT,DI,DA]at d7;refine ai d7 ?_;refine e_ ?_;have a9:=(hf.pre V).symm;refine a9.os.G8 (a:=((aB m c,u,S.reverse):Sk)) dp (by have:=V.len;omega) rfl rfl rfl (by
   unfold bc;rw[DQ a_,DQ a_];rfl) ?_
  intro z2 N J X f ad F;have eL:h_ H.length g u 1 mc S.reverse:=by
   rcases a5 with e|⟨id,cx,e1,e2,e3⟩
   .exact .inl e
   .exact .inr ⟨id,cx,e1,a_,e3⟩
  have dm:=(a9.apS (c:=aB m c) eL (λp E b C a8=>by
   have k1:=(a5.hY C).1;have k2:=((hf.symm.pc.1 p E).hY a8).2;omega) J f F).symm
  have an:v_ H N:=bO (E.trans V) λi d O ho=>f i d ho λe=>by
   have:=(hf.oa.hY e).1;omega
  refine e_ ?_;refine ab X ?_;refine km ?_;rw[aY a_];have bt:(if 0∈S.reverse then af r m else fT ln s L r j)=fT ln s L r (j+1):=by
   unfold fT
   grind
  rw[bt];exact D (N,zs,z2,Ms,Z++[(aB m c,u,S.reverse)]) I ⟨an,dm,kb,by
   rw[Ij,a4,e2,rv cb,go];rfl⟩)
def OO{w v:Nat}(a:S3 w v){l:TD}{G:TH}(o:oL w v l G)(q:G 0=CJ):Cz w v l G:=by
 have p:=a.sh;have m:∀(d c:Nat),c<4*w*v->dst w c=d->CM (20*(d:Int)) (G c):=by
  intro d
  induction d using Nat.strongRecOn with
  |_ d x=>
   intro c h u;have f:=A_.1 (T4 w v a.1 a.2.1 a.2.2.1 a.2.2.2) c (Cm.2 h);unfold Nz at f;rw[vd,Gk]at f;rcases f.2 with s|t
   .obtain rfl:=Dx s;rw[q];exact zB a_
   .obtain⟨e,i,g⟩:=c9.1 t;have i:=Cm.1 i;cases k:Cv w v c e with
    |none=>rw[k]at g;cases g
    |some n=>
     rw[k]at g;have g:=Dx g;obtain⟨b,j,_⟩:=dO p h i k;have r:=x (dst w n) a_ n b rfl;rw[o n e c b i j];exact aZ (yz p b i j r a_) a_
 refine⟨o,q,λc h=>?_⟩;have f:=A_.1 (T4 w v a.1 a.2.1 a.2.2.1 a.2.2.2) c (Cm.2 h);unfold Nz at f;rw[vd]at f;have u:=Nat.le_of_ble_eq_true f.1;exact aZ (m _ c h rfl) a_
def Qb{l:TD}(h:Fh l)(d:(l.map bo).Nodup):l.Pairwise λa b=>Gb a b=true:=by
 have g:l.Pairwise λa b=>bo a≠bo b:=Nf.1 d;refine(List.Pairwise.and h g).imp λ{a b} c=>?_;obtain⟨f,i⟩:=c;have f:=AW.1 f;unfold Gb;rw[Gk,vd];simp only[EP];have j:¬(a.1=b.1/\a.2.1=b.2.1):=λe=>i (by unfold bo;rw[e.1,e.2]);omega
structure GZ(w v:Nat)(k:Int)(l:TD)(r:Mv)(G:TH)(L:List Dk):Prop where
 vk:∀c∈l,VK w v c
 so:l.Pairwise λa b=>Gb a b=true
 co:Cz w v l G
 rk:CM k r
 st:IA (λc=>aB (af (G c) r) (q8 w c)) (range (4*w*v)) L
 ss:L.Pairwise λa b=>CX b.1 a.1=true
def VK.k0{w v:Nat}{c:Eb}(h:VK w v c):c.2.2≠0:=by have:=h.2;omega
def iX{w v:Nat}(x:Sh w v){l:TD}{G:TH}{r:Mv}:(CV w v l G r (4*w*v)).Pairwise λp q=>¬(p.1=q.1/\p.2.1=q.2.1):=by
 unfold CV;rw[List.pairwise_flatMap];have D:∀a p,p∈QM w v l G r a->p.1=a/\∃k,k<3/\Eh w v l G r a k=some p:=λa p d=>by
  obtain⟨k,B,f⟩:=Q_.1 d;refine⟨?_,k,Cm.1 B,f⟩;unfold Eh at f
  grind
 refine⟨λa g=>?_,?_⟩
 .have g:=Cm.1 g;unfold QM;rw[qde];have t:(range 3).Pairwise λi j=>i<j:=fu;refine(qcC.1 t).imp λ{i j} o=>?_;obtain⟨n,s,C⟩:=o;have n:=Cm.1 n;have s:=Cm.1 s;intro p d q m e;have d:Eh w v l G r a i=some p:=d;have m:Eh w v l G r a j=some q:=m;have c:∀k p,Eh w v l G r a k=some p->Cv w v a (eK (a%4) k)=some p.2.1:=λk p h=>by
   unfold Eh at h
   grind
  have u:=c i p d;have f:=c j q m;rw[e.2]at u;have y:=mX x g (iq _ _) u;have z:=mX x g (iq _ _) f;have e3:eK (a%4) i=eK (a%4) j:=y.symm.trans z;have:i=j:=by rw[←qE (q:=a%4) n,e3,qE s]
  omega
 .have t:(range (4*w*v)).Pairwise λi j=>i<j:=fu;refine t.imp λ{a b} A p d q m e=>?_
  grind
def Yz{w v:Nat}(g:S3 w v){k:Int}{l:TD}{r:Mv}{G:TH}(h:Cz w v l G)(q:CM k r){p:NG}(j:p∈CV w v l G r (4*w*v)):(1<=p.2.2.1/\p.2.2.1<=4)/\-(2*k+32)<=p.2.2.2/\p.2.2.2<=2*k+32/\CM (2*k+32) (wd p.2.2):=by
 obtain⟨b,i,s,m,o,n,a⟩:=mt j;have f:eT (af (G p.1) r).1 (eK (p.1%4) i)<3:=lW (iq _ _);have d:=P5 (c:=aB (af (G p.1) r) (q8 w p.1)) (e:=eT (af (G p.1) r).1 (eK (p.1%4) i)) iZ f (tq g h q b);rw[←a]at d;refine⟨by rw[a];exact KM iZ f,a_,a_,aZ d.1 a_⟩
def PU{w v:Nat}{l:TD}{u k n:Nat}(b:Cv w v u (eK (u%4) k)=some n)(a:u<n):IE w v l u k=SS l u (eK (u%4) k):=by
 unfold IE
 grind
def GZ.keys{w v:Nat}(J:S3 w v){k:Int}{l:TD}{r:Mv}{G:TH}{L:List Dk}(h:GZ w v k l r G L){ln:Ln}{o:Bool}{u e n:Nat}(I:u<4*w*v)(F:e<3)(C:Cv w v u e=some n)(B:u<n) :
  ((ofNat u,ofNat e):Ku)∈(DN w v (λa=>af (G a) r) o ln (CV w v l G r (4*w*v))).map bo↔(CD l u e=false/\s7 (aB (af (G u) r) (q8 w u)) (eT (af (G u) r).1 e)=ln):=by
 have H:=J.sh;have g:∀c∈l,c.2.2≠0:=λc x=>(h.vk c x).k0;constructor
 .intro M;obtain⟨c,x,b⟩:=CS.1 M;unfold DN at x;obtain⟨p,y,rfl⟩:=CS.1 x;obtain⟨y,j⟩:=Gm.1 y;have j:=of_decide_eq_true j;obtain⟨E,i,P,s,t,d,q⟩:=mt y;have A:=mX H E (iq _ _) s;unfold bo OT at b;simp only[Q7]at b;have z:p.1=u:=Jr b.1;have m:O2 w v p.1 p.2.1=e:=Jr b.2;rw[A]at m;subst z;rw[m]at q;refine⟨?_,q.symm.trans j⟩;rw[←Gj,←rp g];intro D;rw[PU s t,m]at d;exact D d
 .rintro⟨K,O⟩;have f:eK (u%4) (eK (u%4) e)=e:=qE F;have d:Eh w v l G r u (eK (u%4) e)=some (u,n,ln):=by
   unfold Eh;rw[f,C];simp only;have N:IE w v l u (eK (u%4) e)=0:=by
    rw[PU (n:=n) (by rw[f];exact C) B,f];rcases Int.lt_or_le 0 (SS l u e)with z|z
    .have:=(rp (l:=l) g (u:=u) (e:=e)).1 a_
     simp_all
    .rcases Int.lt_or_le (SS l u e) 0 with m|m
     .have:=(rp (l:=l) g (u:=u) (e:=e)).1 a_
      simp_all
     .omega
   simp_all
  have y:((u,n,ln):NG)∈CV w v l G r (4*w*v):=by
   unfold CV;exact Gw.2 ⟨u,Cm.2 I,Q_.2 ⟨eK (u%4) e,Cm.2 (iq _ _),d⟩⟩
  refine CS.2 ⟨OT w v (λa=>af (G a) r) o (u,n,ln),?_,?_⟩
  .unfold DN
   grind
  .unfold bo OT;simp only;rw[mX H I F C]
def tj{a b:Cl}(h:CX a b=false)(c:a≠b):CX b a=true:=by
 have h:=vn.1 h;refine wW.2 ?_
 grind
def GZ.fold{w v:Nat}(E:S3 w v){k:Int}(hk:0<=k){l:TD}{r:Mv}{G:TH}{L:List Dk}(h:GZ w v k l r G L){ln:Ln}{s o:Bool}(V:∃p∈CV w v l G r (4*w*v),p.2.2=ln)
  {l':TD} (m:l'.Perm (l++DN w v (λa=>af (G a) r) o ln (CV w v l G r (4*w*v)))) (ap:Fh l') {L':List Dk} (J:L'.Perm (I5 ln s o L)) (an:L'.Pairwise λa b=>CX a.1 b.1=false) :
  GZ w v (3*k+32) l' (fT ln s L r L.length) (Pc w ln s G r) L':=by
 have D:=E.sh;obtain⟨p0,Y,M⟩:=V;have S:=Yz E h.co h.rk Y;rw[M]at S;have I:=S.2.2.2;have Q:∀c,c<4*w*v->(G c).1<8:=λc d=>(h.co.ok c d).1;have f:=Sl (l':=l') D h.co.g Q h.rk.1 S.1 (s:=s) λu e n hu U W C=>by
  have h1:=h.keys E (ln:=ln) (o:=o) hu U W C;rw[show CD l' u e=decide (((ofNat u,ofNat e):Ku)∈l'.map bo)from rfl,EP,(m.map bo).mem_iff,Ij,Ek,h1];rw[show(CD l u e=true)=(((ofNat u,ofNat e):Ku)∈l.map bo)by unfold CD;rw[EP]]
 have T:=OO E f.1 f.2;have hN:0<4*w*v:=(E_ D).1;have al:fT ln s L r L.length=GO ln s (af (G 0) r) (q8 w 0):=by
  unfold fT GO;rw[YW,h.co.z,kW h.rk.1];have ay:0∈(GA ln s L).flatMap Prod.snd↔dR ln (aB r (q8 w 0))=s:=by
   have aE:∀x∈L,∀c∈x.2,c=0->x.1=aB r (q8 w 0):=λx P c d O=>by
    have:=h.st.at' x P c d;simp only[O,h.co.z]at this;rw[kW h.rk.1]at this;exact this.symm
   constructor
   .intro hm;obtain⟨a,R,O⟩:=Gw.1 hm;obtain⟨x,P,rfl⟩:=CS.1 R
    grind
   .intro a3;have O:0∈L.flatMap Prod.snd:=h.st.pm.mem_iff.2 (Cm.2 hN);obtain⟨x,P,ax⟩:=Gw.1 O;refine Gw.2 ⟨(aB (wd ln) x.1,x.2.reverse),CS.2 ⟨x,Gm.2 ⟨P,E8 ?_⟩,rfl⟩,by simpa using ax⟩
    grind
  simp_all
 have av:IA (λc=>aB (af (Pc w ln s G r c) (fT ln s L r L.length)) (q8 w c)) (range (4*w*v)) (I5 ln s o L):=h.st.fold λc d=>by
  have d:=Cm.1 d;have hq:(q8 w c).2.2<4:=(dH D d).2.2.2.2;rw[al,Pd];unfold GO;split
  .rw[Bi fH (rH _) hq]
  .rfl
 have A:=av.perm J;have N:∀c∈DN w v (λa=>af (G a) r) o ln (CV w v l G r (4*w*v)),VK w v c:=λc d=>by
  unfold DN at d;obtain⟨p,m,rfl⟩:=CS.1 d;obtain⟨m,_⟩:=Gm.1 m;obtain⟨y,i,hi,t,K,a2,J⟩:=mt m;have H:=mX D y (iq _ _) t;have a0:(OT w v (λa=>af (G a) r) o p).2.2=1∨(OT w v (λa=>af (G a) r) o p).2.2=2:=by
   unfold OT
   grind
  refine⟨⟨p.1,O2 w v p.1 p.2.1,p.2.1,rfl,rfl,y,by rw[H];exact iq _ _,by rw[H];exact t,K,a_,a_⟩,a_,a_⟩
 have X:((l++DN w v (λa=>af (G a) r) o ln (CV w v l G r (4*w*v))).map bo).Nodup:=by
  rw[Ij,gD];refine⟨rq h.so,?_,λa R b B e=>?_⟩
  .unfold DN;rw[Q8,List.Nodup,Nf];refine(qcC.1 ((iX D (l:=l) (G:=G) (r:=r)).filter _)).imp λ{p q} Z e=>?_;obtain⟨m,hq,a1⟩:=Z;obtain⟨y,i,hi,t,_⟩:=mt (Gm.1 m).1;obtain⟨ag,j,hj,ad,_⟩:=mt (Gm.1 hq).1;simp only[Function.comp,bo,OT,Q7]at e;have e1:p.1=q.1:=Jr e.1;have e2:O2 w v p.1 p.2.1=O2 w v q.1 q.2.1:=Jr e.2;rw[mX D y (iq _ _) t,mX D ag (iq _ _) ad]at e2
   simp_all
  .subst e;obtain⟨c,d,rfl⟩:=CS.1 B;obtain⟨⟨u,e,n,q1,q2,hu,U,W,C,_⟩,_⟩:=N c d;have hk:bo c=((ofNat u,ofNat e):Ku):=by unfold bo;rw[q1,q2]
   rw[hk]at R B;have:=((h.keys E hu U W C).1 B).1;unfold CD at this
   simp_all
 refine⟨λc d=>?_,Qb ap ((m.map bo).nodup_iff.2 X),T,?_,A,?_⟩
 .rcases Ek.1 (m.mem_iff.1 d)with d|d
  .exact h.vk c d
  .exact N c d
 .unfold fT;split
  .exact aZ (en h.rk I) a_
  .exact aZ h.rk a_
 .have h2:L'.Pairwise λa b=>a.1≠b.1:=Nf.1 A.nd;exact(List.Pairwise.and an h2).imp λ{a b} F=>tj F.1 F.2
def U8{n0:Nat}{h:HL}{z:TR}{a:List Sk}(e:q9 h z 4 Ch a)(d:Ey n0 h a):StL h z (a.map FL):=by
 refine⟨a.map λs=>(s.1,s.2.1),l6 e,c_,λi m b=>?_⟩;rw[Ew]at b;cases c:a[i]? with
 |none=>rw[c]at b;cases b
 |some q=>
  rw[c]at b;cases b;exact⟨q.2.2,by rw[Ew,c];rfl,(d.1 q (Cf c)).ls bu⟩
def PZ{L:List Dk}(h:∀s∈L,s.2≠[]):L.length<=(L.flatMap Prod.snd).length:=by
 induction L with
 |nil=>simp
 |cons a L c=>
  rw[S6,Gv,YV];have b:=C0.2 (h a Lk)
  grind
def P0{L:List Dk}{a:Dk}(h:a∈L):a.2.length<=(L.flatMap Prod.snd).length:=by
 induction L with
 |nil=>cases h
 |cons b L c=>
  grind
section
variable {w v:Nat} {k:Int} {l:TD} {r:Mv} {G:TH} {L:List Dk}
def GZ.tot(h:GZ w v k l r G L):(L.flatMap Prod.snd).length=4*w*v:=by rw[h.st.pm.length_eq,S7]
def GZ.lenL(h:GZ w v k l r G L):L.length<=4*w*v:=by have:=PZ h.st.ne;rw[h.tot]at this;exact this
def GZ.lenP(h:GZ w v k l r G L){a:Dk}(b:a∈L):a.2.length<=4*w*v:=by have:=P0 b;rw[h.tot]at this;exact this
def GZ.pos(a:S3 w v)(h:GZ w v k l r G L):0<L.length:=by
 have c:=(E_ a.sh).1;have b:=h.tot
 grind
def GZ.idlt(h:GZ w v k l r G L){a:Dk}(b:a∈L){c:Nat}(d:c∈a.2):c<4*w*v:=Cm.1 (h.st.pm.mem_iff.1 (Gw.2 ⟨a,b,d⟩))
def GZ.cell(e:S3 w v)(h:GZ w v k l r G L){a:Dk}(b:a∈L):a.1.2.2<4/\-(k+15)<=a.1.1/\a.1.1<=k+15/\-(k+15)<=a.1.2.1/\a.1.2.1<=k+15:=by
 obtain⟨c,f⟩:=List.exists_mem_of_ne_nil _ (h.st.ne a b);have d:aB (af (G c) r) (q8 w c)=a.1:=h.st.at' a b c f;have g:=tq e h.co h.rk (h.idlt b f);rw[d]at g;have e:a.1.2.2<4:=by rw[←d];exact iZ
 omega
end
def cS(w n:Nat):Bool:=(range n).all λj=>(range j).all λi=>CX (q8 w j) (q8 w i)
def aE:∀w:Nat,1<=w->w<=3->cS w 36=true:=by
 have a:((range 3).all λw=>cS (w+1) 36)=true:=by decide +kernel
 intro w b c;have:=A_.1 a (w - 1) (Cm.2 a_)
 simp_all
def eg{w v:Nat}(a:S3 w v){i j:Nat}(b:i<j)(g:j<4*w*v):CX (q8 w j) (q8 w i)=true:=by
 obtain⟨c,d,e,f⟩:=a.n;have:=A_.1 (aE w a.1 a.2.1) j (Cm.2 a_)
 simp_all
def Pp{w v:Nat}(m:S3 w v):GZ w v 0 [] CJ (λ_=>CJ) (vg w v):=by
 have k:=m.sh;have f:(vg w v).Pairwise λa b=>CX b.1 a.1=true:=by
  unfold vg;rw[Nf];have o:(range (4*w*v)).Pairwise λi j=>i<j:=fu;exact(qcC.1 o).imp λ{a b} h=>eg m h.2.2 (Cm.1 h.2.1)
 refine⟨λc d=>(by cases d),.nil,⟨λc e n _ _ _=>?_,rfl,λc _=>zB a_⟩,zB a_,⟨?_,λs l c d=>?_,λs k=>?_,?_⟩,f⟩
 .unfold Ej CD;simp
 .rw[List.Nodup,Nf];refine f.imp λ{a b} h e=>?_;have:=wW.1 h
  simp_all
 .obtain⟨i,g,rfl⟩:=CS.1 l;have g:=Cm.1 g;have d:c=i:=by simpa using d
  subst d;show aB (af CJ CJ) (q8 w c)=q8 w c;rw[oI oo,Qk (dH k g).2.2.2.2]
 .obtain⟨i,g,rfl⟩:=CS.1 k;simp
 .have:(vg w v).flatMap Prod.snd=range (4*w*v):=by
   unfold vg;rw[hI]
   simp_all
  rw[this]
def Vp{w v:Nat}(y:S3 w v){H:HL} :
  ∃x h' d,aA cc ac 44 [.i (.ofNat w),.i (.ofNat v)] (g_ aa H) [.i (.ofNat w),.i (.ofNat v),.v qH,.i 0,.i 0,.i 0,.v x] (g_ aa h')/\v_ H h'/\q9 h' x 4 Ch d/\Ey H.length h' d/\d.map FL=vg w v:=by
 have O:=y.sh;obtain⟨U,V,W,X⟩:=y.n;have Y:=E_ O;have Q:=u44 (ls:=[.i (.ofNat w),.i (.ofNat v)]) (K:=λS h'=>∃x d,S=[.i (.ofNat w),.i (.ofNat v),.v qH,.i 0,.i 0,.i 0,.v x]/\v_ H h'/\q9 h' x 4 Ch d/\Ey H.length h' d/\d.map FL=vg w v) (H:=H) rfl (by
  unfold f44;simp only[u5];refine e_ ?_;refine bN (g9:=HL×Value×List Sk) (4*w*v) (λj s=>[.i (ofNat j),.i (.ofNat w),.i (.ofNat v),.v qH,.i 0,.i 0,.i 0,.v s.2.1]) (λ_ s=>s.1)
   (λj s=>v_ H s.1/\FW H.length s.1 s.2.1 (.slice none 0 0) (.slice none 0 0) s.2.2 [] []/\s.2.2.map FL=(range j).map λi=>(q8 w i,[i]))
   (j0:=0) (s0:=(H,.slice none 0 0,[])) rfl rfl (C6 _) ⟨.refl _,⟨.nil _ _ _ _,.nil _ _ _ _,.nil _ _ _ _,(λb z=>by cases z),.nil _ _⟩,rfl⟩ ?_
  rintro j ⟨h,x,d⟩ hj ⟨u,l,f⟩ L k;simp only at u l f ⊢;refine e_ ?_;rw[YC a_];refine km ?_;rw[pU a_];refine km ?_;by_cases g:j<4*w*v
  case neg=>
   obtain rfl:j=4*w*v:=a_;rw[aM (A9 _)];refine e_ ?_;exact⟨x,d,rfl,u,l.os.ls dp,by simpa using l.pc,f⟩
  rw[aN g];refine e_ ?_;refine ai (kK y g) ?_;unfold Dl;refine e_ ?_;have M:d.length=j:=by
   have:=congrArg List.length f;simpa using this
  have D:=u.len;have t:v_ h (h++[HO.o (.cells [.int .i64 (ofNat j)] 1 true)]):=⟨_,rfl⟩;have q:=l.pre t;refine q.os.G8 (a:=((q8 w j,.slice (some ⟨h.length,0,le 1⟩) 1 2,[j]):Sk)) dp ua rfl rfl rfl (by
   unfold bc;rw[DQ a_,DQ a_];rfl) ?_
  intro T I E C r J m;have P:h_ H.length (h++[HO.o (.cells [.int .i64 (ofNat j)] 1 true)]) (.slice (some ⟨h.length,0,le 1⟩) 1 2) 1 mc [j]:=.inr ⟨h.length,2,rfl,D,aD,.inr rfl⟩;have B:=q.apS (c:=q8 w j) P (λp F b z A=>by
   have e:h.length=b:=by simpa[hY]using z
   have:=((l.pc.1 p F).hY A).2;omega) E r m
  have G:v_ H I:=bO (u.trans t) λi R Z N=>r i R N λe=>by
   have:=(l.os.hY e).1;omega
  refine e_ ?_;refine ab C ?_;refine km ?_;rw[aY a_];exact k (I,T,d++[_]) g ⟨G,B,by
   rw[Ij,f,Ll,Ij];rfl⟩)
 grind
structure StH(w v:Nat)(n0:Nat)(h:HL)(k:Int)(z:Value)(r:Mv)(zs:Value)(l:TD)(G:TH)(Ms:List Sk):Prop where
 cr:q9 h z 3 n4 l
 st:GZ w v k l r G (Ms.map FL)
 ss:q9 h zs 4 Ch Ms
 pc:Ey n0 h Ms
def StH.pre{w v n0:Nat}{h h':HL}{k:Int}{z:TR}{r:Mv}{d:TR}{l:TD}{G:TH}{c:List Sk}(a:StH w v n0 h k z r d l G c)(b:v_ h h'):StH w v n0 h' k z r d l G c:=
 ⟨a.cr.pre b,a.st,a.ss.pre b,a.pc.j9 λ_ _ _ _ e _=>b.get e⟩
def kB:Nat->Int
 |0=>0
 |n+1=>3*kB n+32
def Yy{j:Nat}(h:j<=5):0<=kB j/\kB j<=3872:=by
 have:j=0∨j=1∨j=2∨j=3∨j=4∨j=5:=a_;rcases this with rfl|rfl|rfl|rfl|rfl|rfl<;>simp[kB]
def B9{j:Nat}(h:j<=4):kB j<=1280:=by
 have:j=0∨j=1∨j=2∨j=3∨j=4:=a_;rcases this with rfl|rfl|rfl|rfl|rfl<;>simp[kB]
def En(a b:Int):Int:=if a<b then -1 else if b<a then 1 else 0
def SW:TE->Int
 | []=>0
 |a :: l=>if a=0 then SW l else a
def US(p:Int×Int):Tn:=[.int .i64 p.1,.int .i64 p.2]
def O6(p:Int×Int):(US p).length=2:=rfl
def YD(a:Int):Cc 128 [.i a] [.b false]:=by
 refine q128 rfl ?_;unfold SC;simp only[u5];simp(disch:=omega)only[↓nc]
def nx(a b:Int):Cc 94 [.i a,.i b] [.i (En a b)]:=by
 refine q94 rfl ?_;unfold f94;simp only[u5]
 repeat (first|simp(disch:=omega)only[↓nc]|refine ai (YD a) ?_|refine ai (YD b) ?_)
 unfold En;by_cases c:a<b
 .simp(disch:=omega)only[↓nc];simp[c]
 .by_cases d:b<a
  .simp(disch:=omega)only[↓nc];simp[c,d]
  .simp(disch:=omega)only[↓nc];simp[c,d]
def Qu{l:TE}{j:Nat}{a:Int}(b:l[j]?=some a):SW (l.drop j)=if a=0 then SW (l.drop (j+1))else a:=by
 rw[SZ (am b)];have c:l[j]'(am b)=a:=jn;rw[c];rfl
def mS{h:HL}{x:TR}{l:List (Int×Int)}(c:q9 h x 2 US l)(m:l.length<=1000) :
  aA cc ac 93 [.v x] (g_ aa h) [.i (SW (l.map λp=>En p.1 p.2))] (g_ aa h):=by
 exact xK x93 (q7 c.i_ t0) (by
  unfold f93;simp only[u5];refine e_ ?_;refine bz c ?_;refine mf l.length (λj=>SW (l.map λp=>En p.1 p.2)=SW ((l.map λp=>En p.1 p.2).drop j)) (j0:=0) rfl (C6 _) rfl ?_;intro j n f g d;refine e_ ?_;by_cases b:j<l.length
  .rw[aN b];refine e_ ?_;obtain⟨p,k⟩:=aq b;refine aP c rfl k ?_;unfold US
   repeat (first|simp(disch:=omega)only[↓nc]|refine ai (nx p.1 p.2) ?_)
   rw[Qu (a:=En p.1 p.2) kb]at f;by_cases e:En p.1 p.2=0
   .rw[CN e];refine e_ ?_;rw[aY a_]
    simp_all
   .rw[CA e];refine e_ ?_
    simp_all
  .obtain rfl:j=l.length:=a_;rw[aM (A9 _)];refine e_ ?_;refine⟨?_,C2⟩;rw[f,BR kb];rfl)
def Mi{x y q x' y' q':Int}(b:0<=q/\q<=255)(a:0<=q'/\q'<=255):Cc 58 [.i x,.i y,.i q,.i x',.i y',.i q'] [.i (SW [En y y',En x x',En q q'])]:=by
 refine q58 rfl ?_;unfold f58;simp only[u5];refine e_ ?_;refine ak (h':=[]++[HO.o (.cells [.int .i64 y,.int .i64 y',.int .i64 x,.int .i64 x',.int .i64 q,.int .i64 q'] 2 true)]) (mS (l:=[(y,y'),(x,x'),(q,q')]) ?_ c_) ?_
 .exact V6 (h:=[]) (e:=2) (enc:=US) (l:=[(y,y'),(x,x'),(q,q')]) O6 (by rfl)
 .simp(disch:=omega)only[↓nc];rfl
def IV(a b:Cl):Int:=SW [En a.2.1 b.2.1,En a.1 b.1,En (ofNat a.2.2) (ofNat b.2.2)]
def o6(a b:Nat):En (ofNat a) (ofNat b)=if a<b then -1 else if b<a then 1 else 0:=by
 unfold En
 simp_all
def ZR(a b:Cl):0<IV a b↔CX a b=true:=by
 obtain⟨x,y,q⟩:=a;obtain⟨u,v,r⟩:=b;rw[wW];unfold IV;simp only[SW,o6];unfold En;omega
def ZS(a b:Cl):IV a b<0↔CX b a=true:=by
 obtain⟨x,y,q⟩:=a;obtain⟨u,v,r⟩:=b;rw[wW];unfold IV;simp only[SW,o6];unfold En;omega
def uJ{a b:Cl}(c:a.2.2<4)(d:b.2.2<4):Cc 58 (Dl a++Dl b) [.i (IV a b)]:=
 Mi (x:=a.1) (y:=a.2.1) (q:=ofNat a.2.2) (x':=b.1) (y':=b.2.1) (q':=ofNat b.2.2) ⟨GK _,jn⟩ ⟨GK _,jn⟩
def Y_(w v c:Nat):Bool:=(range 3).all λe=>lO 104 (Dl (q8 w c)++[.i (ofNat e)]) (Dl (DH (q8 w c) e)++[.i 0])
def p7:∀w v:Nat,1<=w->w<=3->1<=v->v<=3->((range (4*w*v)).all λc=>Y_ w v c)=true:=by
 have a:((range 3).all λw=>(range 3).all λv=>(range (4*(w+1)*(v+1))).all λc=>Y_ (w+1) (v+1) c)=true:=d_;intro w v d e f g;have b:=A_.1 a (w - 1) (Cm.2 a_);have h:=A_.1 b (v - 1) (Cm.2 a_)
 simp_all
def ng_c{w v c e:Nat}(h:S3 w v)(a:c<4*w*v)(b:e<3):Cc 104 (Dl (q8 w c)++[.i (ofNat e)]) (Dl (DH (q8 w c) e)++[.i 0]):=by
 have:=A_.1 (p7 w v h.1 h.2.1 h.2.2.1 h.2.2.2) c (Cm.2 a);have:=A_.1 this e (Cm.2 b);exact fU this rfl d_ rfl
def Vr{m:Mv}(j:CM 16384 m):Cc 108 (CT m) [.b (decide (4<=m.1))]:=by
 obtain⟨t,x,y⟩:=m;obtain⟨c,d,f,g,h,i⟩:=j;simp only at c d f g h i;have a:=zp (t:=ofNat t) (x:=x) (y:=y) ⟨GK _,jn⟩;have k:Za (ofNat t) x y=true:=by
  unfold Za
  grind
 rw[k,rv rfl]at a;refine q108 rfl ?_;unfold Su;simp only[u5];simp only[CT];refine e_ ?_;refine ai a ?_;refine e_ ?_;by_cases e:4<=t
 .rw[FT (show(4:Int)<=ofNat t by grind),E8 e]
  try trivial
 .rw[FR (show ofNat t<(4:Int)by grind),Fv e]
  try trivial
def QD{h:HL}{b e:Nat}{cs ds:Tn}{K:Tf}(a:h[b]?=some (.o (.cells cs e true)))(f:2<=cs.length)(c:ds=(cs.drop 0).take 2)(d:K ds) :
  P1.j_ (C5 (ka b)) (@i' _ ⟨λx=>P1.nC x (@i' _ ⟨P1.j_ (Dm 0 x) (@i' _ ⟨λy=>P1.nC y (@i' _ ⟨P1.j_ (Dm 0 y) (@i' _ ⟨λz=>P1.nC z (@i' _ ⟨P1.my (.lg cc 2 z) h (@i' _ ⟨K⟩)⟩)⟩)⟩)⟩)⟩)⟩):=by
 refine ae (x:=ka b) rfl (ab (ar b) (ae (x:=.pointer (some ⟨b,0+0,none⟩)) rfl (ab (by simp[aF,n_,aS,bB,bi,aO,aH]) ?_)));exact rL (p:=.pointer (some ⟨b,0+0,none⟩)) (ba a) a_ c d
def Y6{h:HL}{b e:Nat}{cs new:Tn}{K:Tb}{o:Nat}(c:h[b]?=some (.o (.cells cs e true)))(f:o+new.length<=cs.length)(d:K [] (h.set b (.o (.cells (cs.take o++new++cs.drop (o+new.length)) e true)))) :
  P1.heap (.st (.pointer (some ⟨b,o,none⟩)) new) h (@i' _ ⟨K⟩):=by
 have a:(Hp.st (.pointer (some ⟨b,o,none⟩)) new).run (tf aa h) h.length=some ([.set b (.cells (cs.take o++new++cs.drop (o+new.length)) e true)],[]):=by
  show JH (.pointer (some ⟨b,o,none⟩)) new (tf aa h) h.length=_;unfold JH;simp only;rw[bF c];simp only;unfold s_;rw[rv f];rfl
 exact bH a d
def QL{id s:Nat}(b:s<2){K:TR->Prop}(a:K (.pointer (some ⟨id,1+s,none⟩))) :
  P1.j_ (C5 (ka id)) (@i' _ ⟨λx=>P1.nC x (@i' _ ⟨P1.j_ (Dm 1 x) (@i' _ ⟨λy=>P1.nC y (@i' _ ⟨P1.j_ (Py 2 1 y (ofNat s)) (@i' _ ⟨λq=>P1.nC q (@i' _ ⟨K q⟩)⟩)⟩)⟩)⟩)⟩):=by
 have g:∀o,aF (.pointer (some ⟨id,o,none⟩))=true:=λo=>by simp[aF,n_,aS,bB,bi,aO,aH]
 obtain rfl|rfl:s=0∨s=1:=a_
 .exact ae (x:=ka id) rfl (ab (ar id) (ae (x:=.pointer (some ⟨id,1,none⟩)) rfl (ab (g _) (ae (x:=.pointer (some ⟨id,1,none⟩)) rfl (ab (g _) a)))))
 .exact ae (x:=ka id) rfl (ab (ar id) (ae (x:=.pointer (some ⟨id,1,none⟩)) rfl (ab (g _) (ae (x:=.pointer (some ⟨id,2,none⟩)) rfl (ab (g _) a)))))
def MZ{y:Nat}{h:HL}{n:Nat}{kv:TR}{ks:List K6}{is:TC}{vs:Tn}{ls:List (List K2)}(r:Sm y h n kv ks is vs ls)(k:K6){v:TR}(s:v = .agg ⟨J5 k⟩)(Inv:Te){b:Te}{A:(TG->HL->Prop)->Prop}{B:TR->(TG->HL->Prop)->Prop}
  (h1:∀l g,Inv l g->b l g) (o:k∉ks->∀a:TG->HL->Prop,(∀l g,Inv l g->a l g)->A a) (p:∀(i:Nat) id,ks[i]?=some k->is[i]?=some id->∀a:TG->HL->Prop,(∀l g,Inv l g->a l g)->B (ka id) a) :
  P1.my (.fn (Fb cc 198 false (.pointer none) (.map (some n)) v false)) h (@i' _ ⟨λu=>P1.BM u (@i' _ ⟨λm w=>P1.nC m (@i' _ ⟨P1.v9 w (@i' _ ⟨P1.j_ (lr 4 m (.pointer none)) (@i' _ ⟨λt=>P1.join (@i' _ ⟨b⟩) (@i' _ ⟨λj=>P1.cond t (@i' _ ⟨A j⟩) (@i' _ ⟨B m j⟩)⟩)⟩)⟩)⟩)⟩)⟩):=by
 refine r.look k s (λq=>?_) λi id d f=>?_
 .simp(disch:=omega)only[↓Ce];refine ab rfl ?_
  try simp(disch:=omega)only[↓Ce]
  refine ae (x:=true) rfl ?_;refine cP Inv h1 λa c=>?_;exact⟨λ_=>o q a c,λe=>(by cases e)⟩
 .simp(disch:=omega)only[↓Ce];refine ab (ar _) ?_
  try simp(disch:=omega)only[↓Ce]
  refine ae (x:=false) rfl ?_;refine cP Inv h1 λa c=>?_;exact⟨λe=>(by cases e),λ_=>p i id d f a c⟩
def R4{k:K6}{s:Ez}:(Cn k s).1.length<=s.1.length+1:=by
 unfold Cn
 grind
def Nu{w v:Nat}{l:TD}{P:TH}{i e:Nat}{s:Ez}:(ff w v l P i e s).1.length<=s.1.length+1:=by
 unfold ff;have:=R4 (k:=tx (aB (P i) (q8 w i)) (aB (P i) (DH (q8 w i) e))) (s:=s);simp only;split
 .exact this
 .split
  .exact this
  .split
   .exact this
   .exact this
def mN{w v:Nat}{l:TD}{P:TH}{i:Nat}:∀(L:TC) (s:Ez),(L.foldl (λs e=>ff w v l P i e s) s).1.length<=s.1.length+L.length
 | [],s=>c_
 |e :: L,s=>by
  have a:=mN (w:=w) (v:=v) (l:=l) (P:=P) (i:=i) L (ff w v l P i e s);have b:=Nu (w:=w) (v:=v) (l:=l) (P:=P) (i:=i) (e:=e) (s:=s)
  grind
def oE{w v:Nat}{l:TD}{P:TH}:∀n,(C9 w v l P n).1.length<=3*n
 |0=>by simp[C9]
 |n+1=>by
  have a:=oE (w:=w) (v:=v) (l:=l) (P:=P) n;have b:=mN (w:=w) (v:=v) (l:=l) (P:=P) (i:=n) (range 3) (C9 w v l P n);have c:C9 w v l P (n+1)=(range 3).foldl (λs e=>ff w v l P n e s) (C9 w v l P n):=by
   unfold C9;rw[Ll (n:=n),l3];rfl
  grind
def Aw{k:K6}{s:Ez}{m:Nat}(h:∀q∈s.2,q.length<=m):∀q∈(Cn k s).2,q.length<=m:=by
 unfold Cn
 grind
def Ab{s:Ez}{m j:Nat}{p:K2}(h:∀q∈s.2,q.length<=m):∀q∈(Fo j p s).2,q.length<=m+1:=by
 intro q a;rcases i0 a with a|rfl
 .grind
 grind
def Nv{w v:Nat}{l:TD}{P:TH}{i e m:Nat}{s:Ez}(h:∀q∈s.2,q.length<=m):∀q∈(ff w v l P i e s).2,q.length<=m+1:=by
 have a:=Aw (k:=tx (aB (P i) (q8 w i)) (aB (P i) (DH (q8 w i) e))) h;have b:∀q∈(Cn (tx (aB (P i) (q8 w i)) (aB (P i) (DH (q8 w i) e))) s).2,q.length<=m+1:=λq c=>Nat.le_succ_of_le (a q c);unfold ff;simp only;split
 .exact b
 .split
  .exact b
  .split
   .exact Ab a
   .exact Ab a
def mO{w v:Nat}{l:TD}{P:TH}{i:Nat}:∀(L:TC) (s:Ez) (m:Nat),(∀q∈s.2,q.length<=m)->∀q∈(L.foldl (λs e=>ff w v l P i e s) s).2,q.length<=m+L.length
 | [],s,m,h=>by simpa using h
 |e :: L,s,m,h=>by
  have a:=mO (w:=w) (v:=v) (l:=l) (P:=P) (i:=i) L (ff w v l P i e s) (m+1) (Nv h)
  grind
def tX{w v:Nat}{l:TD}{P:TH}:∀n,∀q∈(C9 w v l P n).2,q.length<=3*n
 |0=>by simp[C9]
 |n+1=>by
  have b:C9 w v l P (n+1)=(range 3).foldl (λs e=>ff w v l P n e s) (C9 w v l P n):=by
   unfold C9;rw[Ll (n:=n),l3];rfl
  intro q a;rw[b]at a;have:=mO (range 3) _ _ (tX (w:=w) (v:=v) (l:=l) (P:=P) n) q a
  grind
structure SeX(h0:HL)(c:XC)(w v:Nat)(l:TD)(G:TH)(r:Mv)(xi:Value):Prop where
 h3:S3 w v
 cw:c.w=w/\c.v=v/\c.r=r
 xc:q9 h0 c.xc 3 n4 l
 pat:NH w v l
 gok:Cz w v l G
 rok:CM 4000 r
 nok:∀id e,id<4*w*v->e<3->JN (aB (af (G id) r) (DH (q8 w id) e))=true
 im:q9 h0 xi 3 bU (Ck w v G r)
 pl:∀H,q9 H c.xc 3 n4 l->∃lx h',aA cc ac 103 [.i (ofNat w),.i (ofNat v),.v c.xc,.i (ofNat r.1),.i r.2.1,.i r.2.2] (g_ aa H) [.v lx,.i 0] (g_ aa h')/\v_ H h'/\q9 h' lx 3 sd (DO w v G r)
structure SeS(h0:HL)(b mm n1:Nat)(c:XC)(lx:Value)(w v:Nat)(G:TH)(r:Mv)(U:List Lit)(pn:Ti)(F:List A5)(C:(Nat->Bool)->Prop)(A:Ez)(kv:Value)(g:HL):Prop where
 ex:∃n W is vs,Pi g b c n U W pn F/\(∀V,(n=false/\Rs U W V)↔C V)/\Sm n1 g mm kv A.1 is vs A.2
 pl:q9 g lx 3 sd (DO w v G r)
 ln:n1<=g.length
 fr:∀(j:Nat) o,h0[j]?=some o->j≠b->hY c.va≠some j->g[j]?=some o
def WY{h:HL}{b:Nat}{c:XC}{n:Bool}{U:List Lit}{W:TE}{pn:Ti}{F:List A5}(Z:Pi h b c n U W pn F){w v:Nat}{l:TD}{G:TH}{r:Mv}{xi:TR}(S:SeX h c w v l G r xi)(es:∀j,hY c.va=some j->hY c.xc≠some j)(et:∀j,hY c.va=some j->hY xi≠some j)
  (d6:∀i n,i<4*w*v->(∃e,e<3/\Cv w v i e=some n/\jD l (ofNat (min i n)) (ofNat e)≠0)->(Dc pn i n).1<U.length) :
  ∃kv h' mm n1,aA cc ac 70 [.v (ka b),.v xi] (g_ aa h) [.v kv,.i 0] (g_ aa h')/\h.length<=n1/\∃lx,SeS h b mm n1 c lx w v G r U pn F (λV=>(n=false/\Rs U W V)/\∀i e,i<4*w*v->e<3->EJ pn w v l (λc=>af (G c) r) V i e) (C9 w v l (λc=>af (G c) r) (4*w*v)) kv h':=by
 have fd:=x70 (ls:=[.v (ka b),.v xi]) (K:=λrs h'=>∃kv mm n1,rs=[.v kv,.i 0]/\h.length<=n1/\∃lx,SeS h b mm n1 c lx w v G r U pn F (λV=>(n=false/\Rs U W V)/\∀i e,i<4*w*v->e<3->EJ pn w v l (λc=>af (G c) r) V i e) (C9 w v l (λc=>af (G c) r) (4*w*v)) kv h') (H:=h) (q7 (ar _) (q7 S.im.i_ t0)) (by
  unfold f70;simp only[u5];refine e_ ?_;obtain⟨hw,hv,hr⟩:=S.cw;obtain⟨g1,e1⟩ : ∃g1,g1=h++[HO.o (.map [] 0)]:=⟨_,rfl⟩;rw[←e1];have k1:∀(j:Nat) o,h[j]?=some o->g1[j]?=some o:=λj o p=>jn;have l1:g1.length=h.length+1:=by rw[e1];simp
  have m1:g1[h.length]?=some (.o (.map [] 0)):=by rw[e1];exact aD
  refine bv (ds:=[.int .i64 (ofNat c.w),.int .i64 (ofNat c.v),c.xc]) (k1 _ _ Z.hb) (by simp[ah]) rfl ?_;refine e_ ?_;refine ab S.xc.i_ ?_;refine km ?_;refine bv (ds:=[.int .u8 (ofNat c.r.1),.int .i64 c.r.2.1,.int .i64 c.r.2.2]) (k1 _ _ Z.hb) (by simp[ah]) rfl ?_;refine e_ ?_;obtain⟨lx,Q,cp,bk,co⟩:=S.pl g1 (S.xc.j9 λj o p _=>k1 j o p);rw[←hw,←hv,←hr]at cp;refine ak cp ?_;refine e_ ?_;have l2:g1.length<=Q.length:=bk.len;have k2:∀(j:Nat) o,h[j]?=some o->Q[j]?=some o:=λj o p=>bk.get (k1 j o p);have d7:Pi Q b c n U W pn F:=⟨k2 _ _ Z.hb,Z.up.j9 λj o p _=>k2 j o p,Z.va.j9 λj o p _=>k2 j o p,Z.fo.j9 λj o p _=>k2 j o p,Z.pr.j9 λo ho=>k2 _ o ho,Z.fr,Z.ok⟩;have hN:(Ck w v G r).length=4*w*v:=by simp[Ck]
  refine bz (S.im.j9 λj o p _=>k2 j o p) ?_;rw[hN];have ef:SeS h b h.length Q.length c lx w v G r U pn F (λV=>(n=false/\Rs U W V)/\∀i e,i<0->e<3->EJ pn w v l (λc=>af (G c) r) V i e) (C9 w v l (λc=>af (G c) r) 0) (.slice none 0 0) Q:=
   ⟨⟨n,W,[],[],d7,λV=>⟨λq=>⟨q,λi e hi=>a_⟩,λq=>q.1⟩,RB (bk.get m1)⟩,co,A9 _,λj o p _ _=>k2 j o p⟩
  refine aJ (m:=4*w*v) (λm ls g=>∃j kv,ls=[.v kv,.i (ofNat j)]/\m=4*w*v - j/\j<=4*w*v/\SeS h b h.length Q.length c lx w v G r U pn F (λV=>(n=false/\Rs U W V)/\∀i e,i<j->e<3->EJ pn w v l (λc=>af (G c) r) V i e) (C9 w v l (λc=>af (G c) r) j) kv g) ⟨0,_,rfl,rfl,C6 _,ef⟩ ?_;rintro m ls g ⟨j,kv,rfl,rfl,p,hg⟩ eF ct;refine Di ?_;refine e_ ?_;by_cases E:j<4*w*v
  case neg=>
   obtain rfl:j=4*w*v:=a_;rw[aM (A9 _)];refine e_ ?_
   grind
  rw[aN E];refine e_ ?_;obtain⟨A0,bm⟩ : ∃A0,A0=C9 w v l (λc=>af (G c) r) j:=⟨_,rfl⟩;obtain⟨C0,dm⟩ : ∃C0:(Nat->Bool)->Prop,C0=λV=>(n=false/\Rs U W V)/\∀i e,i<j->e<3->EJ pn w v l (λc=>af (G c) r) V i e:=⟨_,rfl⟩;rw[←bm,←dm]at hg;have hs:=S.h3.sh;have d4:∀ {C:(Nat->Bool)->Prop} {A:Ez} {kv:TR} {g:HL},SeS h b h.length Q.length c lx w v G r U pn F C A kv g->∃n,g[b]?=some (.o (.cells (ah c n) 15 true)):=λq=>by
   obtain⟨⟨n,W,is,vs,q1,_⟩,_⟩:=q;exact⟨n,q1.hb⟩
  have cd:∀ {C:(Nat->Bool)->Prop} {A:Ez} {kv:TR} {g:HL},SeS h b h.length Q.length c lx w v G r U pn F C A kv g->q9 g c.xc 3 n4 l/\q9 g xi 3 bU (Ck w v G r):=λ{C A kv g} q=>by
   refine⟨S.xc.j9 λj o p N=>q.fr j o p (λe=>?_) λe=>es j e N,S.im.j9 λj o p N=>q.fr j o p (λe=>?_) λe=>et j e N⟩
   .obtain⟨Y,ad,L⟩:=vF S.xc N
    grind
   .obtain⟨Y,ad,L⟩:=vF S.im N
    grind
  obtain⟨n1,d0⟩:=d4 hg;refine QD (ds:=[.int .i64 (ofNat c.w),.int .i64 (ofNat c.v)]) d0 (by simp[ah]) rfl ?_;refine e_ ?_;rw[hw,hv];refine ai (IL (se w v hs.1 hs.2.1 hs.2.2.1 hs.2.2.2) E) ?_;unfold HN;refine e_ ?_;refine aJ (m:=3) (λm ls g=>∃e kv,ls=[.v kv,.i (ofNat e)]/\m=3 - e/\e<=3/\SeS h b h.length Q.length c lx w v G r U pn F (λV=>C0 V/\∀e',e'<e->EJ pn w v l (λc=>af (G c) r) V j e') ((range e).foldl (λs e=>ff w v l (λc=>af (G c) r) j e s) A0) kv g) ⟨0,kv,rfl,rfl,oo,?_⟩ ?_
  case refine_1=>
   simp_all
  rintro m2 fn g4 ⟨e,ay,rfl,rfl,he,bs⟩ ex b0;refine Di ?_;refine e_ ?_;by_cases an:e<3
  case neg=>
   obtain rfl:e=3:=a_;rw[vc oo];refine e_ ?_;rw[aY (by have:=S.h3.n;omega)];refine ct _ _ _ a_ ⟨j+1,ay,rfl,rfl,E,?_⟩;have eL:C9 w v l (λc=>af (G c) r) (j+1)=(range 3).foldl (λs e=>ff w v l (λc=>af (G c) r) j e s) A0:=by
    rw[bm];unfold C9;rw[Ll (n:=j),l3];rfl
   grind
  rw[ub (show ofNat e<3 by grind)];simp(disch:=omega)only[↓Ce];obtain⟨t,bn⟩ : ∃t,t=(range e).foldl (λs e=>ff w v l (λc=>af (G c) r) j e s) A0:=⟨_,rfl⟩;obtain⟨C1,dn⟩ : ∃C1:(Nat->Bool)->Prop,C1=λV=>C0 V/\∀e',e'<e->EJ pn w v l (λc=>af (G c) r) V j e':=⟨_,rfl⟩;rw[←bn,←dn]at bs;refine cP (λls g'=>∃kv',ls=[.v kv']/\SeS h b h.length Q.length c lx w v G r U pn F (λV=>C1 V/\EJ pn w v l (λc=>af (G c) r) V j e) (ff w v l (λc=>af (G c) r) j e t) kv' g') ?_ ?_
  case refine_1=>
   rintro ls g' ⟨kv',rfl,q⟩;refine e_ ?_;rw[Jm jn jn];refine b0 _ _ _ ?_ ⟨e+1,kv',rfl,rfl,an,?_⟩
   .omega
   rw[Ll (n:=e),l3,←bn]
   grind
  intro jj bx;have ng:=ng_c S.h3 E an;simp only[Dl,q8,DI,DA]at ng;refine ai ng ?_;simp(disch:=omega)only[↓Ce];obtain⟨eE,c9⟩:=cd bs;refine aP c9 rfl (gm E) ?_;rw[show bU (aB (af (G j) r) (q8 w j))=[.int .i64 (aB (af (G j) r) (q8 w j)).1,.int .i64 (aB (af (G j) r) (q8 w j)).2.1,.int .u8 (ofNat (aB (af (G j) r) (q8 w j)).2.2)]from rfl];simp(disch:=omega)only[↓Ce];refine aP bs.pl rfl (kq E) ?_;have dl:CM 16384 (af (G j) r):=aZ (en (S.gok.ok j E) S.rok) a_;rw[show sd (af (G j) r)=[.int .u8 (ofNat (af (G j) r).1),.int .i64 (af (G j) r).2.1,.int .i64 (af (G j) r).2.2]from rfl];simp(disch:=omega)only[↓Ce];have ec:=dH hs E;have fa:=Qn (c:=q8 w j) (e:=e) ec.2.2.2.2 an;have fb:(q8 w j).1<=100/\(q8 w j).2.1<=100/\0<=(q8 w j).1/\0<=(q8 w j).2.1:=by
   have b1:=S.h3.n;have d1:j / 4%w<=j / 4:=qds _ _;have d2:j / 4 / w<=j / 4:=r2 _ _;refine⟨hy.2 (show j / 4%w<=100 by omega),hy.2 (show j / 4 / w<=100 by omega),GK _,GK _⟩
  have mv:=Ql dl (c:=DH (q8 w j) e) a_;rw[rv (S.nok j e E an)]at mv;simp only[q8]at mv;simp only[Dl,CT,DI,DA]at mv;refine ai mv ?_;simp(disch:=omega)only[↓Ce];obtain⟨f,ea⟩ : ∃f,f=aB (af (G j) r) (q8 w j):=⟨_,rfl⟩;obtain⟨k,eb⟩ : ∃k,k=aB (af (G j) r) (DH (q8 w j) e):=⟨_,rfl⟩;have d8:f.2.2<4:=by rw[ea];exact iZ
  have d9:k.2.2<4:=by rw[eb];exact iZ
  have dr:aB (af (G j) r) (ofNat (j / 4%w),ofNat (j / 4 / w),j%4)=f:=ea.symm;have dA:aB (af (G j) r) (DH (ofNat (j / 4%w),ofNat (j / 4 / w),j%4) e)=k:=eb.symm;simp only[q8,dr,dA];have c0:=uJ d8 d9;simp only[Dl,DI,DA]at c0;refine ai c0 ?_;simp(disch:=omega)only[↓Ce];have ck:=ZR f k;have dk:∀K:Bool->Prop,K (CX f k)->P1.cmp .gtr (IV f k) 0 (@i' _ ⟨K⟩):=λK hK=>by
   cases av:CX f k with
   |true=>
    rw[av]at hK ck;rw[B3 (ck.2 rfl)];exact hK
   |false=>
    rw[av]at hK ck;rw[y_ kb];exact hK
  refine dk _ ?_;refine cP (λls g'=>ls=[.i (if CX f k then 1 else 0),.i (tx f k).1.1,.i (tx f k).1.2.1,.i (ofNat (tx f k).1.2.2),.i (tx f k).2.1,.i (tx f k).2.2.1,.i (ofNat (tx f k).2.2.2)]/\g'=g4) ?_ ?_
  case refine_2=>
   intro jk cm;unfold tx at cm;cases av:CX f k with
   |true=>
    rw[av]at cm;simp(disch:=omega)only[↓Ce]
    simp_all
   |false=>
    rw[av]at cm;simp(disch:=omega)only[↓Ce]
    simp_all
  rintro ls g' ⟨rfl,rfl⟩;simp(disch:=omega)only[↓Ce];obtain⟨⟨n2,W2,is,vs,q1,q2,q3⟩,q4,q5,q6⟩:=bs;have e0:t.1.length<=1000000:=by
   have a1:=oE (w:=w) (v:=v) (l:=l) (P:=λc=>af (G c) r) j;have a2:=mN (w:=w) (v:=v) (l:=l) (P:=λc=>af (G c) r) (i:=j) (range e) A0;rw[←bm]at a1;rw[←bn,S7]at a2;have:=S.h3.n;omega
  refine MZ q3 (tx f k) rfl (λls X=>∃id I T ag,ls=[.v (ka id),.v I]/\Sm Q.length X h.length I (Cn (tx f k) t).1 T ag (Cn (tx f k) t).2/\T[(Cn (tx f k) t).1.idxOf (tx f k)]?=some id/\(Cn (tx f k) t).1[(Cn (tx f k) t).1.idxOf (tx f k)]?=some (tx f k)/\Pi X b c n2 U W2 pn F/\q9 X lx 3 sd (DO w v G r)/\Q.length<=X.length/\∀(j:Nat) o,h[j]?=some o->j≠b->hY c.va≠some j->X[j]?=some o) ?_ ?_ ?_
  case refine_3=>
   intro i id bt eX ev b7
   try simp(disch:=omega)only[↓Ce]
   have d5:tx f k∈t.1:=Cf bt;have cx:Cn (tx f k) t=t:=by
    unfold Cn;rw[rv d5]
   have b5:t.1.idxOf (tx f k)=i:=by
    have e1:=Gn (am bt);rw[bt]at e1;rw[D' e1];exact q3.nd.idxOf_getElem i (am bt)
   grind
  case refine_2=>
   intro hn ev b7
   try simp(disch:=omega)only[↓Ce]
   obtain⟨gA,eA⟩ : ∃gA,gA=g'++[HO.o (.cells [.slice none 0 0,.slice none 0 0,.slice none 0 0] 3 true)]:=⟨_,rfl⟩;rw[←eA];have kA:∀(i:Nat) o,g'[i]?=some o->gA[i]?=some o:=λi o hi=>jn;have lA:gA.length=g'.length+1:=by rw[eA];simp
   have nA:gA[g'.length]?=some (.o (.cells [.slice none 0 0,.slice none 0 0,.slice none 0 0] 3 true)):=by rw[eA];exact aD
   have e9:h.length<g'.length:=a_;refine q3.put_key hn rfl (λo ho=>kA _ o ho) ?_;intro o hm;obtain⟨gB,eB⟩ : ∃gB,gB=gA.set h.length o:=⟨_,rfl⟩;rw[←eB]at hm ⊢;have kB:∀(i:Nat) o,i≠h.length->gA[i]?=some o->gB[i]?=some o:=λi o hi ho=>jn;have lB:gB.length=g'.length+1:=jn
   try simp(disch:=omega)only[↓Ce]
   have b8:h_ Q.length gB ay 1 CQ (is.map ka):=q3.kl.BK λj Y _ p=>kB j _ (q3.GI p) (kA j _ p);refine b8.G8 (a:=ka g'.length) bf a_ rfl rfl rfl (by unfold bc;rw[DQ (by rw[FV,q3.il];omega),DQ (by rw[FV,q3.il];omega)];rfl) ?_;intro I gC eM dC kC lC _;have cy:∀(j:Nat) o,gB[j]?=some o->hY ay≠some j->gC[j]?=some o:=λj o p N=>kC j o p N
   try simp(disch:=omega)only[↓Ce]
   refine ab dC ?_
   try simp(disch:=omega)only[↓Ce]
   have c3:∀ {j e:Nat} {Y:Tn} {ad:Bool},gB[j]?=some (.o (.cells Y e ad))->e≠1->hY ay≠some j:=λ{j e Y ad} p he e2=>by
    obtain⟨aE,L⟩:=b8.wid e2
    grind
   have cx:Cn (tx f k) t=(t.1++[tx f k],t.2++[[],[],[]]):=by
    unfold Cn;rw[te hn]
   have b5:(t.1++[tx f k]).idxOf (tx f k)=t.1.length:=by
    grind
   have D:∀(j:Nat) o,g'[j]?=some o->j≠h.length->hY ay≠some j->gC[j]?=some o:=λj o p h1 L=>cy j o (kB j o h1 (kA j o p)) L;have bC:∀ {j e:Nat} {Y:Tn} {ad:Bool},g'[j]?=some (.o (.cells Y e ad))->e≠1->hY ay≠some j:=λ{j e Y ad} p he e2=>by
    obtain⟨aE,L⟩:=q3.kl.wid e2
    grind
   have c2:∀j,hY ay=some j->Q.length<=j:=λj e=>(q3.kl.hY e).1;have ci:=q3.new (h':=gC) hn (id:=g'.length) (kv':=I) (A9 _) q5 (cy _ _ (kB _ _ a_ nA) (c3 (kB _ _ a_ nA) oo)) (hm.j9 _ λo2 cr=>cy _ o2 cr λe=>by
    grind) jn λj o2 p _ h1 L=>D j o2 p h1 L
   have bb:c.pr<h.length:=by
    obtain⟨ps,p1,_⟩:=Z.pr;exact p1.lt
   refine b7 _ _ ⟨g'.length,I,is++[g'.length],_,rfl,by rw[cx];exact ci,?_,?_,⟨D _ _ q1.hb (q3.GI q1.hb) (bC q1.hb oo),q1.up.BK λj Y _ p=>D j _ p (q3.GI p) (bC p oo),q1.va.BK λj Y N p=>D j _ p (q3.GI p) λe=>?_,q1.fo.BK λj Y _ p=>D j _ p (q3.GI p) (bC p oo),q1.pr.j9 λo2 cr=>D _ o2 cr a_ λe=>?_,q1.fr,q1.ok⟩,q4.j9 λj o2 p N=>?_,a_,λj o2 p h1 L=>D j o2 (q6 j o2 p h1 L) jn λe=>?_⟩
   .rw[cx];show(is++[g'.length])[(t.1++[tx f k]).idxOf (tx f k)]?=_;rw[b5,←q3.il,GV (A9 _),WH];rfl
   .grind
   .have a1:=c2 j e;have a2:=(Z.va.hY N).2;omega
   .grind
   .obtain⟨Y,ad,L⟩:=vF q4 N;exact D j o2 p (q3.GI L) (bC L oo)
   grind
  rintro ls X ⟨id,I,T,ag,rfl,s5,a6,eZ,p5,cn,n5,f5⟩;simp(disch:=omega)only[↓Ce];refine QD (ds:=[.int .i64 (ofNat c.w),.int .i64 (ofNat c.v)]) p5.hb (by simp[ah]) rfl ?_;simp(disch:=omega)only[↓Ce];rw[hw,hv];have a0:=yt hs E an;have d:ff w v l (λc=>af (G c) r) j e t=(match Cv w v j e with
    |none=>Cn (tx f k) t
    |some n=>if n<j then Cn (tx f k) t else
     if jD l (ofNat (min j n)) (ofNat e)=0 then Fo (3*(Cn (tx f k) t).1.idxOf (tx f k)) (if CX f k then(n,j)else(j,n)) (Cn (tx f k) t)
     else Fo (3*(Cn (tx f k) t).1.idxOf (tx f k)+(if CX f k then 2 else 1)) (j,n) (Cn (tx f k) t)):=by
   unfold ff;rw[ea,eb]
   try rfl
  have ce:(∀V,EJ pn w v l (λc=>af (G c) r) V j e)->ff w v l (λc=>af (G c) r) j e t=Cn (tx f k) t->jj [.v I] X:=λh1 L=>bx _ _ ⟨I,rfl,⟨⟨n2,W2,T,ag,p5,λV=>(q2 V).trans ⟨λq=>⟨q,h1 V⟩,λq=>q.1⟩,by rw[L];exact s5⟩,cn,n5,f5⟩⟩;have a7:∀q∈(Cn (tx f k) t).2,q.length<=1000000:=by
   have b1:=tX (w:=w) (v:=v) (l:=l) (P:=λc=>af (G c) r) j;rw[←bm]at b1;have b2:=mO (w:=w) (v:=v) (l:=l) (P:=λc=>af (G c) r) (i:=j) (range e) A0 _ b1;rw[←bn,S7]at b2;intro q hq;have b3:=Aw b2 q hq;have:=S.h3.n;omega
  unfold vK at a0;cases a8:Cv w v j e with
  |none=>
   rw[a8]at a0 d;refine ai a0 ?_;simp(disch:=omega)only[↓Ce]
   try rw[CA oo]
   try simp(disch:=omega)only[↓Ce]
   exact ce (λV n' c5=>kb) d
  |some nn=>
  rw[a8]at a0 d;simp only at a0 d;refine ai a0 ?_;simp(disch:=omega)only[↓Ce]
  try rw[CN rfl]
  try simp(disch:=omega)only[↓Ce]
  by_cases cq:nn<j
  .rw[aN cq];simp(disch:=omega)only[↓Ce];rw[rv cq]at d;exact ce (λV n' c5 hc=>kb) d
  rw[aM a_];simp(disch:=omega)only[↓Ce];rw[te cq]at d;obtain⟨ca,_⟩:=cd (C:=C1) (A:=Cn (tx f k) t) (kv:=I) (g:=X) ⟨⟨n2,W2,T,ag,p5,q2,s5⟩,cn,n5,f5⟩;refine bv (ds:=[.int .i64 (ofNat c.w),.int .i64 (ofNat c.v),c.xc]) p5.hb (by simp[ah]) rfl ?_;simp(disch:=omega)only[↓Ce];refine ab ca.i_ ?_
  try simp(disch:=omega)only[↓Ce]
  rw[hw,hv];have c6:nn<=1000:=by
   have b1:=(dO hs E an a8).1;have b2:=S.h3.n;omega
  refine ak (Cb S.pat ca E an a8 c6) ?_;simp(disch:=omega)only[↓Ce];obtain⟨ki,ek⟩ : ∃ki,ki=jD l (ofNat (min j nn)) (ofNat e):=⟨_,rfl⟩;rw[←ek]at d;rw[←ek];obtain⟨a1,x,y,z,a2,a3,a4,a5⟩:=s5.bl _ id a6;obtain⟨ix,dB⟩ : ∃ix,ix=(Cn (tx f k) t).1.idxOf (tx f k):=⟨_,rfl⟩;rw[←dB]at a2 a3 a4 d a6;have cf:∀(s:Nat) (u u':TR) (B:List K2) (pr:K2) (J:HL),s<3->ag[3*ix+s]?=some u->(Cn (tx f k) t).2[3*ix+s]?=some B->h_ Q.length J u' 2 D_ (B++[pr])->(∀(j:Nat) o,X[j]?=some o->hY u≠some j->J[j]?=some o)->X.length<=J.length->(hY u'=hY u∨∃j,hY u'=some j/\X.length<=j)->∀al,al=[x,y,z].set s u'->
    Sm Q.length (J.set id (.o (.cells al 3 true))) h.length I (Fo (3*ix+s) pr (Cn (tx f k) t)).1 T (ag.set (3*ix+s) u') (Fo (3*ix+s) pr (Cn (tx f k) t)).2/\Pi (J.set id (.o (.cells al 3 true))) b c n2 U W2 pn F/\q9 (J.set id (.o (.cells al 3 true))) lx 3 sd (DO w v G r)/\Q.length<=(J.set id (.o (.cells al 3 true))).length/\∀(j:Nat) o,h[j]?=some o->j≠b->hY c.va≠some j->(J.set id (.o (.cells al 3 true)))[j]?=some o:=by
   intro s u u' B pr J eg hu c4 dD c1 eC d3 al cl;have eV:(Cn (tx f k) t).2.getD (3*ix+s) []=B:=kb;have a9:=s5.ow _ u B hu c4;have c7:∀j,hY u=some j->Q.length<=j:=λj e=>(a9.hY e).1;have D:∀(j:Nat) o,j<Q.length->X[j]?=some o->(J.set id (.o (.cells al 3 true)))[j]?=some o:=λj o h1 L=>cH (c1 j o L λe=>by have:=c7 j e;omega) a_;have ez:h.length<Q.length:=a_;have bb:c.pr<h.length:=by
    obtain⟨ps,p1,_⟩:=Z.pr;exact p1.lt
   refine⟨?_,⟨D _ _ (by have:=am Z.hb;omega) p5.hb,p5.up.j9 λj o p N=>D j o (by have:=(Z.up.hY N).2;omega) p,p5.va.j9 λj o p N=>D j o (by have:=(Z.va.hY N).2;omega) p,p5.fo.j9 λj o p N=>D j o (by have:=(Z.fo.hY N).2;omega) p,p5.pr.j9 λo ho=>D _ o a_ ho,p5.fr,p5.ok⟩,cn.j9 λj o p N=>D j o (vE co N) p,jn,λj o p h1 L=>D j o jn (f5 j o p h1 L)⟩;have:=s5.put a6 eg hu c4 dD c1 d3 a5 cl;unfold Fo
   grind
  by_cases ax:ki=0
  .rw[ra ax];simp(disch:=omega)only[↓Ce];rw[rv ax]at d;have bd:∀V,EJ pn w v l (λc=>af (G c) r) V j e:=λV n' c5 _ hc=>by
    grind
   obtain⟨B,M⟩:=aq (l:=(Cn (tx f k) t).2) (i:=3*ix) (by rw[s5.ll];exact am a2);have bP:=s5.ow _ x B a2 M;have e6:B.length<=1000000:=a7 B (Cf M);have cA:∀(pr:K2) (K:Tb),(∀x' J,h_ Q.length J x' 2 D_ (B++[pr])->aF x'=true->(∀(j:Nat) o,X[j]?=some o->hY x≠some j->J[j]?=some o)->X.length<=J.length->(hY x'=hY x∨∃j,hY x'=some j/\X.length<=j)->K [x'] J)->
     P1.heap (.ap cc 2 16 x (.slice (some ⟨X.length,0,some 12⟩) 1 2)) (X++[.o (.cells [.int .i64 (ofNat pr.1),.int .i64 (ofNat pr.2)] 2 true)]) (@i' _ ⟨K⟩):=λpr K hK=>
    bP.G8 (a:=pr) (λ_=>rfl) a_ rfl rfl rfl (by unfold bc;rw[DQ a_,DQ a_];rfl) hK
   have b4:∀ {J:HL},(∀(j:Nat) o,X[j]?=some o->hY x≠some j->J[j]?=some o)->J[id]?=some (.o (.cells [x,y,z] 3 true)):=λ{J} hk=>hk id _ a5 λe=>by
    obtain⟨aE,L⟩:=bP.wid e
    simp_all
   cases av:CX f k with
   |false=>
    rw[av,te oo]at d;rw[te oo,ra rfl];refine e_ ?_;refine bv (ds:=[x]) a5 c_ rfl ?_;refine e_ ?_;refine ab (h_.i_ (e:=2) (enc:=D_) (λ_=>rfl) bP) ?_;refine km ?_;refine cA (j,nn) _ λx' J o6 gx k6 l6 b6=>?_;refine e_ ?_;refine ab gx ?_;refine km ?_;refine gh (b:=id) (b4 k6) c_ ?_;refine km ?_;obtain⟨w1,R,w3,w4,w5⟩:=cf 0 x x' B (j,nn) J oo a2 M o6 k6 l6 b6 [x',y,z] rfl;exact bx _ _ ⟨I,rfl,⟨⟨n2,W2,T,_,R,λV=>(q2 V).trans ⟨λq=>⟨q,bd V⟩,λq=>q.1⟩,by rw[d];exact w1⟩,w3,w4,w5⟩⟩
   |true=>
    rw[av,rv rfl]at d;rw[rv rfl,wb oo];simp(disch:=omega)only[↓nc]
    try rw[ra ax]
    refine km ?_;refine bv (ds:=[x]) a5 c_ rfl ?_;refine e_ ?_;refine ab (h_.i_ (e:=2) (enc:=D_) (λ_=>rfl) bP) ?_;refine km ?_;refine cA (nn,j) _ λx' J o6 gx k6 l6 b6=>?_;refine e_ ?_;refine ab gx ?_;refine km ?_;refine gh (b:=id) (b4 k6) c_ ?_;refine km ?_;obtain⟨w1,R,w3,w4,w5⟩:=cf 0 x x' B (nn,j) J oo a2 M o6 k6 l6 b6 [x',y,z] rfl;exact bx _ _ ⟨I,rfl,⟨⟨n2,W2,T,_,R,λV=>(q2 V).trans ⟨λq=>⟨q,bd V⟩,λq=>q.1⟩,by rw[d];exact w1⟩,w3,w4,w5⟩⟩
  rw[wb ax];simp(disch:=omega)only[↓Ce];rw[te ax]at d
  try rw[wb ax]
  refine e_ ?_;obtain⟨O,cC⟩ : ∃O:Nat,O=if CX f k=true then 1 else 0:=⟨_,rfl⟩
  have ei:(if CX f k=true then(1:Int)else 0)=ofNat O:=by rw[cC];split<;>rfl
  have b9:O<2:=jn
  try rw[ei]
  try rw[wb ax]
  refine km ?_;refine QL b9 ?_;obtain⟨u,eu⟩ : ∃u,u=if O=0 then y else z:=⟨_,rfl⟩
  have hu:ag[3*ix+(1+O)]?=some u:=by
   obtain h|h:O=0∨O=1:=a_
   .rw[eu,h,rv rfl];exact a3
   grind
  have dT:∀ {gg:HL},gg[id]?=some (.o (.cells [x,y,z] 3 true))->Gy gg (.pointer (some ⟨id,1+O,none⟩)) [u]:=λ{gg} hg=>by
   refine⟨id,1+O,_,3,true,rfl,hg,?_⟩;obtain h|h:O=0∨O=1:=a_
   .rw[eu,h,rv rfl];exact fZ.2 ⟨c_,rfl⟩
   .rw[eu,h,te oo];exact fZ.2 ⟨c_,rfl⟩
  obtain⟨B,M⟩:=aq (l:=(Cn (tx f k) t).2) (i:=3*ix+(1+O)) (by rw[s5.ll];exact am hu);have a9:=s5.ow _ u B hu M;refine bT ((dT a5).lg rfl) ?_;refine e_ ?_;refine ab (h_.i_ (e:=2) (enc:=D_) (λ_=>rfl) a9) ?_;refine km ?_;have eD:B.length<=1000000:=a7 B (Cf M);refine a9.G8 (a:=((j,nn):K2)) (λ_=>rfl) a_ rfl rfl rfl (by unfold bc;rw[DQ a_,DQ a_];rfl) ?_;intro u' J o6 gu k6 l6 b6;have dj:∀(i:Nat) o,X[i]?=some o->hY u≠some i->J[i]?=some o:=λi o hi N=>k6 i o hi N;refine e_ ?_;refine ab gu ?_;refine km ?_;refine QL b9 ?_;have b4:J[id]?=some (.o (.cells [x,y,z] 3 true)):=dj id _ a5 λe=>by
   obtain⟨aE,L⟩:=a9.wid e
   simp_all
  refine Y6 b4 ua ?_;refine km ?_;refine ae (x:=()) (cZ (bR ⟨_,_,_,rfl⟩ λi hi=>?_) eR) ?_
  .have q1:X.length=i:=by simpa[hY]using hi
   grind
  refine km ?_;have cl:([x,y,z]:Tn).take (1+O)++[u']++([x,y,z]:Tn).drop (1+O+[u'].length)=[x,y,z].set (1+O) u':=by
   obtain h|h:O=0∨O=1:=a_
   .rw[h];rfl
   .rw[h];rfl
  rw[cl];obtain⟨w1,R,w3,w4,w5⟩:=cf (1+O) u u' B (j,nn) J a_ hu M o6 dj l6 b6 _ rfl;obtain⟨g7,e7⟩ : ∃g7,g7=J.set id (.o (.cells (([x,y,z]:Tn).set (1+O) u') 3 true)):=⟨_,rfl⟩;rw[←e7]at w1 R w3 w4 w5 ⊢;refine aP w3 rfl (kq E) ?_;rw[show sd (af (G j) r)=[.int .u8 (ofNat (af (G j) r).1),.int .i64 (af (G j) r).2.1,.int .i64 (af (G j) r).2.2]from rfl];refine e_ ?_;have fl:=Vr dl;simp only[CT]at fl;refine ai fl ?_;refine e_ ?_;have ej:(!decide (4<=(af (G j) r).1))=decide ((af (G j) r).1<4):=by
   grind
  rw[ej];obtain⟨r0,cS⟩:=R.fr;obtain⟨W3,n3,g8,cb,t1,t2,t3,t4,t5,t6⟩:=ZF R.hb (R.up.ls dJ) cS R.ok R.va R.pr ki (x:=j) (y:=nn) (decide ((af (G j) r).1<4)) (λ_=>d6 j nn E ⟨e,an,a8,a_⟩);refine ak cb ?_;refine e_ ?_;have el:∀i,hY c.va=some i->i<h.length:=λi e=>(Z.va.hY e).2;have eP:=am Z.hb;have c8:∀ {i ee:Nat} {Y:Tn},g7[i]?=some (.o (.cells Y ee true))->ee≠15->ee≠1->g8[i]?=some (.o (.cells Y ee true)):=λ{i ee Y} hi eG h1=>t5 i _ hi (λe2=>by
   subst e2;rw[R.hb]at hi
   simp_all) λe2=>by
   obtain⟨aE,L⟩:=R.va.wid e2
   grind
  have bb:c.pr<h.length:=by
   obtain⟨ps,p1,_⟩:=Z.pr;exact p1.lt
  have hq:(if CX f k=true then 2 else 1)=1+O:=by rw[cC];split<;>rfl
  have ci:Sm Q.length g8 h.length I (ff w v l (λc=>af (G c) r) j e t).1 T (ag.set (3*ix+(1+O)) u') (ff w v l (λc=>af (G c) r) j e t).2:=by
   rw[d,hq];exact w1.j9 λi o hi ho=>t5 i o ho a_ λe2=>by have:=el i e2;omega
  refine bx _ _ ⟨I,rfl,⟨⟨n3,W3,T,ag.set (3*ix+(1+O)) u',⟨t1,R.up.BK λi Y _ hi=>c8 hi oo oo,t2,R.fo.BK λi Y _ hi=>c8 hi oo oo,R.pr.j9 λo ho=>t5 _ o ho (rA R.pr R.hb) λe2=>?_,⟨r0,cS⟩,t3⟩,λV=>(t4 V).trans ?_,ci⟩,w3.j9 λi o hi N=>?_,a_,λi o hi h1 L=>t5 i o (w5 i o hi h1 L) h1 L⟩⟩
  .obtain⟨aE,L⟩:=R.va.wid e2;exact rA R.pr L rfl
  .rw[←and_assoc];refine and_congr (q2 V) ?_;unfold EJ;constructor
   .grind
   grind
  .obtain⟨Y,ad,L⟩:=vF w3 N;have:=vE co N;exact t5 i o hi (λe2=>by
    rw[e2,R.hb]at L
    grind) λe2=>by
    obtain⟨aE,h3⟩:=R.va.wid e2
    grind)
 grind
end Go.Am
namespace Go.Am
namespace Sx
section
variable [Co] [C7] {C:m'} {Sg:Td} {T:Tv}
variable {j8:Type} [DecidableEq j8] (kc:j8->Tn) {kk:TJ} (hd:∀a b,x9 kk (kc a) (kc b)=some (decide (a=b)))
variable {kt:TP} (h1:A2 C.P kt=some true) (h2:CG C.P 10000 kt=some kk) (h3:∀a,∃r,fF kk (kc a) (kc a)=some r)
include hd h1 h2 h3
theorem lB{h:HL}{id:Nat}{a:List (j8×Value)}{z:TR}{K:Tf}(x:Dd kc h id a)(k:j8){v:TR}(y:v = .agg ⟨kc k⟩)(H:∀cs,z≠.agg cs)(F:∀p∈a,∀cs,p.2≠.agg cs)
  (h0:k∉a.map Prod.fst->K [z,.bool false]) (E:∀(i:Nat) u,a[i]?=some (k,u)->K [u,.bool true]) :
  (PH C Sg T).my (.fn (Fb C kt false z (.map (some id)) v true)) h (@i' _ ⟨K⟩):=by
 subst y;obtain⟨b,c,m,f⟩:=x;have D:∀u:Value,(∀cs,u≠.agg cs)->gp false u=some [u]:=λu G=>by
  unfold gp
  simp_all
 have d:∃cs,Fb C kt false z (.map (some id)) (.agg ⟨kc k⟩) true (tf T h)=some cs/\K cs:=by
  unfold Fb;rw[KH kc h1 h2 h3 k];simp only[DP,D7,if_false];rw[oz m];simp only;rw[yR kc h1 h2 k (HX kc hd k 0 (Dd.keys kc f))];cases r:(a.map Prod.fst).idxOf? k with
  |none=>
   simp_all
  |some j=>
   obtain⟨s,w,_⟩:=qcx.1 r;have l:b.length=a.length:=by
    have:=congrArg List.length f;simpa using this
   have t:j<a.length:=by simpa using s
   have q:b[j]?=some (b[j]'(by omega)):=Gn _;have g:a[j]?=some a[j]:=Gn _;have n:(b.map (λe=>(e.key,e.val)))[j]?=(a.map λp=>((.agg ⟨kc p.1⟩ : Value),p.2))[j]?:=by rw[f]
   rw[Ew,Ew,q,g]at n;have B:(b[j]'(by omega)).val=a[j].2:=by
    simp_all
   have A:em b j=some a[j].2:=by
    unfold em
    simp_all
   grind
 obtain⟨cs,e,o⟩:=d;exact bT e o
theorem e0{h:HL}{id:Nat}{a:List (j8×Value)}{u:TR}{K:Tb}(A:Dd kc h id a)(k:j8)(z:k∈a.map Prod.fst){v:TR}(D:v = .agg ⟨kc k⟩)(B:Instr.sameBits 10000 (.agg ⟨kc k⟩) (.agg ⟨kc k⟩)=true)
  (x:∀o (i:Nat),(a.map Prod.fst)[i]?=some k->Dd kc (h.set id o) id (a.set i (k,u))->K [] (h.set id o)) :
  (PH C Sg T).heap (.fn (FO C kt (.map (some id)) v u)) h (@i' _ ⟨K⟩):=by
 subst D;obtain⟨b,c,n,f⟩:=A;cases g:(a.map Prod.fst).idxOf? k with
 |none=>exact absurd z (qdb.1 g)
 |some j=>
  obtain⟨t,l,_⟩:=qcx.1 g;have q:b.length=a.length:=by
   have:=congrArg List.length f;simpa using this
  have w:j<a.length:=by simpa using t
  have s:b[j]?=some (b[j]'(by omega)):=Gn _;have m:a[j]?=some a[j]:=Gn _;have r:(b.map (λe=>(e.key,e.val)))[j]?=(a.map λp=>((.agg ⟨kc p.1⟩ : Value),p.2))[j]?:=by rw[f]
  rw[Ew,Ew,s,m]at r;have y:a[j].1=k:=by simpa using l
  have E:(b[j]'(by omega)).key = .agg ⟨kc k⟩:=by
   simp_all
  have d:(Hp.fn (FO C kt (.map (some id)) (.agg ⟨kc k⟩) u)).run (tf T h) h.length=some ([.set id (.map (b.modify j λe=>{ e with key:=.agg ⟨kc k⟩,val:=u }) c)],[]):=by
   show FO C kt (.map (some id)) (.agg ⟨kc k⟩) u (tf T h) h.length=_;unfold FO;simp only;rw[KH kc h1 h2 h3 k];simp only[DP,D7,if_false];rw[oz n];simp only;rw[yR kc h1 h2 k (HX kc hd k 0 (Dd.keys kc f)),g]
   simp_all
  refine bH d (x _ j kb ⟨_,_,GR (am n),?_⟩);apply HA;intro i;rw[Ew,Ew,List.getElem?_modify];have e3:(b.map (λe=>(e.key,e.val)))[i]?=(a.map λp=>((.agg ⟨kc p.1⟩ : Value),p.2))[i]?:=by rw[f]
  grind
end
end Sx
end Go.Am
namespace Go.Am
open Sx Go.Proofs
def EK(ks:TM)(c:Cl):TM:=if c∈ks then ks else ks++[c]
def De(L:TM):TM:=L.foldl EK []
def Po{L:TM}{c:Cl}:De (L++[c])=EK (De L) c:=by simp[De]
def Vs:∀(L A:TM),A.Nodup->(L.foldl EK A).Nodup/\(∀c,c∈L.foldl EK A↔c∈A∨c∈L)/\(L.foldl EK A).length<=A.length+L.length
 | [],A,h=>⟨h,λc=>c_,c_⟩
 |x :: L,A,h=>by
  have a:(EK A x).Nodup:=by
   unfold EK
   grind
  have d:∀c,c∈EK A x↔c∈A∨c=x:=λc=>by
   unfold EK
   grind
  have b:(EK A x).length<=A.length+1:=by
   unfold EK
   grind
  obtain⟨e,f,g⟩:=Vs L (EK A x) a
  grind
def ti(L:TM):(De L).Nodup:=(Vs L [] nn).1
def oq{L:TM}{c:Cl}:c∈De L↔c∈L:=by
 have:=(Vs L [] nn).2.1 c;simpa[De]using this
def th(L:TM):(De L).length<=L.length:=by
 have:=(Vs L [] nn).2.2;simpa[De]using this
def Fj(l:TM):Prop:=l.Pairwise λa b=>CX b a=true
def wV{a:Cl}:CX a a=false:=by rw[vn];omega
def Pt{a b c:Cl}(h:CX b a=true)(k:CX c b=true):CX c a=true:=by rw[wW]at *;omega
def Ps{a b:Cl}(h:CX a b=true):CX b a=false:=by rw[wW]at h;rw[vn];omega
def IJ{l:TM}(h:Fj l):l.Nodup:=h.imp λ{a b} q e=>by
 subst e;rw[wV]at q;cases q
def yC:∀ {l m:TM},Fj l->Fj m->(∀c,c∈l↔c∈m)->l=m
 | [],[],_,_,_=>rfl
 | [],b :: m,_,_,h=>absurd ((h b).2 c_) c_
 |a :: l,[],_,_,h=>absurd ((h a).1 c_) c_
 |a :: l,b :: m,h1,d,h=>by
  unfold Fj at h1 d;rw[Jp]at h1 d;have e:a=b:=by
   rcases DB.1 ((h a).1 c_)with e|f
   .exact e
   .rcases DB.1 ((h b).2 c_)with e|hb
    .exact e.symm
    .have n:=d.1 a f;have o:=Ps (h1.1 b hb)
     simp_all
  subst e
  congr 1
  refine yC h1.2 d.2 λc=>?_;have j:∀ {k:TM},(∀x∈k,CX x a=true)->a∉k:=λg i=>by
   have:=g a i;rw[wV]at this;cases this
  grind
def Ha(c:Cl):TM->List Cl
 | []=>[c]
 |a :: l=>if CX a c then c :: a :: l else a :: Ha c l
def pM(c:Cl):∀l:List Cl,(Ha c l).Perm (c :: l)
 | []=>YU _
 |a :: l=>by
  unfold Ha;split
  .exact YU _
  .exact((pM c l).cons a).trans (List.Perm.swap c a l)
def yZ{c:Cl}:∀ {l:TM},Fj l->c∉l->Fj (Ha c l)
 | [],_,_=>by simp[Ha,Fj]
 |a :: l,h,f=>by
  unfold Fj at h;have d:=Jp.1 h;unfold Ha;split
  next q=>
   unfold Fj;rw[Jp];refine⟨λb hb=>?_,h⟩;rcases DB.1 hb with rfl|hb
   .exact q
   .exact Pt q (d.1 b hb)
  next q=>
   unfold Fj;rw[Jp];refine⟨λb hb=>?_,yZ d.2 λg=>f (by simp[g])⟩;rcases DB.1 ((pM c l).mem_iff.1 hb)with rfl|hb
   .exact tj (by simpa using q) λe=>f (by simp[e])
   .exact d.1 b hb
def Dq(L:TM):TM:=(De L).foldr Ha []
def an:∀ {l:TM},l.Nodup->Fj (l.foldr Ha [])/\(l.foldr Ha []).Perm l
 | [],_=>⟨.nil,YU _⟩
 |a :: l,h=>by
  rw[zS]at h;obtain⟨h1,b⟩:=an h.2;exact⟨yZ h1 λc=>h.1 (b.mem_iff.1 c),(pM a _).trans (b.cons a)⟩
def sA(L:TM):Fj (Dq L):=(an (ti L)).1
def jg(L:TM):(Dq L).Perm (De L):=(an (ti L)).2
def wy{L:TM}{c:Cl}:c∈Dq L↔c∈L:=(jg L).mem_iff.trans oq
def sB(L:TM):(Dq L).length<=L.length:=by rw[(jg L).length_eq];exact th L
def Zw{L D:TM}(h:D.Perm (De L))(k:D.Pairwise λa b=>CX a b=false):D=Dq L:=by
 have g:D.Nodup:=h.nodup_iff.2 (ti L);refine yC ?_ (sA L) λc=>by rw[h.mem_iff,(jg L).mem_iff]
 unfold Fj;rw[Q5]at k ⊢;rw[WG,Q5]at g;exact λi j e f d=>tj (k i j e f d) (g i j e f d)
def Fk(L:TM)(n:Nat)(c:Cl):TC:=(range n).filter λi=>decide (L[i]?=some c)
def Vz(L:TM)(c:Cl):TC:=Fk L L.length c
def ts(L:TM):List (TC):=(Dq L).map (Vz L)
def vr{L:TM}{n:Nat}{c:Cl}:Fk L (n+1) c=Fk L n c++(if L[n]?=some c then [n]else []):=by
 unfold Fk;rw[Ll,hC]
 grind
def PE{L:TM}{n i:Nat}{c:Cl}:i∈Fk L n c↔i<n/\L[i]?=some c:=by
 unfold Fk
 simp_all
def gf{L:TM}{i:Nat}{c:Cl}:i∈Vz L c↔L[i]?=some c:=by
 unfold Vz;rw[PE]
 grind
def PD{L:TM}{n:Nat}{c:Cl}:(Fk L n c).Pairwise (· < ·):=List.pairwise_lt_range.filter _
def ox{L:TM}{n:Nat}{c:Cl}:(Fk L n c).length<=n:=by
 have:=qcE (λi=>decide (L[i]?=some c)) (range n);rw[S7]at this;exact this
def PB{L:TM}{l:TC}(a:l∈ts L):l.Pairwise (· < ·):=by
 obtain⟨c,_,rfl⟩:=CS.1 a;exact PD
def wY(L:TM):Gl (ts L) L.length:=by
 refine⟨λl d=>?_,λl d x g=>?_,λl d=>(PB d).imp λh=>a_,?_⟩
 .obtain⟨c,k,rfl⟩:=CS.1 d;obtain⟨i,m⟩:=Ev (wy.1 k);exact λe=>by
   have:=gf.2 m
   simp_all
 .obtain⟨c,_,rfl⟩:=CS.1 d;exact am (gf.1 g)
 .unfold ts;rw[Nf];refine(IJ (sA L)).imp λ{a b} f x g j=>f ?_;have n:=gf.1 g;have o:=gf.1 j
  simp_all
def pK{L:TM}{x y:Nat}{c:Cl}(a:L[x]?=some c)(b:L[y]?=some c):∃l∈ts L,x∈l/\y∈l:=
 ⟨Vz L c,CS.2 ⟨c,wy.2 (Cf a),rfl⟩,gf.2 a,gf.2 b⟩
def PC{L:TM}{l:TC}(b:l∈ts L){x y:Nat}(d:x∈l)(e:y∈l):L[x]?=L[y]?/\x<L.length:=by
 obtain⟨c,_,rfl⟩:=CS.1 b;have a:=gf.1 d;exact⟨a.trans (gf.1 e).symm,am a⟩
def SX(l:TC)(i:Nat):List K2:=match l[i]? with
 |some b=>(l.take i).map λa=>(a,b)
 |none=>[]
def Hi(l:TC)(n:Nat):List K2:=(range n).flatMap (SX l)
def Nb(IDS:List (TC))(n:Nat):List K2:=(IDS.take n).flatMap λl=>Hi l l.length
def EM(IDS:List (TC)):List K2:=IDS.flatMap λl=>Hi l l.length
def tN{l:TC}{n:Nat}:Hi l (n+1)=Hi l n++SX l n:=by
 unfold Hi;rw[Ll,Y1];simp
def WA{l:TC}{i:Nat}:(SX l i).length<=i:=by
 unfold SX
 grind
def xR{l:TC}:∀n,(Hi l n).length<=n*n
 |0=>by simp[Hi]
 |n+1=>by
  have a:=xR (l:=l) n;have:=WA (l:=l) (i:=n);rw[tN,Gv,Js,Nat.mul_add];omega
def QX{IDS:List (TC)}{n:Nat}{l:TC}(h:IDS[n]?=some l):Nb IDS (n+1)=Nb IDS n++Hi l l.length:=by
 unfold Nb;rw[Ii,h,Y1];simp
def Wz{IDS:List (TC)}{n:Nat}(h:IDS.length<=n):Nb IDS n=EM IDS:=by
 unfold Nb EM;rw[Ik h]
def xQ{l:TC}{i:Nat}{p:K2}:p∈SX l i↔∃j:Nat,j<i/\l[j]?=some p.1/\l[i]?=some p.2:=by
 unfold SX;cases h:l[i]? with
 |none=>simp
 |some b=>
  simp only[CS,FU];constructor
  .rintro⟨a,d,rfl⟩;obtain⟨j,g⟩:=Ev d
   grind
  .rintro⟨j,e,f,c⟩;refine⟨p.1,Cf (i:=j) kb,by rw[c]⟩
def mE{l:TC}{n:Nat}{p:K2}:p∈Hi l n↔∃j i:Nat,j<i/\i<n/\l[j]?=some p.1/\l[i]?=some p.2:=by
 unfold Hi;rw[Gw];constructor
 .rintro⟨i,d,e⟩;obtain⟨j,q⟩:=xQ.1 e;exact⟨j,i,q.1,Cm.1 d,q.2⟩
 .rintro⟨j,i,a,b,c⟩;exact⟨i,Cm.2 b,xQ.2 ⟨j,a,c⟩⟩
def xS{IDS:List (TC)}{p:K2}:p∈EM IDS↔∃l∈IDS,∃j i:Nat,j<i/\l[j]?=some p.1/\l[i]?=some p.2:=by
 unfold EM;rw[Gw];constructor
 .rintro⟨l,c,e⟩;obtain⟨j,i,b,d,a⟩:=mE.1 e;exact⟨l,c,j,i,b,a⟩
 .rintro⟨l,c,j,i,b,d,a⟩;exact⟨l,c,mE.2 ⟨j,i,b,am a,d,a⟩⟩
def Jg{l:TC}(h:l.Nodup){i j x:Nat}(a:l[i]?=some x)(b:l[j]?=some x):i=j:=by
 rw[WG,Q5]at h
 grind
def rm{l:TC}(h:l.Nodup)(i:Nat):(SX l i).Nodup:=by
 unfold SX
 grind
def QY{l:TC}(h:l.Nodup):∀n,(Hi l n).Nodup
 |0=>by simp[Hi]
 |n+1=>by
  rw[tN,gD];refine⟨QY h n,rm h n,λp b q c e=>?_⟩;subst e;obtain⟨j,i,h1,f,g,a⟩:=mE.1 b;obtain⟨k,m,o,d⟩:=xQ.1 c;have:=Jg h a d;omega
def QZ{IDS:List (TC)}{N:Nat}(g:Gl IDS N):(EM IDS).Nodup:=by
 have f:∀I:List (TC),(∀l∈I,l.Nodup)->(I.Pairwise λa b=>∀x∈a,x∉b)->(EM I).Nodup:=by
  intro I
  induction I with
  |nil=>intro _ _;exact nn
  |cons l I s=>
   intro h c;rw[Jp]at c;show(Hi l l.length++EM I).Nodup;rw[gD];refine⟨QY (h l c_) _,s (λm d=>h m (by simp[d])) c.2,λp o q r e=>?_⟩;subst e;obtain⟨j,i,_,_,k,_⟩:=mE.1 o;obtain⟨m,d,u,t,_,n,_⟩:=xS.1 r;exact c.1 m d p.1 (Cf k) (Cf n)
 exact f IDS g.nd g.dj
def WC{IDS:List (TC)}{N s i k a b:Nat}{l:TC}(g:Gl IDS N)(x:IDS[s]?=some l)(v:l[i]?=some b)(D:k<i)(u:l[k]?=some a):((a,b):K2)∉Nb IDS s++Hi l i++(l.take k).map λa=>((a,b):K2):=by
 intro c;have f:=g.nd l (Cf x);rcases Ek.1 c with c|c
 .rcases Ek.1 c with c|c
  .unfold Nb at c;obtain⟨m,n,o⟩:=Gw.1 c;obtain⟨z,y,_,_,C,_⟩:=mE.1 o;obtain⟨t,d⟩:=Ev n;rw[u3]at d;split at d
   next w=>
    have j:=g.dj;rw[Q5]at j
    grind
   .cases d
  .obtain⟨z,y,A,B,_,r⟩:=mE.1 c;have:=Jg f r v;omega
 .obtain⟨p,h,e⟩:=CS.1 c;have q:p=a:=congrArg Prod.fst e;subst q;obtain⟨t,d⟩:=Ev h;rw[u3]at d;split at d
  .have:=Jg f d u;omega
  .cases d
def Xl{l:TC}{k a b:Nat}(c:l[k]?=some a):((l.take (k+1)).map λa=>((a,b):K2))=((l.take k).map λa=>((a,b):K2))++[(a,b)]:=by
 rw[Ii,c];simp
def pb{l:TC}{i b:Nat}(c:l[i]?=some b):SX l i=(l.take i).map λa=>((a,b):K2):=by
 unfold SX;rw[c]
def D0(c:List K2)(a b:Nat):Nat:=if (a,b)∈c then c.idxOf (a,b)else 0
def SY(a:List K2):List (K2×Value):=a.mapIdx λi k=>(k,.int .i64 (ofNat i))
def Ld{a:List K2}:(SY a).map Prod.fst=a:=by
 unfold SY;refine HA λi=>?_
 grind
def WB{a:List K2}{k:K2}:SY (a++[k])=SY a++[(k,.int .i64 (ofNat a.length))]:=by
 unfold SY
 simp_all
def Le{h:HL}{id:Nat}{a:List K2}(n:a.Nodup)(m:Dd D_ h id (SY a)):NI h id (D0 a):=by
 refine⟨SY a,m,λi k u b=>?_,λk g=>?_⟩
 .unfold SY at b;rw[List.getElem?_mapIdx]at b;cases f:a[i]? with
  |none=>rw[f]at b;cases b
  |some q=>
   rw[f]at b;have e:=D' b;have j:q=k:=congrArg Prod.fst e;have l:Value.int .i64 (ofNat i)=u:=congrArg Prod.snd e;subst j;have c:=Cf f;have d:a.idxOf q=i:=by
    grind
   rw[←l];unfold D0;rw[rv c,d]
 .rw[Ld]at g;unfold D0;rw[te g]
def QW{c:List K2}(h0:0<c.length)(a b:Nat):D0 c a b<c.length:=by
 unfold D0
 grind
def wz{c:List K2}(h0:0<c.length)(a b:Nat):(Dc (D0 c) a b).1<c.length:=by
 unfold Dc;split
 .exact QW h0 _ _
 .exact QW h0 _ _
def tO{L:TM}{x y:Nat}(o:x≠y)(h:L[x]?=L[y]?)(n:x<L.length):0<(EM (ts L)).length:=by
 obtain⟨c,b⟩:=aq n;rw[b]at h;obtain⟨l,g,k,m⟩:=pK b h.symm;obtain⟨i,d⟩:=Ev k;obtain⟨j,f⟩:=Ev m;have a:i≠j:=λe=>by
  simp_all
 rcases Nat.lt_or_gt_of_ne a with q|q
 .exact List.length_pos_of_mem (xS.2 ⟨l,g,i,j,q,d,f⟩ : ((x,y):K2)∈_)
 .exact List.length_pos_of_mem (xS.2 ⟨l,g,j,i,q,f,d⟩ : ((y,x):K2)∈_)
abbrev Ad:=K6×Option (Nat×K2)
def Hr(s:Ez)(x:Ad):Ez:=match x.2 with
 |none=>Cn x.1 s
 |some (t,p)=>Fo (3*(Cn x.1 s).1.idxOf x.1+t) p (Cn x.1 s)
def Eu(k:K6)(t:Nat)(x:Ad):Option K2:=match x.2 with
 |none=>none
 |some (a,p)=>if x.1=k/\a=t then some p else none
structure AI(A:Ez)(Q:List Ad):Prop where
 nd:A.1.Nodup
 ln:A.2.length=3*A.1.length
 ks:∀k,k∈A.1↔∃x∈Q,x.1=k
 ls:∀(i:Nat) k t,A.1[i]?=some k->t<3->A.2[3*i+t]?=some (Q.filterMap (Eu k t))
def Zo:AI ([],[]) []:=⟨nn,rfl,λk=>c_,λi k t h=>by cases h⟩
def Nk{k:K6}{t:Nat}{Q:List Ad}(h:∀x∈Q,x.1≠k):Q.filterMap (Eu k t)=[]:=by
 rw[List.filterMap_eq_nil_iff];intro x a;unfold Eu
 grind
def AI.tou{A:Ez}{Q:List Ad}(h:AI A Q)(k:K6):AI (Cn k A) (Q++[(k,none)])/\k∈(Cn k A).1:=by
 have n:∀c t,(Q++[((k,none):Ad)]).filterMap (Eu c t)=Q.filterMap (Eu c t):=λc t=>by
  rw[bC];simp[Eu]
 have m:∀c,(∃x∈Q++[((k,none):Ad)],x.1=c)↔(∃x∈Q,x.1=c)∨k=c:=λc=>by
  simp_all
 unfold Cn;split
 next j=>
  refine⟨⟨h.nd,h.ln,λc=>?_,λi c t d l=>?_⟩,j⟩
  .rw[m,←h.ks]
   grind
  .rw[n];exact h.ls i c t d l
 next j=>
  refine⟨⟨?_,?_,λc=>?_,λi c t d l=>?_⟩,c_⟩
  .rw[gD];exact⟨h.nd,c_,λa p b q e=>by
    simp_all⟩
  .simp[h.ln];omega
  .rw[m,←h.ks];simp[eq_comm]
  .rw[n];simp only at d ⊢;rw[r5]at d;split at d
   next g=>
    rw[Fe (by rw[h.ln];omega)];exact h.ls i c t d l
   next g=>
    have f:=am d;simp only[qcG]at f;have e:i=A.1.length:=a_;subst e;rw[WH]at d;have e:k=c:=D' d;subst e;rw[Nk λx o e=>j ((h.ks k).2 ⟨x,o,e⟩),GV (by rw[h.ln];omega),h.ln,qdg]
    grind
def AI.step{A:Ez}{Q:List Ad}(h:AI A Q){x:Ad}(v:∀q,x.2=some q->q.1<3):AI (Hr A x) (Q++[x]):=by
 obtain⟨k,o⟩:=x;obtain⟨c,w⟩:=h.tou k;unfold Hr;cases o with
 |none=>exact c
 |some q=>
  obtain⟨t,p⟩:=q;have z:t<3:=v _ rfl;simp only;obtain⟨f,m⟩ : ∃f,f=(Cn k A).1.idxOf k:=⟨_,rfl⟩;rw[←m];have u:(Cn k A).1[f]?=some k:=by
   grind
  have j:∀a b,(Q++[((k,some (t,p)):Ad)]).filterMap (Eu a b)=(Q++[((k,none):Ad)]).filterMap (Eu a b)++(if k=a/\t=b then [p]else []):=λa b=>by
   rw[bC,bC];by_cases e:k=a/\t=b
   .simp[Eu,e]
   .simp[Eu,e]
  refine⟨c.nd,by simp[Fo,c.ln],λa=>?_,λi a b s l=>?_⟩
  .show a∈(Cn k A).1↔_;rw[c.ks]
   simp_all
  .have g:(Cn k A).1[i]?=some a:=s;have d:=c.ls i a b g l;unfold Fo;simp only;rw[j];by_cases e:i=f/\t=b
   .grind
   .rw[Hj a_,d,te,GU];rintro⟨n,r⟩;subst n;exact e ⟨by
     have y:=c.nd
     grind,r⟩
def JX:∀(R:List Ad) (A:Ez) (Q:List Ad),AI A Q->(∀x∈R,∀q,x.2=some q->q.1<3)->AI (R.foldl Hr A) (Q++R)
 | [],A,Q,h,_=>by simpa using h
 |x :: R,A,Q,h,a=>by
  have:=JX R (Hr A x) (Q++[x]) (h.step (a x c_)) λy b=>a y (by simp[b])
  simp_all
section
variable (w v:Nat) (l:TD) (P:TH)
def DG(id:Nat):Cl:=aB (P id) (q8 w id)
def EI(id e:Nat):Cl:=aB (P id) (DH (q8 w id) e)
def xt(id n e:Nat):Int:=jD l (ofNat (min id n)) (ofNat e)
def EU(id e:Nat):Ad:=(tx (DG w P id) (EI w P id e),match Cv w v id e with
 |none=>none
 |some n=>if n<id then none else
  if xt l id n e=0 then some (0,if CX (DG w P id) (EI w P id e)then(n,id)else(id,n))
  else some (if CX (DG w P id) (EI w P id e)then 2 else 1,(id,n)))
def TZ{id e:Nat}:∀q,(EU w v l P id e).2=some q->q.1<3:=by
 intro q a;unfold EU at a
 grind
def RP(id e:Nat)(s:Ez):ff w v l P id e s=Hr s (EU w v l P id e):=by
 unfold ff Hr EU DG EI xt
 grind
def F3(n:Nat):List Ad:=(range n).flatMap λid=>(range 3).map (EU w v l P id)
def Rq(n:Nat):C9 w v l P n=(F3 w v l P n).foldl Hr ([],[]):=by
 have c:∀(id:Nat) (E:TC) (s:Ez),E.foldl (λs e=>ff w v l P id e s) s=(E.map (EU w v l P id)).foldl Hr s:=λid E=>by
  induction E with
  |nil=>intro s;rfl
  |cons e E a=>
   intro s;simp only[WJ,DD];rw[RP,a]
 unfold C9 F3;generalize (([],[]):Ez)=s0;have b:∀(I:TC) (s:Ez),I.foldl (λs id=>(range 3).foldl (λs e=>ff w v l P id e s) s) s=(I.flatMap λid=>(range 3).map (EU w v l P id)).foldl Hr s:=λI=>by
  induction I with
  |nil=>intro s;rfl
  |cons i I a=>
   simp_all
 exact b _ s0
def Lu(n:Nat):AI (C9 w v l P n) (F3 w v l P n):=by
 rw[Rq];have:=JX (F3 w v l P n) ([],[]) [] Zo λx a q b=>by
  unfold F3 at a;obtain⟨id,_,a⟩:=Gw.1 a;obtain⟨e,_,rfl⟩:=CS.1 a;exact TZ w v l P q b
 simpa using this
def JR(N:Nat)(k:K6)(t:Nat)(p:K2):Prop:=∃id e n,id<N/\e<3/\Cv w v id e=some n/\¬n<id/\tx (DG w P id) (EI w P id e)=k/\
 ((t=0/\xt l id n e=0/\p=if CX (DG w P id) (EI w P id e)then(n,id)else(id,n))∨(t=(if CX (DG w P id) (EI w P id e)then 2 else 1)/\xt l id n e≠0/\p=(id,n)))
def Rr{N:Nat}{k:K6}{t:Nat}{p:K2}:p∈(F3 w v l P N).filterMap (Eu k t)↔JR w v l P N k t p:=by
 unfold F3;rw[Q_];constructor
 .rintro⟨x,i,a⟩;obtain⟨id,i',i⟩:=Gw.1 i;obtain⟨e,g,rfl⟩:=CS.1 i;unfold Eu EU at a;simp only at a;cases c:Cv w v id e with
  |none=>rw[c]at a;cases a
  |some n=>
   rw[c]at a;simp only at a;by_cases d:n<id
   .simp_all
   .rw[te d]at a;by_cases f:xt l id n e=0
    .rw[rv f]at a;simp only at a;split at a
     next b=>
      exact⟨id,e,n,Cm.1 i',Cm.1 g,c,d,b.1,.inl ⟨b.2.symm,f,(D' a).symm⟩⟩
     .cases a
    .rw[te f]at a;simp only at a;obtain⟨q,eq⟩ : ∃q,q=if CX (DG w P id) (EI w P id e)=true then 2 else 1:=⟨_,rfl⟩
     rw[←eq]at a;split at a
     next b=>
      exact⟨id,e,n,Cm.1 i',Cm.1 g,c,d,b.1,.inr ⟨a_,f,(D' a).symm⟩⟩
     .cases a
 .rintro⟨id,e,n,i',g,c,d,b,h⟩;refine⟨EU w v l P id e,Gw.2 ⟨id,Cm.2 i',CS.2 ⟨e,Cm.2 g,rfl⟩⟩,?_⟩;unfold Eu EU
  grind
end
section
variable {R HT:Type} (A:B_ R HT)
def np5(c:Nat)(b:Int)(a:HT)(K:TG->HT->R):R:=K [(.v (.pointer (some ⟨c,0,none⟩))),(.i b)] a
def p2(c:Nat)(E:Value)(e:HT)(K:TG->HT->R):R:=A.j_ (C5 (.pointer (some ⟨c,0,none⟩))) (λf=>A.nC f ( A.j_ (Dm 11 f) (λg=>A.nC g ( A.my (.lg cc 1 g) e (λr=>A.BM r (λh s=>A.nC h ( A.v9 s ( A.ln h (λa=>A.j_ (DX a a) (λG=>A.new (.cells (aL [(.int .i64 0)] (Int.toNat a)) 1 true) e (λy n=>A.j_ (C5 (.pointer (some ⟨c,0,none⟩))) (λj=>A.nC j ( A.j_ (Dm 12 j) (λk=>A.nC k ( A.heap (.st k [(.slice (some ⟨y,0,(some 11)⟩) (Int.toNat a) ((Int.toNat a)+1))]) n (λF o=>A.c2 70 [(.v (.pointer (some ⟨c,0,none⟩))),(.v E)] o (λp l z=>A.ln l (λD=>A.loop (λC t b=>A.k6 t (λd=>A.cd .lss d D ( A.ix 1 l d 1 b (λu=>A.BM u (λm w=>A.nC m ( A.v9 w ( A.call 71 [(.v (.pointer (some ⟨c,0,none⟩))),(.v m)] b (λx q=>A.w_ x ( A.pa d 1 (λB=>C [(.i B)] q)))))))) ( np5 c z b K))) [(.i 0)] p))))))))))))))))))
def hq(b:Nat)(a9:Value)(n:HT)(K:TG->HT->R):R:=A.j_ (C5 (.pointer (some ⟨b,0,none⟩))) (λp=>A.nC p ( A.j_ (Dm 7 p) (λq=>A.nC q ( A.my (.lg cc 1 q) n (λJ=>A.BM J (λk L=>A.nC k ( A.v9 L ( A.ln k (λa4=>A.loop (λa1 M e=>A.k6 M (λh=>A.cd .lss h a4 ( A.ix 1 k h 1 e (λN=>A.BM N (λd O=>A.nC d ( A.v9 O ( A.ln d (λa5=>A.loop (λa2 P f=>A.k6 P (λc=>A.cd .lss c a5 ( A.ix 1 d c 1 f (λQ=>A.DE Q (λav=>A.j_ (Ex 1 d none (some c) none) (λl=>A.nC l ( A.ln l (λa6=>A.loop (λa3 S a=>A.k6 S (λj=>A.cd .lss j a6 ( A.ix 1 l j 1 a (λT=>A.DE T (λax=>A.j_ (C5 (.pointer (some ⟨b,0,none⟩))) (λr=>A.nC r ( A.j_ (Dm 10 r) (λs=>A.nC s ( A.my (.lg cc 1 s) a (λU=>A.BM U (λt V=>A.nC t ( A.v9 V ( A.j_ (C5 (.pointer (some ⟨b,0,none⟩))) (λu=>A.nC u ( A.j_ (Dm 11 u) (λv=>A.nC v ( A.my (.lg cc 1 v) a (λW=>A.BM W (λw X=>A.nC w ( A.v9 X ( A.ln w (λa7=>A.heap (.fn (FO cc 153 t (.agg ⟨[(.int .i64 ax),(.int .i64 av)]⟩) (.int .i64 a7))) a (λbb g=>A.j_ (C5 (.pointer (some ⟨b,0,none⟩))) (λx=>A.nC x ( A.j_ (Dm 11 x) (λm=>A.nC m ( A.my (.lg cc 1 m) g (λY=>A.BM Y (λy Z=>A.nC y ( A.v9 Z ( A.j_ (C5 (.pointer (some ⟨b,0,none⟩))) (λz=>A.nC z ( A.j_ (Dm 11 z) (λB=>A.nC B ( A.my (.lg cc 1 B) g (λad=>A.BM ad (λC ag=>A.nC C ( A.v9 ag ( A.ln C (λa8=>A.new (.cells [(.int .i64 a8),(.bool false)] 2 true) g (λo G=>A.heap (.ap cc 2 16 y (.slice (some ⟨o,0,(some 12)⟩) 1 2)) G (λal H=>A.BM al (λD an=>A.nC D ( A.v9 an ( A.j_ (C5 (.pointer (some ⟨b,0,none⟩))) (λE=>A.nC E ( A.j_ (Dm 11 E) (λF=>A.nC F ( A.heap (.st F [D]) H (λbd I=>A.j_ (Dp [((.slice (some ⟨o,0,(some 12)⟩) 1 2),(0,m))]) (λbk=>A.pa j 1 (λay=>a3 [(.i ay)] I)))))))))))))))))))))))))))))))))))))))))))))))))) ( A.pa c 1 (λaE=>a2 [(.i aE)] a)))) [(.i 0)] f)))))) ( A.pa h 1 (λa0=>a1 [(.i a0)] f)))) [(.i 0)] e)))))) ( p2 A b a9 e K))) [(.i 0)] n)))))))))
def hg(g:Nat)(D:Value)(n:Nat)(L:HT)(K:TG->HT->R):R:=A.j_ (C5 (.pointer (some ⟨g,0,none⟩))) (λXr=>A.nC Xr ( A.j_ (Dm 6 Xr) (λSn=>A.nC Sn ( A.my (.lg cc 1 Sn) L (λM=>A.BM M (λSo N=>A.nC So ( A.v9 N ( A.ln So (λDo=>A.j_ (DX Do Do) (λx116=>A.new (.cells (aL [(.slice none 0 0)] (Int.toNat Do)) 1 true) L (λh q=>A.j_ (C5 (.pointer (some ⟨g,0,none⟩))) (λu=>A.nC u ( A.j_ (Dm 6 u) (λo=>A.nC o ( A.my (.lg cc 1 o) q (λO=>A.BM O (λk P=>A.nC k ( A.v9 P ( A.ln k (λa=>A.j_ (DX a a) (λa4=>A.new (.cells (aL [(.slice none 0 0)] (Int.toNat a)) 1 true) q (λc E=>A.j_ (C5 (.pointer (some ⟨g,0,none⟩))) (λv=>A.nC v ( A.j_ (Dm 7 v) (λe=>A.nC e ( A.heap (.st e [(.slice (some ⟨h,0,(some 11)⟩) (Int.toNat Do) ((Int.toNat Do)+1))]) E (λa1 F=>A.j_ (C5 (.pointer (some ⟨g,0,none⟩))) (λw=>A.nC w ( A.j_ (Dm 8 w) (λx=>A.nC x ( A.heap (.st x [(.slice (some ⟨c,0,(some 11)⟩) (Int.toNat a) ((Int.toNat a)+1))]) F (λa2 G=>A.j_ (Dp [((.slice (some ⟨h,0,(some 11)⟩) (Int.toNat Do) ((Int.toNat Do)+1)),(0,o)),((.slice (some ⟨h,0,(some 11)⟩) (Int.toNat Do) ((Int.toNat Do)+1)),(2,k)),((.slice (some ⟨c,0,(some 11)⟩) (Int.toNat a) ((Int.toNat a)+1)),(0,Sn)),((.slice (some ⟨c,0,(some 11)⟩) (Int.toNat a) ((Int.toNat a)+1)),(2,So)),((.slice (some ⟨h,0,(some 11)⟩) (Int.toNat Do) ((Int.toNat Do)+1)),(0,(.slice (some ⟨c,0,(some 11)⟩) (Int.toNat a) ((Int.toNat a)+1)))),(e,(2,k)),((.slice (some ⟨c,0,(some 11)⟩) (Int.toNat a) ((Int.toNat a)+1)),(0,e)),((.slice (some ⟨c,0,(some 11)⟩) (Int.toNat a) ((Int.toNat a)+1)),(0,e))]) (λa5=>A.ln D (λaE=>A.loop (λay Q b=>A.k6 Q (λj=>A.cd .lss j aE ( A.ix 3 D j 3 b (λS=>A.FM S (λr s t=>A.j_ (C5 (.pointer (some ⟨g,0,none⟩))) (λXs=>A.nC Xs ( A.j_ (Dm 7 Xs) (λf=>A.nC f ( A.my (.lg cc 1 f) b (λT=>A.BM T (λy U=>A.nC y ( A.v9 U ( A.my (.fn (Fb cc 71 false (.int .i64 0) (.map (some n)) (.agg ⟨[(.int .i64 r),(.int .i64 s),(.int .u8 t)]⟩) false)) b (λV=>A.DE V (λan=>A.j_ (C5 (.pointer (some ⟨g,0,none⟩))) (λz=>A.nC z ( A.j_ (Dm 7 z) (λp=>A.nC p ( A.my (.lg cc 1 p) b (λW=>A.BM W (λB X=>A.nC B ( A.v9 X ( A.my (.fn (Fb cc 71 false (.int .i64 0) (.map (some n)) (.agg ⟨[(.int .i64 r),(.int .i64 s),(.int .u8 t)]⟩) false)) b (λY=>A.DE Y (λav=>A.j_ (BL 1 B av) (λC=>A.my (.lg cc 1 C) b (λZ=>A.BM Z (λl ad=>A.nC l ( A.v9 ad ( A.new (.cells [(.int .i64 j)] 1 true) b (λd H=>A.heap (.ap cc 1 8 l (.slice (some ⟨d,0,(some 11)⟩) 1 2)) H (λag I=>A.BM ag (λm al=>A.nC m ( A.v9 al ( A.j_ (BL 1 y an) (λa0=>A.heap (.st a0 [m]) I (λa3 J=>A.j_ (Dp [((.slice (some ⟨d,0,(some 11)⟩) 1 2),(0,f)),((.slice (some ⟨d,0,(some 11)⟩) 1 2),(0,(.map (some n)))),((.slice (some ⟨d,0,(some 11)⟩) 1 2),(0,p)),((.slice (some ⟨d,0,(some 11)⟩) 1 2),(0,(.map (some n)))),((.slice (some ⟨d,0,(some 11)⟩) 1 2),(0,C)),(l,(0,f)),(m,(0,f)),(l,(0,(.map (some n)))),(m,(0,(.map (some n))))]) (λa6=>A.pa j 1 (λax=>ay [(.i ax)] J))))))))))))))))))))))))))))))))))))) ( hq A g D b K))) [(.i 0)] G))))))))))))))))))))))))))))))))))
def q4(c:Nat)(j:Nat)(B:Value)(f:HT)(K:TG->HT->R):R:=A.j_ (C5 (.pointer (some ⟨c,0,none⟩))) (λo=>A.nC o ( A.j_ (Dm 6 o) (λp=>A.nC p ( A.my (.lg cc 1 p) f (λs=>A.BM s (λq t=>A.nC q ( A.v9 t ( A.call 69 [(.v q),(.v (.func (.func 58) ⟨[]⟩ ⟨[]⟩))] f (λu g=>A.w_ u ( A.j_ (C5 (.pointer (some ⟨c,0,none⟩))) (λr=>A.nC r ( A.j_ (Dm 6 r) (λx88=>A.nC x88 ( A.my (.lg cc 1 x88) g (λw=>A.BM w (λd x=>A.nC d ( A.v9 x ( A.ln d (λC=>A.loop (λz y b=>A.k6 y (λa=>A.cd .lss a C ( A.ix 3 d a 3 b (λh=>A.FM h (λk l m=>A.heap (.fn (FO cc 71 (.map (some j)) (.agg ⟨[(.int .i64 k),(.int .i64 l),(.int .u8 m)]⟩) (.int .i64 a))) b (λD e=>A.pa a 1 (λn=>z [(.i n)] e))))) ( hg A c B j b K))) [(.i 0)] g)))))))))))))))))))
def np0(ls:TG)(h:HT)(K:TG->HT->R):R:=A.pu ls (λX l7=>A.pu l7 (λZ l9=>A.Ci l9 (λx J=>A.k4 J (λs t u=>A.c2 68 [(.i X),(.i Z),(.v x),(.i s),(.i t),(.i u)] h (λd c w=>A.cd .neq w 0 ( K [(.v (.pointer none)),(.i w)] d) ( A.pm X Z (λW=>A.cd .gtr W 9 ( K [(.v (.pointer none)),(.i 3)] d) ( A.ln c (λa=>A.j_ (DX a a) (λay=>A.new (.cells (aL [(.bool false)] (Int.toNat a)) 1 true) d (λq B=>A.new (.map [] 0) B (λe C=>A.new (.cells [(.int .i64 X),(.int .i64 Z),x,(.int .u8 s),(.int .i64 t),(.int .i64 u),(.slice none 0 0),(.slice none 0 0),(.slice none 0 0),(.slice (some ⟨q,0,(some 11)⟩) (Int.toNat a) ((Int.toNat a)+1)),(.map (some e)),(.slice none 0 0),(.slice none 0 0),(.slice none 0 0),(.bool false)] 15 true) C (λf D=>A.j_ (Dp [((.map (some e)),(2,c)),((.slice (some ⟨q,0,(some 11)⟩) (Int.toNat a) ((Int.toNat a)+1)),(0,(.map (some e))))]) (λaE=>A.new (.map [] 0) D (λg E=>A.ln c (λal=>A.loop (λad L b=>A.k6 L (λj=>A.cd .lss j al ( A.ix 3 c j 3 b (λM=>A.FM M (λk l m=>A.my (.fn (Fb cc 71 false (.int .i64 0) (.map (some g)) (.agg ⟨[(.int .i64 k),(.int .i64 l),(.int .u8 m)]⟩) true)) b (λN=>A.td .i64 N (λax O=>A.D1 O (λag P=>A.v9 P ( A.join (λQ F=>A.w_ Q ( A.pa j 1 (λY=>ad [(.i Y)] F))) (λp=>A.cond (!ag) ( A.heap (.fn (FO cc 71 (.map (some g)) (.agg ⟨[(.int .i64 k),(.int .i64 l),(.int .u8 m)]⟩) (.int .i64 0))) b (λan o=>A.j_ (C5 (.pointer (some ⟨f,0,none⟩))) (λy=>A.nC y ( A.j_ (Dm 6 y) (λn=>A.nC n ( A.my (.lg cc 1 n) o (λS=>A.BM S (λz T=>A.nC z ( A.v9 T ( A.new (.cells [(.int .i64 k),(.int .i64 l),(.int .u8 m)] 3 true) o (λr G=>A.heap (.ap cc 3 24 z (.slice (some ⟨r,0,(some 13)⟩) 1 2)) G (λU H=>A.BM U (λx73 V=>A.nC x73 ( A.v9 V ( A.j_ (C5 (.pointer (some ⟨f,0,none⟩))) (λx75=>A.nC x75 ( A.j_ (Dm 6 x75) (λx76=>A.nC x76 ( A.heap (.st x76 [x73]) H (λav I=>A.j_ (Dp [((.slice (some ⟨r,0,(some 13)⟩) 1 2),(0,n))]) (λa0=>p [] I))))))))))))))))))))) ( p [] b))))))))) ( q4 A f g c b K))) [(.i 0)] E))))))))))))))))
end
def kG{R a:Type}(A:B_ R a)(ls:TG)(h:a)(K:TG->a->R):f29 A ls h K=np0 A ls h K:=rfl
def Qo{l:TC}{N:Nat}(h:l.Nodup)(j:∀x∈l,x<N):l.length<=N:=by
 have d:∀(a b:TC),a.Nodup->(∀x∈a,x∈b)->a.length<=b.length:=by
  intro a
  induction a with
  |nil=>simp_all
  |cons x a k=>
   intro b c f;rw[zS]at c;have g:=f x c_;have:=k (b.erase x) c.2 λy i=>(List.mem_erase_of_ne λe=>c.1 (by rw[←e];exact i)).2 (f y (by simp[i]))
   grind
 have:=d l (range N) h λx g=>Cm.2 (j x g)
 simp_all
def p9{c:Cl}{e:Nat}(a:c.2.2<4)(b:e<3):DH c e≠c:=by
 obtain⟨x,y,q⟩:=c;simp only at a;obtain rfl|rfl|rfl|rfl:=EC a
 all_goals
  obtain rfl|rfl|rfl:e=0∨e=1∨e=2:=a_
 all_goals simp[DH]
 all_goals omega
def ZZ{t e f:Nat}(a:e<3)(b:f<3)(h:eT t e=eT t f):e=f:=by
 unfold eT at h
 grind
def xh{l:TD}(j:∀c∈l,c.2.2≠0){u e:Nat}:jD l (ofNat u) (ofNat e)≠0↔CD l u e=true:=by
 unfold jD CD;rw[EP,CS];cases b:l.find? (U3 (ofNat u) (ofNat e))with
 |none=>
  have d:=List.find?_eq_none.1 b;refine⟨λh=>absurd rfl h,?_⟩;rintro⟨c,i,a⟩;refine absurd ?_ (d c i);unfold bo at a;simp only[Q7]at a;simp[U3,a]
 |some c=>
  have g:=qc6 b;have f:=List.find?_some b;refine⟨λ_=>⟨c,g,?_⟩,λ_=>j c g⟩;simp only[U3,vd,EP]at f;unfold bo;rw[f.1,f.2]
def PW{x y z:Cl}(a:y≠x)(b:z≠x)(h:tx x y=tx x z):y=z:=by
 unfold tx at h
 grind
section
variable {w v:Nat} (hs:Sh w v) {l:TD} {G:TH} (hG:Cz w v l G) {r:Mv} (hr:r.1<8)
abbrev CI(G:TH)(r:Mv):Nat->Mv:=λc=>af (G c) r
include hs
theorem qlt{c:Nat}(a:c<4*w*v):(q8 w c).2.2<4:=(dH hs a).2.2.2.2
theorem J1{c e:Nat}(a:c<4*w*v)(b:e<3):EI w (CI G r) c e=DH (DG w (CI G r) c) (eT (CI G r c).1 e):=
 iT fH (qlt hs a) b
theorem Ot{c e:Nat}(b:c<4*w*v)(a:e<3):EI w (CI G r) c e≠DG w (CI G r) c:=by
 rw[J1 hs b a];exact p9 iZ (lW a)
theorem ZE{c e f:Nat}(d:c<4*w*v)(a:e<3)(b:f<3)(h:EI w (CI G r) c e=EI w (CI G r) c f):e=f:=by
 rw[J1 hs d a,J1 hs d b]at h;exact ZZ a b (xA iZ (lW a) (lW b) h)
theorem jV{c e f:Nat}(a:c<4*w*v)(b:e<3)(d:f<3)(h:tx (DG w (CI G r) c) (EI w (CI G r) c e)=tx (DG w (CI G r) c) (EI w (CI G r) c f)):e=f:=
 ZE hs a b d (PW (Ot hs a b) (Ot hs a d) h)
include hG hr
theorem J_{c e n:Nat}(j:c<4*w*v)(h:e<3)(q:Cv w v c e=some n)(k:CD l (min c n) e=true):DG w (CI G r) n=DG w (CI G r) c/\EI w (CI G r) n e=EI w (CI G r) c e:=by
 obtain⟨i,o,m,d,t⟩:=dO hs j h q;obtain⟨_,_,_,f,_⟩:=dO hs i h o;have b:(af (G c) r).1<8:=fH;have a:=hG.g c e n j h q;unfold Ej at a;rw[rv k]at a;have s:s7 (q8 w (min c n)) e=s7 (q8 w c) e:=by
  grind
 rw[s]at a;have p:af (G n) r=af (wd (s7 (q8 w c) e)) (af (G c) r):=by rw[a,cz (rH _) (hG.ok c j).1 hr]
 constructor
 .unfold DG CI;rw[p,d];exact gS b (qlt hs j) h
 .unfold EI CI;rw[←f,←d,p,m];have:=gS (g:=af (G c) r) (c:=q8 w n) (e:=e) b (qlt hs i) h
  grind
theorem ZU{c e n:Nat}(m:c<4*w*v)(i:e<3)(o:Cv w v c e=some n)(h:CD l (min c n) e=false):CI G r n=CI G r c/\DG w (CI G r) n=EI w (CI G r) c e/\EI w (CI G r) n e=DG w (CI G r) c:=by
 obtain⟨j,k,p,f,q⟩:=dO hs m i o;obtain⟨_,_,_,b,_⟩:=dO hs j i k;have a:=hG.g c e n m i o;unfold Ej at a;rw[te (by rw[h];decide)]at a;have d:CI G r n=CI G r c:=by unfold CI;rw[a]
 refine⟨d,?_,?_⟩
 .unfold DG EI;rw[d,f]
 .unfold DG EI;rw[d,←b]
variable (hk0:∀c∈l,c.2.2≠0)
structure G0(w v:Nat)(l:TD)(G:TH)(r:Mv)(k:K6)(t:Nat)(o:K2)(e:Nat):Prop where
 he:e<3
 n1:o.1<4*w*v
 n2:o.2<4*w*v
 lt:o.1<o.2
 nb:Cv w v o.1 e=some o.2
 bn:Cv w v o.2 e=some o.1
 cr:CD l o.1 e=true
 k1:tx (DG w (CI G r) o.1) (EI w (CI G r) o.1 e)=k
 k2:tx (DG w (CI G r) o.2) (EI w (CI G r) o.2 e)=k
 im:DG w (CI G r) o.1=(if t=1 then k.1 else k.2)/\DG w (CI G r) o.2=(if t=1 then k.1 else k.2)
 gt:CX (DG w (CI G r) o.1) (EI w (CI G r) o.1 e)=decide (t=2)
include hk0
theorem VO{k:K6}{t:Nat}{o:K2}(B:t=1∨t=2)(h:JR w v l (CI G r) (4*w*v) k t o):∃e,G0 w v l G r k t o e:=by
 obtain⟨id,e,n,i',c,f,x,d,h⟩:=h;rcases h with⟨z,_,_⟩|⟨A,q,rfl⟩
 .omega
 obtain⟨g,i,u,s,y⟩:=dO hs i' c f;have m:min id n=id:=zP a_;have b:CD l (min id n) e=true:=(xh hk0).1 q;obtain⟨j,p⟩:=J_ hs hG hr i' c f b;have a:DG w (CI G r) id=(if t=1 then k.1 else k.2):=by
  unfold tx at d
  grind
 refine⟨e,c,i',g,a_,f,i,jn,d,by rw[j,p];exact d,⟨a,by rw[j];exact a⟩,?_⟩
 grind
omit hk0 hG hr in
theorem zg{k:K6}{t z:Nat}{o u:K2}{e f:Nat}(a:G0 w v l G r k t o e)(b:G0 w v l G r k z u f)(h:o.1=u.1∨o.1=u.2∨o.2=u.1∨o.2=u.2):o=u/\e=f:=by
 obtain⟨A,B⟩:=o;obtain⟨C,D⟩:=u;have n:=a.nb;have p:=a.bn;have s:=b.nb;have x:=b.bn;have q:=a.lt;have y:=b.lt;have c:=a.k1;have d:=a.k2;have j:=b.k1;have m:=b.k2;have g:=a.n1;have i:=a.n2;simp only at n p s x q y c d j m g i h;rcases h with h|h|h|h
 .subst h;have:=jV hs g a.he b.he (c.trans j.symm)
  simp_all
 .subst h;have:=jV hs g a.he b.he (c.trans m.symm)
  grind
 .subst h;have:=jV hs i a.he b.he (d.trans j.symm)
  grind
 .subst h;have:=jV hs i a.he b.he (d.trans m.symm)
  simp_all
structure G4(w v:Nat)(l:TD)(G:TH)(r:Mv)(k:K6)(p:K2)(e:Nat):Prop where
 he:e<3
 n1:p.1<4*w*v
 n2:p.2<4*w*v
 ne:p.1≠p.2
 nb:Cv w v p.1 e=some p.2
 bn:Cv w v p.2 e=some p.1
 cr:CD l (min p.1 p.2) e=false
 k1:tx (DG w (CI G r) p.1) (EI w (CI G r) p.1 e)=k
 k2:tx (DG w (CI G r) p.2) (EI w (CI G r) p.2 e)=k
 i1:DG w (CI G r) p.1=k.1
 i2:DG w (CI G r) p.2=k.2
theorem Wu{k:K6}{p:K2}(h:JR w v l (CI G r) (4*w*v) k 0 p):∃e,G4 w v l G r k p e:=by
 obtain⟨id,e,n,i',c,m,A,a,h⟩:=h;rcases h with⟨_,x,o⟩|⟨u,_,_⟩
 case inr=>
  split at u<;>omega
 obtain⟨f,i,z,y,j⟩:=dO hs i' c m;have b:CD l (min id n) e=false:=by
  rw[←Gj];exact λq=>(xh hk0).2 q x
 obtain⟨_,s,t⟩:=ZU hs hG hr i' c m b;have d:tx (DG w (CI G r) n) (EI w (CI G r) n e)=k:=by
  rw[s,t,←a];unfold tx;cases g:CX (DG w (CI G r) id) (EI w (CI G r) id e)with
  |true=>rw[Ps g];rfl
  |false=>
   rw[tj g λq=>Ot hs i' c q.symm];rfl
 unfold tx at a;cases g:CX (DG w (CI G r) id) (EI w (CI G r) id e)with
 |true=>
  rw[g,rv rfl]at o a;subst o;refine⟨e,c,f,i',j,i,m,kb,d,?_,by rw[s,←a],by rw[←a]⟩;unfold tx
  simp_all
 |false=>
  rw[g,te oo]at o a;subst o;refine⟨e,c,i',f,CY j,m,i,b,?_,d,by rw[←a],by rw[s,←a]⟩;unfold tx
  simp_all
omit hk0 hG hr in
theorem QN{k:K6}{p q:K2}{e f:Nat}(a:G4 w v l G r k p e)(b:G4 w v l G r k q f)(h:p.1=q.1∨p.2=q.2):p=q/\e=f:=by
 obtain⟨u,x⟩:=p;obtain⟨y,z⟩:=q;have n:=a.nb;have o:=a.bn;have s:=b.nb;have t:=b.bn;have c:=a.k1;have d:=a.k2;have j:=b.k1;have m:=b.k2;have g:=a.n1;have i:=a.n2;simp only at n o s t c d j m g i h;rcases h with h|h
 .subst h;have:=jV hs g a.he b.he (c.trans j.symm)
  simp_all
 .subst h;have:=jV hs i a.he b.he (d.trans m.symm)
  simp_all
end
def tY{w v:Nat}{l:TD}{P:TH}{k:K6}{t id e:Nat}{b:K2}(h:Eu k t (EU w v l P id e)=some b):tx (DG w P id) (EI w P id e)=k/\∃n,Cv w v id e=some n/\¬n<id/\(b=(id,n)∨b=(n,id)):=by
 unfold Eu EU at h
 grind
def t3{w v:Nat}(p:Sh w v){l:TD}{G:TH}{r:Mv}{k:K6}{t:Nat}:((F3 w v l (CI G r) (4*w*v)).filterMap (Eu k t)).Nodup:=by
 rw[WG,qde];unfold F3;rw[List.pairwise_flatMap];constructor
 .intro id i';rw[Nf];refine List.pairwise_lt_range.imp_of_mem λ{e f} i m j b c h a _=>?_;have d:=(tY c).1;have g:=(tY a).1;have:=jV p (Cm.1 i') (Cm.1 i) (Cm.1 m) (d.trans g.symm);omega
 .refine List.pairwise_lt_range.imp λ{id u} o x q y s b c h a e=>?_;obtain⟨z,_,rfl⟩:=CS.1 q;obtain⟨A,_,rfl⟩:=CS.1 s;obtain⟨_,n,_,d,g⟩:=tY c;obtain⟨_,D,_,B,C⟩:=tY a
  grind
def DR(A:Ez)(i t:Nat):List K2:=A.2.getD (3*i+t) []
def JD{w v:Nat}{l:TD}{P:TH}{n i t:Nat}{k:K6}(a:(C9 w v l P n).1[i]?=some k)(b:t<3):(C9 w v l P n).2[3*i+t]?=some (DR (C9 w v l P n) i t)/\DR (C9 w v l P n) i t=(F3 w v l P n).filterMap (Eu k t):=by
 have:=(Lu w v l P n).ls i k t a b;unfold DR
 simp_all
def LD{w v:Nat}{l:TD}{P:TH}{n i t:Nat}{k:K6}(a:(C9 w v l P n).1[i]?=some k)(b:t<3){p:K2}:p∈DR (C9 w v l P n) i t↔JR w v l P n k t p:=by
 rw[(JD a b).2];exact Rr w v l P
section
variable {w v:Nat} (hs:Sh w v) {l:TD} {G:TH} (hG:Cz w v l G) {r:Mv} (hr:r.1<8) (hk0:∀c∈l,c.2.2≠0) {i:Nat} {k:K6} (hi:(C9 w v l (CI G r) (4*w*v)).1[i]?=some k)
abbrev Cx(w v:Nat)(l:TD)(G:TH)(r:Mv):Ez:=C9 w v l (CI G r) (4*w*v)
include hs hi
theorem JE{t:Nat}(a:t<3):(DR (Cx w v l G r) i t).Nodup:=by
 rw[(JD hi a).2];exact t3 hs
include hG hr hk0
theorem me{t:Nat}(b:t=1∨t=2){o:K2}(a:o∈DR (Cx w v l G r) i t):∃e,G0 w v l G r k t o e:=VO hs hG hr hk0 b ((LD hi a_).1 a)
theorem La{o:K2}(a:o∈DR (Cx w v l G r) i 0):∃e,G4 w v l G r k o e:=Wu hs hG hr hk0 ((LD hi a_).1 a)
theorem vD{t:Nat}(d:t=1∨t=2):(DR (Cx w v l G r) i t).length<=4*w*v:=by
 have g:((DR (Cx w v l G r) i t).map Prod.fst).Nodup:=by
  rw[WG,Nf];have:=JE hs hi (G:=G) (r:=r) (l:=l) (t:=t) a_;rw[WG]at this;refine this.imp_of_mem λ{a b} h j c e=>c ?_;obtain⟨q,f⟩:=me hs hG hr hk0 hi d h;obtain⟨s,p⟩:=me hs hG hr hk0 hi d j;exact(zg hs f p (.inl e)).1
 have:=Qo g λx n=>by
  obtain⟨o,m,rfl⟩:=CS.1 n;obtain⟨e,f⟩:=me hs hG hr hk0 hi d m;exact f.n1
 simp_all
theorem Xn(A:2<=(DR (Cx w v l G r) i 0).length+(DR (Cx w v l G r) i 1).length+(DR (Cx w v l G r) i 2).length):0<(EM (ts (Ck w v G r))).length:=by
 have h:(Ck w v G r).length=4*w*v:=by simp[Ck]
 have B:∀t,(t=1∨t=2)->0<(DR (Cx w v l G r) i t).length->0<(EM (ts (Ck w v G r))).length:=λt s d=>by
  obtain⟨o,m⟩:=aq d;obtain⟨e,q⟩:=me hs hG hr hk0 hi s (Cf m);refine tO (x:=o.1) (y:=o.2) (by have:=q.lt;omega) ?_ (by rw[h];exact q.n1);rw[gm q.n1,gm q.n2];have:=q.im.1.trans q.im.2.symm;unfold DG at this
  simp_all
 by_cases u:0<(DR (Cx w v l G r) i 1).length
 .simp_all
 by_cases z:0<(DR (Cx w v l G r) i 2).length
 .simp_all
 obtain⟨p,d⟩:=aq (l:=DR (Cx w v l G r) i 0) (i:=0) a_;obtain⟨q,n⟩:=aq (l:=DR (Cx w v l G r) i 0) (i:=1) a_;obtain⟨e,a⟩:=La hs hG hr hk0 hi (Cf d);obtain⟨f,g⟩:=La hs hG hr hk0 hi (Cf n);have c:p.1≠q.1:=λj=>by
  have:=(QN hs a g (.inl j)).1;subst this;have b:=JE hs hi (G:=G) (r:=r) (l:=l) (t:=0) a_;rw[WG,Q5]at b
  grind
 refine tO (x:=p.1) (y:=q.1) c ?_ (by rw[h];exact a.n1);rw[gm a.n1,gm g.n1];have:=a.i1.trans g.i1.symm;unfold DG at this
 simp_all
end
def Kq{pn:Ti}{L:List K2}{i:Nat}{f:A5}:f∈SP pn L i↔∃(j:Nat) (o u:K2),j<i/\L[i]?=some o/\L[j]?=some u/\f=four pn o u:=by
 unfold SP;cases h:L[i]? with
 |none=>simp
 |some o=>
  simp only[CS,FU];constructor
  .rintro⟨u,a,rfl⟩;obtain⟨j,d⟩:=Ev a
   grind
  .rintro⟨j,e,u,b,rfl,c,rfl⟩;exact⟨u,Cf (i:=j) kb,rfl⟩
def BS{pn:Ti}{L:List K2}{f:A5}:f∈Fs pn L L.length↔∃(i j:Nat) (o u:K2),j<i/\L[i]?=some o/\L[j]?=some u/\f=four pn o u:=by
 unfold Fs;rw[Gw];constructor
 .rintro⟨i,_,d⟩;exact⟨i,Kq.1 d⟩
 .rintro⟨i,h⟩;obtain⟨j,o,u,b,a,c⟩:=h;exact⟨i,Cm.2 (am a),Kq.2 ⟨j,o,u,b,a,c⟩⟩
def I6{pn:Ti}{L:List K2}:∀n,(Fs pn L n).length<=n*L.length
 |0=>by simp[Fs]
 |n+1=>by
  have a:=I6 (pn:=pn) (L:=L) n;rw[ta,Gv,Js,S9];have:(SP pn L n).length<=L.length:=by
   unfold SP
   grind
  omega
def Iz(pn:Ti)(A:Ez)(n:Nat):List A5:=(range n).flatMap λi=>Fs pn (DR A i 1) (DR A i 1).length++Fs pn (DR A i 2) (DR A i 2).length
def yw{pn:Ti}{A:Ez}{n:Nat}:Iz pn A (n+1)=Iz pn A n++Fs pn (DR A n 1) (DR A n 1).length++Fs pn (DR A n 2) (DR A n 2).length:=by
 unfold Iz;rw[Ll,Y1];simp
def wv{pn:Ti}{A:Ez}{B:Nat}:∀n,(∀i t,i<n->(t=1∨t=2)->(DR A i t).length<=B)->(Iz pn A n).length<=n*(2*(B*B))
 |0,_=>by simp[Iz]
 |n+1,h=>by
  have d:=wv (pn:=pn) n λi t c=>h i t a_;have a:=h n 1 a_ (.inl rfl);have b:=h n 2 a_ (.inr rfl);have e:=I6 (pn:=pn) (L:=DR A n 1) (DR A n 1).length;have f:=I6 (pn:=pn) (L:=DR A n 2) (DR A n 2).length;have g:(DR A n 1).length*(DR A n 1).length<=B*B:=ki a a;have j:(DR A n 2).length*(DR A n 2).length<=B*B:=ki b b;rw[yw,Gv,Gv,Js,S9];omega
def e2(pn:Ti)(A:Ez)(V:Tx)(n:Nat):Prop:=∀i,i<n->∀j,j<(DR A i 0).length->Gz pn (DR A i 0) (DR A i 1) (DR A i 2) V j
section
variable {w v:Nat} (hs:Sh w v) {l:TD} {G:TH} (hG:Cz w v l G) {r:Mv} (hr:r.1<8) (hk0:∀c∈l,c.2.2≠0)
include hs hG hr hk0
theorem NU{pn:Ti}{n:Nat}(P:n<=(Cx w v l G r).1.length):∀f∈Iz pn (Cx w v l G r) n,∀x∈[f.1,f.2.1,f.2.2.1,f.2.2.2],∃q∈ts (Ck w v G r),∃a∈q,∃b∈q,a≠b/\x=Dc pn a b:=by
 intro f m x A;unfold Iz at m;obtain⟨i,H,m⟩:=Gw.1 m;rw[Cm]at H;obtain⟨k,p⟩:=aq (l:=(Cx w v l G r).1) (i:=i) a_;have M:∀t,(t=1∨t=2)->f∈Fs pn (DR (Cx w v l G r) i t) (DR (Cx w v l G r) i t).length->∃q∈ts (Ck w v G r),∃a∈q,∃b∈q,a≠b/\x=Dc pn a b:=λt D m=>by
  obtain⟨a,b,o,u,F,I,J,rfl⟩:=BS.1 m;obtain⟨e,d⟩:=me hs hG hr hk0 p D (Cf I);obtain⟨C,g⟩:=me hs hG hr hk0 p D (Cf J);have c:¬(o.1=u.1∨o.1=u.2∨o.2=u.1∨o.2=u.2):=λq=>by
   have:=(zg hs d g q).1;subst this;have s:=JE hs p (G:=G) (r:=r) (l:=l) (t:=t) a_;rw[WG,Q5]at s
   grind
  have j:∀y,y<4*w*v->DG w (CI G r) y=(if t=1 then k.1 else k.2)->(Ck w v G r)[y]?=some (if t=1 then k.1 else k.2):=λy B e=>by
   rw[gm B];exact congrArg some e
  have h:∀y z,y<4*w*v->z<4*w*v->DG w (CI G r) y=(if t=1 then k.1 else k.2)->DG w (CI G r) z=(if t=1 then k.1 else k.2)->y≠z->∃q∈ts (Ck w v G r),∃a∈q,∃b∈q,a≠b/\Dc pn y z=Dc pn a b:=λy z B L E C K=>by
   obtain⟨q,Q,N,O⟩:=pK (j y B E) (j z L C)
   grind
  unfold four at A;simp only[DB,Ng,or_false]at A;rcases A with rfl|rfl|rfl|rfl
  .exact h _ _ d.n1 g.n1 d.im.1 g.im.1 λe=>c (.inl e)
  .exact h _ _ d.n2 g.n1 d.im.2 g.im.1 λe=>c (.inr (.inr (.inl e)))
  .exact h _ _ d.n1 g.n2 d.im.1 g.im.2 λe=>c (.inr (.inl e))
  .exact h _ _ d.n2 g.n2 d.im.2 g.im.2 λe=>c (.inr (.inr (.inr e)))
 grind
theorem ZV{i e n:Nat}(a:i<4*w*v)(d:e<3)(f:Cv w v i e=some n)(h:jD l (ofNat (min i n)) (ofNat e)≠0):0<(EM (ts (Ck w v G r))).length:=by
 obtain⟨b,_,_,_,c⟩:=dO hs a d f;have g:=(J_ hs hG hr a d f ((xh hk0).1 h)).1;refine tO (x:=i) (y:=n) (CY c) ?_ (by simp[Ck];exact a);rw[gm a,gm b];unfold DG at g
 simp_all
end
def Lh{IDS:List (TC)}{B:Nat}(h:∀l∈IDS,l.length<=B):(EM IDS).length<=IDS.length*(B*B):=by
 induction IDS with
 |nil=>simp[EM]
 |cons l I c=>
  have d:=c λm b=>h m (by simp[b]);have a:=h l c_;have e:=xR (l:=l) l.length;have f:l.length*l.length<=B*B:=ki a a;show(Hi l l.length++EM I).length<=_;rw[Gv,YV,Js,S9];omega
structure N4(h0 h4:HL)(b mp:Nat)(w v:Nat)(xv:Value)(r:Mv)(xa xd xl xu xp:Value)(vs:Tn)(IM:TM):Prop where
 hb:h4[b]?=some (.o (.cells (ah ⟨w,v,xv,r,xa,xd,xl,xu,mp,xp,.slice none 0 0,.slice none 0 0⟩ false) 15 true))
 bn:h0.length<=b
 mpn:h0.length<=mp
 old:∀(j:Nat) o,h0[j]?=some o->h4[j]?=some o
 at_:h_ h0.length h4 xa 3 bU (Dq IM)
 ids:h_ h0.length h4 xd 1 CQ vs
 vl:vs.length=(ts IM).length
 iv:∀(j:Nat) x l,vs[j]?=some x->(ts IM)[j]?=some l->h_ h0.length h4 x 1 mc l
 lay:h_ h0.length h4 xl 1 CQ ((ts IM).map λ_=>.slice none 0 0)
 us:h_ h0.length h4 xu 1 A7 (replicate IM.length false)
 pr:Dd D_ h4 mp (SY (EM (ts IM)))
 up:h_ h0.length h4 xp 2 Dh ((range (EM (ts IM)).length).map λi=>(i,false))
 s1:∀j,hY xu=some j->hY xl≠some j
 s2:∀j,hY xu=some j∨hY xl=some j->hY xd≠some j/\∀x∈vs,hY x≠some j
def NZ(h0:HL)(b w v:Nat)(a:Value)(r:Mv)(AT:List K3)(CR:TD)(IDS:List (TC))(pn:Ti)(S:(Nat->Bool)->Prop)(F:List A5)(g:HL):Prop:=
 ∃c n,(c.w=w/\c.v=v/\c.r=r)/\(∀(j:Nat) o,h0[j]?=some o->g[j]?=some o)/\h0.length<=g.length/\(∀j,hY c.va=some j∨hY c.us=some j∨hY c.lay=some j->h0.length<=j)/\
  ∀E:Nat->Prop,(∀j,E j->j<h0.length/\hY a≠some j)->NpR b c n g (λj=>E j∨hY c.va=some j∨hY c.us=some j∨hY c.lay=some j) AT CR IDS pn S F
def uc(w v:Nat)(l:TD)(G:TH)(r:Mv)(pn:Ti)(V:Tx):Prop:=
 (∀i e,i<4*w*v->e<3->EJ pn w v l (CI G r) V i e)/\e2 pn (Cx w v l G r) V (Cx w v l G r).1.length
def t9(M:Nat):Hv ((range M).map λi=>((i,false):Lit)) (λ_=>0):=by
 have a:∀(i:Nat) u,((range M).map λi=>((i,false):Lit))[i]?=some u->i<M/\u=(i,false):=λi u h=>by
  grind
 refine⟨λi u h=>?_,λi u h b=>?_,λi u h _=>?_⟩
 .grind
 .grind
 grind
def hO(M:Nat)(V:Tx):Rs ((range M).map λi=>((i,false):Lit)) (replicate M 0) V:=by
 constructor
 .intro i u h;have a:=am h;rw[FV,S7]at a;rw[Ew,List.getElem?_range a]at h;have:=D' h;subst this;unfold A8;rw[NC]
 grind
def FF(M:Nat):Ge ((range M).map λi=>((i,false):Lit)) (replicate M 0):=
 ⟨c_,λx a=>.inl (qc8 a)⟩
def m4{h0 C g:HL}{b mp w v:Nat}{xv:TR}{r:Mv}{xa xd X Y xp:TR}{vs:Tn}{l:TD}{G:TH}(m:N4 h0 C b mp w v xv r xa xd X Y xp vs (Ck w v G r))(S:S3 w v)(bm:NH w v l)(al:∀c∈l,c.2.2≠0)(ag:Cz w v l G)(ay:CM 4000 r)(bb:q9 h0 xv 3 n4 l)
  {I:List K2} (ad:I=EM (ts (Ck w v G r))) {va fo:TR} {n:Bool} {U:List Lit} {W:TE} (b3:hY va=some C.length)
  (R:Pi g b ⟨w,v,xv,r,xa,xd,X,Y,mp,xp,va,fo⟩ n U W (D0 I) (Iz (D0 I) (Cx w v l G r) (Cx w v l G r).1.length)) (hU:U.length=I.length) (hC:∀V,(n=false/\Rs U W V)↔uc w v l G r (D0 I) V)
  (hk:∀(j:Nat) o,C[j]?=some o->j≠b->hY xp≠some j->g[j]?=some o) (b1:∀j,hY fo=some j->C.length<j) (b2:C.length+1<g.length) :
  NZ h0 b w v xv r (Dq (Ck w v G r)) l (ts (Ck w v G r)) (D0 I) (uc w v l G r (D0 I)) (Iz (D0 I) (Cx w v l G r) (Cx w v l G r).1.length) g:=by
 have hs:=S.sh;have hN:(Ck w v G r).length=4*w*v:=by simp[Ck]
 have bs:=S.n;have bP:=am m.hb;have bt:h0.length<=C.length:=by have:=m.bn;omega
 have a3:∀ {j e:Nat} {H:Tn} {P:Bool},C[j]?=some (.o (.cells H e P))->e≠15->j≠b:=λ{j e H P} u he q=>by
  subst q;rw[m.hb]at u
  simp_all
 have bd:∀ {j e:Nat} {H:Tn} {P:Bool},C[j]?=some (.o (.cells H e P))->e≠2->hY xp≠some j:=λ{j e H P} u he q=>by
  obtain⟨aE,D⟩:=m.up.wid q
  simp_all
 have b4:∀j,hY xp=some j->h0.length<=j/\j<C.length:=λj q=>m.up.hY q;have kO:∀ {N:Type} {e:Nat} {p:N->Tn} {L:List N} {x:TR} {n0:Nat},h_ n0 C x e p L->e≠15->e≠2->h_ n0 g x e p L:=λ{N e p L x n0} M s D=>M.BK λj H _ u=>hk j _ u (a3 u s) (bd u D);have ax:∀(j:Nat) o,h0[j]?=some o->g[j]?=some o:=λj o u=>by
  have s:=am u;refine hk j o (m.old j o u) (λe=>?_) λe=>?_
  .have:=m.bn;omega
  grind
 have a8:∀j,hY Y=some j∨hY X=some j->(∃H,C[j]?=some (.o (.cells H 1 true)))/\h0.length<=j/\j<C.length:=λj q=>by
  rcases q with q|q
  .exact⟨m.us.wid q,m.us.hY q⟩
  .exact⟨m.lay.wid q,m.lay.hY q⟩
 refine⟨⟨w,v,xv,r,xa,xd,X,Y,mp,xp,va,fo⟩,n,⟨rfl,rfl,rfl⟩,ax,a_,λj q=>?_,λE hE=>?_⟩
 .grind
 have av:S3x ⟨w,v,xv,r,xa,xd,X,Y,mp,xp,va,fo⟩ g.length:=by
  refine⟨λj q=>?_,λj q=>?_,λj q=>?_⟩
  .grind
  .have:=(a8 _ (.inl q)).2.2;exact⟨a_,m.s1 j q⟩
  grind
 obtain⟨mu,a0⟩ : ∃mu:Nat->Prop,mu=λj=>E j∨hY va=some j∨hY Y=some j∨hY X=some j:=⟨_,rfl⟩;have K:∀j,mu j->(j<h0.length/\hY xv≠some j)∨j=C.length∨(h0.length<=j/\j<C.length/\(hY Y=some j∨hY X=some j)/\∃H,C[j]?=some (.o (.cells H 1 true))):=λj q=>by
  grind
 show NpR b _ n g (λj=>E j∨hY va=some j∨hY Y=some j∨hY X=some j) _ _ _ _ _ _;rw[←a0];have an:¬mu b:=λq=>by
  rcases K b q with q|q|⟨_,_,_,H,q⟩
  .have:=m.bn;omega
  .omega
  grind
 refine⟨R.hb,av,an,λhn x=>?_,λhn=>?_⟩
 .rw[←Gj,Jl];rintro⟨V,hV,_⟩
  simp_all
 subst hn;have ap:0<(Ck w v G r).length:=by
  have s:0<w*v:=r6 S.1 S.2.2.1
  grind
 obtain⟨O,Q,hI⟩ : ∃O Q,ts (Ck w v G r)=O :: Q:=by
  cases h:ts (Ck w v G r)with
  |cons a b=>exact⟨a,b,rfl⟩
  |nil=>
   obtain⟨c,hc⟩:=aq ap;obtain⟨q,F,_⟩:=pK hc hc
   simp_all
 have J:=wY (Ck w v G r);have a5:(ts (Ck w v G r)).length=(Dq (Ck w v G r)).length:=by simp[ts]
 have bC:=sB (Ck w v G r);have bx:NI C mp (D0 I):=by
  rw[ad];exact Le (QZ J) m.pr
 have a7:∀q∈ts (Ck w v G r),q.length<=36:=λq F=>by
  obtain⟨c,_,rfl⟩:=CS.1 F;have:=ox (L:=Ck w v G r) (n:=(Ck w v G r).length) (c:=c);show(Fk _ _ _).length<=36;omega
 have a4:∀q∈ts (Ck w v G r),∀x∈q,∀y∈q,x≠y->(Dc (D0 I) x y).1<U.length:=λq F x hx y hy bk=>by
  obtain⟨e1,e2⟩:=PC F hx hy;rw[hU];refine wz ?_ x y;rw[ad];exact tO bk e1 e2
 have T:=NU hs ag ay.1 al (pn:=D0 I) (A9 (Cx w v l G r).1.length);have a9:∀x,(replicate (Ck w v G r).length false).getD x false=false:=λx=>by
  grind
 have a6:CE (replicate (Ck w v G r).length false) O=O:=by
  unfold CE;rw[qcP]
  grind
 obtain⟨r0,a2⟩:=R.fr;have hP:∀ {h:HL},AgP g mu h->∀ {N:Type} {e:Nat} {p:N->Tn} {L:List N} {x:TR} {n0:Nat},h_ n0 g x e p L->(∀j,hY x=some j->¬mu j)->h_ n0 h x e p L:=by
  intro h hA N e p L x n0 M hm;exact M.j9 λj o u hb=>hA.2 j o (am u) (hm j hb) u
 have bl:∀ {N:Type} {e:Nat} {p:N->Tn} {L:List N} {x:TR},h_ h0.length C x e p L->e≠1->∀j,hY x=some j->¬mu j:=λ{N e p L x} M he j u q=>by
  have a1:=M.hY u;rcases K j q with q|q|⟨_,_,_,H,q⟩
  .omega
  .omega
  .obtain⟨aE,D⟩:=M.wid u
   grind
 refine⟨U,W,replicate (Ck w v G r).length false,(ts (Ck w v G r)).map λ_=>.slice none 0 0,r0,(Ck w v G r).length,O,Q,?_,a2,J,T,hI,?_,a6,?_,λx hx=>?_⟩
 .refine⟨λh h' hA Z=>⟨?_,λj o s D S=>Z j o s D (hA.2 j o s D S)⟩,λh hA=>hA.1,av,λj q=>?_,am R.hb,λh hA=>hA.2 b _ (am R.hb) an R.hb,λh hA=>h_.ls dJ (hP hA R.up λj q=>?_),λh hA=>h_.ls (λ_=>rfl) (hP hA R.fo λj q=>?_),?_,λf hf=>?_,λh hA=>R.pr.j9 λo M=>hA.2 mp o (am M) (λq=>?_) M,λh hA=>h_.ls UD (hP hA (kO m.at_ oo oo) (bl m.at_ oo)),λh hA=>bb.j9 λj o u b0=>hA.2 j o ?_ (λq=>?_) (ax j o u),by have:=bm.len;omega,a_,a5,⟨vs,m.vl,λh hA=>⟨h_.ls bf (hP hA (kO m.ids oo oo) λj u q=>?_),λj x q s D=>h_.ls bu (hP hA (kO (m.iv j x q s D) oo oo) λi hi q2=>?_)⟩⟩,λq F=>⟨J.nd q F,by have:=a7 q F;omega,a4 q F⟩⟩
  .obtain⟨o,M⟩:=aq (l:=g) (i:=g.length - 1) a_;have s:=hA.2 _ o a_ (λq=>by
    grind) M
   grind
  .grind
  .grind
  .grind
  .have s:=wv (pn:=D0 I) (A:=Cx w v l G r) (B:=36) (Cx w v l G r).1.length λi t hi ht=>by
    obtain⟨k,Z⟩:=aq hi;have:=vD hs ag ay.1 al Z ht;omega
   have D:(Cx w v l G r).1.length<=3*(4*w*v):=oE (4*w*v);omega
  .have q1:=T f hf;have b5:∀x∈[f.1,f.2.1,f.2.2.1,f.2.2.2],x.1<U.length:=λx hx=>by
    grind
   grind
  .rcases K mp q with q|q|⟨_,_,_,H,q⟩
   .have:=m.mpn;omega
   .have:=m.pr.lt;omega
   .obtain⟨es,c,a1,_⟩:=m.pr
    grind
  .grind
  .grind
  .have a1:=m.ids.hY u;rcases K j q with q|q|⟨_,_,q,_⟩
   .omega
   .omega
   .exact(m.s2 j q).1 u
  .have a1:=(m.iv j x q s D).hY hi;rcases K i q2 with q2|q2|⟨_,_,q2,_⟩
   .omega
   .omega
   .exact(m.s2 i q2).2 x (Cf s) hi
 .refine⟨⟨R.ok,λV=>?_,λq F=>(by cases F),.nil,λa ha=>(by cases ha)⟩,c_,rfl,?_,λi d q s=>(by cases s),λq _ x _=>a9 x,λq=>?_⟩
  .constructor
   .intro hR;exact⟨(hC V).1 ⟨rfl,hR⟩,λq F=>(by cases F),.nil,λa ha=>(by cases ha)⟩
   grind
  .grind
  grind
 .refine⟨R.va,?_,?_,?_,λj x q s D=>?_,λj x y s D=>?_,λi j x y z s D S=>?_⟩
  .rcases kO m.us oo oo with q|⟨id,cx,e1,e2,e3⟩
   .exact .inl q
   .exact .inr ⟨id,cx,e1,C6 _,e3⟩
  .rcases kO m.lay oo oo with q|⟨id,cx,e1,e2,e3⟩
   .exact .inl q
   .exact .inr ⟨id,cx,e1,C6 _,e3⟩
  .grind
  .obtain⟨_,_,rfl⟩:=CS.1 (Cf s);have F:q=[]:=by
    grind
   subst F;exact F2.nil g
  .obtain⟨_,_,rfl⟩:=CS.1 (Cf s);cases D
  .obtain⟨_,_,rfl⟩:=CS.1 (Cf s);cases S
 .obtain⟨_,_,rfl⟩:=CS.1 hx;rfl
section
variable {h0 h4:HL} {b mp w v:Nat} {xv:Value} {r:Mv} {xa xd xl xu xp:Value} {vs:Tn} {l:TD} {G:TH}
def o8(s:N4 h0 h4 b mp w v xv r xa xd xl xu xp vs (Ck w v G r))(h3:S3 w v)(bk:NH w v l)(Q:∀c∈l,c.2.2≠0)(D:Cz w v l G)(J:CM 4000 r)(cm:∀id e,id<4*w*v->e<3->JN (aB (af (G id) r) (DH (q8 w id) e))=true)
  (ap:q9 h0 xv 3 n4 l) {xi:TR} (ay:q9 h0 xi 3 bU (Ck w v G r)) (ci:∀H,q9 H xv 3 n4 l->∃lx h',aA cc ac 103 [.i (ofNat w),.i (ofNat v),.v xv,.i (ofNat r.1),.i r.2.1,.i r.2.2] (g_ aa H) [.v lx,.i 0] (g_ aa h')/\v_ H h'/\q9 h' lx 3 sd (DO w v G r))
  {K:Te} (hK:∀g,NZ h0 b w v xv r (Dq (Ck w v G r)) l (ts (Ck w v G r)) (D0 (EM (ts (Ck w v G r)))) (uc w v l G r (D0 (EM (ts (Ck w v G r))))) (Iz (D0 (EM (ts (Ck w v G r)))) (Cx w v l G r) (Cx w v l G r).1.length) g->K [.v (ka b),.i 0] g) :
  p2 (hA P1) b xi h4 K:=by
 have hs:=h3.sh;have hN:(Ck w v G r).length=4*w*v:=by simp[Ck]
 have cn:=h3.n;obtain⟨d,p⟩ : ∃d,d=EM (ts (Ck w v G r)):=⟨_,rfl⟩;have hM:d.length<=1048576:=by
  have N:=Lh (IDS:=ts (Ck w v G r)) (B:=36) λl hl=>by
   obtain⟨c,_,rfl⟩:=CS.1 hl;have:=ox (L:=Ck w v G r) (n:=(Ck w v G r).length) (c:=c);show(Fk _ _ _).length<=36;omega
  have E:(ts (Ck w v G r)).length<=36:=by
   unfold ts;rw[FV];have:=sB (Ck w v G r);omega
  rw[p];omega
 unfold p2;simp only[u5];refine km ?_;refine bv (ds:=[xp]) s.hb (by simp[ah]) rfl ?_;refine e_ ?_;refine ab (h_.i_ (e:=2) (enc:=Dh) (λ_=>rfl) s.up) ?_;refine km ?_;refine bz (h_.ls dJ s.up) ?_;rw[FV,S7,←p];refine ae (dN hM) ?_;refine km ?_;rw[show(ofNat d.length).toNat=d.length from rfl];have z0:HO.o (.cells (aL [.int .i64 0] d.length) 1 true)=HO.o (.cells ((replicate d.length (0:Int)).flatMap Cp) 1 true):=by
  rw[←cT (enc:=Cp) (z:=0)];rfl
 rw[z0];have c0:=am s.hb;have cq:h0.length<=h4.length:=by have:=s.bn;omega
 obtain⟨X,e5⟩ : ∃X,X=h4++[HO.o (.cells ((replicate d.length (0:Int)).flatMap Cp) 1 true)]:=⟨_,rfl⟩;rw[←e5];have k5:∀(j:Nat) o,h4[j]?=some o->X[j]?=some o:=λj o f=>jn;have l5:X.length=h4.length+1:=by rw[e5];simp
 have m5:X[h4.length]?=some (.o (.cells ((replicate d.length (0:Int)).flatMap Cp) 1 true)):=by rw[e5];exact aD
 refine gh (b:=b) (k5 _ _ s.hb) (by simp[ah]) ?_;obtain⟨M,u⟩ : ∃M:XC,M=⟨w,v,xv,r,xa,xd,xl,xu,mp,xp,.slice (some ⟨h4.length,0,le 1⟩) d.length (d.length+1),.slice none 0 0⟩:=⟨_,rfl⟩;obtain⟨O,e6⟩ : ∃O,O=X.set b (.o (.cells (ah M false) 15 true)):=⟨_,rfl⟩;have bt:X.set b (.o (.cells (List.take 12 (ah ⟨w,v,xv,r,xa,xd,xl,xu,mp,xp,.slice none 0 0,.slice none 0 0⟩ false)++[.slice (some ⟨h4.length,0,some 11⟩) d.length (d.length+1)]++List.drop (12+[Value.slice (some ⟨h4.length,0,some 11⟩) d.length (d.length+1)].length) (ah ⟨w,v,xv,r,xa,xd,xl,xu,mp,xp,.slice none 0 0,.slice none 0 0⟩ false)) 15 true))=O:=by rw[e6,u];rfl
 rw[bt];refine km ?_;have l6:O.length=h4.length+1:=kb;have k6:∀(j:Nat) o,h4[j]?=some o->j≠b->O[j]?=some o:=λj o f c1=>by
  grind
 have b9:∀ {j e:Nat} {cs:Tn} {bm:Bool},h4[j]?=some (.o (.cells cs e bm))->e≠15->j≠b:=λ{j e cs bm} f he q=>by
  subst q;rw[s.hb]at f
  simp_all
 have W:∀(j:Nat) o,h0[j]?=some o->O[j]?=some o:=λj o f=>k6 j o (s.old j o f) (by have:=am f;have:=s.bn;omega);have a9:h_ 0 O (.slice (some ⟨h4.length,0,le 1⟩) d.length (d.length+1)) 1 Cp (replicate d.length 0):=by
  refine .inr ⟨h4.length,d.length+1,kb,C6 _,?_,.inr kb⟩
  simp_all
 have a7:NI O mp (D0 d):=by
  rw[p];refine(Le (QZ (wY _)) s.pr).j9 λo U=>k6 mp o U λe=>?_;obtain⟨es,c,a1,_⟩:=s.pr;rw[e,s.hb]at a1;cases a1
 have a8:∀ {g:HL},h_ h0.length g xp 2 Dh ((range d.length).map λi=>(i,false))->h_ 0 g xp 2 Dh ((range d.length).map λi=>(i,false)):=λq=>by
  rcases q with q|⟨id,cx,e1,_,e3⟩
  .exact .inl q
  .exact .inr ⟨id,cx,e1,C6 _,e3⟩
 have I:=s.up;rw[←p]at I;have cf:Pi O b M false ((range d.length).map λi=>((i,false):Lit)) (replicate d.length 0) (D0 d) []:=by
  rw[u];refine⟨?_,a8 (I.BK λj cs _ h=>k6 j _ h (b9 h oo)),a9,.inl ⟨rfl,rfl⟩,a7,⟨_,t9 _⟩,FF _⟩
  grind
 have ck:SeX O M w v l G r xi:=by
  rw[u];exact⟨h3,⟨rfl,rfl,rfl⟩,ap.j9 λj o f _=>W j o f,bk,D,J,cm,ay.j9 λj o f _=>W j o f,ci⟩
 have cA:∀j,hY xv=some j->j<h0.length:=λj q=>vE ap q;have cy:∀j,hY xi=some j->j<h0.length:=λj q=>vE ay q;have cw:hY M.va=some h4.length:=by rw[u];rfl
 have bd:∀j,hY xp=some j->h0.length<=j/\j<h4.length:=λj q=>I.hY q;obtain⟨kv,T,mm,n1,cs,c4,lx,hS⟩:=WY cf ck (λj q e=>by
  grind) (λj q e=>by
  grind) (λi n hi ⟨e,he,hn,hc⟩=>by
  rw[FV,S7];refine wz ?_ i n;rw[p];exact ZV hs D J.1 Q hi he hn hc)
 refine ak cs ?_;refine e_ ?_;obtain⟨A,S⟩ : ∃A,A=Cx w v l G r:=⟨_,rfl⟩;have bx:C9 w v l (λc=>af (G c) r) (4*w*v)=A:=S.symm;rw[bx]at hS;obtain⟨⟨n7,W7,is,c9,p7,c7,C⟩,_,c8,bP⟩:=hS;have b4:A.1.length<=108:=by
  have E:(Cx w v l G r).1.length<=3*(4*w*v):=oE (4*w*v);rw[S];omega
 have bs:∀V,(n7=false/\Rs ((range d.length).map λi=>((i,false):Lit)) W7 V)↔∀i e,i<4*w*v->e<3->EJ (D0 d) w v l (CI G r) V i e:=λV=>(c7 V).trans ⟨λq=>q.2,λq=>⟨⟨rfl,hO _ V⟩,q⟩⟩;have b0:=h_.i_ (e:=1) (enc:=CQ) bf C.kl;refine bz (h_.ls bf C.kl) ?_;rw[FV];have cS:S1 T b M d.length W7 (D0 d) (Iz (D0 d) A 0) (λV=>(∀i e,i<4*w*v->e<3->EJ (D0 d) w v l (CI G r) V i e)/\e2 (D0 d) A V 0) T:=
  ⟨n7,_,p7,c_,λV=>(bs V).trans ⟨λq=>⟨q,λi hi=>a_⟩,λq=>q.1⟩,λ_ _ h _ _=>h,rfl⟩
 refine aJ (m:=is.length) (λm ls g=>∃i fo,ls=[.i (ofNat i)]/\m=is.length - i/\i<=is.length/\S1 g b { M with fo:=fo } d.length W7 (D0 d) (Iz (D0 d) A i) (λV=>(∀i e,i<4*w*v->e<3->EJ (D0 d) w v l (CI G r) V i e)/\e2 (D0 d) A V i) g/\(∀(j:Nat) o,T[j]?=some o->j≠b->hY xp≠some j->g[j]?=some o)/\T.length<=g.length/\∀j,hY fo=some j->T.length<=j) ⟨0,.slice none 0 0,rfl,rfl,C6 _,by
  grind,λ_ _ h _ _=>h,A9 _,λj q=>(by cases q)⟩ ?_
 rintro m ls g ⟨i,fo,rfl,rfl,hi,ax,ag,c3,ca⟩ cC al;refine Di ?_;refine e_ ?_;have co:b<n1:=a_;have Y:∀(j:Nat) o,n1<=j->T[j]?=some o->g[j]?=some o:=λj o f U=>ag j o U a_ λe=>jn;by_cases R:i<is.length
 case neg=>
  obtain rfl:i=is.length:=a_;rw[aM (A9 _)];refine km ?_;obtain⟨n8,U8,p8,b8,av,_,_⟩:=ax;have a0:is.length=A.1.length:=C.il;have ct:0<A.1.length:=by
   have N:0<w*v:=r6 h3.1 h3.2.2.1;have E:(EU w v l (CI G r) 0 0).1∈A.1:=by
    rw[S];refine((Lu w v l (CI G r) (4*w*v)).ks _).2 ⟨EU w v l (CI G r) 0 0,?_,rfl⟩;unfold F3
    grind
   grind
  obtain⟨id,F⟩:=aq (l:=is) (i:=0) a_;obtain⟨a1,_,_,_,_,_,_,a5⟩:=C.bl 0 id F;have a6:=am a5;refine hK g ?_;rw[←p];rw[a0,S]at p8 av;rw[u]at p8;exact m4 s h3 bk Q D J ap p rfl p8 b8 (λV=>av V) (λj o f N E=>ag j o (bP j o (k6 j o f N) N jn) N E) (λj q=>by have:=ca j q;omega) a_
 rw[aN R];refine e_ ?_;obtain⟨id,F⟩:=aq R;refine aP (h_.ls bf (C.kl.j9 λj o f hb=>Y j o (C.kl.hY hb).1 f)) rfl (a:=ka id) jn ?_;rw[show CQ (ka id)=[ka id]from rfl];refine e_ ?_;refine ab (ar _) ?_;refine km ?_;obtain⟨a1,x,y,z,a2,a3,a4,a5⟩:=C.bl i id F;obtain⟨k,hk⟩:=aq (l:=A.1) (i:=i) (by rw[←C.il];exact R);have Z:=hk;rw[S]at Z;have hL:∀t,t<3->A.2[3*i+t]?=some (DR A i t):=λt ht=>by
  rw[S];exact(JD Z ht).1
 have ad:∀ {x:TR} {L:List K2},h_ n1 T x 2 D_ L->h_ n1 g x 2 D_ L:=λU=>U.j9 λj o f hb=>Y j o (U.hY hb).1 f;have o0:=ad (C.ow _ x _ a2 (hL 0 a_));have o1:=ad (C.ow _ y _ a3 (hL 1 a_));have o2:=ad (C.ow _ z _ a4 (hL 2 a_));have an:∀t,t<3->(DR A i t).length<=1000:=λt ht=>by
  have:=tX (w:=w) (v:=v) (l:=l) (P:=CI G r) (4*w*v) (DR A i t) (by
   grind)
  omega
 have c5:∀ {x:TR} {L:List K2},h_ n1 g x 2 D_ L->∀j,hY xp=some j->hY x≠some j:=λU j q e=>by
  have N:=(bd j q).2;have E:=(U.hY e).1;omega
 have b6:(Iz (D0 d) A i).length<=1000000000:=by
  have N:=wv (pn:=D0 d) (A:=A) (B:=1000) i λj t f ht=>by
   obtain⟨k2,aE⟩:=aq (l:=A.1) (i:=j) (by rw[←C.il];omega);rw[S]at aE ⊢;have:=vD hs D J.1 Q aE ht;omega
  grind
 have cl:({ M with fo:=fo }:XC).up=xp:=by rw[u]
 obtain⟨g',cr,bC,n',U',p',b7,b5,cp,cd,c2⟩:=WX ax (sb:=id) (Y id _ a1 a5) (h_.ls (λ_=>rfl) o0) (h_.ls (λ_=>rfl) o1) (h_.ls (λ_=>rfl) o2) (λj q=>jn) ⟨an 0 a_,an 1 a_,an 2 a_⟩ b6 (λE a b'=>by
  refine wz ?_ a b';rw[p];rw[S]at E;exact Xn hs D J.1 Q Z E)
 refine ak cr ?_;refine e_ ?_;rw[aY (by have:=C.il;omega)];have ce:∀j,j<T.length->hY fo≠some j:=λj f e=>by
  grind
 have bb:∀j,hY ({ M with fo:=fo }:XC).up≠some j↔hY xp≠some j:=λj=>by rw[cl]
 refine al _ _ _ a_ ⟨i+1,bC,rfl,rfl,R,⟨n',U',by rw[yw];exact p',b7,λV=>(b5 V).trans ?_,λ_ _ h _ _=>h,rfl⟩,λj o f N E=>cd j o (ag j o f N E) N ((bb j).2 E) (ce j (am f)),a_,λj q=>?_⟩
 .constructor
  .rintro⟨⟨b1,b2⟩,b3⟩;refine⟨b1,λi2 cb=>?_⟩;by_cases e:i2=i
   .grind
   .exact b2 i2 a_
  .rintro⟨b1,b2⟩;exact⟨⟨b1,λi2 cb=>b2 i2 a_⟩,b2 i a_⟩
 grind
end
structure N3(h0 h4:HL)(b mp:Nat)(w v:Nat)(xv:Value)(r:Mv)(xa xd xl xu:Value)(vs:Tn)(IM:TM):Prop where
 hb:h4[b]?=some (.o (.cells (ah ⟨w,v,xv,r,xa,xd,xl,xu,mp,.slice none 0 0,.slice none 0 0,.slice none 0 0⟩ false) 15 true))
 bn:h0.length<=b
 mpn:h0.length<=mp
 old:∀(j:Nat) o,h0[j]?=some o->h4[j]?=some o
 at_:h_ h0.length h4 xa 3 bU (Dq IM)
 ids:h_ h0.length h4 xd 1 CQ vs
 vl:vs.length=(ts IM).length
 iv:∀(j:Nat) x l,vs[j]?=some x->(ts IM)[j]?=some l->h_ h0.length h4 x 1 mc l
 lay:h_ h0.length h4 xl 1 CQ ((ts IM).map λ_=>.slice none 0 0)
 us:h_ h0.length h4 xu 1 A7 (replicate IM.length false)
 pr:h4[mp]?=some (.o (.map [] 0))
 s1:∀j,hY xu=some j->hY xl≠some j
 s2:∀j,hY xu=some j∨hY xl=some j->hY xd≠some j/\∀x∈vs,hY x≠some j
structure NJ(h4 g:HL)(b mp:Nat)(w v:Nat)(xv:Value)(r:Mv)(xa xd xl xu:Value)(PR:List K2):Prop where
 x:∃xp,g[b]?=some (.o (.cells (ah ⟨w,v,xv,r,xa,xd,xl,xu,mp,xp,.slice none 0 0,.slice none 0 0⟩ false) 15 true))/\h_ h4.length g xp 2 Dh ((range PR.length).map λi=>(i,false))
 m:Dd D_ g mp (SY PR)
 k:∀(j:Nat) o,h4[j]?=some o->j≠b->j≠mp->g[j]?=some o
 l:h4.length<=g.length
section
variable {h0 h4:HL} {b mp w v:Nat} {xv:Value} {r:Mv} {xa xd xl xu:Value} {vs:Tn} {IM:TM}
def N3.wid(d:N3 h0 h4 b mp w v xv r xa xd xl xu vs IM){j e:Nat}{cs:Tn}{c:Bool}(a:h4[j]?=some (.o (.cells cs e c)))(f:e≠15):j≠b/\j≠mp:=by
 constructor
 .intro q;subst q;rw[d.hb]at a
  simp_all
 .intro q;subst q;rw[d.pr]at a;cases a
def NJ.ls{i7:Type}{e:Nat}{enc:i7->Tn}{L:List i7}{x:TR}(c:N3 h0 h4 b mp w v xv r xa xd xl xu vs IM){g:HL}{d:List K2}(f:NJ h4 g b mp w v xv r xa xd xl xu d)(a:e≠15){n0:Nat}(i:h_ n0 h4 x e enc L):h_ n0 g x e enc L:=
 i.BK λj l _ h=>f.k j _ h (c.wid h a).1 (c.wid h a).2
def NJ.done(a:N3 h0 h4 b mp w v xv r xa xd xl xu vs IM){g:HL}(c:NJ h4 g b mp w v xv r xa xd xl xu (EM (ts IM)))(f:h0.length<=h4.length):∃d,N4 h0 g b mp w v xv r xa xd xl xu d vs IM:=by
 obtain⟨d,t,u⟩:=c.x;refine⟨d,t,a.bn,a.mpn,λj o h=>c.k j o (a.old j o h) (λe=>?_) (λe=>?_),c.ls a oo a.at_,c.ls a oo a.ids,a.vl,λj x l p s=>c.ls a oo (a.iv j x l p s),c.ls a oo a.lay,c.ls a oo a.us,c.m,?_,a.s1,a.s2⟩
 .have:=am h;have:=a.bn;omega
 .have:=am h;have:=a.mpn;omega
 .rcases u with q|⟨id,i,n,y,e3⟩
  .exact .inl q
  .exact .inr ⟨id,i,n,a_,e3⟩
def y1(t:N3 h0 h4 b mp w v xv r xa xd xl xu vs IM)(X:h0.length<=h4.length)(bb:IM.length<=36){xi:TR}{K:Te}(hK:∀g H,N4 h0 g b mp w v xv r xa xd xl xu H vs IM->p2 (hA P1) b xi g K) :
  hq (hA P1) b xi h4 K:=by
 have ay:=wY IM;have bk:(ts IM).length<=36:=by
  unfold ts;rw[FV];have:=sB IM;omega
 have Y:∀l∈ts IM,l.length<=36:=λl z=>by
  obtain⟨c,_,rfl⟩:=CS.1 z;have:=ox (L:=IM) (n:=IM.length) (c:=c);show(Fk _ _ _).length<=36;omega
 have F:∀ {g:HL} {PR:List K2},NJ h4 g b mp w v xv r xa xd xl xu PR->∀(j:Nat) x l,vs[j]?=some x->(ts IM)[j]?=some l->q9 g x 1 mc l:=λS j x l W N=>h_.ls bu (S.ls t oo (t.iv j x l W N));unfold hq;simp only[u5];refine km ?_;refine bv (ds:=[xd]) t.hb (by simp[ah]) rfl ?_;refine e_ ?_;refine ab (h_.i_ (e:=1) (enc:=CQ) bf t.ids) ?_;refine km ?_;refine bz (h_.ls bf t.ids) ?_;have ap:NJ h4 h4 b mp w v xv r xa xd xl xu (Nb (ts IM) 0):=⟨⟨_,t.hb,.inl ⟨rfl,rfl⟩⟩,⟨[],0,t.pr,rfl⟩,λ_ _ h _ _=>h,A9 _⟩;refine aJ (m:=vs.length) (λm T g=>∃s,T=[.i (ofNat s)]/\m=vs.length - s/\s<=vs.length/\NJ h4 g b mp w v xv r xa xd xl xu (Nb (ts IM) s)) ⟨0,rfl,rfl,C6 _,ap⟩ ?_;rintro m T g ⟨s,rfl,rfl,bn,R⟩ a8 P;refine Di ?_;refine e_ ?_;by_cases C:s<vs.length
 case neg=>
  obtain rfl:s=vs.length:=a_;rw[aM (A9 _)];refine km ?_;rw[Wz (by rw[t.vl];omega)]at R;obtain⟨H,q⟩:=R.done t X;exact hK g H q
 rw[aN C];refine e_ ?_;obtain⟨x,Z⟩:=aq C;obtain⟨l,z⟩:=aq (l:=ts IM) (i:=s) (by rw[←t.vl];exact C);have a7:=Y l (Cf z);refine aP (h_.ls bf (R.ls t oo t.ids)) rfl Z ?_;rw[show CQ x=[x]from rfl];refine e_ ?_;have ag:=F R s x l Z z;refine ab ag.i_ ?_;refine km ?_;refine bz ag ?_;refine aJ (m:=l.length) (λm T g=>∃i,T=[.i (ofNat i)]/\m=l.length - i/\i<=l.length/\NJ h4 g b mp w v xv r xa xd xl xu (Nb (ts IM) s++Hi l i)) ⟨0,rfl,rfl,C6 _,by simpa[Hi]using R⟩ ?_;rintro m2 bs g2 ⟨i,rfl,rfl,hi,O⟩ a4 D;refine Di ?_;refine e_ ?_;by_cases A:i<l.length
 case neg=>
  obtain rfl:i=l.length:=a_;rw[aM (A9 _)];refine e_ ?_;rw[aY (j:=s) (by have:=t.vl;omega)];refine P _ _ _ a_ ⟨s+1,rfl,rfl,C,?_⟩;rw[QX z];exact O
 rw[aN A];refine e_ ?_;obtain⟨y,hy⟩:=aq A;refine aP (F O s x l Z z) rfl hy ?_;rw[show mc y=[.int .i64 (ofNat y)]from rfl];refine e_ ?_;obtain⟨xt,et,lt,gt,bt⟩:=qn (F R s x l Z z) hi;refine ae et (ab gt ?_);refine km ?_;have a0:(l.take i).length=i:=kb;refine bz lt ?_;rw[a0];refine aJ (m:=i) (λm T g=>∃k,T=[.i (ofNat k)]/\m=i - k/\k<=i/\NJ h4 g b mp w v xv r xa xd xl xu (Nb (ts IM) s++Hi l i++(l.take k).map λa=>((a,y):K2))) ⟨0,rfl,rfl,C6 _,by simpa using O⟩ ?_;rintro m3 bx V ⟨k,rfl,rfl,hk,d⟩ a5 E;refine Di ?_;refine e_ ?_;by_cases B:k<i
 case neg=>
  obtain rfl:k=i:=a_;rw[aM (A9 _)];refine e_ ?_;rw[aY a_];refine D _ _ _ a_ ⟨k+1,rfl,rfl,A,?_⟩;rw[tN,pb hy,←EF];exact d
 rw[aN B];refine e_ ?_;obtain⟨a,ha⟩:=aq (l:=l) (i:=k) a_;have av:(l.take i)[k]?=some a:=jn;have a3:q9 V xt 1 mc (l.take i):=by
  obtain⟨bP,a9,bC,_,_⟩:=qn (F d s x l Z z) hi
  simp_all
 refine aP a3 rfl av ?_;rw[show mc a=[.int .i64 (ofNat a)]from rfl];refine e_ ?_;obtain⟨p,I⟩ : ∃p,p=Nb (ts IM) s++Hi l i++(l.take k).map λa=>((a,y):K2):=⟨_,rfl⟩;have M:=WC ay z hy B ha;rw[←I]at d M;have bd:p.length<=1000000:=by
  have W:(Nb (ts IM) s).length<=((ts IM).take s).length*(36*36):=Lh λl z=>Y l (NO z);have N:=xR (l:=l) i;have h3:i*i<=36*36:=ki a_ a_
  grind
 obtain⟨H,U,q2⟩:=d.x;refine bv (ds:=[.map (some mp)]) U (by simp[ah]) rfl ?_;refine e_ ?_;refine ab rfl ?_;refine km ?_;refine bv (ds:=[H]) U (by simp[ah]) rfl ?_;refine e_ ?_;refine ab (h_.i_ (e:=2) (enc:=Dh) dJ q2) ?_;refine km ?_;refine bz (h_.ls dJ q2) ?_;rw[FV,S7];have bm:∀k:K2,Instr.sameBits 10000 (.agg ⟨D_ k⟩) (.agg ⟨D_ k⟩)=true:=λk=>by simp[D_,Instr.sameBits]
 refine Rc D_ OW d_ d_ Ki d.m ((a,y):K2) (by rw[Ld];exact M) rfl λo hm=>?_;obtain⟨J,e4⟩ : ∃J,J=V.set mp o:=⟨_,rfl⟩;rw[←e4]at hm ⊢;rw[←WB]at hm;have l4:J.length=V.length:=kb;have bl:∀ {j e:Nat} {u:Tn} {f:Bool},V[j]?=some (.o (.cells u e f))->mp≠j:=λ{j e u f} S q=>by
  subst q;obtain⟨es,c,N,_⟩:=d.m
  simp_all
 have k4:∀ {j e:Nat} {u:Tn} {f:Bool},V[j]?=some (.o (.cells u e f))->J[j]?=some (.o (.cells u e f)):=λ{j e u f} S=>by
  grind
 refine km ?_;refine jK (ds:=[H]) (k4 U) (by simp[ah]) rfl ?_;refine e_ ?_;have Q:h_ h4.length J H 2 Dh ((range p.length).map λi=>(i,false)):=q2.BK λj u _ h=>k4 h;refine ab (h_.i_ (e:=2) (enc:=Dh) dJ Q) ?_;refine km ?_;refine bv (ds:=[H]) (k4 U) (by simp[ah]) rfl ?_;refine e_ ?_;refine ab (h_.i_ (e:=2) (enc:=Dh) dJ Q) ?_;refine km ?_;refine bz (h_.ls dJ Q) ?_;rw[FV,S7];refine km ?_;refine Q.G8 (a:=((p.length,false):Lit)) dJ (by have:=d.l;omega) rfl rfl rfl (by unfold bc;rw[FV,S7,DQ a_,DQ a_];rfl) ?_;intro a6 g5 o5 gx k5 l5 b5;refine e_ ?_;refine ab gx ?_;refine km ?_;have G:=k4 U;have ad:∀ {j e:Nat} {u:Tn} {f:Bool},J[j]?=some (.o (.cells u e f))->e≠2->hY H≠some j:=λ{j e u f} S he q=>by
  obtain⟨al,N⟩:=Q.wid q
  simp_all
 refine gh (b:=b) (k5 _ _ G (ad G oo)) (by simp[ah]) ?_;refine km ?_;refine ae (x:=()) (cZ (bR ⟨_,_,_,rfl⟩ λi hi=>?_) eR) ?_
 .have U:J.length=i:=by simpa[hY]using hi
  grind
 refine km ?_;rw[aY a_];refine E _ _ _ a_ ⟨k+1,rfl,rfl,B,?_⟩;rw[Xl ha,←EF,←I];have ax:=k5 _ _ G (ad G oo);have aE:mp≠b:=λe=>by
  grind
 refine⟨⟨a6,?_,?_⟩,?_,λj o S W N=>?_,?_⟩
 .exact du ax
 .have e1:((range (p++[((a,y):K2)]).length).map λi=>((i,false):Lit))=((range p.length).map λi=>((i,false):Lit))++[(p.length,false)]:=by
   rw[Gv,qcG,Ll,Ij];rfl
  rw[e1];exact o5.BK λj u _ h=>cH h λe=>by
   simp_all
 .obtain⟨es,c,a1,a2⟩:=hm;refine⟨es,c,cH (k5 mp _ a1 λe=>?_) (CY aE),a2⟩;obtain⟨al,N⟩:=Q.wid e
  simp_all
 .have h3:=d.k j o S W N;have an:J[j]?=some o:=by
   grind
  refine cH (k5 j o an λe=>?_) (CY W);have:=(Q.hY e).1
  simp_all
 .rw[FG];have:=d.l;omega
end
def sU(a:K3):∃r,fF kk3 (EV a) (EV a)=some r:=by
 have b:cY .i64 .i64=true:=rfl;have c:cY .u8 .u8=true:=rfl;simp only[EV,fF,b,c,iK];exact⟨_,rfl⟩
def WhH(h:HL)(m:Nat)(b:TM):Prop:=∃a:List (K3×Value),Dd EV h m a/\(∀c,c∈a.map Prod.fst↔c∈b)/\∀(i:Nat) k u,a[i]?=some (k,u)->u = .int .i64 (ofNat ((Dq b).idxOf k))
def WhH.j9{h h':HL}{m:Nat}{a:TM}(e:WhH h m a)(d:∀o,h[m]?=some o->h'[m]?=some o):WhH h' m a:=by
 obtain⟨f,b,c⟩:=e;exact⟨f,b.j9 EV d,c⟩
def WhH.lt{h:HL}{m:Nat}{a:TM}(c:WhH h m a):m<h.length:=by
 obtain⟨d,b,_⟩:=c;exact b.lt
def WhH.ne{h:HL}{m:Nat}{b:TM}(d:WhH h m b){j e:Nat}{cs:Tn}{a:Bool}(i:h[j]?=some (.o (.cells cs e a))):j≠m:=λq=>by
 subst q;obtain⟨k,⟨f,c,g,_⟩,_⟩:=d
 simp_all
def Y5{h:HL}{m:Nat}{a:TM}(n:WhH h m a){c:Cl}(g:c∈a){K:Tf}(q:K [.int .i64 (ofNat ((Dq a).idxOf c))]):P1.my (.fn (Fb cc 71 false (.int .i64 0) (.map (some m)) (.agg ⟨[.int .i64 c.1,.int .i64 c.2.1,.int .u8 (ofNat c.2.2)]⟩) false)) h (@i' _ ⟨K⟩):=by
 obtain⟨r,d,f,o⟩:=n;refine Rb EV yG d_ d_ sU d c rfl (λb e=>by cases e) (λp l b e=>?_) (λk=>absurd ((f c).2 g) k) λi u j=>?_
 .obtain⟨i,j⟩:=Ev l
  grind
 grind
def yJ{u v:TR}(e:∃a n c,v = .slice a n c):Cr (Df u) (BN 2 v)=true:=by
 obtain⟨b,m,d,rfl⟩:=e;exact nW
def pe{v:TR}{b:Nat}(e:∃a n c,v = .slice a n c)(h:∀i,hY v=some i->i≠b):Cr (Df v) (BN 0 (.map (some b)))=true:=by
 obtain⟨a,n,c,rfl⟩:=e;show Cr (Df (.slice a n c)) [b]=true;rcases a with _|a
 .rfl
 have d:=h a.block rfl;unfold Df;simp only;split
 .rfl
 .exact wH d
def xI{i7:Type}{n0 e:Nat}{enc:i7->Tn}{l:List i7}{h:HL}{v:TR}(b:h_ n0 h v e enc l):∃a n c,v = .slice a n c:=by
 rcases b with⟨rfl,_⟩|⟨id,d,rfl,_⟩
 .simp_all
 simp_all
def oS{h:HL}{b e:Nat}{cs new:Tn}{K:TR->Tn->HL->Prop}{o:Nat}(a:h[b]?=some (.o (.cells cs e true)))(d:o+new.length<=cs.length)(c:K (.pointer (some ⟨b,o,none⟩)) [] (h.set b (.o (.cells (cs.take o++new++cs.drop (o+new.length)) e true)))) :
  P1.j_ (C5 (ka b)) (@i' _ ⟨λx=>P1.nC x (@i' _ ⟨P1.j_ (Dm o x) (@i' _ ⟨λy=>P1.nC y (@i' _ ⟨P1.heap (.st y new) h (@i' _ ⟨K y⟩)⟩)⟩)⟩)⟩):=by
 refine ae (x:=ka b) rfl (ab (ar b) (ae (x:=.pointer (some ⟨b,0+o,none⟩)) rfl (ab (by simp[aF,n_,aS,bB,bi,aO,aH]) ?_)));rw[ER];exact Y6 a d c
structure N2(h0 h4:HL)(b mp mw:Nat)(w v:Nat)(xv:Value)(r:Mv)(xa xu:Value)(IM:TM):Prop where
 hb:h4[b]?=some (.o (.cells (ah ⟨w,v,xv,r,xa,.slice none 0 0,.slice none 0 0,xu,mp,.slice none 0 0,.slice none 0 0,.slice none 0 0⟩ false) 15 true))
 bn:h0.length<=b
 mpn:h0.length<=mp
 old:∀(j:Nat) o,h0[j]?=some o->h4[j]?=some o
 at_:h_ h0.length h4 xa 3 bU (Dq IM)
 us:h_ h0.length h4 xu 1 A7 (replicate IM.length false)
 pr:h4[mp]?=some (.o (.map [] 0))
 wh:WhH h4 mw IM
structure NK(h6 g:HL)(xd:Value)(m:Nat)(IM:TM)(n:Nat)(vs:Tn):Prop where
 x:h_ 0 g xd 1 CQ vs
 vl:vs.length=(Dq IM).length
 iv:∀(j:Nat) x c,vs[j]?=some x->(Dq IM)[j]?=some c->h_ h6.length g x 1 mc (Fk IM n c)
 dj:∀(i j:Nat) x y z,vs[i]?=some x->vs[j]?=some y->hY x=some z->hY y=some z->i=j
 k:∀(j:Nat) o,h6[j]?=some o->j≠m->g[j]?=some o
 l:h6.length<=g.length
def el{h0 A:HL}{b J mw w v:Nat}{R:TR}{r:Mv}{D N:TR}{f:TM}(s:N2 h0 A b J mw w v R r D N f)(ce:f.length<=36){xi:TR}(a3:q9 h0 xi 3 bU f){K:Te}(hK:∀g u G vs,h0.length<=g.length->N3 h0 g b J w v R r D u G N vs f->hq (hA P1) b xi g K) :
  hg (hA P1) b xi mw A K:=by
 have ci:=am s.hb;have a4:h0.length<=A.length:=by have:=s.bn;omega
 have cf:(Dq f).length<=36:=by have:=sB f;omega
 obtain⟨M,eM⟩ : ∃M,M=(Dq f).length:=⟨_,rfl⟩;unfold hg;simp only[u5];refine jK (ds:=[D]) s.hb (by simp[ah]) rfl ?_;refine e_ ?_;refine ab (h_.i_ (e:=3) (enc:=bU) cG s.at_) ?_;refine km ?_;refine bz (h_.ls cG s.at_) ?_;rw[←eM];refine ae (dN a_) ?_;refine km ?_;rw[show(ofNat M).toNat=M from rfl];obtain⟨H,e5⟩ : ∃H,H=A++[HO.o (.cells (aL [.slice none 0 0] M) 1 true)]:=⟨_,rfl⟩;rw[←e5];have k5:∀(j:Nat) o,A[j]?=some o->H[j]?=some o:=λj o d=>jn;have l5:H.length=A.length+1:=by rw[e5];simp
 have m5:H[A.length]?=some (.o (.cells (aL [.slice none 0 0] M) 1 true)):=by rw[e5];exact aD
 refine jK (ds:=[D]) (k5 _ _ s.hb) (by simp[ah]) rfl ?_;refine e_ ?_;have ay:h_ h0.length H D 3 bU (Dq f):=s.at_.j9 λj o d _=>k5 j o d;refine ab (h_.i_ (e:=3) (enc:=bU) cG ay) ?_;refine km ?_;refine bz (h_.ls cG ay) ?_;rw[←eM];refine ae (dN a_) ?_;refine km ?_;rw[show(ofNat M).toNat=M from rfl];obtain⟨h6,e6⟩ : ∃h6,h6=H++[HO.o (.cells (aL [.slice none 0 0] M) 1 true)]:=⟨_,rfl⟩;rw[←e6];have k6:∀(j:Nat) o,H[j]?=some o->h6[j]?=some o:=λj o d=>jn;have l6:h6.length=A.length+2:=by rw[e6];simp;omega
 have m6:h6[H.length]?=some (.o (.cells (aL [.slice none 0 0] M) 1 true)):=by rw[e6];exact aD
 refine oS (b:=b) (k6 _ _ (k5 _ _ s.hb)) (by simp[ah]) ?_;refine km ?_;obtain⟨u,T⟩ : ∃u:Value,u = .slice (some ⟨A.length,0,le 1⟩) M (M+1):=⟨_,rfl⟩;obtain⟨G,U⟩ : ∃G:Value,G = .slice (some ⟨H.length,0,le 1⟩) M (M+1):=⟨_,rfl⟩;have aE:Value.slice (some ⟨A.length,0,some 11⟩) M (M+1)=u:=T.symm;have a0:Value.slice (some ⟨H.length,0,some 11⟩) M (M+1)=G:=U.symm;rw[aE,a0];obtain⟨h7,e7⟩ : ∃h7,h7=h6.set b (.o (.cells (ah ⟨w,v,R,r,D,u,.slice none 0 0,N,J,.slice none 0 0,.slice none 0 0,.slice none 0 0⟩ false) 15 true)):=⟨_,rfl⟩;have bd:h6.set b (.o (.cells (List.take 7 (ah ⟨w,v,R,r,D,.slice none 0 0,.slice none 0 0,N,J,.slice none 0 0,.slice none 0 0,.slice none 0 0⟩ false)++[u]++List.drop (7+[u].length) (ah ⟨w,v,R,r,D,.slice none 0 0,.slice none 0 0,N,J,.slice none 0 0,.slice none 0 0,.slice none 0 0⟩ false)) 15 true))=h7:=by rw[e7];rfl
 rw[bd];have bt:h7[b]?=some (.o (.cells (ah ⟨w,v,R,r,D,u,.slice none 0 0,N,J,.slice none 0 0,.slice none 0 0,.slice none 0 0⟩ false) 15 true)):=by
  grind
 refine gh (b:=b) bt (by simp[ah]) ?_;obtain⟨C,e8⟩ : ∃C,C=h7.set b (.o (.cells (ah ⟨w,v,R,r,D,u,G,N,J,.slice none 0 0,.slice none 0 0,.slice none 0 0⟩ false) 15 true)):=⟨_,rfl⟩;have bk:h7.set b (.o (.cells (List.take 8 (ah ⟨w,v,R,r,D,u,.slice none 0 0,N,J,.slice none 0 0,.slice none 0 0,.slice none 0 0⟩ false)++[G]++List.drop (8+[G].length) (ah ⟨w,v,R,r,D,u,.slice none 0 0,N,J,.slice none 0 0,.slice none 0 0,.slice none 0 0⟩ false)) 15 true))=C:=by rw[e8];rfl
 refine km ?_;rw[bk];have cq:∀i,hY D=some i->h0.length<=i/\i<A.length:=λi q=>s.at_.hY q;have av:=xI s.at_;have ct:hY u=some A.length:=by rw[T];rfl
 have cy:hY G=some H.length:=by rw[U];rfl
 have a6:∃a n c,u = .slice a n c:=⟨_,_,_,T⟩;have Z:∃a n c,G = .slice a n c:=⟨_,_,_,U⟩;refine ae (x:=()) (cZ (bR a6 λi B=>?_) (cZ (yJ av) (cZ (bR Z λi B=>?_) (cZ (yJ av) (cZ (uK a6 Z λi B=>?_) (cZ (yJ av) (cZ (bR Z λi B=>?_) (cZ (bR Z λi B=>?_) eR)))))))) ?_
 .grind
 .grind
 .simp_all
 .grind
 .grind
 refine km ?_;have l8:C.length=A.length+2:=kb;have k8:∀(j:Nat) o,h6[j]?=some o->j≠b->C[j]?=some o:=λj o d V=>by
  grind
 have bx:C[b]?=some (.o (.cells (ah ⟨w,v,R,r,D,u,G,N,J,.slice none 0 0,.slice none 0 0,.slice none 0 0⟩ false) 15 true)):=by
  grind
 have ax:∀(j:Nat) o,A[j]?=some o->j≠b->C[j]?=some o:=λj o d V=>k8 j o (k6 j o (k5 j o d)) V;have zz:(aL [Value.slice none 0 0] M)=((Dq f).map λ_=>Value.slice none 0 0).flatMap CQ:=by
  show aL (CQ (Value.slice none 0 0)) M=_;rw[cT (enc:=CQ) (z:=Value.slice none 0 0) (n:=M),eM,List.map_const']
 have W:((Dq f).map λ_=>Value.slice none 0 0).length=M:=kb;have b3:h_ h0.length C u 1 CQ ((Dq f).map λ_=>.slice none 0 0):=.inr ⟨A.length,M+1,by rw[W,T],a4,kb,.inr (by rw[W])⟩;have b4:h_ h0.length C G 1 CQ ((Dq f).map λ_=>.slice none 0 0):=.inr ⟨H.length,M+1,by rw[W,U],a_,kb,.inr (by rw[W])⟩;have Q:∀(j:Nat) o,h0[j]?=some o->C[j]?=some o:=λj o d=>ax j o (s.old j o d) (by have:=am d;have:=s.bn;omega);refine bz (a3.j9 λj o d _=>Q j o d) ?_;have a9:∀ {i7:Type} {e n0:Nat} {enc:i7->Tn} {L:List i7} {g:HL} {x:TR},h_ n0 g x e enc L->h_ 0 g x e enc L:=λq=>by
  rcases q with q|⟨id,cx,e1,_,e3⟩
  .exact .inl q
  .exact .inr ⟨id,cx,e1,C6 _,e3⟩
 refine aJ (m:=f.length) (λm ls g=>∃n vs,ls=[.i (ofNat n)]/\m=f.length - n/\n<=f.length/\NK C g u A.length f n vs) ⟨0,(Dq f).map λ_=>.slice none 0 0,rfl,rfl,C6 _,a9 b3,c_,λj x c E F=>?_,λi j x y z E F h3=>?_,λ_ _ h _=>h,A9 _⟩ ?_
 .obtain⟨_,_,rfl⟩:=CS.1 (Cf E);exact .inl ⟨rfl,by simp[Fk]⟩
 .obtain⟨_,_,rfl⟩:=CS.1 (Cf E);cases h3
 rintro m ls g ⟨n,vs,rfl,rfl,hn,p⟩ cb ap;refine Di ?_;refine e_ ?_;have a5:WhH g mw f:=by
  refine(s.wh.j9 λo ho=>ax mw o ho λe=>?_).j9 λo ho=>p.k mw o ho ?_
  .exact s.wh.ne s.hb e.symm
  .have:=s.wh.lt;omega
 have ag:g[b]?=some (.o (.cells (ah ⟨w,v,R,r,D,u,G,N,J,.slice none 0 0,.slice none 0 0,.slice none 0 0⟩ false) 15 true)):=p.k b _ bx a_;by_cases X:n<f.length
 case neg=>
  obtain rfl:n=f.length:=a_;rw[aM (A9 _)];refine km ?_;have kg:∀(j:Nat) o,A[j]?=some o->j≠b->g[j]?=some o:=λj o d V=>p.k j o (ax j o d V) jn;have a1:∀ {j e:Nat} {cs:Tn} {bb:Bool},A[j]?=some (.o (.cells cs e bb))->e≠15->j≠b:=λ{j e cs bb} d he q=>by
   subst q;rw[s.hb]at d
   simp_all
  have bP:(ts f).length=(Dq f).length:=by simp[ts]
  have cn:∀j,hY N=some j->j<A.length:=λj q=>(s.us.hY q).2;have co:∀x∈vs,∀j,hY x=some j->C.length<=j:=λx hx j q=>by
   obtain⟨i,B⟩:=Ev hx;obtain⟨c,S⟩:=aq (l:=Dq f) (i:=i) (by rw[←p.vl];exact am B);exact((p.iv i x c B S).hY q).1
  refine hK g u G vs (by have:=p.l;omega) ⟨ag,s.bn,s.mpn,λj o d=>p.k j o (Q j o d) jn,s.at_.BK λj cs _ h=>kg j _ h (a1 h oo),?_,by rw[bP];exact p.vl,λj x l E F=>?_,?_,s.us.BK λj cs _ h=>kg j _ h (a1 h oo),kg J _ s.pr λe=>?_,λj q e=>?_,λj q=>⟨λe=>?_,λx hx e=>?_⟩⟩
  .rcases p.x with q|⟨id,cx,e1,_,e3⟩
   .exact .inl q
   .refine .inr ⟨id,cx,e1,?_,e3⟩
    simp_all
  .unfold ts at F;rw[Ew]at F;cases S:(Dq f)[j]? with
   |none=>rw[S]at F;cases F
   |some c=>
    rw[S]at F;have:=D' F;subst this;rcases p.iv j x c E S with q|⟨id,cx,e1,e2,e3⟩
    .exact .inl q
    .exact .inr ⟨id,cx,e1,a_,e3⟩
  .have e1:((ts f).map λ_=>Value.slice none 0 0)=(Dq f).map λ_=>Value.slice none 0 0:=by
    unfold ts
    simp_all
   rw[e1];exact b4.j9 λj o d hb=>p.k j o d jn
  .have E:=s.pr;rw[e,s.hb]at E;cases E
  .grind
  .grind
  grind
 rw[aN X];refine e_ ?_;obtain⟨c,S⟩:=aq X;have al:=Cf S;refine aP (a3.j9 λj o d ck=>p.k j o (Q j o d) jn) rfl S ?_;rw[show bU c=[.int .i64 c.1,.int .i64 c.2.1,.int .u8 (ofNat c.2.2)]from rfl];refine e_ ?_;refine jK (ds:=[u]) ag (by simp[ah]) rfl ?_;refine e_ ?_;have a2:=h_.i_ (e:=1) (enc:=CQ) bf p.x;refine ab a2 ?_;refine km ?_;refine Y5 a5 al ?_;refine e_ ?_;refine jK (ds:=[u]) ag (by simp[ah]) rfl ?_;refine e_ ?_;refine ab a2 ?_;refine km ?_;refine Y5 a5 al ?_;refine e_ ?_;obtain⟨I,bl⟩ : ∃I,I=(Dq f).idxOf c:=⟨_,rfl⟩;rw[←bl];have an:(Dq f)[I]?=some c:=by
  have X:=qcu.2 (wy.2 al)
  simp_all
 obtain⟨x,hx⟩:=aq (l:=vs) (i:=I) (by rw[p.vl];exact am an);refine Ra p.x rfl hx ?_;intro id i';refine e_ ?_;have Y:=p.iv I x c hx an;refine ab (h_.i_ (e:=1) (enc:=mc) bu Y) ?_;refine km ?_;obtain⟨g1,cd⟩ : ∃g1,g1=g++[HO.o (.cells [.int .i64 (ofNat n)] 1 true)]:=⟨_,rfl⟩;refine Y.G8 (a:=n) bu p.l rfl rfl rfl (by have:=ox (L:=f) (n:=n) (c:=c);unfold bc;rw[DQ a_,DQ a_];rfl) ?_;intro x' g2 o2 gx k2 l2 b2;refine e_ ?_;refine ab gx ?_;refine km ?_;have b8:id=A.length:=by
  simp_all
 have cr:∀j,hY x=some j->C.length<=j/\j<g.length:=λj q=>Y.hY q;have ca:∀j,hY x'=some j->C.length<=j:=λj q=>(o2.hY q).1;have b9:mw<A.length:=s.wh.lt;have b7:=p.l;have a8:∀(j:Nat) o,g[j]?=some o->hY x≠some j->g2[j]?=some o:=λj o d hb=>k2 j o d hb;have b5:h_ 0 g2 u 1 CQ vs:=p.x.j9 λj o d hb=>a8 j o d λe=>by
  grind
 refine b5.JB bf rfl (am hx) rfl ?_;intro g3 b6 k3 l3;refine km ?_;have P:∀m n c,∃a n' c',Value.slice (some ⟨m,0,some 11⟩) n c = .slice a n' c':=λm n c=>⟨_,_,_,rfl⟩;have a7:=xI Y;have ad:=xI o2;have bm:∀i,hY (.slice (some ⟨g.length,0,some 11⟩) 1 2)=some i->i=g.length:=λi q=>(D' q).symm;refine ae (x:=()) (cZ (bR (P _ _ _) λi B=>?_) (cZ (pe (P _ _ _) λi B=>?_) (cZ (bR (P _ _ _) λi B=>?_) (cZ (pe (P _ _ _) λi B=>?_) (cZ (bR (P _ _ _) λi B=>?_) (cZ (bR a7 λi B=>?_) (cZ (bR ad λi B=>?_) (cZ (pe a7 λi B=>?_) (cZ (pe ad λi B=>?_) eR))))))))) ?_
 .grind
 .grind
 .grind
 .grind
 .grind
 .grind
 .grind
 .grind
 .grind
 refine km ?_;rw[aY a_];have O:∀(j:Nat) y,(vs.set I x')[j]?=some y->(j=I/\y=x')∨(j≠I/\vs[j]?=some y):=λj y d=>by
  by_cases e:j=I
  .grind
  grind
 have cl:∀(j:Nat) y z,j≠I->vs[j]?=some y->hY y=some z->hY x≠some z/\C.length<=z/\z<g.length:=λj y z e d hz=>by
  obtain⟨c2,bC⟩:=aq (l:=Dq f) (i:=j) (by rw[←p.vl];exact am d);exact⟨λq=>e (p.dj j I y x z d hx hz q),(p.iv j y c2 d bC).hY hz⟩
 refine ap _ _ _ a_ ⟨n+1,vs.set I x',rfl,rfl,X,b6,by rw[FG];exact p.vl,λj y c2 E F=>?_,λi j y z t E F h3 bs=>?_,λj o d b0=>?_,?_⟩
 .rcases O j y E with⟨rfl,rfl⟩|⟨e,E⟩
  .rw[an]at F;have:=D' F;subst this;rw[vr,rv S];refine o2.j9 λi o B hb=>k3 i o B λe=>?_
   grind
  .have b1:f[n]?≠some c2:=λq=>by
    rw[S]at q;have:=D' q;subst this;have cm:=IJ (sA f)
    grind
   rw[vr,te b1,GU];refine(p.iv j y c2 E F).j9 λi o B hb=>?_
   grind
 .have cw:∀(j:Nat) y t,j≠I->vs[j]?=some y->hY y=some t->hY x'≠some t:=λj y t e d hy cp=>by
   grind
  rcases O i y E with⟨q1,q2⟩|⟨e,q1⟩
  .grind
  .rcases O j z F with⟨p1,p2⟩|⟨e2,p1⟩
   .grind
   .exact p.dj i j y z t q1 p1 h3 bs
 .refine k3 j o (a8 j o (p.k j o d b0) λe=>?_) λe=>?_
  .grind
  grind
 .omega
end Go.Am
namespace Go.Am
open Sx Go.Proofs Go.Shelf Go.Lib Go.Sort
section
variable [Co]
def Sc [Dw]{C:m'}{a:Nat}{mu:ke}{H:Tu}{w w':TS}(h:WR C a mu H w)(d:Go.RowKit.Below w.heap.size w w')(n:w.drawn<=w'.drawn):WR C a mu H w'/\El H mu w H mu w':=by
 refine⟨⟨λid o k f=>?_,h.inj,h.own,h.ro,h.Hw,λg r q=>?_⟩,⟨A9 _,λ_ _=>rfl,d.size,λb l _=>d.block b l,λb h=>.inr h,d.os,d.tape,d.output,n⟩⟩
 .obtain⟨p,i,j⟩:=h.obj id o k f;exact⟨p,i,by rw[d.block _ (jY f j)];exact j⟩
 .obtain⟨k,f,c,e,m,i,j⟩:=h.DL g r q;exact⟨k,f,c,e,m,by rw[d.block _ (IG.1 i).1];exact i,j⟩
def BH{W w':TS}(h1:w'.os=W.os)(d:w'.tape=W.tape)(f:w'.output=W.output)(g:W.drawn<=w'.drawn)(i:W.heap.size<=w'.heap.size)(j:∀b,b<W.heap.size->w'.heap[b]?=W.heap[b]?):∃q a,w'=grow (W.drewN q) a:=by
 refine⟨w'.drawn - W.drawn,w'.heap.extract W.heap.size w'.heap.size,?_⟩;have e:w'.heap=W.heap++w'.heap.extract W.heap.size w'.heap.size:=by
  grind
 obtain⟨k,m,c,l,h⟩:=w';simp only at h1 d f g e;subst h1 d f;unfold grow World.drewN;simp only;rw[←e,show W.drawn+(c - W.drawn)=c by omega]
def yU{i7:Type} [Inhabited i7]{enc:i7->Tn}{e:Nat}(c:∀x,(enc x).length=e){l:List i7}{t:Nat}(j:t<l.length*e):(l.flatMap enc)[t]?=some (Go.Sort.flatK enc e l.toArray)[t]!:=by
 rw[Go.Sort.get_flatK enc e l.toArray t a_];have b:0<e:=by
  grind
 have d:t / e<l.length:=Nat.div_lt_of_lt_mul jn;have g:=ma (e:=e) (enc:=enc) (l:=l) (λa _=>c a) (i:=t / e) (a:=l[t / e]) (Gn d);have h:=Nd t b;have f:t=t / e*e+t%e:=by rw[Nat.mul_comm];exact(Nat.div_add_mod t e).symm
 grind
def SN{i7:Type} [Inhabited i7]{enc:i7->Tn}{e:Nat}(n:∀x,(enc x).length=e)(y:∀x,∀v∈enc x,Am.scalar v=true) [Dw]{mu:ke}{p:Pl}{w:TS}{l:List i7}(q:Eg mu p w.heap[p.b]? (.cells (l.flatMap enc) e true)):HoldsK enc e w p.b p.o l.toArray:=by
 obtain⟨_,_,_,c,t,r,f,s,g,h⟩:=q;obtain rfl:=g rfl;intro j m;rw[Go.Sort.size_flatK]at m;have d:=yU (enc:=enc) n (l:=l) (t:=j) a_;obtain⟨z,i,k⟩:=h j _ d;have a:Am.scalar (Go.Sort.flatK enc e l.toArray)[j]! = true:=by
  have u:=Cf d
  grind
 have:=cL a k;subst this;exact⟨by simp[World.cell?,f,i],by simp[World.frozen?,f]⟩
def BD{C:m'}{d:Nat}{mu:ke}{H:Tu}{w:TS} [Dw](y:WR C d mu H w){i7:Type} [Inhabited i7]{enc:i7->Tn}{e:Nat}(h:∀x,(enc x).length=e)(A:∀x,∀v∈enc x,Am.scalar v=true){id:Nat}{p:Pl}{l l':List i7}
  (i':H[id]?=some (.cells (l.flatMap enc) e true)) (z:mu id=some p) (S:l'.length=l.length) (n:Nat) (os:Array Obj) :
  WR C d mu (H.set id (.cells (l'.flatMap enc) e true)) (sortWorldK enc e w p.b p.o n l'.toArray os)/\El H mu w (H.set id (.cells (l'.flatMap enc) e true)) mu (sortWorldK enc e w p.b p.o n l'.toArray os):=by
 obtain⟨T,f,N⟩:=y.obj id _ i' rfl;rw[z]at f;cases f;obtain⟨G,P,Q,c,t,r,s,I,J,R⟩:=N;have M:(l'.flatMap enc).length=l'.length*e:=aR λa _=>h a;have L:(l.flatMap enc).length=l.length*e:=aR λa _=>h a;have g:=y.set (w':=Go.Sort.putRowK enc e (Go.Sort.ahead w n) p.b p.o l'.toArray) (x:=.cells (Go.Sort.putCells (λv:Value=>v) p.o (Go.Sort.flatK enc e l'.toArray) c) t r) i' rfl z (by
   apply qcW;intro i;show(w.heap.modify p.b _)[i]?=_;rw[Array.getElem?_modify,YX];split
   next q=>
    subst q;rw[s,rv (IG.1 s).1];rfl
   .rfl) rfl rfl rfl (.cells (l'.flatMap enc) e true) (λ_=>rfl) ⟨G,kb,by
    rw[A_];intro v j;obtain⟨a,_,m⟩:=Gw.1 j;exact ic (A a v m),_,t,r,rfl,by simp[Go.Sort.putCells,I],J,λi v j=>by
    have q:i<l'.length*e:=jn;have K:=yU (enc:=enc) h (l:=l') q;rw[j]at K;obtain⟨u,O⟩ : ∃u,c[p.o+i]?=some u:=⟨c[p.o+i]'(by grind),qcl _⟩;refine⟨v,?_,?_⟩
    .simp only[Go.Sort.putCells,Array.getElem?_mapIdx,O,EO]
     simp_all
    .obtain⟨a,_,m⟩:=Gw.1 (Cf j);exact .scalar (A a v m)⟩ (Nat.le_add_right _ _)
 obtain⟨B,D⟩:=g;obtain⟨E,F⟩:=Sc (w':=sortWorldK enc e w p.b p.o n l'.toArray os) B ⟨rfl,rfl,rfl,by unfold sortWorldK grow;simp,λk h=>by
  unfold sortWorldK grow
  grind⟩ (A9 _)
 exact⟨E,D.trans F⟩
def OM{C:m'}(S:∀g vs,C.G g=some vs->vs.all Kw=true){i7:Type} [Inhabited i7]{enc:i7->Tn}{e:Nat}{s:i7->i7->Int}{g:TQ}(Y:∀x,∀v∈enc x,Am.scalar v=true)
  (X:∀x y,dG C g [.agg ⟨enc x⟩,.agg ⟨enc y⟩] [] (.int .i64 (s x y)) []) [glo:Dw] {a:Nat} {mu:ke} {H:Tu} {w:TS} (T:WR C a mu H w) {hY:Nat} (A:a<=hY) (off n:Nat):CmpLays C.P g #[] enc e s hY off n w:=by
 intro m F l _ x y M;have d:∀b t,b<a->w.heap[b]?=some t->(sortWorldK enc e w hY off m l F).heap[b]?=some t:=λb t V ht=>by
  unfold sortWorldK grow;simp only;rw[qcU (by rw[show(Go.Sort.putRowK enc e (Go.Sort.ahead w m) hY off l).heap.size=w.heap.size from Go.Sort.size_putRow _ _ _ _ _];grind)];show(w.heap.modify hY _)[b]?=_
  grind
 generalize sortWorldK enc e w hY off m l F=W at *;have r:WR C W.heap.size (λ_=>none) [] W:=
  ⟨λid o h=>by simp at h,λi j oi oj pi pj h=>by simp at h,λi o p h=>by simp at h,λi o p h=>by simp at h,λ_ _=>rfl,λg vs B=>by
   obtain⟨N,O,c,t,q,Q,R⟩:=T.DL g vs B;have z:=d _ _ N Q;exact⟨(IG.1 z).1,O,c,t,q,z,kU (S g vs B) R⟩⟩
 have k:∀x:i7,VR y8 (λ_=>none) (.agg ⟨enc x⟩) (.agg ⟨enc x⟩):=λx=>.agg rfl λi u v D E=>by
  rw[D]at E;cases E;exact .scalar (Y x u (Cf (by simpa using D)))
 obtain⟨v,Z,w',I,a2,f,a4,q,J,K,L⟩:=X x y glo W.heap.size (λ_=>none) W #[.agg (enc x).toArray,.agg (enc y).toArray] (A9 _) (u9.cons (k x) (u9.cons (k y) .nil)) r M;rw[show(#[Value.agg (enc x).toArray,Value.agg (enc y).toArray] ++ #[]) = #[Value.agg (enc x).toArray,Value.agg (enc y).toArray]by simp];exact⟨.returned v,w',q,⟨by rw[cL rfl I],BH f.os f.tape f.output f.dr f.size λb U=>f.j9 b U Jk⟩,J,K,L⟩
def JG{i7:Type} [Inhabited i7](a:i7->i7->Int)(l:List i7):List i7:=(pdq (ltOf a) l.toArray 0 l.length (Lib.bitLen l.length) true true).toList
def wn{i7:Type} [Inhabited i7]{a:i7->i7->Int}(b:SWO (ltOf a))(l:List i7):PermIn 0 l.length l.toArray (JG a l).toArray/\SortedIn (ltOf a) 0 l.length (JG a l).toArray:=by
 have h:=pdq_sorts (ltOf a) b l.toArray 0 l.length (Lib.bitLen l.length) true true (C6 _) c_ (Or.inl rfl);unfold JG;simpa using h
def RL{i7:Type} [Inhabited i7]{a:i7->i7->Int}(b:SWO (ltOf a))(l:List i7):(JG a l).Perm l:=by
 have h:=(wn b l).1.2.2;have c:(JG a l).length=l.length:=by
  have:=(wn b l).1.1;omega
 grind
def RK{i7:Type} [Inhabited i7]{a:i7->i7->Int}(c:SWO (ltOf a))(l:List i7):(JG a l).Pairwise λx y=>ltOf a y x=false:=by
 have f:(JG a l).length=l.length:=by
  have:=(wn c l).1.1;omega
 rw[Q5];intro i j d e b;have h:=(wn c l).2 i j (C6 _) b a_;simpa[d,e]using h
def yg{C:m'}(hG:∀g vs,C.G g=some vs->vs.all Kw=true){z:Ren}(L:SlLaysF0.n6 C.P z){i7:Type} [Inhabited i7]{enc:i7->Tn}{e:Nat}(U:∀w,(isAgg (z.t 24)).run C.P w = .ok true w)(zE:∀w,(Go.sizeOf (z.t 24)).run C.P w = .ok e w)
  (E:∀x,(enc x).length=e) (u:∀x,∀v∈enc x,Am.scalar v=true) {c:i7->i7->Int} (O:SWO (ltOf c)) {g:TQ} (eg:∀args w,(callFunc g args).run C.P w = .ok (.enter g args) w)
  (hc:∀x y,dG C g [.agg ⟨enc x⟩,.agg ⟨enc y⟩] [] (.int .i64 (c x y)) []) {H:Tu} {id n cx:Nat} {l:List i7} (i':H[id]?=some (.cells (l.flatMap enc) e true)) (hn:n=l.length) (h0:0<n) (hl:n<4611686018427387904) :
  dG C (z.f 6) [.slice (some ⟨id,0,le e⟩) n cx,.func (.func g) ⟨[]⟩ ⟨[]⟩] H (.tuple #[]) (H.set id (.cells ((JG c l).flatMap enc) e true)):=by
 subst hn;intro ad M R w d hb k s Y;obtain⟨S,al,h1,h2,h3⟩:=k.Hu;obtain⟨T,an,rfl,h5,h6⟩:=h3.Hu;obtain rfl:=h6.unnil;have a:d = #[S,T]:=v6.1 h1;subst a;obtain⟨p,j,F,rfl⟩ : ∃p j,R id=some p/\S = .slice (some ⟨p.b,p.o,none⟩) l.length j:=by
  clear i' hl;generalize l.length=N at *;cases h2 with
  |scalar h=>simp[Am.scalar]at h
  |x3 h I ag hx=>simp_all
  |u_ hx=>omega
 obtain⟨A,B,rfl,Q,D⟩ : ∃A B,T = .func (.func g) A B/\A.size=0/\B.size=0:=by
  cases h5 with
  |scalar h=>simp[Am.scalar]at h
  |func hf Q hb _ _=>grind
 obtain rfl:=qcB Q;obtain rfl:=qcB D;obtain⟨p',r,I⟩:=s.obj id _ i' rfl;rw[F]at r;cases r;have m:=AnyQ.slices_SortFunc_eq L e U zE enc E (λx v hv=>by
  have:=u x v hv;unfold Am.scalar at this;split at this<;>first|rfl|cases this) c O g #[] p.b p.o j l.toArray w eg (OM hG u hc s (s.own id _ p i' rfl F) p.o l.toArray.size) (SN E u I) (jY rfl I) a_
 obtain⟨e',w',fr,⟨rfl,n,os,rfl⟩,J,V,K⟩:=m Y;have q:(JG c l).length=l.length:=by
  have:=(wn O l).1.1;omega
 obtain⟨W,X⟩:=BD (l':=JG c l) s E u i' F q n os;have Z:(pdq (ltOf c) l.toArray 0 l.toArray.size (Lib.bitLen l.toArray.size) true true)=(JG c l).toArray:=by simp[JG]
 rw[Z]at J K;exact⟨.tuple #[],R,_,.tuple c_ rfl (λi x y h=>by simp at h),W,X,L.f6.enters rfl _ _,fr,J,V,K⟩
end
def EQ:Ren:=⟨fun|6=>69|15=>83|14=>102|28=>125|29=>126|20=>132|21=>133|22=>134|23=>135|24=>136|25=>137|26=>138|27=>139|46=>159|47=>145|48=>146|49=>160|50=>161|57=>169|n=>n,
 fun|22=>141|24=>71|25=>128|39=>56|53=>220|55=>222|46=>214|45=>213|50=>151|66=>242|70=>246|76=>269|77=>255|n=>n,λn=>n⟩
def u2(P:TI)(f:TQ):String:=match P.funcs[f]? with
 |some g=>g.name
 |none => ""
def Ou {P:TI} {f:TQ} {B:Func} (h1:(u2 P f == "runtime.NumGoroutine")=false) (a:P.funcs[f]?=some { B with name:=u2 P f }):Bears P f B:=⟨_,h1,a⟩
def layS:SlLaysF0.n6 Tryz.prog EQ:=by
 constructor
 all_goals first
  |kernel_rfl
  |exact Ou d_ d_
  |exact λ_=>d_
end Go.Am
namespace Go.Am
namespace Sx
open Go.ChangeShapes Go.WideShapes Go.ChangeAt Go.WideMaps Go.WideElems Go.RowKit
def CC:TJ->Tn->Prop
 | [],[]=>True
 | .i k :: ks,v :: vs=>(∃n,v = .int k n/\(Lit.int k n).wf=true)/\CC ks vs
 | .b :: ks,v :: vs=>(∃t,v = .bool t)/\CC ks vs
 |_,_=>False
def CC.len:∀ {ks:TJ} {vs:Tn},CC ks vs->vs.length=ks.length
 | [],[],_=>rfl
 | .i k :: ks,v :: vs,h=>by simp[CC.len h.2]
 | .b :: ks,v :: vs,h=>by simp[CC.len h.2]
 | .v :: _,_,h=>by cases h
 | [],_ :: _,h=>by cases h
 | .i _ :: _,[],h=>by cases h
 | .b :: _,[],h=>by cases h
def CC.Fa:∀ {ks a:TJ} {vs c:Tn},CC ks vs->CC a c->CC (ks++a) (vs++c)
 | [],_,[],_,_,h=>h
 | .i k :: ks,_,v :: vs,_,h,h'=>⟨h.1,CC.Fa h.2 h'⟩
 | .b :: ks,_,v :: vs,_,h,h'=>⟨h.1,CC.Fa h.2 h'⟩
 | .v :: _,_,_,_,h,_=>by cases h
 | [],_,_ :: _,_,h,_=>by cases h
 | .i _ :: _,_,[],_,h,_=>by cases h
 | .b :: _,_,[],_,h,_=>by cases h
def HY(F:TP->Option (TJ)):List Field->Nat->Option (TJ)
 | [],_=>some []
 |f :: a,off=>match Nat.beq f.offset off,F f.type with
  |true,some ks=>(HY F a (off+ks.length)).map (ks ++ ·)
  |_,_=>none
def wP(P:TI):Nat->TP->Option (TJ)
 |0,_=>none
 |d+1,t=>match P.underlying t with
  |some (.int k)=>some [.i k]
  |some .bool=>some [.b]
  |some (.struct a)=>match HY (wP P d) a.toList 0 with
   |some ks=>match Nat.beq ks.length (P.cellsOf t)with
    |true=>some ks
    |false=>none
   |none=>none
  |some (.array n e)=>match wP P d e with
   |some ks=>match Nat.beq (P.cellsOf e) ks.length&&Nat.beq (P.cellsOf t) (n*ks.length)with
    |true=>some (replicate n ks).flatten
    |false=>none
   |none=>none
  |_=>none
section
variable {H:Type} {enc:TypeId×Value->H} {P:TI}
def yT{F:TP->Option (TJ)}{w:TS}{b:Nat}{j:Tx}{c:Bool}{fuel:Nat}
  (i:∀t ks,F t=some ks->∀cs (x:DataW H×List MemPlace),DataW.trod enc P w b j c fuel t cs=some x->x.2=[]/\CC ks cs/\∀w' d e h',DataW.trod enc P w' d e h' fuel t cs=some x) (cs:Tn) :
  ∀(g:List Field) (off:Nat) (ks:TJ) (xs:List (DataW H×List MemPlace)),HY F g off=some ks->g.mapM (λf=>DataW.trod enc P w b j c fuel f.type ((cs.drop f.offset).take (P.cellsOf f.type)))=some xs->
   xs.flatMap (·.2)=[]/\CC ks ((cs.drop off).take ks.length)/\∀w' d e h',g.mapM (λf=>DataW.trod enc P w' d e h' fuel f.type ((cs.drop f.offset).take (P.cellsOf f.type)))=some xs
 | [],off,ks,xs,h1,a=>by
  simp only[HY,FU]at h1;subst h1;simp only[b1,g4,FU]at a;subst a;refine⟨rfl,by simp[CC],λ_ _ _ _=>c_⟩
 |f :: g,off,ks,xs,h1,a=>by
  simp only[HY]at h1;split at h1
  next k1 h p=>
   obtain⟨s,e3,rfl⟩:=DC.1 h1;have h:=Dx h;rw[WL]at a;obtain⟨x,q,a⟩:=EE.1 a;obtain⟨u,r,a⟩:=EE.1 a;cases a;obtain⟨k,l,m⟩:=i _ _ p _ _ q;obtain⟨n,v,o⟩:=yT i cs g _ s u e3 r;refine⟨by simp[k,n],?_,λw' d e h'=>?_⟩
   .rw[Gv,bm];refine CC.Fa ?_ kb;have y:=CC.len l
    grind
   .rw[WL,m w' d e h',o w' d e h'];rfl
  .cases h1
def N'{w:TS}{a:Nat}{k:Tx}{b:Bool}{fuel c:Nat}{e:TP}{ks:TJ}(t:c=ks.length)
  (j:∀cs (x:DataW H×List MemPlace),DataW.trod enc P w a k b fuel e cs=some x->x.2=[]/\CC ks cs/\∀w' d f h',DataW.trod enc P w' d f h' fuel e cs=some x) (cs:Tn) :
  ∀(n:Nat) (xs:List (DataW H×List MemPlace)),(range n).mapM (λi=>DataW.trod enc P w a k b fuel e ((cs.drop (i*c)).take c))=some xs->
   xs.flatMap (·.2)=[]/\CC (replicate n ks).flatten (cs.take (n*c))/\∀w' d f h',(range n).mapM (λi=>DataW.trod enc P w' d f h' fuel e ((cs.drop (i*c)).take c))=some xs
 |0,xs,h=>by
  simp only[List.range_zero,b1,g4,FU]at h;subst h;exact⟨rfl,by simp[CC],λ_ _ _ _=>c_⟩
 |n+1,xs,h=>by
  rw[Ll,List.mapM_append]at h;obtain⟨ys,h1,h⟩:=EE.1 h;obtain⟨u,g,h⟩:=EE.1 h;cases h;rw[WL]at g;obtain⟨z,s,g⟩:=EE.1 g;cases g;obtain⟨l,m,o⟩:=N' t j cs n ys h1;obtain⟨p,q,r⟩:=j _ _ s;refine⟨by simp[l,p],?_,λw' d f h'=>?_⟩
  .rw[List.replicate_succ',List.flatten_append,Js,S9,bm];refine CC.Fa m ?_;simpa using q
  .rw[Ll,List.mapM_append,o w' d f h',WL,r w' d f h'];rfl
def kS:∀(d:Nat) (t:TP) (ks:TJ),wP P d t=some ks->∀(w:TS) (b:Nat) (j:Tx) (c:Bool) (fuel:Nat) (cs:Tn) (x:DataW H×List MemPlace),DataW.trod enc P w b j c fuel t cs=some x->
  x.2=[]/\CC ks cs/\∀w' f g h',DataW.trod enc P w' f g h' fuel t cs=some x
 |0,_,_,h=>by cases h
 |d+1,t,ks,h=>by
  intro w b j c fuel cs x a;simp only[wP]at h;split at h
  next k e=>
   cases h;obtain⟨n,rfl,rfl,v⟩:=DataW.trod_int e a;refine⟨rfl,⟨⟨n,rfl,v⟩,trivial⟩,λw' f g h'=>?_⟩;cases fuel with
   |zero=>simp[DataW.trod]at a
   |succ m=>simp[DataW.trod,e,v]
  next e=>
   cases h;obtain⟨n,rfl,rfl⟩:=DataW.trod_bool e a;refine⟨rfl,⟨⟨n,rfl⟩,trivial⟩,λw' f g h'=>?_⟩;cases fuel with
   |zero=>simp[DataW.trod]at a
   |succ m=>simp[DataW.trod,e]
  next z e=>
   split at h
   next y p=>
    split at h
    next e3=>
     cases h;have e3:=Dx e3;cases fuel with
     |zero=>simp[DataW.trod]at a
     |succ m=>
      simp only[DataW.trod,e]at a;split at a
      next r=>
       obtain⟨s,q,rfl⟩:=DC.1 a;obtain⟨l,i,o⟩:=yT (λt ks h cs x a=>kS d t ks h w b j c m cs x a) cs z.toList 0 ks s p q;rw[WK,Ik a_]at i;refine⟨l,i,λw' f g h'=>?_⟩;simp only[DataW.trod,e,r,if_true];rw[o w' f g h'];rfl
      .cases a
    .cases h
   .cases h
  next n e u=>
   split at h
   next y p=>
    split at h
    next e3=>
     cases h;rw[vd]at e3;have e4:=Dx e3.1;have e5:=Dx e3.2;cases fuel with
     |zero=>simp[DataW.trod]at a
     |succ m=>
      simp only[DataW.trod,u]at a;split at a
      next r=>
       obtain⟨s,q,rfl⟩:=DC.1 a;obtain⟨l,i,o⟩:=N' e4 (λcs x a=>kS d e y p w b j c m cs x a) cs n s q;rw[Ik kb]at i;refine⟨l,i,λw' f g h'=>?_⟩;simp only[DataW.trod,u,r,if_true];rw[o w' f g h'];rfl
      .cases a
    .cases h
   .cases h
  .cases h
end
section
variable [Co]
end
end Sx
end Go.Am
namespace Go.Am
namespace Sx
def yp{n:Int}(h:(Lit.int .u8 n).wf=true):0<=n/\n<=255:=by
 simp only[Lit.wf,vd,EP]at h;exact h
def qr{H:Type}{enc:TypeId×Value->H}{P:TI}{w:TS}{a:Nat}{f:Tx}{b:Bool}:∀ {c:List TypeId} {vs:Tn} {ds:List (DataW H)} {e:List MemPlace},DataW.TrodAll enc P w a f b c vs ds e->ds.length=c.length
 | [],[],[],_,_=>rfl
 |_ :: _,_ :: _,_ :: _,_,h=>by
  obtain⟨p,q,_,d,_⟩:=h;simp[qr d]
 | [],_ :: _,_,_,h=>by cases h
 | [],[],_ :: _,_,h=>by cases h
 |_ :: _,[],_,_,h=>by cases h
 |_ :: _,_ :: _,[],_,h=>by cases h
end Sx
namespace Sx
open Go.ChangeShapes Go.WideShapes Go.ChangeAt Go.WideMaps Go.WideElems Go.RowKit
inductive ED where
 |i (k:TL)
 |b
 |s (ks:TJ)
def ED.lk:ED->LK
 | .i k=>.i k
 | .b=>.b
 | .s _=>.v
def Xz(w:TS)(ks:TJ)(v:Value):Prop:=
 v = .slice none 0 0∨∃(a:Addr) (len cap:Nat) (c:Tl) (t:TP) (fr:Nat×Nat) (b:Tn),v = .slice (some a) len cap/\a.spot=none/\len<=cap/\cap<=maxLen/\
  w.heap[a.block]?=some (.cells c t fr)/\(cap=0∨a.off+cap*ks.length<=c.size)/\b.length=len*ks.length/\(∀(i:Nat) v,b[i]?=some v->c[a.off+i]?=some v)/\
  ∀i,i<len->CC ks ((b.drop (i*ks.length)).take ks.length)
def JP(w:TS):ED->Value->Prop
 | .i k,v=>∃n,v = .int k n/\(Lit.int k n).wf=true
 | .b,v=>∃t,v = .bool t
 | .s ks,v=>Xz w ks v
def dS(w:TS):List ED->Tn->Prop
 | [],[]=>True
 |k :: ks,v :: vs=>JP w k v/\dS w ks vs
 |_,_=>False
def bE(h:HL):List ED->TG->Prop
 | [],[]=>True
 | .i k :: ks,.i n :: ls=>(Lit.int k n).wf=true/\bE h ks ls
 | .b :: ks,.b _ :: ls=>bE h ks ls
 | .s c :: ks,.v x :: ls=>(∃n a,F1 h x c.length n a/\n<=maxLen/\∀i,i<n->CC c ((a.drop (i*c.length)).take c.length))/\bE h ks ls
 |_,_=>False
def dS.len{w:TS}:∀ {ks:List ED} {vs:Tn},dS w ks vs->vs.length=ks.length
 | [],[],_=>rfl
 |_ :: _,_ :: _,h=>by simp[dS.len h.2]
 | [],_ :: _,h=>by cases h
 |_ :: _,[],h=>by cases h
def dS.Fa{w:TS}:∀ {ks a:List ED} {vs b:Tn},dS w ks vs->dS w a b->dS w (ks++a) (vs++b)
 | [],_,[],_,_,h=>h
 |_ :: _,_,_ :: _,_,h,h'=>⟨h.1,dS.Fa h.2 h'⟩
 | [],_,_ :: _,_,h,_=>by cases h
 |_ :: _,_,[],_,h,_=>by cases h
def bE.Fa{h:HL}:∀ {ks a:List ED} {vs c:TG},bE h ks vs->bE h a c->bE h (ks++a) (vs++c)
 | [],_,[],_,_,h=>h
 | .i _ :: ks,_,.i _ :: _,_,h,h'=>⟨h.1,bE.Fa (ks:=ks) h.2 h'⟩
 | .b :: ks,_,.b _ :: _,_,h,h'=>bE.Fa (ks:=ks) h h'
 | .s _ :: ks,_,.v _ :: _,_,h,h'=>⟨h.1,bE.Fa (ks:=ks) h.2 h'⟩
 | [],_,_ :: _,_,h,_=>by cases h
 | .i _ :: _,_,[],_,h,_=>by cases h
 | .b :: _,_,[],_,h,_=>by cases h
 | .s _ :: _,_,[],_,h,_=>by cases h
 | .i _ :: _,_,.b _ :: _,_,h,_=>by cases h
 | .i _ :: _,_,.v _ :: _,_,h,_=>by cases h
 | .b :: _,_,.i _ :: _,_,h,_=>by cases h
 | .b :: _,_,.v _ :: _,_,h,_=>by cases h
 | .s _ :: _,_,.i _ :: _,_,h,_=>by cases h
 | .s _ :: _,_,.b _ :: _,_,h,_=>by cases h
def gA(F:TP->Option (List ED)):List Field->Nat->Option (List ED)
 | [],_=>some []
 |f :: a,off=>match Nat.beq f.offset off,F f.type with
  |true,some ks=>(gA F a (off+ks.length)).map (ks ++ ·)
  |_,_=>none
def kby:LK->Nat
 | .i .i64=>8
 |_=>0
def kbs:TJ->Nat
 | []=>0
 |k :: ks=>kby k+kbs ks
def UH:TJ->Option (List ED)
 | []=>some []
 | .i k :: ks=>(UH ks).map (.i k :: ·)
 | .b :: ks=>(UH ks).map (.b :: ·)
 | .v :: _=>none
def wF{w:TS}:∀ {ks:TJ} {cs:Tn} {c:List ED},UH ks=some c->CC ks cs->dS w c cs
 | [],[],_,h,_=>by cases h;exact trivial
 | .i k :: ks,v :: vs,_,h,a=>by
  obtain⟨l,h1,rfl⟩:=DC.1 h;exact⟨a.1,wF h1 a.2⟩
 | .b :: ks,v :: vs,_,h,a=>by
  obtain⟨l,h1,rfl⟩:=DC.1 h;exact⟨a.1,wF h1 a.2⟩
 | .v :: _,_,_,h,_=>by cases h
 | [],_ :: _,_,_,a=>by cases a
 | .i _ :: _,[],_,_,a=>by cases a
 | .b :: _,[],_,_,a=>by cases a
def gC(P:TI):Nat->TP->Option (List ED)
 |0,_=>none
 |d+1,t=>match P.underlying t with
  |some (.int k)=>some [.i k]
  |some .bool=>some [.b]
  |some (.slice e)=>match wP P 20 e with
   |some ks=>match Nat.beq (P.cellsOf e) ks.length&&Nat.blt 0 ks.length&&Nat.ble (kbs ks) (P.bytesOf e)with
    |true=>some [.s ks]
    |false=>none
   |none=>none
  |some (.struct a)=>match gA (gC P d) a.toList 0 with
   |some ks=>match Nat.beq ks.length (P.cellsOf t)with
    |true=>some ks
    |false=>none
   |none=>none
  |some (.array _ _)=>match wP P 20 t with
   |some ks=>UH ks
   |none=>none
  |_=>none
section
variable {H:Type} {enc:TypeId×Value->H} {P:TI}
def L7(w:TS)(v:Value):Prop:=∀a len cap,v = .slice (some a) len cap->a.spot=none/\∃c t fr,w.heap[a.block]?=some (.cells c t fr)
def jX{i7 c:Type}{f g:i7->Option c}:∀ {l:List i7},(∀x∈l,f x=g x)->l.mapM f=l.mapM g
 | [],_=>rfl
 |a :: l,h=>by
  rw[WL,WL,h a Lk,jX λx b=>h x (E7 _ b)]
def bV{a:Addr}(h:a.spot=none)(i:Nat):a.add i=⟨a.block,a.off+i,none⟩:=by
 obtain⟨b,o,s⟩:=a;cases h;unfold Addr.add;simp
def RA{w:TS}{t e:TP}{ks:TJ}(R:P.underlying t=some (.slice e))(X:wP P 20 e=some ks)(V:P.cellsOf e=ks.length)(h0:0<ks.length){q:Nat}(A:q=0){g:Bool}{fuel:Nat}{cs:Tn}{x:DataW H×List MemPlace}
  (S:DataW.trod enc P w q (λ_=>true) g fuel t cs=some x) (hl:∀v∈cs,L7 w v) :
  ∃v,cs=[v]/\Xz w ks v/\∀(w':TS) (E:Tx),(∀b,b<w.heap.size->w'.heap[b]?=w.heap[b]?)->(∀b,b<w.heap.size->E b=true)->DataW.trod enc P w' q E g fuel t cs=some x:=by
 subst A;have D:=S;rcases DataW.trod_slice R S with⟨rfl,rfl⟩|⟨a,d,f,h,k,n,rfl,rfl,rfl,hb,I,Z,Y,G,O,_⟩
 .refine⟨_,rfl,.inl rfl,λw' E _ _=>?_⟩;cases fuel with
  |zero=>simp[DataW.trod]at S
  |succ m=>simp[DataW.trod,R]
 .obtain⟨N,c,t',fr,z⟩:=hl _ Lk a d f rfl;obtain⟨al,hr⟩:=O rfl;rw[V]at G hr;have M:a.block<w.heap.size:=by
   grind
  have r:∀i,i<f->∃o y,w.cells? 0 (a.add (i*ks.length)) ks.length=some o/\DataW.trod enc P w 0 (λ_=>true) g n e o=some y/\(h++k)[i]?=some y:=by
   intro i C;by_cases s:i<d
   .have p:=G i s;have u:h[i]?=some h[i]:=Gn a_;rw[u]at p;obtain⟨o,U,h5⟩:=EE.1 p
    simp_all
   .have p:=hr (i - d) a_;rw[show d+(i - d)=i by omega]at p;have u:k[i - d]?=some (k[i - d]'(by omega)):=Gn a_;rw[u]at p;obtain⟨o,U,h5⟩:=EE.1 p
    grind
  have rd:∀i,i<f->∀j,j<ks.length->∀o,w.cells? 0 (a.add (i*ks.length)) ks.length=some o->c[a.off+i*ks.length+j]?=o[j]?:=by
   intro i C j L o J;have s:=(World.cells?_some J).2.2 j L;rw[bV N,bV rfl]at s;rw[←s];unfold World.cell?;simp[z]
  have Q:f=0∨a.off+f*ks.length<=c.size:=by
   by_cases W:f=0
   .omega
   .right;obtain⟨o,y,s,_,_⟩:=r (f - 1) a_;have p:=rd (f - 1) a_ (ks.length - 1) a_ o s;have K:=(World.cells?_some s).2.1;rw[Gn a_]at p;have u:=(IG.1 p).1;have U:f*ks.length=(f - 1)*ks.length+ks.length:=by
     rw[←Nat.succ_mul];congr 1;omega
    omega
  have ad:a.off+d*ks.length<=c.size∨d=0:=by
   grind
  refine⟨_,rfl,.inr ⟨a,d,f,c,t',fr,(c.toList.drop a.off).take (d*ks.length),rfl,N,I,Z,z,Q,?_,?_,?_⟩,?_⟩
  .grind
  .grind
  .intro i C;obtain⟨o,y,s,p,_⟩:=r i a_;obtain⟨_,u,_⟩:=kS 20 e ks X w 0 _ g n o y p;have K:=(World.cells?_some s).2.1;have:(((c.toList.drop a.off).take (d*ks.length)).drop (i*ks.length)).take ks.length=o:=by
    apply HA;intro j;by_cases L:j<ks.length
    .have ag:i*ks.length+ks.length<=d*ks.length:=by
      have:=Q9 ks.length (show i+1<=d by omega)
      grind
     grind
    grind
   rw[this];exact u
  .intro w' E hw an;have B:∀i,i<f->w'.cells? 0 (a.add (i*ks.length)) ks.length=w.cells? 0 (a.add (i*ks.length)) ks.length:=by
    intro i C;unfold World.cells?;have:∀j,w'.cell? ((a.add (i*ks.length)).add j)=w.cell? ((a.add (i*ks.length)).add j):=by
     intro j;rw[bV N,bV rfl];unfold World.cell?;rw[hw _ M]
    simp only[this]
   have T:∀i,i<f->(w'.cells? 0 (a.add (i*P.cellsOf e)) (P.cellsOf e)).bind (DataW.trod enc P w' 0 E g n e)=(h++k)[i]?:=by
    intro i C;rw[V,B i C];obtain⟨o,y,s,p,u⟩:=r i C;rw[s,u,Ds];exact(kS 20 e ks X w 0 _ g n o y p).2.2 w' 0 E g
   have F:∀i,i<f->(w.cells? 0 (a.add (i*P.cellsOf e)) (P.cellsOf e)).bind (DataW.trod enc P w 0 (λ_=>true) g n e)=(h++k)[i]?:=by
    grind
   unfold DataW.trod at D ⊢;simp only[R]at D ⊢;rw[rv ⟨C6 _,I,Z⟩]at D ⊢;rw[jX (λi C=>(T i jn).trans (F i jn).symm)];rw[jX (l:=range (f - d)) (λj L=>(T (d+j) jn).trans (F (d+j) jn).symm)]
   simp_all
def OG{F:TP->Option (List ED)}{w:TS}{a:Bool}{fuel:Nat}(cs:Tn)(g:∀v∈cs,L7 w v)
  (i:∀t ks,F t=some ks->∀cs (x:DataW H×List MemPlace),(∀v∈cs,L7 w v)->DataW.trod enc P w 0 (λ_=>true) a fuel t cs=some x->dS w ks cs/\∀(w':TS) (d:Tx),(∀b,b<w.heap.size->w'.heap[b]?=w.heap[b]?)->(∀b,b<w.heap.size->d b=true)->DataW.trod enc P w' 0 d a fuel t cs=some x) :
  ∀(e:List Field) (off:Nat) (ks:List ED) (xs:List (DataW H×List MemPlace)),gA F e off=some ks->e.mapM (λf=>DataW.trod enc P w 0 (λ_=>true) a fuel f.type ((cs.drop f.offset).take (P.cellsOf f.type)))=some xs->
   dS w ks ((cs.drop off).take ks.length)/\∀(w':TS) (d:Tx),(∀b,b<w.heap.size->w'.heap[b]?=w.heap[b]?)->(∀b,b<w.heap.size->d b=true)->e.mapM (λf=>DataW.trod enc P w' 0 d a fuel f.type ((cs.drop f.offset).take (P.cellsOf f.type)))=some xs
 | [],off,ks,xs,h1,c=>by
  simp only[gA,FU]at h1;subst h1;simp only[b1,g4,FU]at c;subst c;refine⟨by simp[dS],λ_ _ _ _=>c_⟩
 |f :: e,off,ks,xs,h1,c=>by
  simp only[gA]at h1;split at h1
  next k1 h k=>
   obtain⟨p,e3,rfl⟩:=DC.1 h1;have h:=Dx h;rw[WL]at c;obtain⟨x,l,c⟩:=EE.1 c;obtain⟨q,m,c⟩:=EE.1 c;cases c;obtain⟨j,r⟩:=i _ _ k _ _ (λv o=>g v (gy (NO o))) l;obtain⟨s,u⟩:=OG cs g i e _ p q e3 m;refine⟨?_,λw' d y n=>?_⟩
   .rw[Gv,bm];refine dS.Fa ?_ kb;have g:=dS.len j
    grind
   simp_all
  .cases h1
def OI:∀(d:Nat) (t:TP) (ks:List ED),gC P d t=some ks->∀(w:TS) (a:Bool) (fuel:Nat) (cs:Tn) (x:DataW H×List MemPlace),(∀v∈cs,L7 w v)->DataW.trod enc P w 0 (λ_=>true) a fuel t cs=some x->
  dS w ks cs/\∀(w':TS) (f:Tx),(∀b,b<w.heap.size->w'.heap[b]?=w.heap[b]?)->(∀b,b<w.heap.size->f b=true)->DataW.trod enc P w' 0 f a fuel t cs=some x
 |0,_,_,h=>by cases h
 |d+1,t,ks,h=>by
  intro w a fuel cs x o c;simp only[gC]at h;split at h
  next k e=>
   cases h;obtain⟨n,rfl,rfl,p⟩:=DataW.trod_int e c;refine⟨⟨⟨n,rfl,p⟩,trivial⟩,λw' f _ _=>?_⟩;cases fuel with
   |zero=>simp[DataW.trod]at c
   |succ m=>simp[DataW.trod,e,p]
  next e=>
   cases h;obtain⟨n,rfl,rfl⟩:=DataW.trod_bool e c;refine⟨⟨⟨n,rfl⟩,trivial⟩,λw' f _ _=>?_⟩;cases fuel with
   |zero=>simp[DataW.trod]at c
   |succ m=>simp[DataW.trod,e]
  next e r=>
   split at h
   next z i=>
    split at h
    next e3=>
     cases h;simp only[vd,Gp]at e3;obtain⟨v,rfl,g,l⟩:=RA r i (Dx e3.1.1) e3.1.2 rfl c o;exact⟨⟨g,trivial⟩,l⟩
    .cases h
   .cases h
  next s e=>
   split at h
   next z i=>
    split at h
    next e3=>
     cases h;have e3:=Dx e3;cases fuel with
     |zero=>simp[DataW.trod]at c
     |succ m=>
      simp only[DataW.trod,e]at c;split at c
      next j=>
       obtain⟨A,u,rfl⟩:=DC.1 c;obtain⟨g,l⟩:=OG cs o (λt ks h cs x o c=>OI d t ks h w a m cs x o c) s.toList 0 ks A i u;rw[WK,Ik a_]at g;refine⟨g,λw' f p y=>?_⟩;simp only[DataW.trod,e,j,if_true]
       simp_all
      .cases c
    .cases h
   .cases h
  .split at h
   next q i=>
    obtain⟨_,g,l⟩:=kS 20 t q i w 0 _ a fuel cs x c;exact⟨wF h g,λw' f _ _=>l w' 0 f a⟩
   .cases h
  .cases h
abbrev ET:=p_×Option Pl
def wt(w:TS)(b:ET):Prop:=b.1 = .dead∨∃vs e p c t fr,b.1 = .cells vs e false/\b.2=some p/\p.r_=e/\vs.all flat=true/\vs.all bh=true/\vs.length<=p.room/\w.heap[p.b]?=some (.cells c t fr)/\c.size=p.o+p.room/\∀(i:Nat) v,vs[i]?=some v->c[p.o+i]?=some v
def pA:∀ {ks:TJ} {vs:Tn},CC ks vs->vs.all flat=true/\vs.all bh=true
 | [],[],_=>⟨rfl,rfl⟩
 | .i k :: ks,v :: vs,h=>by
  obtain⟨⟨n,rfl,_⟩,c⟩:=h;obtain⟨a,b⟩:=pA c;exact⟨by simp[a,flat,gl,scalar],by simp[b];rfl⟩
 | .b :: ks,v :: vs,h=>by
  obtain⟨⟨n,rfl⟩,c⟩:=h;obtain⟨a,b⟩:=pA c;exact⟨by simp[a,flat,gl,scalar],by simp[b];rfl⟩
 | .v :: _,_,h=>by cases h
 | [],_ :: _,h=>by cases h
 | .i _ :: _,[],h=>by cases h
 | .b :: _,[],h=>by cases h
def wE{ks:TJ}(d:0<ks.length){c:Tn}{n:Nat}(o:c.length=n*ks.length)(h:∀i,i<n->CC ks ((c.drop (i*ks.length)).take ks.length)):c.all flat=true/\c.all bh=true:=by
 have f:∀j,j<c.length->∃v,c[j]?=some v/\flat v=true/\bh v=true:=by
  intro j k;have g:j / ks.length<n:=by
   rw[Nat.div_lt_iff_lt_mul d];omega
  obtain⟨a,b⟩:=pA (h _ g);have p:=Nd j d;have m:=Nat.div_add_mod j ks.length;have e:((c.drop (j / ks.length*ks.length)).take ks.length)[j%ks.length]?=some c[j]:=by
   grind
  grind
 constructor<;>
 .rw[A_];intro v l;obtain⟨j,k⟩:=Ev l
  grind
section
variable [Co] [Dw]
def OD{w:TS}{ck:ED}{v:TR}(e:∀ks,ck = .s ks->0<ks.length)(h:JP w ck v)(n0:Nat):∃(x:SL) (z:List ET),(∀b∈z,wt w b)/\x.is ck.lk=true/\x.i_/\
  (∀mu:ke,(∀(i:Nat) b,z[i]?=some b->mu (n0+i)=b.2)->VR y8 mu x.val v)/\∀e:HL,(∀(i:Nat) b,z[i]?=some b->e[n0+i]?=some (.o b.1))->bE e [ck] [x.lf]:=by
 cases ck with
 |i k=>
  obtain⟨n,rfl,M⟩:=h;exact⟨.i k n,[],c_,by simp[SL.is,ED.lk,fq],trivial,λmu _=>.scalar rfl,λe _=>⟨M,trivial⟩⟩
 |b=>
  obtain⟨t,rfl⟩:=h;exact⟨.b t,[],c_,rfl,trivial,λmu _=>.scalar rfl,λe _=>trivial⟩
 |s ks=>
  have I:=e ks rfl;rcases h with rfl|⟨a,len,cap,c,t,D,d,rfl,K,u,O,f,y,m,r,j⟩
  .refine⟨.v (.slice none 0 0),[],c_,rfl,rfl,λmu _=>.scalar rfl,λe _=>⟨⟨0,[],⟨c_,.inl ⟨rfl,rfl⟩⟩,C6 _,λi N=>a_⟩,trivial⟩⟩
  .obtain⟨B,C⟩:=wE I m j;have E:aF (.slice (some ⟨n0,0,le ks.length⟩) len 0)=true:=by simp[aF,n_,aS,bB,bi,aO,aH,le]
   have G:a=⟨a.block,a.off,none⟩:=by cases a;cases K;rfl
   have p:∀e:HL,e[n0]?=some (.o (.cells d ks.length false))->bE e [.s ks] [.v (.slice (some ⟨n0,0,le ks.length⟩) len 0)]:=λe l=>
    ⟨⟨len,d,⟨m,.inr ⟨n0,0,0,d,false,rfl,l,wa m⟩⟩,a_,j⟩,trivial⟩
   by_cases g:cap=0
   .subst g;obtain rfl:len=0:=a_;have A:d=[]:=List.eq_nil_of_length_eq_zero a_;subst A;refine⟨.v (.slice (some ⟨n0,0,le ks.length⟩) 0 0),[(.cells [] ks.length false,some ⟨a.block,c.size,0,ks.length⟩)],λb q=>?_,rfl,E,λmu _=>.u_ (C6 _),λe l=>p e (l 0 _ rfl)⟩;simp only[Fc]at q;subst q;exact .inr ⟨[],ks.length,_,c,t,D,rfl,rfl,rfl,rfl,rfl,C6 _,f,c_,λi v L=>by simp at L⟩
   .have y:a.off+cap*ks.length<=c.size:=y.resolve_left g;have J:=Q9 ks.length u;refine⟨.v (.slice (some ⟨n0,0,le ks.length⟩) len 0),[(.cells d ks.length false,some ⟨a.block,a.off,c.size - a.off,ks.length⟩)],λb q=>?_,rfl,E,λmu l=>?_,λe l=>p e (l 0 _ rfl)⟩
    .simp only[Fc]at q;subst q;exact .inr ⟨d,ks.length,_,c,t,D,rfl,rfl,rfl,B,C,jn,f,jn,r⟩
    .have F:=l 0 _ rfl;rw[G];have:=VR.x3 (la:=y8) (mu:=mu) (id:=n0) (off:=0) (len:=len) (cap:=cap) (cx:=0) F jn u (.inl rfl);exact this
def uD{w:TS}:∀ {a:List ED} {vs:Tn},(∀ks,ED.s ks∈a->0<ks.length)->dS w a vs->∀n0,∃(xs:List SL) (d:List ET),(∀b∈d,wt w b)/\aT xs (a.map ED.lk)=true/\(∀x∈xs,x.i_)/\xs.length=vs.length/\
  (∀mu:ke,(∀(i:Nat) b,d[i]?=some b->mu (n0+i)=b.2)->u9 y8 mu (xs.map SL.val) vs)/\∀c:HL,(∀(i:Nat) b,d[i]?=some b->c[n0+i]?=some (.o b.1))->bE c a (xs.map SL.lf)
 | [],[],_,_,n0=>⟨[],[],c_,rfl,c_,rfl,λmu _=>⟨rfl,λi x y h=>by simp at h⟩,λc _=>trivial⟩
 |ck :: a,v :: vs,c,h,n0=>by
  obtain⟨x,d,a1,a2,G,u,z⟩:=OD (λks e=>c ks kb) h.1 n0;obtain⟨xs,j,I,A,J,B,C,D⟩:=uD (λks e=>c ks (E7 _ e)) h.2 (n0+d.length);have r:∀ {n:Type} {f:Nat->n} {g:ET->n},(∀(i:Nat) b,(d++j)[i]?=some b->f (n0+i)=g b)->(∀(i:Nat) b,d[i]?=some b->f (n0+i)=g b)/\∀(i:Nat) b,j[i]?=some b->f (n0+d.length+i)=g b:=by
   intro n f g h;refine⟨λi b t=>h i b ?_,λi b t=>?_⟩
   .grind
   .rw[Q6];refine h _ b ?_
    grind
  refine⟨x :: xs,d++j,λb t=>?_,by simp[aT,a2,A],λy O=>?_,by simp[B],λmu m=>?_,λc F=>?_⟩
  .grind
  .grind
  .obtain⟨k,l⟩:=r (f:=mu) (g:=λb=>b.2) m;have K:=u mu k;obtain⟨E,L⟩:=C mu l;refine⟨by simpa using E,λi p q M N=>?_⟩
   grind
  .obtain⟨k,l⟩:=r (f:=λi=>c[i]?) (g:=λb=>some (HO.o b.1)) F;exact bE.Fa (z c k) (D c l)
 | [],_ :: _,_,h,_=>by cases h
 |_ :: _,[],_,h,_=>by cases h
end
end
end Sx
namespace Sx
open Go.ChangeShapes Go.WideShapes Go.ChangeAt Go.WideMaps Go.WideElems Go.RowKit
section
variable {H:Type} {enc:TypeId×Value->H} {P:TI}
def pR{w:TS}{r:Reach}{d:Nat}{u:TP}{v:TR}(h:Cell.okWide P w r d u v):L7 w v:=by
 rintro a k b rfl;have g:∃e,w.has P r d a e b:=by
  unfold Cell.okWide at h;split at h<;>first|simp_all|(rename_i f;cases f;done)|skip
  all_goals
   unfold Cell.ok at h
   grind
 obtain⟨e,_,i,l,c,j,_⟩:=g;refine⟨i,?_⟩;unfold World.shape? at j
 grind
def P3{w:TS}{r:Reach}{f:Nat}{t:TP}{v:TR}(h:Value.okWide P w r f t v):∀x∈v.cells.toList,L7 w x:=by
 intro x e;unfold Value.okWide at h;split at h
 .obtain⟨a,rfl,_,j,_,_,b⟩:=h;obtain⟨i,d⟩:=Ev e;obtain⟨u,_,c⟩:=b i x (by simpa[Value.cells]using d);exact pR c
 .obtain⟨a,rfl,_,j,_,_,b⟩:=h;obtain⟨i,d⟩:=Ev e;obtain⟨u,_,c⟩:=b i x (by simpa[Value.cells]using d);exact pR c
 .have:x=v∨∃a,v = .agg a:=by
   cases v<;>first|(right;exact⟨_,rfl⟩)|(left;simpa[Value.cells]using e)
  rcases this with rfl|⟨a,rfl⟩
  .exact pR h
  .exfalso;unfold Cell.okWide at h;split at h<;>first|simp_all|(rename_i g;cases g;done)|skip
   all_goals
    unfold Cell.ok at h
    simp_all
def skC(P:TI)(t:TP)(a:List ED):Option SK:=
 match P.underlying t,a with
 |some (.struct _),a=>some (.agg (a.map ED.lk))
 |some (.array _ _),a=>some (.agg (a.map ED.lk))
 |some (.int _),[k]=>some (.leaf k.lk)
 |some .bool,[k]=>some (.leaf k.lk)
 |some (.slice _),[k]=>some (.leaf k.lk)
 |_,_=>none
def B1(a:List ED):Bool:=a.all λk=>match k with
 | .s b=>Nat.blt 0 b.length
 |_=>true
def Wx{a:List ED}(h:B1 a=true):∀ks,ED.s ks∈a->0<ks.length:=by
 intro ks b;have:=A_.1 h _ b
 simp_all
section
variable [Co] [Dw]
abbrev NY(mu:ke)(n0:Nat)(a:List ET):Prop:=∀(i:Nat) b,a[i]?=some b->mu (n0+i)=b.2
abbrev TW(c:HL)(n0:Nat)(a:List ET):Prop:=∀(i:Nat) b,a[i]?=some b->c[n0+i]?=some (.o b.1)
abbrev JV(W a:TS):Prop:=∀b,b<W.heap.size->a.heap[b]?=W.heap[b]?
def Bk{W:TS}{r:Reach}{a:Nat}{t:TP}{n:Nat}{e:TP}{v:TR}(b:P.underlying t=some (.array n e))(h:Value.okWide P W r a t v):∃cs,v = .agg cs:=by
 simp only[Value.okWide,b]at h
 grind
def M6{W:TS}{r:Reach}{V:Nat}{c:Bool}{t:TP}{f:List ED}{C:SK}{v:TR}{d:DataW H}{B:List MemPlace}(h:gC P 20 t=some f)(p:skC P t f=some C)(z:B1 f=true)(a:Value.okWide P W r V t v)(Z:DataW.Trod enc P W 0 (λ_=>true) c t v d B)(n0:Nat) :
  ∃(x:S0) (j:List ET),(∀b∈j,wt W b)/\x.is C=true/\x.i_/\(∀mu:ke,NY mu n0 j->VR y8 mu x.val v)/\(∀o:HL,TW o n0 j->bE o f (x.cells.map SL.lf))/\
   ∀(q:TS) (s:Tx),JV W q->(∀b,b<W.heap.size->s b=true)->DataW.Trod enc P q 0 s c t v d B:=by
 obtain⟨u,hf⟩:=Z;obtain⟨D,U⟩:=OI 20 t f h W c u _ _ (P3 a) hf;obtain⟨M,j,E,F,N,O,A,G⟩:=uD (Wx z) D n0;have g:∀(q:TS) (s:Tx),JV W q->(∀b,b<W.heap.size->s b=true)->DataW.Trod enc P q 0 s c t v d B:=λq s S Y=>⟨u,U q s S Y⟩;have T:(∀R,P.underlying t≠some (.struct R))->(∀n e,P.underlying t≠some (.array n e))->∀k,f=[k]->C = .leaf k.lk->∃(x:S0) (j:List ET),(∀b∈j,wt W b)/\x.is C=true/\x.i_/\(∀mu:ke,NY mu n0 j->VR y8 mu x.val v)/\(∀o:HL,TW o n0 j->bE o f (x.cells.map SL.lf))/\
   ∀(q:TS) (s:Tx),JV W q->(∀b,b<W.heap.size->s b=true)->DataW.Trod enc P q 0 s c t v d B:=by
  rintro ad ag k rfl rfl;have hv:v.cells.toList=[v]:=by
   have S:=dS.len D;cases v with
   |agg Q=>
    exfalso;unfold Value.okWide at a;split at a
    .simp_all
    .simp_all
    .unfold Cell.okWide at a;split at a<;>first|simp_all|(rename_i X;cases X;done)|skip
     all_goals
      unfold Cell.ok at a
      simp_all
   |_=>simp[Value.cells]
  rw[hv]at D O A;obtain⟨x,rfl⟩ : ∃x,M=[x]:=List.length_eq_one_iff.1 O;refine⟨.leaf x,j,E,?_,λl hl=>?_,λmu m=>?_,λo w=>G o w,g⟩
  .show x.is k.lk=true;simpa[aT]using F
  .simp only[S0.cells,Fc]at hl
   simp_all
  .exact(A mu m).2 0 _ _ rfl rfl
 unfold skC at p;split at p
 next R e=>
  cases p;obtain⟨Q,rfl,_⟩:=okWide_struct e a;refine⟨.agg M,j,E,F,N,λmu m=>?_,λo w=>G o w,g⟩;obtain⟨I,J⟩:=A mu m;refine .agg (by simpa[Value.cells]using I) λi x y K L=>J i x y (by simpa using K) (by simpa[Value.cells]using L)
 next n' e' e=>
  cases p;obtain⟨Q,rfl⟩:=Bk e a;refine⟨.agg M,j,E,F,N,λmu m=>?_,λo w=>G o w,g⟩;obtain⟨I,J⟩:=A mu m;refine .agg (by simpa[Value.cells]using I) λi x y K L=>J i x y (by simpa using K) (by simpa[Value.cells]using L)
 .simp_all
 .simp_all
 .simp_all
 .cases p
def Zt(P:TI):List TypeId->Option (List (List ED)×List SK)
 | []=>some ([],[])
 |t :: c=>match gC P 20 t,Zt P c with
  |some a,some (l,sks)=>match skC P t a,B1 a with
   |some b,true=>some (a :: l,b :: sks)
   |_,_=>none
  |_,_=>none
def Ob{i7:Type}{c a:List ET}{f:Nat->i7}{g:ET->i7}{n0:Nat}(h:∀(i:Nat) b,(c++a)[i]?=some b->f (n0+i)=g b):(∀(i:Nat) b,c[i]?=some b->f (n0+i)=g b)/\∀(i:Nat) b,a[i]?=some b->f (n0+c.length+i)=g b:=by
 refine⟨λi b d=>h i b ?_,λi b d=>?_⟩
 .grind
 .rw[Q6];refine h _ b ?_
  grind
def rI{W:TS}{r:Reach}{K:Nat}{e:Bool}:∀(n:List TypeId) (l:List (List ED)) (sks:TN) (vs:Tn) (ds:List (DataW H)) (z:List MemPlace) (n0:Nat),Zt P n=some (l,sks)->
  (∀(j:Nat) t v,n[j]?=some t->vs[j]?=some v->Value.okWide P W r K t v)->DataW.TrodAll enc P W 0 (λ_=>true) e n vs ds z->
  ∃(xs:List S0) (m:List ET),(∀b∈m,wt W b)/\bW xs sks=true/\(∀x∈xs,x.i_)/\(∀mu:ke,NY mu n0 m->u9 y8 mu (aj xs) vs)/\(∀k:HL,TW k n0 m->bE k l.flatten (bX xs))/\
   ∀(s:TS) (u:Tx),JV W s->(∀b,b<W.heap.size->u b=true)->DataW.TrodAll enc P s 0 u e n vs ds z
 | [],l,sks,[],[],z,n0,h,_,a=>by
  cases h;exact⟨[],[],c_,rfl,c_,λmu _=>⟨rfl,λi x y h=>by simp[aj]at h⟩,λk _=>trivial,λ_ _ _ _=>a⟩
 |t :: n,l,sks,v :: vs,d :: ds,z,n0,h,E,a=>by
  simp only[Zt]at h;split at h
  next T l' w U V=>
   split at h
   next sk e3 e4=>
    cases h;obtain⟨p,q,h1,c,rfl⟩:=a;obtain⟨x,m,Y,F,Z,G,I,J⟩:=M6 U e3 e4 (E 0 t v rfl rfl) h1 n0;obtain⟨xs,A,b1,L,b3,M,N,O⟩:=rI n l' w vs ds q (n0+m.length) V (λj t v h1 c=>E (j+1) t v h1 c) c;refine⟨x :: xs,m++A,λb hb=>?_,by simp[bW,F,L],λy hy=>?_,λmu D=>?_,λk X=>?_,λs u h1 c=>⟨p,q,J s u h1 c,O s u h1 c,rfl⟩⟩
    .grind
    .grind
    .obtain⟨h1,c⟩:=Ob (f:=mu) (g:=λb=>b.2) D;have Q:=G mu h1;obtain⟨R,S⟩:=M mu c;refine⟨by simpa[aj]using R,λi p q B C=>?_⟩;cases i with
     |zero=>
      simp only[aj,DD,hz,FU]at B C;subst B C;exact Q
     |succ i=>exact S i p q (by simpa[aj]using B) (by simpa using C)
    .obtain⟨h1,c⟩:=Ob (f:=λi=>k[i]?) (g:=λb=>some (HO.o b.1)) X;rw[y4];exact bE.Fa (I k h1) (N k c)
   .cases h
  .cases h
 | [],_,_,_ :: _,_,_,_,_,_,a=>by cases a
 | [],_,_,[],_ :: _,_,_,_,_,a=>by cases a
 |_ :: _,_,_,[],_,_,_,_,_,a=>by cases a
 |_ :: _,_,_,_ :: _,[],_,_,_,_,a=>by cases a
def wB{C:m'}{f:TQ}{args:Tn}{r:TR}{H':Tu}{a:List ET}{W:TS}(X:∀b∈a,wt W b)(h:dG C f args (a.map (·.1)) r H'){args':Tl}(m:∀mu:ke,NY mu 0 a->u9 y8 mu args args'.toList)(hr:flat r=true)
  (V:∀g vs,C.G g=some vs->Eo g<W.heap.size/\vs.all bh=true/\∃c e fr,W.heap[Eo g]?=some (.cells c e fr)/\cD (λ_=>none) vs c (Fz g)) (Y:∀g vs,C.G g=some vs->vs.all Kw=true) :
  Calls C.P f args' W λe w=>e = .returned r/\w.os=W.os/\w.output=W.output/\w.tape=W.tape/\∀b,b<W.heap.size->w.heap[b]?=W.heap[b]?:=by
 let mu:ke:=λid=>(a[id]?).bind (·.2)
 have z:NY mu 0 a:=λi b E=>jn;have n:∀(id:Nat) o,(a.map (·.1))[id]?=some o->∃b,a[id]?=some b/\o=b.1/\wt W b:=by
  grind
 have ad:∀(id:Nat) o,(a.map (·.1))[id]?=some o->o.owned=false:=by
  intro id o Z;obtain⟨b,_,rfl,q⟩:=n id o Z;rcases q with q|⟨vs,e,p,c,t,fr,q,_⟩<;>rw[q]<;>rfl
 have A:∀b,¬HI mu (a.map (·.1)) b:=by
  rintro b ⟨id,o,p,l,d,_⟩
  grind
 have y:WR C W.heap.size mu (a.map (·.1)) W:=by
  refine⟨λid o l d=>?_,λi j oi oj pi pj l d q=>?_,λi o p l d=>?_,λi o p l d _ D=>?_,λid l=>?_,λg vs F=>?_⟩
  .obtain⟨b,q1,rfl,k⟩:=n id o l;rcases k with k|⟨vs,e,p,c,t,fr,k,q4,J,K,L,M,N,s,u⟩
   .rw[k]at d;cases d
   .refine⟨p,jn,?_⟩;rw[k];refine⟨J,M,L,c,t,fr,N,s,λh=>by(cases h),λi v I=>⟨v,u i v I,.of_flat (A_.1 K v (Cf I))⟩⟩
  .grind
  .grind
  .obtain⟨b,q1,rfl,k⟩:=n i o l;rcases k with k|⟨vs,e,p',c,t,fr,k,q4,J,K,L,M,N,s,u⟩
   .rw[k]at d;cases d
   grind
  .grind
  .obtain⟨l,d,c,e,fr,D,U⟩:=V g vs F;exact⟨l,d,c,e,fr,D,kU (Y g vs F) U⟩
 intro T;obtain⟨v,ag,w',O,a2,x,_,B⟩:=h _ W.heap.size mu W args' (A9 _) (m mu z) y T;rw[dt hr O]at B;obtain⟨fr,Q,R,S⟩:=B;exact⟨.returned r,w',fr,⟨rfl,x.os,x.output,x.tape,λb E=>x.j9 b E (A b)⟩,Q,R,S⟩
def Wy{P:TI}{f:Func}{s:ChangeSpec}{c g d:Bool}{W e:TS}{args:Tl}{v:TR}{ds k:List (DataW H)}{a n:List MemPlace}
  (q:DataW.Whole enc P f.params.toList s.vars c W args.toList ds k a)
  (l:∀(b:Nat) (m:Tx) (r:Bool),DataW.TrodAll enc P e b m r f.resultTypes.toList (v.resultList f.resultTypes.size) (s.fn H (ds++k)).results [])
  (i:DataW.TrodAll enc P e 0 (λb=>decide (b<W.heap.size)) true f.params.toList args.toList (s.fn H (ds++k)).args n)
  (j:∀m:Nat->Bool,DataW.TrodVars enc P e m s.vars (s.fn H (ds++k)).vars [])
  (h1:e.os=W.os) (o:e.output=W.output) (p:∀b,b<W.heap.size->e.heap[b]?=W.heap[b]?) :
  s.post enc P f c g d false W args v e:=
 ⟨ds,k,a,[],n,[],q,l _ _ _,i,j _,VF h1 o p _,λh=>by cases h⟩
end
end
section
variable [Co]
def mU{C:m'}{N:Tc}{Sg:Td}(k:C.P.follows .mixedOrders=true){g:TQ}{sg:GN}(l:Sg g=some sg){ls e:TG}{H H':Tu}(j:let _:C7:=KnoC C N;aA C Sg g ls H e H'){xs ys:List S0}(h1:bW xs sg.ps=true)(f:bX xs=ls)(h:bW ys sg.rs=true)(i:bX ys=e) :
  dG C g (aj xs) H (fQ (aj ys)) H':=by
 let _:C7:=KnoC C N
 obtain⟨m,p,q,a,b,c,d⟩:=j;rw[l]at a;cases a;obtain⟨n,_⟩:=cW b.1 h1 (b.2.1.trans f.symm);obtain⟨o,_⟩:=cW c.1 h (c.2.1.trans i.symm);rw[n,o]at d;exact qt k d
end
end Sx
end Go.Am
namespace Go.Am
open Sx Go.Proofs
abbrev C4:=Int×Int×Fin 4
def IR(a:C4):Cl:=(a.1,a.2.1,a.2.2.val)
def wJ(a:C4):Tn:=bU (IR a)
def Yp(a b:C4):Int:=IV (IR a) (IR b)
def p1(a b:C4):Go.Proofs.ltOf Yp a b=CX (IR b) (IR a):=by
 unfold Go.Proofs.ltOf Yp;rw[WI,EP];exact ZS _ _
def m6:Go.Sort.SWO (Go.Proofs.ltOf Yp) where
 irrefl x:=by rw[p1];exact wV
 trans x y z h1 h2:=by
  rw[p1]at *;exact Pt h1 h2
 ntrans x y z h1 h2:=by
  rw[p1]at *;rw[vn]at *;omega
def ad(a b:C4):dG cc 58 [.agg ⟨wJ a⟩,.agg ⟨wJ b⟩] [] (.int .i64 (Yp a b)) []:=by
 have c:=uJ (a:=IR a) (b:=IR b) a.2.2.isLt b.2.2.isLt [];exact mU (N:=Hg) GE (Sg:=ac) (sg:=⟨[.agg [.i .i64,.i .i64,.i .u8],.agg [.i .i64,.i .i64,.i .u8]],[li]⟩) rfl c (xs:=[.agg [.i .i64 a.1,.i .i64 a.2.1,.i .u8 (ofNat a.2.2.val)],.agg [.i .i64 b.1,.i .i64 b.2.1,.i .u8 (ofNat b.2.2.val)]]) rfl rfl (ys:=[.leaf (.i .i64 (Yp a b))]) rfl rfl
abbrev u':Value:=.func (.func 58) ⟨[]⟩ ⟨[]⟩
def W6{H:HL}{id cx:Nat}{J:List C4}(i':H[id]?=some (.o (.cells ((J.map IR).flatMap bU) 3 true)))(h0:0<J.length)(k:J.length<=100000) :
  ∃D:List C4,D.Perm J/\(D.Pairwise λx y=>CX (IR x) (IR y)=false)/\aA cc ac 69 [.v (.slice (some ⟨id,0,le 3⟩) J.length cx),.v u'] (g_ aa H) [] (g_ aa (po H id 3 bU (D.map IR))):=by
 have i:∀L:List C4,(L.map IR).flatMap bU=L.flatMap wJ:=λL=>by rw[hI];rfl
 refine⟨JG Yp J,RL m6 J,?_,?_⟩
 .refine(RK m6 J).imp λ{x y} h=>?_;rw[p1]at h;exact h
 .have a:(g_ aa H)[id]?=some (.cells (J.flatMap wJ) 3 true):=by
   rw[←i];unfold g_;rw[Ew,i'];rfl
  have b:=yg (C:=cc) pH layS (enc:=wJ) (e:=3) (λw=>d_) (λw=>d_) (λ_=>rfl) (λx v j=>by
   simp only[wJ,bU,DB,Ng,or_false]at j;rcases j with rfl|rfl|rfl<;>rfl) m6 (g:=58) (λf w=>d_) ad (cx:=cx) a rfl h0 a_
  have c:(g_ aa H).set id (.cells ((JG Yp J).flatMap wJ) 3 true)=g_ aa (po H id 3 bU ((JG Yp J).map IR)):=by
   unfold po;rw[i,kJ];rfl
  rw[c]at b;exact⟨⟨[lv,lv],[]⟩,[.leaf (.v (.slice (some ⟨id,0,le 3⟩) J.length cx)),.leaf (.v u')],[],rfl,⟨rfl,rfl,λy d=>by
   simp only[DB,Ng,or_false]at d;rcases d with rfl|rfl
   .exact aC (show aF (.slice (some ⟨id,0,le 3⟩) J.length cx)=true by simp[aF,n_,aS,bB,bi,aO,aH,le])
   .exact aC rfl⟩,⟨rfl,rfl,λy d=>by cases d⟩,⟨0,.inr ⟨.inl d_,b⟩⟩⟩
def fb{L:TM}(h:∀c∈L,c.2.2<4):∃J:List C4,J.map IR=L:=by
 refine⟨L.map λc=>(c.1,c.2.1,⟨c.2.2%4,Nd _ a_⟩),?_⟩;rw[Q8]
 conv=>rhs;rw[←eA L]
 refine WN λc a=>?_;have:=h c a;show(c.1,c.2.1,c.2.2%4)=c
 grind
structure N1(h0 h4:HL)(b mp mw:Nat)(w v:Nat)(xv:Value)(r:Mv)(xa xu:Value)(IM:TM):Prop where
 hb:h4[b]?=some (.o (.cells (ah ⟨w,v,xv,r,xa,.slice none 0 0,.slice none 0 0,xu,mp,.slice none 0 0,.slice none 0 0,.slice none 0 0⟩ false) 15 true))
 bn:h0.length<=b
 mpn:h0.length<=mp
 mwn:h0.length<=mw
 mm:mw≠mp
 old:∀(j:Nat) o,h0[j]?=some o->h4[j]?=some o
 at_:h_ h0.length h4 xa 3 bU (De IM)
 us:h_ h0.length h4 xu 1 A7 (replicate IM.length false)
 pr:h4[mp]?=some (.o (.map [] 0))
 wh:Dd EV h4 mw ((De IM).map λc=>(c,.int .i64 (ofNat 0)))
structure NW(h5 g:HL)(mw:Nat)(IM:TM)(n:Nat):Prop where
 m:∃ps:List (K3×Value),Dd EV g mw ps/\ps.map Prod.fst=De IM/\∀(i:Nat) k u,ps[i]?=some (k,u)->u = .int .i64 (ofNat (if (Dq IM).idxOf k<n then(Dq IM).idxOf k else 0))
 k:∀(j:Nat) o,h5[j]?=some o->j≠mw->g[j]?=some o
def ih{h0 y:HL}{b Y t w v:Nat}{xv:TR}{r:Mv}{X xu:TR}{a:TM}(f:N1 h0 y b Y t w v xv r X xu a)(a2:a.length<=36)(U:0<a.length)(hq:∀c∈a,c.2.2<4){xi:TR}{K:Te}(hK:∀g,N2 h0 g b Y t w v xv r X xu a->hg (hA P1) b xi t g K) :
  q4 (hA P1) b t xi y K:=by
 have a3:=am f.hb;have ay:h0.length<=y.length:=by have:=f.bn;omega
 have a6:=th a;unfold q4;simp only[u5];refine bv (ds:=[X]) f.hb (by simp[ah]) rfl ?_;refine e_ ?_;refine ab (h_.i_ (e:=3) (enc:=bU) cG f.at_) ?_;refine km ?_;obtain⟨J,hJ⟩:=fb (L:=De a) λc x=>hq c (oq.1 x);have T:De a≠[]:=λe=>by
  obtain⟨c,x⟩:=aq U;have:=oq.2 (Cf x)
  simp_all
 obtain⟨id,cx,H,O,i',a5⟩:=kj f.at_ T;have Z:J.length=(De a).length:=jn;rw[←hJ]at i';obtain⟨D,a0,a1,l⟩:=W6 (cx:=cx) i' jn a_;have hD:D.map IR=Dq a:=Zw jn jn;rw[hD]at l;rw[Z,←H]at l;refine ak l ?_;refine e_ ?_;obtain⟨z,e5⟩ : ∃z,z=po y id 3 bU (Dq a):=⟨_,rfl⟩;rw[←e5];have M:id≠b:=λe=>by
  rw[e,f.hb]at i'
  simp_all
 have V:∀(j:Nat) o,y[j]?=some o->j≠id->z[j]?=some o:=λj o p ap=>by
  rw[e5,cu ap];exact p
 have l5:z.length=y.length:=by rw[e5,gX]
 have ad:(Dq a).length=(De a).length:=(jg a).length_eq;have s:h_ h0.length z X 3 bU (Dq a):=.inr ⟨id,cx,by rw[ad];exact H,O,by rw[e5];exact bI (am i'),a_⟩;have ag:=V _ _ f.hb (CY M);refine bv (ds:=[X]) ag (by simp[ah]) rfl ?_;refine e_ ?_;refine ab (h_.i_ (e:=3) (enc:=bU) cG s) ?_;refine km ?_;refine bz (h_.ls cG s) ?_;have E:∀ {j e:Nat} {l:Tn} {d:Bool} {g:HL} {G:List (K3×Value)},Dd EV g t G->g[j]?=some (.o (.cells l e d))->j≠t:=λhm p q=>by
  subst q;obtain⟨es,c,I,_⟩:=hm
  simp_all
 have N:id≠t:=E f.wh i';have F:=f.wh.j9 EV λo ho=>V t o ho (CY N);refine aJ (m:=(Dq a).length) (λm ls g=>∃n,ls=[.i (ofNat n)]/\m=(Dq a).length - n/\n<=(Dq a).length/\NW z g t a n) ⟨0,rfl,rfl,C6 _,⟨_,F,by rw[Q8];exact eA _,λi k u hi=>?_⟩,λ_ _ h _=>h⟩ ?_
 .grind
 rintro m ls g ⟨n,rfl,rfl,hn,A⟩ aE C;refine Di ?_;refine e_ ?_;by_cases B:n<(Dq a).length
 case neg=>
  obtain rfl:n=(Dq a).length:=a_;rw[aM (A9 _)];refine km ?_;obtain⟨G,m1,W,m3⟩:=A.m;have kg:∀ {j e:Nat} {l:Tn} {d:Bool},z[j]?=some (.o (.cells l e d))->g[j]?=some (.o (.cells l e d)):=λ{j e l d} p=>A.k j _ p (E F p);have kk:∀ {j e:Nat} {l:Tn} {d:Bool},y[j]?=some (.o (.cells l e d))->e≠3->g[j]?=some (.o (.cells l e d)):=λ{j e l d} p he=>kg (V j _ p λq=>by
   simp_all)
  refine hK g ⟨kk f.hb oo,f.bn,f.mpn,λj o p=>A.k j o (V j o (f.old j o p) jn) (by have:=am p;have:=f.mwn;omega),s.BK λj l _ h=>kg h,f.us.BK λj l _ h=>kk h oo,A.k Y _ (V Y _ f.pr λq=>?_) (CY f.mm),G,m1,λc=>by rw[W];exact oq,λi k u hi=>?_⟩
  .have I:=f.pr
   simp_all
  grind
 rw[aN B];refine e_ ?_;obtain⟨c,x⟩:=aq B;refine aP (h_.ls cG (s.BK λj l _ h=>A.k j _ h (E F h))) rfl x ?_;rw[show bU c=[.int .i64 c.1,.int .i64 c.2.1,.int .u8 (ofNat c.2.2)]from rfl];refine e_ ?_;obtain⟨G,m1,W,m3⟩:=A.m;have al:c∈De a:=(jg a).mem_iff.1 (Cf x);have av:∀k:K3,Instr.sameBits 10000 (.agg ⟨EV k⟩) (.agg ⟨EV k⟩)=true:=λk=>by simp[EV,Instr.sameBits]
 refine e0 EV yG d_ d_ sU m1 c (by rw[W];exact al) rfl (av c) λo i0 an hm=>?_;refine km ?_;have a4:(Dq a).idxOf c=n:=by
  have R:=Cf x;have Q:=qcu.2 R;have I:(Dq a)[(Dq a).idxOf c]?=some c:=kb;have S:=IJ (sA a)
  grind
 rw[aY a_];have ax:i0<G.length:=by simpa using am an
 refine C _ _ _ a_ ⟨n+1,rfl,rfl,B,⟨_,hm,?_,λi k u hi=>?_⟩,λj o2 p P=>cH (A.k j o2 p P) (CY P)⟩
 .rw[←W];refine HA λi=>?_
  grind
 .by_cases e:i0=i
  .simp_all
  .rw[Hj e]at hi;have T:(Dq a).idxOf k≠n:=λq=>by
    have hk:k∈De a:=by
     grind
    have Q:=qcu.2 ((jg a).mem_iff.2 hk);have I:(Dq a)[(Dq a).idxOf k]?=some k:=jn;rw[q,x]at I;have:=D' I;subst this;have S:(G.map Prod.fst).Nodup:=by rw[W];exact ti a
    rw[WG,Q5]at S
    grind
   grind
end Go.Am
end

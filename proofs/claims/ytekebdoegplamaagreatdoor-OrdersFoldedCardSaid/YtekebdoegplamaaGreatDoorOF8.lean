import Derived.Test.YtekebdoegplamaaGreatDoorOF7
import Derived.Shelf.SlSortCmp.WholeK
set_option linter.all false
noncomputable section
set_option maxRecDepth 100000
set_option maxHeartbeats 16000000
open Option renaming some->O,none->Q
open Bool renaming true->J,false->U
open List renaming length->W,range->EW,replicate->FJ
open Int renaming ofNat->DO
open Go.Value renaming int->EO,slice->DW,pointer->EQ,agg->EU
open Go.IntKind renaming i64->DQ,u8->DU
open Go renaming Value->FO,DataW->FU,MemPlace->GW
open Go.Am.wa renaming cells->EJ
namespace Go.Am
open Sx Go.Proofs
def Yn{w v:Nat}(a:S3 w v){l:TD}{G:TH}(o:rL w v l G)(q:G 0=ET):C' w v l G:=by
 have p:=a.sh;have m:∀(d c:Nat),c<4*w*v->dst w c=d->Ew (20*(d:Int)) (G c):=by
  intro d
  induction d using Nat.strongRecOn with
  |_ d x=>
   intro c h u;have f:=D7.1 (r5 w v a.1 a.2.1 a.2.2.1 a.2.2.2) c (D2.2 h);unfold Xa at f;rw[y_,IP]at f;rcases f.2 with s|t
   .obtain rfl:=Fs s;rw[q];exact Bn a_
   .obtain⟨e,i,g⟩:=qcn.1 t;have i:=D2.1 i;cases k:D_ w v c e with
    |none=>rw[k]at g;cases g
    |some n=>rw[k]at g;have g:=Fs g;obtain⟨b,j,_⟩:=de p h i k;have r:=x (dst w n) a_ n b rfl;rw[o n e c b i j];exact aU (Ag p b i j r a_) a_
 refine⟨o,q,λc h=>?_⟩;have f:=D7.1 (r5 w v a.1 a.2.1 a.2.2.1 a.2.2.2) c (D2.2 h);unfold Xa at f;rw[y_]at f;have u:=Nat.le_of_ble_eq_true f.1;exact aU (m _ c h rfl) a_
def ZN{l:TD}(h:HB l)(d:(l.map bD).Nodup):l.Pairwise λa b=>Ks a b=J:=by have g:l.Pairwise λa b=>bD a≠bD b:=KZ.1 d;refine(List.Pairwise.and h g).imp λ{a b} c=>?_;obtain⟨f,i⟩:=c;have f:=CL.1 f;unfold Ks;rw[IP,y_];simp only[Gp];have j:¬(a.1=b.1/\a.2.1=b.2.1):=λe=>i (by unfold bD;rw[e.1,e.2]);omega
structure Hb(w v:Nat)(k:Int)(l:TD)(r:Mv)(G:TH)(L:List B_):Prop where
 vk:∀c∈l,VK w v c
 so:l.Pairwise λa b=>Ks a b=J
 co:C' w v l G
 rk:Ew k r
 st:Mp (λc=>aq (ae (G c) r) (ra w c)) (EW (4*w*v)) L
 ss:L.Pairwise λa b=>Ez b.1 a.1=J
def VK.k0{w v:Nat}{c:Gs}(h:VK w v c):c.2.2≠0:=by have:=h.2;omega
def pas_pw{w v:Nat}(x:Sh w v){l:TD}{G:TH}{r:Mv}:(ES w v l G r (4*w*v)).Pairwise λp q=>¬(p.1=q.1/\p.2.1=q.2.1):=by
 unfold ES;rw[qbU];have D:∀a p,p∈DR w v l G r a->p.1=a/\∃k,k<3/\Gm w v l G r a k=O p:=λa p d=>by
  obtain⟨k,B,f⟩:=Np.1 d;refine⟨?_,k,D2.1 B,f⟩;unfold Gm at f
  grind
 refine⟨λa g=>?_,?_⟩
 .have g:=D2.1 g;unfold DR;rw[qcK];have t:(EW 3).Pairwise λi j=>i<j:=qbt;refine(qcR.1 t).imp λ{i j} o=>?_;obtain⟨n,s,C⟩:=o;have n:=D2.1 n;have s:=D2.1 s;intro p d q m e;have d:Gm w v l G r a i=O p:=d;have m:Gm w v l G r a j=O q:=m;have c:∀k p,Gm w v l G r a k=O p->D_ w v a (eK (a%4) k)=O p.2.1:=λk p h=>by
   unfold Gm at h
   grind
  have u:=c i p d;have f:=c j q m;rw[e.2]at u;have y:=ox x g (gm _ _) u;have z:=ox x g (gm _ _) f;have e3:eK (a%4) i=eK (a%4) j:=y.symm.trans z;have:i=j:=by rw[←oU (q:=a%4) n,e3,oU s]
  omega
 .have t:(EW (4*w*v)).Pairwise λi j=>i<j:=qbt;refine t.imp λ{a b} A p d q m e=>?_
  grind
def ZE{w v:Nat}(g:S3 w v){k:Int}{l:TD}{r:Mv}{G:TH}(h:C' w v l G)(q:Ew k r){p:Xf}(j:p∈ES w v l G r (4*w*v)):(1<=p.2.2.1/\p.2.2.1<=4)/\-(2*k+32)<=p.2.2.2/\p.2.2.2<=2*k+32/\Ew (2*k+32) (wd p.2.2):=by obtain⟨b,i,s,m,o,n,a⟩:=nM j;have f:eT (ae (G p.1) r).1 (eK (p.1%4) i)<3:=jY (gm _ _);have d:=ZD (c:=aq (ae (G p.1) r) (ra w p.1)) (e:=eT (ae (G p.1) r).1 (eK (p.1%4) i)) fi f (qN g h q b);rw[←a]at d;refine⟨by rw[a];exact P5 fi f,a_,a_,aU d.1 a_⟩
def Zk{w v:Nat}{l:TD}{u k n:Nat}(b:D_ w v u (eK (u%4) k)=O n)(a:u<n):Ka w v l u k=Lh l u (eK (u%4) k):=by
 unfold Ka
 grind
def Hb.keys{w v:Nat}(K:S3 w v){k:Int}{l:TD}{r:Mv}{G:TH}{L:List B_}(h:Hb w v k l r G L){ln:Ln}{o:Bool}{u e n:Nat}(I:u<4*w*v)(F:e<3)(C:D_ w v u e=O n)(B:u<n) :
  ((DO u,DO e):Ku)∈(FA w v (λa=>ae (G a) r) o ln (ES w v l G r (4*w*v))).map bD↔(Es l u e=U/\u_ (aq (ae (G u) r) (ra w u)) (eT (ae (G u) r).1 e)=ln):=by
 have H:=K.sh;have g:∀c∈l,c.2.2≠0:=λc x=>(h.vk c x).k0;constructor
 .intro N;obtain⟨c,x,b⟩:=Ed.1 N;unfold FA at x;obtain⟨p,y,rfl⟩:=Ed.1 x;obtain⟨y,j⟩:=Hs.1 y;have j:=of_decide_eq_true j;obtain⟨E,i,S,s,t,d,q⟩:=nM y;have A:=ox H E (gm _ _) s;unfold bD Yp at b;simp only[x3]at b;have z:p.1=u:=Ky b.1;have m:Yy w v p.1 p.2.1=e:=Ky b.2;rw[A]at m;subst z;rw[m]at q;refine⟨?_,q.symm.trans j⟩;rw[←Ii,←sL g];intro D;rw[Zk s t,m]at d;exact D d
 .rintro⟨M,R⟩;have f:eK (u%4) (eK (u%4) e)=e:=oU F;have d:Gm w v l G r u (eK (u%4) e)=O (u,n,ln):=by
   unfold Gm;rw[f,C];simp only;have P:Ka w v l u (eK (u%4) e)=0:=by
    rw[Zk (n:=n) (by rw[f];exact C) B,f];rcases Int.lt_or_le 0 (Lh l u e)with z|z
    .have:=(sL (l:=l) g (u:=u) (e:=e)).1 a_
     simp_all
    .rcases Int.lt_or_le (Lh l u e) 0 with m|m
     .have:=(sL (l:=l) g (u:=u) (e:=e)).1 a_
      simp_all
     .omega
   simp_all
  have y:((u,n,ln):Xf)∈ES w v l G r (4*w*v):=by unfold ES;exact Gv.2 ⟨u,D2.2 I,Np.2 ⟨eK (u%4) e,D2.2 (gm _ _),d⟩⟩
  refine Ed.2 ⟨Yp w v (λa=>ae (G a) r) o (u,n,ln),?_,?_⟩
  .unfold FA
   grind
  .unfold bD Yp;simp only;rw[ox H I F C]
def qK{a b:Cl}(h:Ez a b=U)(c:a≠b):Ez b a=J:=by
 have h:=wI.1 h;refine wJ.2 ?_
 grind
def Hb.root{w v:Nat}(o:S3 w v){k:Int}{l:TD}{r:Mv}{G:TH}{L:List B_}(h:Hb w v k l r G L){ln:Ln}{s:Bool}:bT ln s L r (W L)=Iw ln s (ae (G 0) r) (ra w 0):=by
 have p:0<4*w*v:=(GK o.sh).1;unfold bT Iw;rw[y0,h.co.z,lX h.rk.1];have d:0∈(HZ ln s L).flatMap Prod.snd↔aV ln (aq r (ra w 0))=s:=by
  have f:∀x∈L,∀c∈x.2,c=0->x.1=aq r (ra w 0):=λx g c i j=>by have:=h.st.at' x g c i;simp only[j,h.co.z]at this;rw[lX h.rk.1]at this;exact this.symm
  constructor
  .intro t;obtain⟨a,q,j⟩:=Gv.1 t;obtain⟨x,g,rfl⟩:=Ed.1 q;obtain⟨g,n⟩:=Hs.1 g;have b:0∈x.2:=by simpa using j
   rw[←f x g 0 b rfl];exact of_decide_eq_true n
  .intro m;have j:0∈L.flatMap Prod.snd:=h.st.pm.mem_iff.2 (D2.2 p);obtain⟨x,g,b⟩:=Gv.1 j;refine Gv.2 ⟨(aq (wd ln) x.1,x.2.reverse),Ed.2 ⟨x,Hs.2 ⟨g,FX ?_⟩,rfl⟩,by simpa using b⟩;rw[f x g 0 b rfl];exact m
 by_cases i:aV ln (aq r (ra w 0))=s
 .rw[rv (d.2 i),rv i]
 .rw[ts (λe=>i (d.1 e)),ts i]
theorem Hb.fold{w v:Nat}(B:S3 w v){k:Int}(hk:0<=k){l:TD}{r:Mv}{G:TH}{L:List B_}(h:Hb w v k l r G L){ln:Ln}{s o:Bool}(T:∃p∈ES w v l G r (4*w*v),p.2.2=ln)
  {l':TD} (m:l'.Perm (l++FA w v (λa=>ae (G a) r) o ln (ES w v l G r (4*w*v)))) (ap:HB l') {L':List B_} (H:L'.Perm (Iv ln s o L)) (an:L'.Pairwise λa b=>Ez a.1 b.1=U) :
  Hb w v (3*k+32) l' (bT ln s L r (W L)) (Gj w ln s G r) L':=by
 have C:=B.sh;obtain⟨p0,Y,K⟩:=T;have P:=ZE B h.co h.rk Y;rw[K]at P;have F:=P.2.2.2;have N:∀c,c<4*w*v->(G c).1<8:=λc d=>(h.co.ok c d).1;have f:=DA (l':=l') C h.co.g N h.rk.1 P.1 (s:=s) λu e n hu S V A=>by have h1:=h.keys B (ln:=ln) (o:=o) hu S V A;rw[show Es l' u e=decide (((DO u,DO e):Ku)∈l'.map bD)from rfl,Gp,(m.map bD).mem_iff,ME,F_,h1];rw[show(Es l u e=J)=(((DO u,DO e):Ku)∈l.map bD)by unfold Es;rw[Gp]]
 have R:=Yn B f.1 f.2;have al:=h.root B (ln:=ln) (s:=s);have av:Mp (λc=>aq (ae (Gj w ln s G r c) (bT ln s L r (W L))) (ra w c)) (EW (4*w*v)) (Iv ln s o L):=h.st.fold λc d=>by
  have d:=D2.1 d;have hq:(ra w c).2.2<4:=(cg C d).2.2.2.2;rw[al,Az];unfold Iw;split
  .rw[ny eH (jx _) hq]
  .rfl
 have y:=av.perm H;have M:∀c∈FA w v (λa=>ae (G a) r) o ln (ES w v l G r (4*w*v)),VK w v c:=λc d=>by
  unfold FA at d;obtain⟨p,m,rfl⟩:=Ed.1 d;obtain⟨m,_⟩:=Hs.1 m;obtain⟨x,i,hi,t,I,aE,H⟩:=nM m;have E:=ox C x (gm _ _) t;have ax:(Yp w v (λa=>ae (G a) r) o p).2.2=1∨(Yp w v (λa=>ae (G a) r) o p).2.2=2:=by
   unfold Yp
   grind
  refine⟨⟨p.1,Yy w v p.1 p.2.1,p.2.1,rfl,rfl,x,by rw[E];exact gm _ _,by rw[E];exact t,I,a_,a_⟩,a_,a_⟩
 have X:((l++FA w v (λa=>ae (G a) r) o ln (ES w v l G r (4*w*v))).map bD).Nodup:=by
  rw[ME,qb5];refine⟨gS h.so,?_,λa ha b z e=>?_⟩
  .unfold FA;rw[y5,List.Nodup,KZ];refine(qcR.1 ((pas_pw C (l:=l) (G:=G) (r:=r)).filter _)).imp λ{p q} Z e=>?_;obtain⟨m,hq,ay⟩:=Z;obtain⟨x,i,hi,t,_⟩:=nM (Hs.1 m).1;obtain⟨ag,j,hj,ad,_⟩:=nM (Hs.1 hq).1;simp only[Function.comp,bD,Yp,x3]at e;have e1:p.1=q.1:=Ky e.1;have e2:Yy w v p.1 p.2.1=Yy w v q.1 q.2.1:=Ky e.2;rw[ox C x (gm _ _) t,ox C ag (gm _ _) ad]at e2
   simp_all
  .subst e;obtain⟨c,d,rfl⟩:=Ed.1 z;obtain⟨⟨u,e,n,q1,q2,hu,S,V,A,_⟩,_⟩:=M c d;have hk:bD c=((DO u,DO e):Ku):=by unfold bD;rw[q1,q2]
   rw[hk]at ha z;have:=((h.keys B hu S V A).1 z).1;unfold Es at this
   simp_all
 refine⟨λc d=>?_,ZN ap ((m.map bD).nodup_iff.2 X),R,?_,y,?_⟩
 .rcases F_.1 (m.mem_iff.1 d)with d|d
  .exact h.vk c d
  .exact M c d
 .unfold bT;split
  .exact aU (dX h.rk F) a_
  .exact aU h.rk a_
 .have h2:L'.Pairwise λa b=>a.1≠b.1:=KZ.1 y.nd;exact(List.Pairwise.and an h2).imp λ{a b} D=>qK D.1 D.2
def t3{n0:Nat}{h:HL}{z:TV}{Ms:List Sk}(d:q_ h z 4 Eb Ms)(c:GN n0 h Ms):XB h z (Ms.map HR):=by
 refine⟨Ms.map λs=>(s.1,s.2.1),ls45 d,d_,λi m a=>?_⟩;rw[GL]at a;cases b:Ms[i]? with
 |none=>rw[b]at a;cases a
 |some q=>rw[b]at a;cases a;exact⟨q.2.2,by rw[GL,b];rfl,(c.1 q (A9 b)).ls bc⟩
def Zy{L:List B_}(h:∀s∈L,s.2≠[]):W L<=W (L.flatMap Prod.snd):=by
 induction L with
 |nil=>simp
 |cons a L c=>
  rw[kD,IL,j1];have b:=qbG.2 (h a MA)
  grind
def Zz{L:List B_}{a:B_}(h:a∈L):W a.2<=W (L.flatMap Prod.snd):=by
 induction L with
 |nil=>cases h
 |cons b L c=>grind
section
variable {w v:Nat} {k:Int} {l:TD} {r:Mv} {G:TH} {L:List B_}
def Hb.tot(h:Hb w v k l r G L):W (L.flatMap Prod.snd)=4*w*v:=by rw[h.st.pm.length_eq,lD]
def Hb.lenL(h:Hb w v k l r G L):W L<=4*w*v:=by have:=Zy h.st.ne;rw[h.tot]at this;exact this
def Hb.lenP(h:Hb w v k l r G L){a:B_}(b:a∈L):W a.2<=4*w*v:=by have:=Zz b;rw[h.tot]at this;exact this
def Hb.pos(a:S3 w v)(h:Hb w v k l r G L):0<W L:=by
 have c:=(GK a.sh).1;have b:=h.tot
 grind
def Hb.idlt(h:Hb w v k l r G L){a:B_}(b:a∈L){c:Nat}(d:c∈a.2):c<4*w*v:=D2.1 (h.st.pm.mem_iff.1 (Gv.2 ⟨a,b,d⟩))
def Hb.cell(e:S3 w v)(h:Hb w v k l r G L){a:B_}(b:a∈L):a.1.2.2<4/\-(k+15)<=a.1.1/\a.1.1<=k+15/\-(k+15)<=a.1.2.1/\a.1.2.1<=k+15:=by
 obtain⟨c,f⟩:=qdl _ (h.st.ne a b);have d:aq (ae (G c) r) (ra w c)=a.1:=h.st.at' a b c f;have g:=qN e h.co h.rk (h.idlt b f);rw[d]at g;have e:a.1.2.2<4:=by rw[←d];exact fi
 omega
end
def tabO(w n:Nat):Bool:=(EW n).all λj=>(EW j).all λi=>Ez (ra w j) (ra w i)
def allO:∀w:Nat,1<=w->w<=3->tabO w 36=J:=by
 have a:((EW 3).all λw=>tabO (w+1) 36)=J:=by decide +kernel
 intro w b c;have:=D7.1 a (w-1) (D2.2 a_)
 simp_all
def C9{w v:Nat}(a:S3 w v){i j:Nat}(b:i<j)(g:j<4*w*v):Ez (ra w j) (ra w i)=J:=by
 obtain⟨c,d,e,f⟩:=a.n;have:=D7.1 (allO w a.1 a.2.1) j (D2.2 a_)
 simp_all
def AF{w v:Nat}(m:S3 w v):Hb w v 0 [] ET (λ_=>ET) (wC w v):=by
 have k:=m.sh;have f:(wC w v).Pairwise λa b=>Ez b.1 a.1=J:=by unfold wC;rw[KZ];have o:(EW (4*w*v)).Pairwise λi j=>i<j:=qbt;exact(qcR.1 o).imp λ{a b} h=>C9 m h.2.2 (D2.1 h.2.1)
 refine⟨λc d=>(by cases d),.nil,⟨λc e n _ _ _=>?_,rfl,λc _=>Bn a_⟩,Bn a_,⟨?_,λs l c d=>?_,λs k=>?_,?_⟩,f⟩
 .unfold Gt Es;simp
 .rw[List.Nodup,KZ];refine f.imp λ{a b} h e=>?_;have:=wJ.1 h
  simp_all
 .obtain⟨i,g,rfl⟩:=Ed.1 l;have g:=D2.1 g;have d:c=i:=by simpa using d
  subst d;show aq (ae ET ET) (ra w c)=ra w c;rw[qc q7,pP (cg k g).2.2.2.2]
 .obtain⟨i,g,rfl⟩:=Ed.1 k;simp
 .have:(wC w v).flatMap Prod.snd=EW (4*w*v):=by
   unfold wC;rw[qcz]
   simp_all
  rw[this]
def eZ{w v:Nat}(u:S3 w v){H:HL} :
  ∃x h' Ms,aD cc ac 12 [.i (.ofNat w),.i (.ofNat v)] (h_ aa H) [.i (.ofNat w),.i (.ofNat v),.v rW,.i 0,.i 0,.i 0,.v x] (h_ aa h')/\xk H h'/\q_ h' x 4 Eb Ms/\GN (W H) h' Ms/\Ms.map HR=wC w v:=by
 have P:=u.sh;obtain⟨Y,Z,b3,b4⟩:=u.n;have hN:=GK P;have S:=u12 (ls:=[.i (.ofNat w),.i (.ofNat v)]) (K:=λV h'=>∃x Ms,V=[.i (.ofNat w),.i (.ofNat v),.v rW,.i 0,.i 0,.i 0,.v x]/\xk H h'/\q_ h' x 4 Eb Ms/\GN (W H) h' Ms/\Ms.map HR=wC w v) (H:=H) rfl (by
  unfold f12;simp only[w7];refine c_ ?_;refine bo (g9:=HL×FO×List Sk) (4*w*v) (λj s=>[.i (DO j),.i (.ofNat w),.i (.ofNat v),.v rW,.i 0,.i 0,.i 0,.v s.2.1]) (λ_ s=>s.1)
   (λj s=>xk H s.1/\FW (W H) s.1 s.2.1 (DW Q 0 0) (DW Q 0 0) s.2.2 [] []/\s.2.2.map HR=(EW j).map λi=>(ra w i,[i]))
   (j0:=0) (s0:=(H,DW Q 0 0,[])) rfl rfl (Eg _) ⟨.refl _,⟨.nil _ _ _ _,.nil _ _ _ _,.nil _ _ _ _,(λb y=>by cases y),.nil _ _⟩,rfl⟩ ?_
  rintro j ⟨h,x,Ms⟩ hj ⟨t,k,d⟩ L g;simp only at t k d ⊢;refine c_ ?_;rw[hu a_];refine m9 ?_;rw[qZ a_];refine m9 ?_;by_cases f:j<4*w*v
  case neg=>obtain rfl:j=4*w*v:=a_;rw[aw (B7 _)];refine c_ ?_;exact⟨x,Ms,rfl,t,k.os.ls dF,by simpa using k.pc,d⟩
  rw[aB f];refine c_ ?_;refine am (ii u f) ?_;unfold EB;refine c_ ?_;have M:W Ms=j:=by have:=congrArg List.length d;simpa using this
  have C:=t.len;have r:xk h (h++[HO.o (EJ [EO DQ (DO j)] 1 J)]):=⟨_,rfl⟩;have m:=k.pre r;refine m.os.KG (a:=((ra w j,DW (O ⟨W h,0,le 1⟩) 1 2,[j]):Sk)) dF z_ rfl rfl rfl (by unfold aY;rw[FE a_,FE a_];rfl) ?_
  intro X G D B q I l;have R:i' (W H) (h++[HO.o (EJ [EO DQ (DO j)] 1 J)]) (DW (O ⟨W h,0,le 1⟩) 1 2) 1 l_ [j]:=.inr ⟨W h,2,rfl,C,aG,.inr rfl⟩;have A:=m.apS (c:=ra w j) R (λp E b y z=>by
   have e:W h=b:=by simpa[i_]using y
   have:=((k.pc.1 p E).i_ z).2;omega) D q l
  have F:xk H G:=bR (t.trans r) λi T hi N=>q i T N λe=>by have:=(k.os.i_ e).1;omega
  refine c_ ?_;refine ab B ?_;refine m9 ?_;rw[aI a_];exact g (G,X,Ms++[_]) f ⟨F,A,by rw[ME,d,RL,ME];rfl⟩)
 grind
structure StH(w v:Nat)(n0:Nat)(h:HL)(k:Int)(z:FO)(r:Mv)(zs:FO)(l:TD)(G:TH)(Ms:List Sk):Prop where
 cr:q_ h z 3 q9 l
 st:Hb w v k l r G (Ms.map HR)
 ss:q_ h zs 4 Eb Ms
 pc:GN n0 h Ms
def StH.pre{w v n0:Nat}{h h':HL}{k:Int}{z:TV}{r:Mv}{c:TV}{l:TD}{G:TH}{Ms:List Sk}(a:StH w v n0 h k z r c l G Ms)(b:xk h h'):StH w v n0 h' k z r c l G Ms:=
 ⟨a.cr.pre b,a.st,a.ss.pre b,a.pc.ke λ_ _ _ _ d _=>b.get d⟩
def kB:Nat->Int
 |0=>0
 |n+1=>3*kB n+32
def yL{j:Nat}(h:j<=5):0<=kB j/\kB j<=3872:=by have:j=0∨j=1∨j=2∨j=3∨j=4∨j=5:=a_;rcases this with rfl|rfl|rfl|rfl|rfl|rfl<;>simp[kB]
def Zl{j:Nat}(h:j<=4):kB j<=1280:=by have:j=0∨j=1∨j=2∨j=3∨j=4:=a_;rcases this with rfl|rfl|rfl|rfl|rfl<;>simp[kB]
def Gz(a b:Int):Int:=if a<b then -1 else if b<a then 1 else 0
def Rr:TE->Int
 | []=>0
 |a::l=>if a=0 then Rr l else a
def q5(p:Int×Int):Tn:=[EO DQ p.1,EO DQ p.2]
def YC(p:Int×Int):W (q5 p)=2:=rfl
def bt(a:Int):Cc 92 [.i a] [.b U]:=by refine q92 rfl ?_;unfold f92;simp only[w7];simp(disch:=omega)only[↓qb]
def hB(a b:Int):Cc 64 [.i a,.i b] [.i (Gz a b)]:=by
 refine q64 rfl ?_;unfold f64;simp only[w7]
 repeat (first|simp(disch:=omega)only[↓qb]|refine am (bt a) ?_|refine am (bt b) ?_)
 unfold Gz;by_cases c:a<b
 .simp(disch:=omega)only[↓qb];simp[c]
 .by_cases d:b<a
  .simp(disch:=omega)only[↓qb];simp[c,d]
  .simp(disch:=omega)only[↓qb];simp[c,d]
def Bt{l:TE}{j:Nat}{a:Int}(b:l[j]?=O a):Rr (l.drop j)=if a=0 then Rr (l.drop (j+1))else a:=by rw[RK (ah b)];have c:l[j]'(ah b)=a:=jw;rw[c];rfl
def ordr_c{h:HL}{x:TV}{l:List (Int×Int)}(c:q_ h x 2 q5 l)(m:W l<=1000) :
  aD cc ac 63 [.v x] (h_ aa h) [.i (Rr (l.map λp=>Gz p.1 p.2))] (h_ aa h):=by
 exact xK x63 (o_ c.g_ vc) (by
  unfold f63;simp only[w7];refine c_ ?_;refine aO c ?_;refine bY (W l) (λj=>Rr (l.map λp=>Gz p.1 p.2)=Rr ((l.map λp=>Gz p.1 p.2).drop j)) (j0:=0) rfl (Eg _) rfl ?_;intro j n f g d;refine c_ ?_;by_cases b:j<W l
  .rw[aB b];refine c_ ?_;obtain⟨p,k⟩:=ak b;refine aJ c rfl k ?_;unfold q5
   repeat (first|simp(disch:=omega)only[↓qb]|refine am (hB p.1 p.2) ?_)
   rw[Bt (a:=Gz p.1 p.2) k_]at f;by_cases e:Gz p.1 p.2=0
   .rw[A7 e];refine c_ ?_;rw[aI a_]
    simp_all
   .rw[B3 e];refine c_ ?_
    simp_all
  .obtain rfl:j=W l:=a_;rw[aw (B7 _)];refine c_ ?_;refine⟨?_,Ei⟩;rw[f,u1 k_];rfl)
def SX{x y q x' y' q':Int}(b:0<=q/\q<=255)(a:0<=q'/\q'<=255):Cc 34 [.i x,.i y,.i q,.i x',.i y',.i q'] [.i (Rr [Gz y y',Gz x x',Gz q q'])]:=by
 refine q34 rfl ?_;unfold f34;simp only[w7];refine c_ ?_;refine ai (h':=[]++[HO.o (EJ [EO DQ y,EO DQ y',EO DQ x,EO DQ x',EO DQ q,EO DQ q'] 2 J)]) (ordr_c (l:=[(y,y'),(x,x'),(q,q')]) ?_ d_) ?_
 .exact Ri (h:=[]) (e:=2) (enc:=q5) (l:=[(y,y'),(x,x'),(q,q')]) YC (by rfl)
 .simp(disch:=omega)only[↓qb];rfl
def yw(n:Int):Tn:=[EO DQ n]
def or_c{h:HL}{x:TV}{l:TE}(b:q_ h x 1 yw l)(k:W l<=1000) :
  aD cc ac 33 [.v x] (h_ aa h) [.i (Rr l)] (h_ aa h):=by
 exact xK x33 (o_ b.g_ vc) (by
  unfold f33;simp only[w7];refine c_ ?_;refine aO b ?_;refine bY (W l) (λj=>Rr l=Rr (l.drop j)) (j0:=0) rfl (Eg _) rfl ?_;intro j m e g c;refine c_ ?_;by_cases a:j<W l
  .rw[aB a];refine c_ ?_;obtain⟨p,f⟩:=ak a;refine aJ b rfl f ?_;rw[show yw p=[EO DQ p]from rfl];refine c_ ?_;rw[Bt f]at e;by_cases d:p=0
   .rw[A7 d];refine c_ ?_;rw[aI a_]
    simp_all
   .rw[B3 d];refine c_ ?_
    simp_all
  .obtain rfl:j=W l:=a_;rw[aw (B7 _)];refine c_ ?_;refine⟨?_,Ei⟩;rw[e,u1 (B7 _)];rfl)
def Lx(a b:Cl):Int:=Rr [Gz a.2.1 b.2.1,Gz a.1 b.1,Gz (DO a.2.2) (DO b.2.2)]
def cmpN(a b:Nat):Gz (DO a) (DO b)=if a<b then -1 else if b<a then 1 else 0:=by
 unfold Gz
 simp_all
def Yi(a b:Cl):0<Lx a b↔Ez a b=J:=by obtain⟨x,y,q⟩:=a;obtain⟨u,v,r⟩:=b;rw[wJ];unfold Lx;simp only[Rr,cmpN];unfold Gz;omega
def Yj(a b:Cl):Lx a b<0↔Ez b a=J:=by obtain⟨x,y,q⟩:=a;obtain⟨u,v,r⟩:=b;rw[wJ];unfold Lx;simp only[Rr,cmpN];unfold Gz;omega
def qo{a b:Cl}(c:a.2.2<4)(d:b.2.2<4):Cc 34 (EB a++EB b) [.i (Lx a b)]:=
 SX (x:=a.1) (y:=a.2.1) (q:=DO a.2.2) (x':=b.1) (y':=b.2.1) (q':=DO b.2.2) ⟨IK _,jw⟩ ⟨IK _,jw⟩
def tabNg(w v c:Nat):Bool:=(EW 3).all λe=>mP 76 (EB (ra w c)++[.i (DO e)]) (EB (E5 (ra w c) e)++[.i 0])
def allNg:∀w v:Nat,1<=w->w<=3->1<=v->v<=3->((EW (4*w*v)).all λc=>tabNg w v c)=J:=by
 have a:((EW 3).all λw=>(EW 3).all λv=>(EW (4*(w+1)*(v+1))).all λc=>tabNg (w+1) (v+1) c)=J:=e_;intro w v d e f g;have b:=D7.1 a (w-1) (D2.2 a_);have h:=D7.1 b (v-1) (D2.2 a_)
 simp_all
def ng_c{w v c e:Nat}(h:S3 w v)(a:c<4*w*v)(b:e<3):Cc 76 (EB (ra w c)++[.i (DO e)]) (EB (E5 (ra w c) e)++[.i 0]):=by have:=D7.1 (allNg w v h.1 h.2.1 h.2.2.1 h.2.2.2) c (D2.2 a);have:=D7.1 this e (D2.2 b);exact fm this rfl e_ rfl
def m5{m:Mv}(j:Ew 16384 m):Cc 81 (EG m) [.b (decide (4<=m.1))]:=by
 obtain⟨t,x,y⟩:=m;obtain⟨c,d,f,g,h,i⟩:=j;simp only at c d f g h i;have a:=Bb (t:=DO t) (x:=x) (y:=y) ⟨IK _,jw⟩;have k:vMI (DO t) x y=J:=by
  unfold vMI
  grind
 rw[k,rv rfl]at a;refine q81 rfl ?_;unfold f81;simp only[w7];simp only[EG];refine c_ ?_;refine am a ?_;refine c_ ?_;by_cases e:4<=t
 .rw[Ho (show(4:Int)<=DO t by grind),FX e]
  try trivial
 .rw[FL (show DO t<(4:Int)by grind),Ga e]
  try trivial
def DH{h:HL}{b e:Nat}{cs ds:Tn}{K:Tf}(a:h[b]?=O (.o (.cells cs e J)))(f:2<=W cs)(c:ds=(cs.drop 0).take 2)(d:K ds) :
  P1.km (EZ (lM b)) (@j_ _ ⟨λx=>P1.qa x (@j_ _ ⟨P1.km (Fq 0 x) (@j_ _ ⟨λy=>P1.qa y (@j_ _ ⟨P1.km (Fq 0 y) (@j_ _ ⟨λz=>P1.qa z (@j_ _ ⟨P1.oo (.lg cc 2 z) h (@j_ _ ⟨K⟩)⟩)⟩)⟩)⟩)⟩)⟩):=by
 refine af (x:=lM b) rfl (ab (az b) (af (x:=EQ (O ⟨b,0+0,Q⟩)) rfl (ab (by simp[aH,q8,aW,bG,bu,aR,aL]) ?_)));exact tb (p:=EQ (O ⟨b,0+0,Q⟩)) (bp a) a_ c d
def r_stO{h:HL}{b e:Nat}{cs new:Tn}{K:Tb}{o:Nat}(c:h[b]?=O (.o (.cells cs e J)))(f:o+W new<=W cs)(d:K [] (h.set b (.o (EJ (cs.take o++new++cs.drop (o+W new)) e J)))) :
  P1.heap (.st (EQ (O ⟨b,o,Q⟩)) new) h (@j_ _ ⟨K⟩):=by
 have a:(Hp.st (EQ (O ⟨b,o,Q⟩)) new).run (w_ aa h) (W h)=O ([.set b (EJ (cs.take o++new++cs.drop (o+W new)) e J)],[]):=by show NC (EQ (O ⟨b,o,Q⟩)) new (w_ aa h) (W h)=_;unfold NC;simp only;rw[bI c];simp only;unfold v_;rw[rv f];rfl
 exact bK a d
def DN{id s:Nat}(b:s<2){K:TV->Prop}(a:K (EQ (O ⟨id,1+s,Q⟩))) :
  P1.km (EZ (lM id)) (@j_ _ ⟨λx=>P1.qa x (@j_ _ ⟨P1.km (Fq 1 x) (@j_ _ ⟨λy=>P1.qa y (@j_ _ ⟨P1.km (Y9 2 1 y (DO s)) (@j_ _ ⟨λq=>P1.qa q (@j_ _ ⟨K q⟩)⟩)⟩)⟩)⟩)⟩):=by
 have g:∀o,aH (EQ (O ⟨id,o,Q⟩))=J:=λo=>by simp[aH,q8,aW,bG,bu,aR,aL]
 obtain rfl|rfl:s=0∨s=1:=a_
 .exact af (x:=lM id) rfl (ab (az id) (af (x:=EQ (O ⟨id,1,Q⟩)) rfl (ab (g _) (af (x:=EQ (O ⟨id,1,Q⟩)) rfl (ab (g _) a)))))
 .exact af (x:=lM id) rfl (ab (az id) (af (x:=EQ (O ⟨id,1,Q⟩)) rfl (ab (g _) (af (x:=EQ (O ⟨id,2,Q⟩)) rfl (ab (g _) a)))))
def Vw{y:Nat}{h:HL}{n:Nat}{kv:TV}{ks:List K6}{is:TC}{vs:Tn}{ls:List (List K2)}(r:Sm y h n kv ks is vs ls)(k:K6){v:TV}(s:v=EU ⟨N9 k⟩)(Inv:Te){b:Te}{A:(TG->HL->Prop)->Prop}{B:TV->(TG->HL->Prop)->Prop}
  (h1:∀l g,Inv l g->b l g) (o:k∉ks->∀a:TG->HL->Prop,(∀l g,Inv l g->a l g)->A a) (p:∀(i:Nat) id,ks[i]?=O k->is[i]?=O id->∀a:TG->HL->Prop,(∀l g,Inv l g->a l g)->B (lM id) a) :
  P1.oo (.fn (Hv cc 164 U (EQ Q) (.map (O n)) v U)) h (@j_ _ ⟨λu=>P1.C7 u (@j_ _ ⟨λm w=>P1.qa m (@j_ _ ⟨P1.wb w (@j_ _ ⟨P1.km (mn 4 m (EQ Q)) (@j_ _ ⟨λt=>P1.join (@j_ _ ⟨b⟩) (@j_ _ ⟨λj=>P1.cond t (@j_ _ ⟨A j⟩) (@j_ _ ⟨B m j⟩)⟩)⟩)⟩)⟩)⟩)⟩):=by
 refine r.look k s (λq=>?_) λi id d f=>?_
 .simp(disch:=omega)only[↓DT];refine ab rfl ?_
  try simp(disch:=omega)only[↓DT]
  refine af (x:=J) rfl ?_;refine di Inv h1 λa c=>?_;exact⟨λ_=>o q a c,λe=>(by cases e)⟩
 .simp(disch:=omega)only[↓DT];refine ab (az _) ?_
  try simp(disch:=omega)only[↓DT]
  refine af (x:=U) rfl ?_;refine di Inv h1 λa c=>?_;exact⟨λe=>(by cases e),λ_=>p i id d f a c⟩
def m6{k:K6}{s:GP}:W (Ej k s).1<=W s.1+1:=by
 unfold Ej
 grind
def V6{w v:Nat}{l:TD}{P:TH}{i e:Nat}{s:GP}:W (fB w v l P i e s).1<=W s.1+1:=by
 unfold fB;have:=m6 (k:=v9 (aq (P i) (ra w i)) (aq (P i) (E5 (ra w i) e))) (s:=s);simp only;split
 .exact this
 .split
  .exact this
  .split
   .exact this
   .exact this
def nY{w v:Nat}{l:TD}{P:TH}{i:Nat}:∀(L:TC) (s:GP),W (L.foldl (λs e=>fB w v l P i e s) s).1<=W s.1+W L
 | [],s=>d_
 |e::L,s=>by
  have a:=nY (w:=w) (v:=v) (l:=l) (P:=P) (i:=i) L (fB w v l P i e s);have b:=V6 (w:=w) (v:=v) (l:=l) (P:=P) (i:=i) (e:=e) (s:=s)
  grind
def pY{w v:Nat}{l:TD}{P:TH}:∀n,W (E2 w v l P n).1<=3*n
 |0=>by simp[E2]
 |n+1=>by
  have a:=pY (w:=w) (v:=v) (l:=l) (P:=P) n;have b:=nY (w:=w) (v:=v) (l:=l) (P:=P) (i:=n) (EW 3) (E2 w v l P n);have c:E2 w v l P (n+1)=(EW 3).foldl (λs e=>fB w v l P n e s) (E2 w v l P n):=by unfold E2;rw[RL (n:=n),qcw];rfl
  grind
def Cg{k:K6}{s:GP}{m:Nat}(h:∀q∈s.2,W q<=m):∀q∈(Ej k s).2,W q<=m:=by
 unfold Ej
 grind
def BN{s:GP}{m j:Nat}{p:K2}(h:∀q∈s.2,W q<=m):∀q∈(HH j p s).2,W q<=m+1:=by
 intro q a;rcases qbC a with a|rfl
 .grind
 grind
def V7{w v:Nat}{l:TD}{P:TH}{i e m:Nat}{s:GP}(h:∀q∈s.2,W q<=m):∀q∈(fB w v l P i e s).2,W q<=m+1:=by
 have a:=Cg (k:=v9 (aq (P i) (ra w i)) (aq (P i) (E5 (ra w i) e))) h;have b:∀q∈(Ej (v9 (aq (P i) (ra w i)) (aq (P i) (E5 (ra w i) e))) s).2,W q<=m+1:=λq c=>Nat.le_succ_of_le (a q c);unfold fB;simp only;split
 .exact b
 .split
  .exact b
  .split
   .exact BN a
   .exact BN a
def nZ{w v:Nat}{l:TD}{P:TH}{i:Nat}:∀(L:TC) (s:GP) (m:Nat),(∀q∈s.2,W q<=m)->∀q∈(L.foldl (λs e=>fB w v l P i e s) s).2,W q<=m+W L
 | [],s,m,h=>by simpa using h
 |e::L,s,m,h=>by
  have a:=nZ (w:=w) (v:=v) (l:=l) (P:=P) (i:=i) L (fB w v l P i e s) (m+1) (V7 h)
  grind
def vy{w v:Nat}{l:TD}{P:TH}:∀n,∀q∈(E2 w v l P n).2,W q<=3*n
 |0=>by simp[E2]
 |n+1=>by
  have b:E2 w v l P (n+1)=(EW 3).foldl (λs e=>fB w v l P n e s) (E2 w v l P n):=by unfold E2;rw[RL (n:=n),qcw];rfl
  intro q a;rw[b]at a;have:=nZ (EW 3) _ _ (vy (w:=w) (v:=v) (l:=l) (P:=P) n) q a
  grind
structure SeX(h0:HL)(c:XC)(w v:Nat)(l:TD)(G:TH)(r:Mv)(xi:FO):Prop where
 h3:S3 w v
 cw:c.w=w/\c.v=v/\c.r=r
 xc:q_ h0 c.xc 3 q9 l
 pat:XA w v l
 gok:C' w v l G
 rok:Ew 4000 r
 nok:∀id e,id<4*w*v->e<3->NL (aq (ae (G id) r) (E5 (ra w id) e))=J
 im:q_ h0 xi 3 bX (C6 w v G r)
 pl:∀H,q_ H c.xc 3 q9 l->∃lx h',aD cc ac 74 [.i (DO w),.i (DO v),.v c.xc,.i (DO r.1),.i r.2.1,.i r.2.2] (h_ aa H) [.v lx,.i 0] (h_ aa h')/\xk H h'/\q_ h' lx 3 u9 (Fi w v G r)
structure SeS(h0:HL)(b mm n1:Nat)(c:XC)(lx:FO)(w v:Nat)(G:TH)(r:Mv)(rN:List Lit)(pn:Ti)(F:List DZ)(C:(Nat->Bool)->Prop)(A:GP)(kv:FO)(g:HL):Prop where
 ex:∃n DJ is vs,Pi g b c n rN DJ pn F/\(∀V,(n=U/\Rs rN DJ V)↔C V)/\Sm n1 g mm kv A.1 is vs A.2
 pl:q_ g lx 3 u9 (Fi w v G r)
 ln:n1<=g.length
 fr:∀(j:Nat) o,h0[j]?=O o->j≠b->i_ c.va≠O j->g[j]?=O o
def p3{h:HL}{b:Nat}{c:XC}{n:Bool}{rN:List Lit}{DJ:TE}{pn:Ti}{F:List DZ}(hp:Pi h b c n rN DJ pn F){w v:Nat}{l:TD}{G:TH}{r:Mv}{xi:TV}(Y:SeX h c w v l G r xi)(ev:∀j,i_ c.va=O j->i_ c.xc≠O j)(ex:∀j,i_ c.va=O j->i_ xi≠O j)
  (d8:∀i n,i<4*w*v->(∃e,e<3/\D_ w v i e=O n/\cX l (DO (min i n)) (DO e)≠0)->(Em pn i n).1<W rN) :
  ∃kv h' mm n1,aD cc ac 47 [.v (lM b),.v xi] (h_ aa h) [.v kv,.i 0] (h_ aa h')/\h.length<=n1/\∃lx,SeS h b mm n1 c lx w v G r rN pn F (λV=>(n=U/\Rs rN DJ V)/\∀i e,i<4*w*v->e<3->Gy pn w v l (λc=>ae (G c) r) V i e) (E2 w v l (λc=>ae (G c) r) (4*w*v)) kv h':=by
 have fu:=x47 (ls:=[.v (lM b),.v xi]) (K:=λrs h'=>∃kv mm n1,rs=[.v kv,.i 0]/\h.length<=n1/\∃lx,SeS h b mm n1 c lx w v G r rN pn F (λV=>(n=U/\Rs rN DJ V)/\∀i e,i<4*w*v->e<3->Gy pn w v l (λc=>ae (G c) r) V i e) (E2 w v l (λc=>ae (G c) r) (4*w*v)) kv h') (H:=h) (o_ (az _) (o_ Y.im.g_ vc)) (by
  unfold f47;simp only[w7];refine c_ ?_;obtain⟨hw,hv,hr⟩:=Y.cw;obtain⟨g1,e1⟩ : ∃g1,g1=h++[HO.o (.map [] 0)]:=⟨_,rfl⟩;rw[←e1];have k1:∀(j:Nat) o,h[j]?=O o->g1[j]?=O o:=λj o p=>jw;have l1:W g1=W h+1:=by rw[e1];simp
  have m1:g1[W h]?=O (.o (.map [] 0)):=by rw[e1];exact aG
  refine bA (ds:=[EO DQ (DO c.w),EO DQ (DO c.v),c.xc]) (k1 _ _ hp.hb) (by simp[aj]) rfl ?_;refine c_ ?_;refine ab Y.xc.g_ ?_;refine m9 ?_;refine bA (ds:=[EO DU (DO c.r.1),EO DQ c.r.2.1,EO DQ c.r.2.2]) (k1 _ _ hp.hb) (by simp[aj]) rfl ?_;refine c_ ?_;obtain⟨lx,T,cp,be,cn⟩:=Y.pl g1 (Y.xc.ke λj o p _=>k1 j o p);rw[←hw,←hv,←hr]at cp;refine ai cp ?_;refine c_ ?_;have l2:W g1<=W T:=be.len;have k2:∀(j:Nat) o,h[j]?=O o->T[j]?=O o:=λj o p=>be.get (k1 j o p);have d9:Pi T b c n rN DJ pn F:=⟨k2 _ _ hp.hb,hp.up.ke λj o p _=>k2 j o p,hp.va.ke λj o p _=>k2 j o p,hp.fo.ke λj o p _=>k2 j o p,hp.pr.ke λo ho=>k2 _ o ho,hp.fr,hp.ok⟩;have hN:W (C6 w v G r)=4*w*v:=by simp[C6]
  refine aO (Y.im.ke λj o p _=>k2 j o p) ?_;rw[hN];have ei:SeS h b (W h) (W T) c lx w v G r rN pn F (λV=>(n=U/\Rs rN DJ V)/\∀i e,i<0->e<3->Gy pn w v l (λc=>ae (G c) r) V i e) (E2 w v l (λc=>ae (G c) r) 0) (DW Q 0 0) T:=
   ⟨⟨n,DJ,[],[],d9,λV=>⟨λq=>⟨q,λi e hi=>a_⟩,λq=>q.1⟩,gE (be.get m1)⟩,cn,B7 _,λj o p _ _=>k2 j o p⟩
  refine aN (m:=4*w*v) (λm ls g=>∃j kv,ls=[.v kv,.i (DO j)]/\m=4*w*v-j/\j<=4*w*v/\SeS h b (W h) (W T) c lx w v G r rN pn F (λV=>(n=U/\Rs rN DJ V)/\∀i e,i<j->e<3->Gy pn w v l (λc=>ae (G c) r) V i e) (E2 w v l (λc=>ae (G c) r) j) kv g) ⟨0,_,rfl,rfl,Eg _,ei⟩ ?_;rintro m ls g ⟨j,kv,rfl,rfl,p,hg⟩ eL cr;refine Fc ?_;refine c_ ?_;by_cases E:j<4*w*v
  case neg=>
   obtain rfl:j=4*w*v:=a_;rw[aw (B7 _)];refine c_ ?_
   grind
  rw[aB E];refine c_ ?_;obtain⟨A0,bk⟩ : ∃A0,A0=E2 w v l (λc=>ae (G c) r) j:=⟨_,rfl⟩;obtain⟨C0,dr⟩ : ∃C0:(Nat->Bool)->Prop,C0=λV=>(n=U/\Rs rN DJ V)/\∀i e,i<j->e<3->Gy pn w v l (λc=>ae (G c) r) V i e:=⟨_,rfl⟩;rw[←bk,←dr]at hg;have hs:=Y.h3.sh;have d6:∀ {C:(Nat->Bool)->Prop} {A:GP} {kv:TV} {g:HL},SeS h b (W h) (W T) c lx w v G r rN pn F C A kv g->∃n,g[b]?=O (.o (EJ (aj c n) 15 J)):=λq=>by obtain⟨⟨n,DJ,is,vs,q1,_⟩,_⟩:=q;exact⟨n,q1.hb⟩
  have ca:∀ {C:(Nat->Bool)->Prop} {A:GP} {kv:TV} {g:HL},SeS h b (W h) (W T) c lx w v G r rN pn F C A kv g->q_ g c.xc 3 q9 l/\q_ g xi 3 bX (C6 w v G r):=λ{C A kv g} q=>by
   refine⟨Y.xc.ke λj o p R=>q.fr j o p (λe=>?_) λe=>ev j e R,Y.im.ke λj o p R=>q.fr j o p (λe=>?_) λe=>ex j e R⟩
   .obtain⟨cs,ad,M⟩:=wZ Y.xc R
    grind
   .obtain⟨cs,ad,M⟩:=wZ Y.im R
    grind
  obtain⟨n1,d4⟩:=d6 hg;refine DH (ds:=[EO DQ (DO c.w),EO DQ (DO c.v)]) d4 (by simp[aj]) rfl ?_;refine c_ ?_;rw[hw,hv];refine am (MM (tE w v hs.1 hs.2.1 hs.2.2.1 hs.2.2.2) E) ?_;unfold Lw;refine c_ ?_;refine aN (m:=3) (λm ls g=>∃e kv,ls=[.v kv,.i (DO e)]/\m=3-e/\e<=3/\SeS h b (W h) (W T) c lx w v G r rN pn F (λV=>C0 V/\∀e',e'<e->Gy pn w v l (λc=>ae (G c) r) V j e') ((EW e).foldl (λs e=>fB w v l (λc=>ae (G c) r) j e s) A0) kv g) ⟨0,kv,rfl,rfl,q7,?_⟩ ?_
  case refine_1=>simp_all
  rintro m2 fv g4 ⟨e,ay,rfl,rfl,he,bn⟩ eC bP;refine Fc ?_;refine c_ ?_;by_cases an:e<3
  case neg=>
   obtain rfl:e=3:=a_;rw[s_ q7];refine c_ ?_;rw[aI (by have:=Y.h3.n;omega)];refine cr _ _ _ a_ ⟨j+1,ay,rfl,rfl,E,?_⟩;have eP:E2 w v l (λc=>ae (G c) r) (j+1)=(EW 3).foldl (λs e=>fB w v l (λc=>ae (G c) r) j e s) A0:=by rw[bk];unfold E2;rw[RL (n:=j),qcw];rfl
   grind
  rw[r_ (show DO e<3 by grind)];simp(disch:=omega)only[↓DT];obtain⟨t,bm⟩ : ∃t,t=(EW e).foldl (λs e=>fB w v l (λc=>ae (G c) r) j e s) A0:=⟨_,rfl⟩;obtain⟨C1,dA⟩ : ∃C1:(Nat->Bool)->Prop,C1=λV=>C0 V/\∀e',e'<e->Gy pn w v l (λc=>ae (G c) r) V j e':=⟨_,rfl⟩;rw[←bm,←dA]at bn;refine di (λls g'=>∃kv',ls=[.v kv']/\SeS h b (W h) (W T) c lx w v G r rN pn F (λV=>C1 V/\Gy pn w v l (λc=>ae (G c) r) V j e) (fB w v l (λc=>ae (G c) r) j e t) kv' g') ?_ ?_
  case refine_1=>
   rintro ls g' ⟨kv',rfl,q⟩;refine c_ ?_;rw[Nj jw jw];refine bP _ _ _ ?_ ⟨e+1,kv',rfl,rfl,an,?_⟩
   .omega
   rw[RL (n:=e),qcw,←bm]
   grind
  intro jj bt;have ng:=ng_c Y.h3 E an;simp only[EB,ra,Fe,E7]at ng;refine am ng ?_;simp(disch:=omega)only[↓DT];obtain⟨eG,dk⟩:=ca bn;refine aJ dk rfl (dv E) ?_;rw[show bX (aq (ae (G j) r) (ra w j))=[EO DQ (aq (ae (G j) r) (ra w j)).1,EO DQ (aq (ae (G j) r) (ra w j)).2.1,EO DU (DO (aq (ae (G j) r) (ra w j)).2.2)]from rfl];simp(disch:=omega)only[↓DT];refine aJ bn.pl rfl (iA E) ?_;have dn:Ew 16384 (ae (G j) r):=aU (dX (Y.gok.ok j E) Y.rok) a_;rw[show u9 (ae (G j) r)=[EO DU (DO (ae (G j) r).1),EO DQ (ae (G j) r).2.1,EO DQ (ae (G j) r).2.2]from rfl];simp(disch:=omega)only[↓DT];have eg:=cg hs E;have fp:=L1 (c:=ra w j) (e:=e) eg.2.2.2.2 an;have fs:(ra w j).1<=100/\(ra w j).2.1<=100/\0<=(ra w j).1/\0<=(ra w j).2.1:=by have b1:=Y.h3.n;have d1:j / 4%w<=j / 4:=qdP _ _;have d2:j / 4 / w<=j / 4:=qc8 _ _;refine⟨qdB.2 (show j / 4%w<=100 by omega),qdB.2 (show j / 4 / w<=100 by omega),IK _,IK _⟩
  have mv:=Z0 dn (c:=E5 (ra w j) e) a_;rw[rv (Y.nok j e E an)]at mv;simp only[ra]at mv;simp only[EB,EG,Fe,E7]at mv;refine am mv ?_;simp(disch:=omega)only[↓DT];obtain⟨f,ea⟩ : ∃f,f=aq (ae (G j) r) (ra w j):=⟨_,rfl⟩;obtain⟨k,eb⟩ : ∃k,k=aq (ae (G j) r) (E5 (ra w j) e):=⟨_,rfl⟩;have ec:f.2.2<4:=by rw[ea];exact fi
  have ef:k.2.2<4:=by rw[eb];exact fi
  have dB:aq (ae (G j) r) (DO (j / 4%w),DO (j / 4 / w),j%4)=f:=ea.symm;have dC:aq (ae (G j) r) (E5 (DO (j / 4%w),DO (j / 4 / w),j%4) e)=k:=eb.symm;simp only[ra,dB,dC];have c2:=qo ec ef;simp only[EB,Fe,E7]at c2;refine am c2 ?_;simp(disch:=omega)only[↓DT];have ci:=Yi f k;have dm:∀K:Bool->Prop,K (Ez f k)->P1.cmp .gtr (Lx f k) 0 (@j_ _ ⟨K⟩):=λK hK=>by
   cases av:Ez f k with
   |true=>rw[av]at hK ci;rw[DY (ci.2 rfl)];exact hK
   |false=>rw[av]at hK ci;rw[A6 k_];exact hK
  refine dm _ ?_;refine di (λls g'=>ls=[.i (if Ez f k then 1 else 0),.i (v9 f k).1.1,.i (v9 f k).1.2.1,.i (DO (v9 f k).1.2.2),.i (v9 f k).2.1,.i (v9 f k).2.2.1,.i (DO (v9 f k).2.2.2)]/\g'=g4) ?_ ?_
  case refine_2=>
   intro jk cl;unfold v9 at cl;cases av:Ez f k with
   |true=>
    rw[av]at cl;simp(disch:=omega)only[↓DT]
    simp_all
   |false=>
    rw[av]at cl;simp(disch:=omega)only[↓DT]
    simp_all
  rintro ls g' ⟨rfl,rfl⟩;simp(disch:=omega)only[↓DT];obtain⟨⟨n2,W2,is,vs,q1,q2,q3⟩,q4,q5,q6⟩:=bn;have fb:W t.1<=1000000:=by have a1:=pY (w:=w) (v:=v) (l:=l) (P:=λc=>ae (G c) r) j;have a2:=nY (w:=w) (v:=v) (l:=l) (P:=λc=>ae (G c) r) (i:=j) (EW e) A0;rw[←bk]at a1;rw[←bm,lD]at a2;have:=Y.h3.n;omega
  refine Vw q3 (v9 f k) rfl (λls g5=>∃id I Z ag,ls=[.v (lM id),.v I]/\Sm (W T) g5 (W h) I (Ej (v9 f k) t).1 Z ag (Ej (v9 f k) t).2/\Z[(Ej (v9 f k) t).1.idxOf (v9 f k)]?=O id/\(Ej (v9 f k) t).1[(Ej (v9 f k) t).1.idxOf (v9 f k)]?=O (v9 f k)/\Pi g5 b c n2 rN W2 pn F/\q_ g5 lx 3 u9 (Fi w v G r)/\T.length<=W g5/\∀(j:Nat) o,h[j]?=O o->j≠b->i_ c.va≠O j->g5[j]?=O o) ?_ ?_ ?_
  case refine_3=>
   intro i id bs e0 ez b5
   try simp(disch:=omega)only[↓DT]
   have d7:v9 f k∈t.1:=A9 bs;have ct:Ej (v9 f k) t=t:=by unfold Ej;rw[rv d7]
   have b4:t.1.idxOf (v9 f k)=i:=by have e1:=Gn (ah bs);rw[bs]at e1;rw[Fm e1];exact q3.nd.idxOf_getElem i (ah bs)
   grind
  case refine_2=>
   intro hn ez b5
   try simp(disch:=omega)only[↓DT]
   obtain⟨gA,eA⟩ : ∃gA,gA=g'++[HO.o (EJ [DW Q 0 0,DW Q 0 0,DW Q 0 0] 3 J)]:=⟨_,rfl⟩;rw[←eA];have kA:∀(i:Nat) o,g'[i]?=O o->gA[i]?=O o:=λi o hi=>jw;have lA:W gA=W g'+1:=by rw[eA];simp
   have nA:gA[W g']?=O (.o (EJ [DW Q 0 0,DW Q 0 0,DW Q 0 0] 3 J)):=by rw[eA];exact aG
   have fn:W h<W g':=a_;refine q3.put_key hn rfl (λo ho=>kA _ o ho) ?_;intro o hm;obtain⟨gB,eB⟩ : ∃gB,gB=gA.set (W h) o:=⟨_,rfl⟩;rw[←eB]at hm ⊢;have kB:∀(i:Nat) o,i≠h.length->gA[i]?=O o->gB[i]?=O o:=λi o hi ho=>jw;have lB:W gB=W g'+1:=jw
   try simp(disch:=omega)only[↓DT]
   have b7:i' (W T) gB ay 1 ER (is.map lM):=q3.kl.D6 λj cs _ p=>kB j _ (q3.Kf p) (kA j _ p);refine b7.KG (a:=lM (W g')) bh a_ rfl rfl rfl (by unfold aY;rw[FE (by rw[IR,q3.il];omega),FE (by rw[IR,q3.il];omega)];rfl) ?_;intro I gC eV dT kC lC _;have cx:∀(j:Nat) o,gB[j]?=O o->i_ ay≠O j->gC[j]?=O o:=λj o p R=>kC j o p R
   try simp(disch:=omega)only[↓DT]
   refine ab dT ?_
   try simp(disch:=omega)only[↓DT]
   have c5:∀ {j e:Nat} {cs:Tn} {ad:Bool},gB[j]?=O (.o (.cells cs e ad))->e≠1->i_ ay≠O j:=λ{j e cs ad} p he e2=>by
    obtain⟨aE,M⟩:=b7.wid e2
    grind
   have ct:Ej (v9 f k) t=(t.1++[v9 f k],t.2++[[],[],[]]):=by unfold Ej;rw[ts hn]
   have b4:(t.1++[v9 f k]).idxOf (v9 f k)=W t.1:=by grind
   have D:∀(j:Nat) o,g'[j]?=O o->j≠h.length->i_ ay≠O j->gC[j]?=O o:=λj o p h1 M=>cx j o (kB j o h1 (kA j o p)) M;have bx:∀ {j e:Nat} {cs:Tn} {ad:Bool},g'[j]?=O (.o (.cells cs e ad))->e≠1->i_ ay≠O j:=λ{j e cs ad} p he e2=>by
    obtain⟨aE,M⟩:=q3.kl.wid e2
    grind
   have c4:∀j,i_ ay=O j->W T<=j:=λj e=>(q3.kl.i_ e).1;have cf:=q3.new (h':=gC) hn (id:=W g') (kv':=I) (B7 _) q5 (cx _ _ (kB _ _ a_ nA) (c5 (kB _ _ a_ nA) q7)) (hm.ke _ λo2 cq=>cx _ o2 cq λe=>by grind) jw λj o2 p _ h1 M=>D j o2 p h1 M
   have bb:c.pr<W h:=by obtain⟨ps,p1,_⟩:=hp.pr;exact p1.lt
   refine b5 _ _ ⟨W g',I,is++[W g'],_,rfl,by rw[ct];exact cf,?_,?_,⟨D _ _ q1.hb (q3.Kf q1.hb) (bx q1.hb q7),q1.up.D6 λj cs _ p=>D j _ p (q3.Kf p) (bx p q7),q1.va.D6 λj cs R p=>D j _ p (q3.Kf p) λe=>?_,q1.fo.D6 λj cs _ p=>D j _ p (q3.Kf p) (bx p q7),q1.pr.ke λo2 cq=>D _ o2 cq a_ λe=>?_,q1.fr,q1.ok⟩,q4.ke λj o2 p R=>?_,a_,λj o2 p h1 M=>D j o2 (q6 j o2 p h1 M) jw λe=>?_⟩
   .rw[ct];show(is++[W g'])[(t.1++[v9 f k]).idxOf (v9 f k)]?=_;rw[b4,←q3.il,K0 (B7 _),v2];rfl
   .grind
   .have a1:=c4 j e;have a2:=(hp.va.i_ R).2;omega
   .grind
   .obtain⟨cs,ad,M⟩:=wZ q4 R;exact D j o2 p (q3.Kf M) (bx M q7)
   grind
  rintro ls g5 ⟨id,I,Z,ag,rfl,s5,a6,fa,p5,cm,n5,f5⟩;simp(disch:=omega)only[↓DT];refine DH (ds:=[EO DQ (DO c.w),EO DQ (DO c.v)]) p5.hb (by simp[aj]) rfl ?_;simp(disch:=omega)only[↓DT];rw[hw,hv];have a0:=nb_c hs E an;have d:fB w v l (λc=>ae (G c) r) j e t=(match D_ w v j e with
    |none=>Ej (v9 f k) t
    |some n=>if n<j then Ej (v9 f k) t else
     if cX l (DO (min j n)) (DO e)=0 then HH (3*(Ej (v9 f k) t).1.idxOf (v9 f k)) (if Ez f k then(n,j)else(j,n)) (Ej (v9 f k) t)
     else HH (3*(Ej (v9 f k) t).1.idxOf (v9 f k)+(if Ez f k then 2 else 1)) (j,n) (Ej (v9 f k) t)):=by
   unfold fB;rw[ea,eb]
   try rfl
  have cd:(∀V,Gy pn w v l (λc=>ae (G c) r) V j e)->fB w v l (λc=>ae (G c) r) j e t=Ej (v9 f k) t->jj [.v I] g5:=λh1 M=>bt _ _ ⟨I,rfl,⟨⟨n2,W2,Z,ag,p5,λV=>(q2 V).trans ⟨λq=>⟨q,h1 V⟩,λq=>q.1⟩,by rw[M];exact s5⟩,cm,n5,f5⟩⟩;have a7:∀q∈(Ej (v9 f k) t).2,W q<=1000000:=by have b1:=vy (w:=w) (v:=v) (l:=l) (P:=λc=>ae (G c) r) j;rw[←bk]at b1;have b2:=nZ (w:=w) (v:=v) (l:=l) (P:=λc=>ae (G c) r) (i:=j) (EW e) A0 _ b1;rw[←bm,lD]at b2;intro q hq;have b3:=Cg b2 q hq;have:=Y.h3.n;omega
  unfold xn at a0;cases a8:D_ w v j e with
  |none=>
   rw[a8]at a0 d;refine am a0 ?_;simp(disch:=omega)only[↓DT]
   try rw[B3 q7]
   try simp(disch:=omega)only[↓DT]
   exact cd (λV n' c7=>k_) d
  |some nn=>
  rw[a8]at a0 d;simp only at a0 d;refine am a0 ?_;simp(disch:=omega)only[↓DT]
  try rw[A7 rfl]
  try simp(disch:=omega)only[↓DT]
  by_cases co:nn<j
  .rw[aB co];simp(disch:=omega)only[↓DT];rw[rv co]at d;exact cd (λV n' c7 hc=>k_) d
  rw[aw a_];simp(disch:=omega)only[↓DT];rw[ts co]at d;obtain⟨b9,_⟩:=ca (C:=C1) (A:=Ej (v9 f k) t) (kv:=I) (g:=g5) ⟨⟨n2,W2,Z,ag,p5,q2,s5⟩,cm,n5,f5⟩;refine bA (ds:=[EO DQ (DO c.w),EO DQ (DO c.v),c.xc]) p5.hb (by simp[aj]) rfl ?_;simp(disch:=omega)only[↓DT];refine ab b9.g_ ?_
  try simp(disch:=omega)only[↓DT]
  rw[hw,hv];have c8:nn<=1000:=by have b1:=(de hs E an a8).1;have b2:=Y.h3.n;omega
  refine ai (kind_c Y.pat b9 E an a8 c8) ?_;simp(disch:=omega)only[↓DT];obtain⟨ki,ek⟩ : ∃ki,ki=cX l (DO (min j nn)) (DO e):=⟨_,rfl⟩;rw[←ek]at d;rw[←ek];obtain⟨a1,x,y,z,a2,a3,a4,a5⟩:=s5.bl _ id a6;obtain⟨ix,dD⟩ : ∃ix,ix=(Ej (v9 f k) t).1.idxOf (v9 f k):=⟨_,rfl⟩;rw[←dD]at a2 a3 a4 d a6;have ce:∀(s:Nat) (u u':TV) (B:List K2) (pr:K2) (L:HL),s<3->ag[3*ix+s]?=O u->(Ej (v9 f k) t).2[3*ix+s]?=O B->i' (W T) L u' 2 Gf (B++[pr])->(∀(j:Nat) o,g5[j]?=O o->i_ u≠O j->L[j]?=O o)->W g5<=W L->(i_ u'=i_ u∨∃j,i_ u'=O j/\g5.length<=j)->∀al,al=[x,y,z].set s u'->
    Sm (W T) (L.set id (.o (.cells al 3 J))) (W h) I (HH (3*ix+s) pr (Ej (v9 f k) t)).1 Z (ag.set (3*ix+s) u') (HH (3*ix+s) pr (Ej (v9 f k) t)).2/\Pi (L.set id (.o (.cells al 3 J))) b c n2 rN W2 pn F/\q_ (L.set id (.o (.cells al 3 J))) lx 3 u9 (Fi w v G r)/\T.length<=W (L.set id (.o (.cells al 3 J)))/\∀(j:Nat) o,h[j]?=O o->j≠b->i_ c.va≠O j->(L.set id (.o (.cells al 3 J)))[j]?=O o:=by
   intro s u u' B pr L ej hu c6 d0 c3 eE d5 al ck;have eZ:(Ej (v9 f k) t).2.getD (3*ix+s) []=B:=k_;have a9:=s5.ow _ u B hu c6;have c9:∀j,i_ u=O j->W T<=j:=λj e=>(a9.i_ e).1;have D:∀(j:Nat) o,j<W T->g5[j]?=O o->(L.set id (.o (.cells al 3 J)))[j]?=O o:=λj o h1 M=>cV (c3 j o M λe=>by have:=c9 j e;omega) a_;have eD:W h<W T:=a_;have bb:c.pr<W h:=by obtain⟨ps,p1,_⟩:=hp.pr;exact p1.lt
   refine⟨?_,⟨D _ _ (by have:=ah hp.hb;omega) p5.hb,p5.up.ke λj o p R=>D j o (by have:=(hp.up.i_ R).2;omega) p,p5.va.ke λj o p R=>D j o (by have:=(hp.va.i_ R).2;omega) p,p5.fo.ke λj o p R=>D j o (by have:=(hp.fo.i_ R).2;omega) p,p5.pr.ke λo ho=>D _ o a_ ho,p5.fr,p5.ok⟩,cm.ke λj o p R=>D j o (yS cn R) p,jw,λj o p h1 M=>D j o jw (f5 j o p h1 M)⟩;have:=s5.put a6 ej hu c6 d0 c3 d5 a5 ck;unfold HH
   grind
  by_cases ax:ki=0
  .rw[ub ax];simp(disch:=omega)only[↓DT];rw[rv ax]at d;have bd:∀V,Gy pn w v l (λc=>ae (G c) r) V j e:=λV n' c7 _ hc=>by grind
   obtain⟨B,N⟩:=ak (l:=(Ej (v9 f k) t).2) (i:=3*ix) (by rw[s5.ll];exact ah a2);have bC:=s5.ow _ x B a2 N;have fd:W B<=1000000:=a7 B (A9 N);have cy:∀(pr:K2) (K:Tb),(∀x' L,i' (W T) L x' 2 Gf (B++[pr])->aH x'=J->(∀(j:Nat) o,g5[j]?=O o->i_ x≠O j->L[j]?=O o)->W g5<=W L->(i_ x'=i_ x∨∃j,i_ x'=O j/\g5.length<=j)->K [x'] L)->
     P1.heap (.ap cc 2 16 x (DW (O ⟨W g5,0,O 12⟩) 1 2)) (g5++[.o (EJ [EO DQ (DO pr.1),EO DQ (DO pr.2)] 2 J)]) (@j_ _ ⟨K⟩):=λpr K hK=>
    bC.KG (a:=pr) (λ_=>rfl) a_ rfl rfl rfl (by unfold aY;rw[FE a_,FE a_];rfl) hK
   have b0:∀ {L:HL},(∀(j:Nat) o,g5[j]?=O o->i_ x≠O j->L[j]?=O o)->L[id]?=O (.o (EJ [x,y,z] 3 J)):=λ{L} hk=>hk id _ a5 λe=>by
    obtain⟨aE,M⟩:=bC.wid e
    simp_all
   cases av:Ez f k with
   |false=>rw[av,ts q7]at d;rw[ts q7,ub rfl];refine c_ ?_;refine bA (ds:=[x]) a5 d_ rfl ?_;refine c_ ?_;refine ab (i'.g_ (e:=2) (enc:=Gf) (λ_=>rfl) bC) ?_;refine m9 ?_;refine cy (j,nn) _ λx' L o6 gx k6 l6 b6=>?_;refine c_ ?_;refine ab gx ?_;refine m9 ?_;refine gz (b:=id) (b0 k6) d_ ?_;refine m9 ?_;obtain⟨w1,X,w3,w4,w5⟩:=ce 0 x x' B (j,nn) L q7 a2 N o6 k6 l6 b6 [x',y,z] rfl;exact bt _ _ ⟨I,rfl,⟨⟨n2,W2,Z,_,X,λV=>(q2 V).trans ⟨λq=>⟨q,bd V⟩,λq=>q.1⟩,by rw[d];exact w1⟩,w3,w4,w5⟩⟩
   |true=>
    rw[av,rv rfl]at d;rw[rv rfl,tx q7];simp(disch:=omega)only[↓qb]
    try rw[ub ax]
    refine m9 ?_;refine bA (ds:=[x]) a5 d_ rfl ?_;refine c_ ?_;refine ab (i'.g_ (e:=2) (enc:=Gf) (λ_=>rfl) bC) ?_;refine m9 ?_;refine cy (nn,j) _ λx' L o6 gx k6 l6 b6=>?_;refine c_ ?_;refine ab gx ?_;refine m9 ?_;refine gz (b:=id) (b0 k6) d_ ?_;refine m9 ?_;obtain⟨w1,X,w3,w4,w5⟩:=ce 0 x x' B (nn,j) L q7 a2 N o6 k6 l6 b6 [x',y,z] rfl;exact bt _ _ ⟨I,rfl,⟨⟨n2,W2,Z,_,X,λV=>(q2 V).trans ⟨λq=>⟨q,bd V⟩,λq=>q.1⟩,by rw[d];exact w1⟩,w3,w4,w5⟩⟩
  rw[tx ax];simp(disch:=omega)only[↓DT];rw[ts ax]at d
  try rw[tx ax]
  refine c_ ?_;obtain⟨S,c0⟩ : ∃S:Nat,S=if Ez f k=J then 1 else 0:=⟨_,rfl⟩
  have el:(if Ez f k=J then(1:Int)else 0)=DO S:=by rw[c0];split<;>rfl
  have b8:S<2:=jw
  try rw[el]
  try rw[tx ax]
  refine m9 ?_;refine DN b8 ?_;obtain⟨u,eu⟩ : ∃u,u=if S=0 then y else z:=⟨_,rfl⟩
  have hu:ag[3*ix+(1+S)]?=O u:=by
   obtain h|h:S=0∨S=1:=a_
   .rw[eu,h,rv rfl];exact a3
   grind
  have d3:∀ {gg:HL},gg[id]?=O (.o (EJ [x,y,z] 3 J))->I7 gg (EQ (O ⟨id,1+S,Q⟩)) [u]:=λ{gg} hg=>by
   refine⟨id,1+S,_,3,J,rfl,hg,?_⟩;obtain h|h:S=0∨S=1:=a_
   .rw[eu,h,rv rfl];exact gq.2 ⟨d_,rfl⟩
   .rw[eu,h,ts q7];exact gq.2 ⟨d_,rfl⟩
  obtain⟨B,N⟩:=ak (l:=(Ej (v9 f k) t).2) (i:=3*ix+(1+S)) (by rw[s5.ll];exact ah hu);have a9:=s5.ow _ u B hu N;refine cI ((d3 a5).lg rfl) ?_;refine c_ ?_;refine ab (i'.g_ (e:=2) (enc:=Gf) (λ_=>rfl) a9) ?_;refine m9 ?_;have eF:W B<=1000000:=a7 B (A9 N);refine a9.KG (a:=((j,nn):K2)) (λ_=>rfl) a_ rfl rfl rfl (by unfold aY;rw[FE a_,FE a_];rfl) ?_;intro u' L o6 gu k6 l6 b6;have dl:∀(i:Nat) o,g5[i]?=O o->i_ u≠O i->L[i]?=O o:=λi o hi R=>k6 i o hi R;refine c_ ?_;refine ab gu ?_;refine m9 ?_;refine DN b8 ?_;have b0:L[id]?=O (.o (EJ [x,y,z] 3 J)):=dl id _ a5 λe=>by
   obtain⟨aE,M⟩:=a9.wid e
   simp_all
  refine r_stO b0 z_ ?_;refine m9 ?_;refine af (x:=()) (df (bV ⟨_,_,_,rfl⟩ λi hi=>?_) fj) ?_
  .have q1:W g5=i:=by simpa[i_]using hi
   grind
  refine m9 ?_;have ck:([x,y,z]:Tn).take (1+S)++[u']++([x,y,z]:Tn).drop (1+S+W [u'])=[x,y,z].set (1+S) u':=by
   obtain h|h:S=0∨S=1:=a_
   .rw[h];rfl
   .rw[h];rfl
  rw[ck];obtain⟨w1,X,w3,w4,w5⟩:=ce (1+S) u u' B (j,nn) L a_ hu N o6 dl l6 b6 _ rfl;obtain⟨g7,e7⟩ : ∃g7,g7=L.set id (.o (EJ (([x,y,z]:Tn).set (1+S) u') 3 J)):=⟨_,rfl⟩;rw[←e7]at w1 X w3 w4 w5 ⊢;refine aJ w3 rfl (iA E) ?_;rw[show u9 (ae (G j) r)=[EO DU (DO (ae (G j) r).1),EO DQ (ae (G j) r).2.1,EO DQ (ae (G j) r).2.2]from rfl];refine c_ ?_;have fl:=m5 dn;simp only[EG]at fl;refine am fl ?_;refine c_ ?_;have es:(!decide (4<=(ae (G j) r).1))=decide ((ae (G j) r).1<4):=by grind
  rw[es];obtain⟨r0,c1⟩:=X.fr;obtain⟨W3,n3,g8,cb,t1,t2,t3,t4,t5,t6⟩:=bend_c X.hb (X.up.ls dQ) c1 X.ok X.va X.pr ki (x:=j) (y:=nn) (decide ((ae (G j) r).1<4)) (λ_=>d8 j nn E ⟨e,an,a8,a_⟩);refine ai cb ?_;refine c_ ?_;have et:∀i,i_ c.va=O i->i<W h:=λi e=>(hp.va.i_ e).2;have eX:=ah hp.hb;have dj:∀ {i ee:Nat} {cs:Tn},g7[i]?=O (.o (.cells cs ee J))->ee≠15->ee≠1->g8[i]?=O (.o (.cells cs ee J)):=λ{i ee cs} hi eM h1=>t5 i _ hi (λe2=>by
   subst e2;rw[X.hb]at hi
   simp_all) λe2=>by
   obtain⟨aE,M⟩:=X.va.wid e2
   grind
  have bb:c.pr<W h:=by obtain⟨ps,p1,_⟩:=hp.pr;exact p1.lt
  have hq:(if Ez f k=J then 2 else 1)=1+S:=by rw[c0];split<;>rfl
  have cf:Sm (W T) g8 (W h) I (fB w v l (λc=>ae (G c) r) j e t).1 Z (ag.set (3*ix+(1+S)) u') (fB w v l (λc=>ae (G c) r) j e t).2:=by rw[d,hq];exact w1.ke λi o hi ho=>t5 i o ho a_ λe2=>by have:=et i e2;omega
  refine bt _ _ ⟨I,rfl,⟨⟨n3,W3,Z,ag.set (3*ix+(1+S)) u',⟨t1,X.up.D6 λi cs _ hi=>dj hi q7 q7,t2,X.fo.D6 λi cs _ hi=>dj hi q7 q7,X.pr.ke λo ho=>t5 _ o ho (sR X.pr X.hb) λe2=>?_,⟨r0,c1⟩,t3⟩,λV=>(t4 V).trans ?_,cf⟩,w3.ke λi o hi R=>?_,a_,λi o hi h1 M=>t5 i o (w5 i o hi h1 M) h1 M⟩⟩
  .obtain⟨aE,M⟩:=X.va.wid e2;exact sR X.pr M rfl
  .rw[←and_assoc];refine and_congr (q2 V) ?_;unfold Gy;constructor
   .grind
   grind
  .obtain⟨cs,ad,M⟩:=wZ w3 R;have:=yS cn R;exact t5 i o hi (λe2=>by
    rw[e2,X.hb]at M
    grind) λe2=>by
    obtain⟨aE,h3⟩:=X.va.wid e2
    grind)
 grind
end Go.Am
namespace Go.Am
namespace Sx
section
variable [El] [E_] {C:p_} {Sg:Td} {T:Tv}
variable {m8:Type} [DecidableEq m8] (kc:m8->Tn) {kk:TK} (hd:∀a b,C2 kk (kc a) (kc b)=O (decide (a=b)))
variable {kt:TS} (h1:DV C.P kt=O J) (h2:EE C.P 10000 kt=O kk) (h3:∀a,∃r,fU kk (kc a) (kc a)=O r)
include hd h1 h2 h3
theorem r_luO{h:HL}{id:Nat}{a:List (m8×FO)}{z:TV}{K:Tf}(x:E8 kc h id a)(k:m8){v:TV}(y:v=EU ⟨kc k⟩)(H:∀cs,z≠.agg cs)(F:∀p∈a,∀cs,p.2≠.agg cs)
  (h0:k∉a.map Prod.fst->K [z,.bool U]) (E:∀(i:Nat) u,a[i]?=O (k,u)->K [u,.bool J]) :
  (PH C Sg T).oo (.fn (Hv C kt U z (.map (O id)) v J)) h (@j_ _ ⟨K⟩):=by
 subst y;obtain⟨b,c,m,f⟩:=x;have D:∀u:FO,(∀cs,u≠.agg cs)->gM U u=O [u]:=λu G=>by
  unfold gM
  simp_all
 have d:∃cs,Hv C kt U z (.map (O id)) (EU ⟨kc k⟩) J (w_ T h)=O cs/\K cs:=by
  unfold Hv;rw[PT kc h1 h2 h3 k];simp only[Fv,FG,if_false];rw[pO m];simp only;rw[AA kc h1 h2 k (LF kc hd k 0 (E8.keys kc f))];cases r:(a.map Prod.fst).idxOf? k with
  |none=>simp_all
  |some j=>
   obtain⟨s,w,_⟩:=qcj.1 r;have l:W b=W a:=by have:=congrArg List.length f;simpa using this
   have t:j<W a:=by simpa using s
   have q:b[j]?=O (b[j]'(by omega)):=Gn _;have g:a[j]?=O a[j]:=Gn _;have n:(b.map (λe=>(e.key,e.val)))[j]?=(a.map λp=>((EU ⟨kc p.1⟩ : FO),p.2))[j]?:=by rw[f]
   rw[GL,GL,q,g]at n;have B:(b[j]'(by omega)).val=a[j].2:=by simp_all
   have A:eQ b j=O a[j].2:=by
    unfold eQ
    simp_all
   grind
 obtain⟨cs,e,o⟩:=d;exact cI e o
theorem r_muS{h:HL}{id:Nat}{a:List (m8×FO)}{u:TV}{K:Tb}(A:E8 kc h id a)(k:m8)(z:k∈a.map Prod.fst){v:TV}(D:v=EU ⟨kc k⟩)(B:Instr.sameBits 10000 (EU ⟨kc k⟩) (EU ⟨kc k⟩)=J)
  (x:∀o (i:Nat),(a.map Prod.fst)[i]?=O k->E8 kc (h.set id o) id (a.set i (k,u))->K [] (h.set id o)) :
  (PH C Sg T).heap (.fn (Ic C kt (.map (O id)) v u)) h (@j_ _ ⟨K⟩):=by
 subst D;obtain⟨b,c,n,f⟩:=A;cases g:(a.map Prod.fst).idxOf? k with
 |none=>exact absurd z (qdr.1 g)
 |some j=>
  obtain⟨t,l,_⟩:=qcj.1 g;have q:W b=W a:=by have:=congrArg List.length f;simpa using this
  have w:j<W a:=by simpa using t
  have s:b[j]?=O (b[j]'(by omega)):=Gn _;have m:a[j]?=O a[j]:=Gn _;have r:(b.map (λe=>(e.key,e.val)))[j]?=(a.map λp=>((EU ⟨kc p.1⟩ : FO),p.2))[j]?:=by rw[f]
  rw[GL,GL,s,m]at r;have y:a[j].1=k:=by simpa using l
  have E:(b[j]'(by omega)).key=EU ⟨kc k⟩:=by simp_all
  have d:(Hp.fn (Ic C kt (.map (O id)) (EU ⟨kc k⟩) u)).run (w_ T h) (W h)=O ([.set id (.map (b.modify j λe=>{ e with key:=EU ⟨kc k⟩,val:=u }) c)],[]):=by
   show Ic C kt (.map (O id)) (EU ⟨kc k⟩) u (w_ T h) (W h)=_;unfold Ic;simp only;rw[PT kc h1 h2 h3 k];simp only[Fv,FG,if_false];rw[pO n];simp only;rw[AA kc h1 h2 k (LF kc hd k 0 (E8.keys kc f)),g]
   simp_all
  refine bK d (x _ j k_ ⟨_,_,Kw (ah n),?_⟩);apply Kj;intro i;rw[GL,GL,List.getElem?_modify];have e3:(b.map (λe=>(e.key,e.val)))[i]?=(a.map λp=>((EU ⟨kc p.1⟩ : FO),p.2))[i]?:=by rw[f]
  grind
end
end Sx
end Go.Am
namespace Go.Am
open Sx Go.Proofs
def G3(ks:TL)(c:Cl):TL:=if c∈ks then ks else ks++[c]
def E9(L:TL):TL:=L.foldl G3 []
def Y1{L:TL}{c:Cl}:E9 (L++[c])=G3 (E9 L) c:=by simp[E9]
def d4:∀(L A:TL),A.Nodup->(L.foldl G3 A).Nodup/\(∀c,c∈L.foldl G3 A↔c∈A∨c∈L)/\(L.foldl G3 A).length<=W A+W L
 | [],A,h=>⟨h,λc=>d_,d_⟩
 |x::L,A,h=>by
  have a:(G3 A x).Nodup:=by
   unfold G3
   grind
  have d:∀c,c∈G3 A x↔c∈A∨c=x:=λc=>by
   unfold G3
   grind
  have b:W (G3 A x)<=W A+1:=by
   unfold G3
   grind
  obtain⟨e,f,g⟩:=d4 L (G3 A x) a
  grind
def uD(L:TL):(E9 L).Nodup:=(d4 L [] qcp).1
def pJ{L:TL}{c:Cl}:c∈E9 L↔c∈L:=by have:=(d4 L [] qcp).2.1 c;simpa[E9]using this
def uC(L:TL):W (E9 L)<=W L:=by have:=(d4 L [] qcp).2.2;simpa[E9]using this
def HD(l:TL):Prop:=l.Pairwise λa b=>Ez b a=J
def kW{a:Cl}:Ez a a=U:=by rw[wI];omega
def Y3{a b c:Cl}(h:Ez b a=J)(k:Ez c b=J):Ez c a=J:=by rw[wJ]at *;omega
def wH{a b:Cl}(h:Ez a b=J):Ez b a=U:=by rw[wJ]at h;rw[wI];omega
def MI{l:TL}(h:HD l):l.Nodup:=h.imp λ{a b} q e=>by subst e;rw[kW]at q;cases q
def tP:∀ {l m:TL},HD l->HD m->(∀c,c∈l↔c∈m)->l=m
 | [],[],_,_,_=>rfl
 | [],b::m,_,_,h=>absurd ((h b).2 d_) d_
 |a::l,[],_,_,h=>absurd ((h a).1 d_) d_
 |a::l,b::m,h1,d,h=>by
  unfold HD at h1 d;rw[MB]at h1 d;have e:a=b:=by
   rcases Fy.1 ((h a).1 d_)with e|f
   .exact e
   .rcases Fy.1 ((h b).2 d_)with e|hb
    .exact e.symm
    .have n:=d.1 a f;have o:=wH (h1.1 b hb)
     simp_all
  subst e
  congr 1
  refine tP h1.2 d.2 λc=>?_;have j:∀ {k:TL},(∀x∈k,Ez x a=J)->a∉k:=λg i=>by have:=g a i;rw[kW]at this;cases this
  grind
def KL(c:Cl):TL->List Cl
 | []=>[c]
 |a::l=>if Ez a c then c::a::l else a::KL c l
def qO(c:Cl):∀l:List Cl,(KL c l).Perm (c::l)
 | []=>ax _
 |a::l=>by
  unfold KL;split
  .exact ax _
  .exact((qO c l).cons a).trans (List.Perm.swap c a l)
def AN{c:Cl}:∀ {l:TL},HD l->c∉l->HD (KL c l)
 | [],_,_=>by simp[KL,HD]
 |a::l,h,f=>by
  unfold HD at h;have d:=MB.1 h;unfold KL;split
  next q=>
   unfold HD;rw[MB];refine⟨λb hb=>?_,h⟩;rcases Fy.1 hb with rfl|hb
   .exact q
   .exact Y3 q (d.1 b hb)
  next q=>
   unfold HD;rw[MB];refine⟨λb hb=>?_,AN d.2 λg=>f (by simp[g])⟩;rcases Fy.1 ((qO c l).mem_iff.1 hb)with rfl|hb
   .exact qK (by simpa using q) λe=>f (by simp[e])
   .exact d.1 b hb
def E3(L:TL):TL:=(E9 L).foldr KL []
def atG:∀ {l:TL},l.Nodup->HD (l.foldr KL [])/\(l.foldr KL []).Perm l
 | [],_=>⟨.nil,ax _⟩
 |a::l,h=>by rw[o7]at h;obtain⟨h1,b⟩:=atG h.2;exact⟨AN h1 λc=>h.1 (b.mem_iff.1 c),(qO a _).trans (b.cons a)⟩
def mV(L:TL):HD (E3 L):=(atG (uD L)).1
def jI(L:TL):(E3 L).Perm (E9 L):=(atG (uD L)).2
def gZ{L:TL}{c:Cl}:c∈E3 L↔c∈L:=(jI L).mem_iff.trans pJ
def tQ(L:TL):W (E3 L)<=W L:=by rw[(jI L).length_eq];exact uC L
def atL_of{L D:TL}(h:D.Perm (E9 L))(k:D.Pairwise λa b=>Ez a b=U):D=E3 L:=by
 have g:D.Nodup:=h.nodup_iff.2 (uD L);refine tP ?_ (mV L) λc=>by rw[h.mem_iff,(jI L).mem_iff]
 unfold HD;rw[Ki]at k ⊢;rw[j2,Ki]at g;exact λi j e f d=>qK (k i j e f d) (g i j e f d)
def HF(L:TL)(n:Nat)(c:Cl):TC:=(EW n).filter λi=>decide (L[i]?=O c)
def Y_(L:TL)(c:Cl):TC:=HF L (W L) c
def s7(L:TL):List (TC):=(E3 L).map (Y_ L)
def wN{L:TL}{n:Nat}{c:Cl}:HF L (n+1) c=HF L n c++(if L[n]?=O c then [n]else []):=by
 unfold HF;rw[RL,qcr]
 grind
def Za{L:TL}{n i:Nat}{c:Cl}:i∈HF L n c↔i<n/\L[i]?=O c:=by
 unfold HF
 simp_all
def dR{L:TL}{i:Nat}{c:Cl}:i∈Y_ L c↔L[i]?=O c:=by
 unfold Y_;rw[Za]
 grind
def AM{L:TL}{n:Nat}{c:Cl}:(HF L n c).Pairwise (· < ·):=List.pairwise_lt_range.filter _
def pM{L:TL}{n:Nat}{c:Cl}:W (HF L n c)<=n:=by have:=qcT (λi=>decide (L[i]?=O c)) (EW n);rw[lD]at this;exact this
def uH{L:TL}{l:TC}(a:l∈s7 L):l.Pairwise (· < ·):=by obtain⟨c,_,rfl⟩:=Ed.1 a;exact AM
def gJ(L:TL):Gl (s7 L) (W L):=by
 refine⟨λl d=>?_,λl d x g=>?_,λl d=>(uH d).imp λh=>a_,?_⟩
 .obtain⟨c,k,rfl⟩:=Ed.1 d;obtain⟨i,m⟩:=E4 (gZ.1 k);exact λe=>by
   have:=dR.2 m
   simp_all
 .obtain⟨c,_,rfl⟩:=Ed.1 d;exact ah (dR.1 g)
 .unfold s7;rw[KZ];refine(MI (mV L)).imp λ{a b} f x g j=>f ?_;have n:=dR.1 g;have o:=dR.1 j
  simp_all
def gQ{L:TL}{x y:Nat}{c:Cl}(a:L[x]?=O c)(b:L[y]?=O c):∃l∈s7 L,x∈l/\y∈l:=
 ⟨Y_ L c,Ed.2 ⟨c,gZ.2 (A9 a),rfl⟩,dR.2 a,dR.2 b⟩
def AL{L:TL}{l:TC}(b:l∈s7 L){x y:Nat}(d:x∈l)(e:y∈l):L[x]?=L[y]?/\x<W L:=by obtain⟨c,_,rfl⟩:=Ed.1 b;have a:=dR.1 d;exact⟨a.trans (dR.1 e).symm,ah a⟩
def Bd(l:TC)(i:Nat):List K2:=match l[i]? with
 |O b=>(l.take i).map λa=>(a,b)
 |Q=>[]
def KX(l:TC)(n:Nat):List K2:=(EW n).flatMap (Bd l)
def VL(IDS:List (TC))(n:Nat):List K2:=(IDS.take n).flatMap λl=>KX l (W l)
def F9(IDS:List (TC)):List K2:=IDS.flatMap λl=>KX l (W l)
def vj{l:TC}{n:Nat}:KX l (n+1)=KX l n++Bd l n:=by unfold KX;rw[RL,nC];simp
def eE{l:TC}{i:Nat}:W (Bd l i)<=i:=by
 unfold Bd
 grind
def zr{l:TC}:∀n,W (KX l n)<=n*n
 |0=>by simp[KX]
 |n+1=>by have a:=zr (l:=l) n;have:=eE (l:=l) (i:=n);rw[vj,IL,Nq,Nat.mul_add];omega
def j5{IDS:List (TC)}{n:Nat}{l:TC}(h:IDS[n]?=O l):VL IDS (n+1)=VL IDS n++KX l (W l):=by unfold VL;rw[Kx,h,nC];simp
def hX{IDS:List (TC)}{n:Nat}(h:W IDS<=n):VL IDS n=F9 IDS:=by unfold VL F9;rw[K5 h]
def zq{l:TC}{i:Nat}{p:K2}:p∈Bd l i↔∃j:Nat,j<i/\l[j]?=O p.1/\l[i]?=O p.2:=by
 unfold Bd;cases h:l[i]? with
 |none=>simp
 |some b=>
  simp only[Ed,Ih];constructor
  .rintro⟨a,d,rfl⟩;obtain⟨j,g⟩:=E4 d
   grind
  .rintro⟨j,e,f,c⟩;refine⟨p.1,A9 (i:=j) k_,by rw[c]⟩
def nP{l:TC}{n:Nat}{p:K2}:p∈KX l n↔∃j i:Nat,j<i/\i<n/\l[j]?=O p.1/\l[i]?=O p.2:=by
 unfold KX;rw[Gv];constructor
 .rintro⟨i,d,e⟩;obtain⟨j,q⟩:=zq.1 e;exact⟨j,i,q.1,D2.1 d,q.2⟩
 .rintro⟨j,i,a,b,c⟩;exact⟨i,D2.2 b,zq.2 ⟨j,a,c⟩⟩
def vn{IDS:List (TC)}{p:K2}:p∈F9 IDS↔∃l∈IDS,∃j i:Nat,j<i/\l[j]?=O p.1/\l[i]?=O p.2:=by
 unfold F9;rw[Gv];constructor
 .rintro⟨l,c,e⟩;obtain⟨j,i,b,d,a⟩:=nP.1 e;exact⟨l,c,j,i,b,a⟩
 .rintro⟨l,c,j,i,b,d,a⟩;exact⟨l,c,nP.2 ⟨j,i,b,ah a,d,a⟩⟩
def Bj{l:TC}(h:l.Nodup){i j x:Nat}(a:l[i]?=O x)(b:l[j]?=O x):i=j:=by
 rw[j2,Ki]at h
 grind
def prI_nd{l:TC}(h:l.Nodup)(i:Nat):(Bd l i).Nodup:=by
 unfold Bd
 grind
def jm{l:TC}(h:l.Nodup):∀n,(KX l n).Nodup
 |0=>by simp[KX]
 |n+1=>by rw[vj,qb5];refine⟨jm h n,prI_nd h n,λp b q c e=>?_⟩;subst e;obtain⟨j,i,h1,f,g,a⟩:=nP.1 b;obtain⟨k,m,o,d⟩:=zq.1 c;have:=Bj h a d;omega
def Q'{IDS:List (TC)}{N:Nat}(g:Gl IDS N):(F9 IDS).Nodup:=by
 have f:∀I:List (TC),(∀l∈I,l.Nodup)->(I.Pairwise λa b=>∀x∈a,x∉b)->(F9 I).Nodup:=by
  intro I
  induction I with
  |nil=>intro _ _;exact qcp
  |cons l I s=>intro h c;rw[MB]at c;show(KX l (W l)++F9 I).Nodup;rw[qb5];refine⟨jm (h l d_) _,s (λm d=>h m (by simp[d])) c.2,λp o q r e=>?_⟩;subst e;obtain⟨j,i,_,_,k,_⟩:=nP.1 o;obtain⟨m,d,u,t,_,n,_⟩:=vn.1 r;exact c.1 m d p.1 (A9 k) (A9 n)
 exact f IDS g.nd g.dj
def eD{IDS:List (TC)}{N s i k a b:Nat}{l:TC}(g:Gl IDS N)(x:IDS[s]?=O l)(v:l[i]?=O b)(D:k<i)(u:l[k]?=O a):((a,b):K2)∉VL IDS s++KX l i++(l.take k).map λa=>((a,b):K2):=by
 intro c;have f:=g.nd l (A9 x);rcases F_.1 c with c|c
 .rcases F_.1 c with c|c
  .unfold VL at c;obtain⟨m,n,o⟩:=Gv.1 c;obtain⟨z,y,_,_,C,_⟩:=nP.1 o;obtain⟨t,d⟩:=E4 n;rw[qbV]at d;split at d
   next w=>
    have j:=g.dj;rw[Ki]at j
    grind
   .cases d
  .obtain⟨z,y,A,B,_,r⟩:=nP.1 c;have:=Bj f r v;omega
 .obtain⟨p,h,e⟩:=Ed.1 c;have q:p=a:=congrArg Prod.fst e;subst q;obtain⟨t,d⟩:=E4 h;rw[qbV]at d;split at d
  .have:=Bj f d u;omega
  .cases d
def b9{l:TC}{k a b:Nat}(c:l[k]?=O a):((l.take (k+1)).map λa=>((a,b):K2))=((l.take k).map λa=>((a,b):K2))++[(a,b)]:=by rw[Kx,c];simp
def prI_eq{l:TC}{i b:Nat}(c:l[i]?=O b):Bd l i=(l.take i).map λa=>((a,b):K2):=by unfold Bd;rw[c]
def Fu(c:List K2)(a b:Nat):Nat:=if (a,b)∈c then c.idxOf (a,b)else 0
def prV(a:List K2):List (K2×FO):=a.mapIdx λi k=>(k,EO DQ (DO i))
def RB{a:List K2}:(prV a).map Prod.fst=a:=by
 unfold prV;refine Kj λi=>?_
 grind
def eX{a:List K2}{k:K2}:prV (a++[k])=prV a++[(k,EO DQ (DO (W a)))]:=by
 unfold prV
 simp_all
def RC{h:HL}{id:Nat}{a:List K2}(n:a.Nodup)(m:E8 Gf h id (prV a)):Xg h id (Fu a):=by
 refine⟨prV a,m,λi k u b=>?_,λk g=>?_⟩
 .unfold prV at b;rw[List.getElem?_mapIdx]at b;cases f:a[i]? with
  |none=>rw[f]at b;cases b
  |some q=>
   rw[f]at b;have e:=Fm b;have j:q=k:=congrArg Prod.fst e;have l:Value.int DQ (DO i)=u:=congrArg Prod.snd e;subst j;have c:=A9 f;have d:a.idxOf q=i:=by grind
   rw[←l];unfold Fu;rw[rv c,d]
 .rw[RB]at g;unfold Fu;rw[ts g]
def j4{c:List K2}(h0:0<W c)(a b:Nat):Fu c a b<W c:=by
 unfold Fu
 grind
def yg{c:List K2}(h0:0<W c)(a b:Nat):(Em (Fu c) a b).1<W c:=by
 unfold Em;split
 .exact j4 h0 _ _
 .exact j4 h0 _ _
def vo{L:TL}{x y:Nat}(o:x≠y)(h:L[x]?=L[y]?)(n:x<W L):0<W (F9 (s7 L)):=by
 obtain⟨c,b⟩:=ak n;rw[b]at h;obtain⟨l,g,k,m⟩:=gQ b h.symm;obtain⟨i,d⟩:=E4 k;obtain⟨j,f⟩:=E4 m;have a:i≠j:=λe=>by simp_all
 rcases v1 a with q|q
 .exact List.length_pos_of_mem (vn.2 ⟨l,g,i,j,q,d,f⟩ : ((x,y):K2)∈_)
 .exact List.length_pos_of_mem (vn.2 ⟨l,g,j,i,q,f,d⟩ : ((y,x):K2)∈_)
def p0{V:Tx}{pn:Ti}{x y x' y':Nat}(h1:x≠y)(e:x'≠y'):Ik pn V x y x' y'↔Ik pn V y x y' x':=by unfold Ik;rw[ie h1,ie e];unfold A4;simp only;generalize V (Em pn x y).1=a;generalize (Em pn x y).2=b;generalize V (Em pn x' y').1=c;generalize (Em pn x' y').2=d;cases a<;>cases b<;>cases c<;>cases d<;>decide
abbrev Ad:=K6×Option (Nat×K2)
def Lb(s:GP)(x:Ad):GP:=match x.2 with
 |Q=>Ej x.1 s
 |O (t,p)=>HH (3*(Ej x.1 s).1.idxOf x.1+t) p (Ej x.1 s)
def GI(k:K6)(t:Nat)(x:Ad):Option K2:=match x.2 with
 |Q=>Q
 |O (a,p)=>if x.1=k/\a=t then O p else Q
structure AI(A:GP)(li:List Ad):Prop where
 nd:A.1.Nodup
 ln:A.2.length=3*A.1.length
 ks:∀k,k∈A.1↔∃x∈li,x.1=k
 ls:∀(i:Nat) k t,A.1[i]?=O k->t<3->A.2[3*i+t]?=O (li.filterMap (GI k t))
def ai_nil:AI ([],[]) []:=⟨qcp,rfl,λk=>d_,λi k t h=>by cases h⟩
def VX{k:K6}{t:Nat}{li:List Ad}(h:∀x∈li,x.1≠k):li.filterMap (GI k t)=[]:=by
 rw[List.filterMap_eq_nil_iff];intro x a;unfold GI
 grind
def AI.tou{A:GP}{li:List Ad}(h:AI A li)(k:K6):AI (Ej k A) (li++[(k,Q)])/\k∈(Ej k A).1:=by
 have n:∀c t,(li++[((k,Q):Ad)]).filterMap (GI c t)=li.filterMap (GI c t):=λc t=>by rw[qcs];simp[GI]
 have m:∀c,(∃x∈li++[((k,Q):Ad)],x.1=c)↔(∃x∈li,x.1=c)∨k=c:=λc=>by simp_all
 unfold Ej;split
 next j=>
  refine⟨⟨h.nd,h.ln,λc=>?_,λi c t d l=>?_⟩,j⟩
  .rw[m,←h.ks]
   grind
  .rw[n];exact h.ls i c t d l
 next j=>
  refine⟨⟨?_,?_,λc=>?_,λi c t d l=>?_⟩,d_⟩
  .rw[qb5];exact⟨h.nd,d_,λa p b q e=>by simp_all⟩
  .simp[h.ln];omega
  .rw[m,←h.ks];simp[eq_comm]
  .rw[n];simp only at d ⊢;rw[qbX]at d;split at d
   next g=>rw[Kh (by rw[h.ln];omega)];exact h.ls i c t d l
   next g=>
    have f:=ah d;simp only[qcV]at f;have e:i=W A.1:=a_;subst e;rw[v2]at d;have e:k=c:=Fm d;subst e;rw[VX λx o e=>j ((h.ks k).2 ⟨x,o,e⟩),K0 (by rw[h.ln];omega),h.ln,qdu]
    grind
def AI.step{A:GP}{li:List Ad}(h:AI A li){x:Ad}(v:∀q,x.2=O q->q.1<3):AI (Lb A x) (li++[x]):=by
 obtain⟨k,o⟩:=x;obtain⟨c,w⟩:=h.tou k;unfold Lb;cases o with
 |none=>exact c
 |some q=>
  obtain⟨t,p⟩:=q;have z:t<3:=v _ rfl;simp only;obtain⟨f,m⟩ : ∃f,f=(Ej k A).1.idxOf k:=⟨_,rfl⟩;rw[←m];have u:(Ej k A).1[f]?=O k:=by grind
  have j:∀a b,(li++[((k,O (t,p)):Ad)]).filterMap (GI a b)=(li++[((k,Q):Ad)]).filterMap (GI a b)++(if k=a/\t=b then [p]else []):=λa b=>by
   rw[qcs,qcs];by_cases e:k=a/\t=b
   .simp[GI,e]
   .simp[GI,e]
  refine⟨c.nd,by simp[HH,c.ln],λa=>?_,λi a b s l=>?_⟩
  .show a∈(Ej k A).1↔_;rw[c.ks]
   simp_all
  .have g:(Ej k A).1[i]?=O a:=s;have d:=c.ls i a b g l;unfold HH;simp only;rw[j];by_cases e:i=f/\t=b
   .grind
   .rw[K7 a_,d,ts,Kv];rintro⟨n,r⟩;subst n;exact e ⟨by
     have y:=c.nd
     grind,r⟩
def NY:∀(R:List Ad) (A:GP) (li:List Ad),AI A li->(∀x∈R,∀q,x.2=O q->q.1<3)->AI (R.foldl Lb A) (li++R)
 | [],A,li,h,_=>by simpa using h
 |x::R,A,li,h,a=>by
  have:=NY R (Lb A x) (li++[x]) (h.step (a x d_)) λy b=>a y (by simp[b])
  simp_all
section
variable (w v:Nat) (l:TD) (P:TH)
def t_(id:Nat):Cl:=aq (P id) (ra w id)
def Ek(id e:Nat):Cl:=aq (P id) (E5 (ra w id) e)
def kdP(id n e:Nat):Int:=cX l (DO (min id n)) (DO e)
def G1(id e:Nat):Ad:=(v9 (t_ w P id) (Ek w P id e),match D_ w v id e with
 |Q=>Q
 |O n=>if n<id then Q else
  if kdP l id n e=0 then O (0,if Ez (t_ w P id) (Ek w P id e)then(n,id)else(id,n))
  else O (if Ez (t_ w P id) (Ek w P id e)then 2 else 1,(id,n)))
def v3{id e:Nat}:∀q,(G1 w v l P id e).2=O q->q.1<3:=by
 intro q a;unfold G1 at a
 grind
def w5(id e:Nat)(s:GP):fB w v l P id e s=Lb s (G1 w v l P id e):=by
 unfold fB Lb G1 t_ Ek kdP
 grind
def HY(n:Nat):List Ad:=(EW n).flatMap λid=>(EW 3).map (G1 w v l P id)
def oS(n:Nat):E2 w v l P n=(HY w v l P n).foldl Lb ([],[]):=by
 have c:∀(id:Nat) (E:TC) (s:GP),E.foldl (λs e=>fB w v l P id e s) s=(E.map (G1 w v l P id)).foldl Lb s:=λid E=>by
  induction E with
  |nil=>intro s;rfl
  |cons e E a=>intro s;simp only[y6,Fx];rw[w5,a]
 unfold E2 HY;generalize (([],[]):GP)=s0;have b:∀(I:TC) (s:GP),I.foldl (λs id=>(EW 3).foldl (λs e=>fB w v l P id e s) s) s=(I.flatMap λid=>(EW 3).map (G1 w v l P id)).foldl Lb s:=λI=>by
  induction I with
  |nil=>intro s;rfl
  |cons i I a=>simp_all
 exact b _ s0
def zF(n:Nat):AI (E2 w v l P n) (HY w v l P n):=by
 rw[oS];have:=NY (HY w v l P n) ([],[]) [] ai_nil λx a q b=>by unfold HY at a;obtain⟨id,_,a⟩:=Gv.1 a;obtain⟨e,_,rfl⟩:=Ed.1 a;exact v3 w v l P q b
 simpa using this
def iQ(N:Nat)(k:K6)(t:Nat)(p:K2):Prop:=∃id e n,id<N/\e<3/\D_ w v id e=O n/\¬n<id/\v9 (t_ w P id) (Ek w P id e)=k/\
 ((t=0/\kdP l id n e=0/\p=if Ez (t_ w P id) (Ek w P id e)then(n,id)else(id,n))∨(t=(if Ez (t_ w P id) (Ek w P id e)then 2 else 1)/\kdP l id n e≠0/\p=(id,n)))
def A3{N:Nat}{k:K6}{t:Nat}{p:K2}:p∈(HY w v l P N).filterMap (GI k t)↔iQ w v l P N k t p:=by
 unfold HY;rw[Np];constructor
 .rintro⟨x,i,a⟩;obtain⟨id,j_,i⟩:=Gv.1 i;obtain⟨e,g,rfl⟩:=Ed.1 i;unfold GI G1 at a;simp only at a;cases c:D_ w v id e with
  |none=>rw[c]at a;cases a
  |some n=>
   rw[c]at a;simp only at a;by_cases d:n<id
   .simp_all
   .rw[ts d]at a;by_cases f:kdP l id n e=0
    .rw[rv f]at a;simp only at a;split at a
     next b=>exact⟨id,e,n,D2.1 j_,D2.1 g,c,d,b.1,.inl ⟨b.2.symm,f,(Fm a).symm⟩⟩
     .cases a
    .rw[ts f]at a;simp only at a;obtain⟨q,eq⟩ : ∃q,q=if Ez (t_ w P id) (Ek w P id e)=J then 2 else 1:=⟨_,rfl⟩
     rw[←eq]at a;split at a
     next b=>exact⟨id,e,n,D2.1 j_,D2.1 g,c,d,b.1,.inr ⟨a_,f,(Fm a).symm⟩⟩
     .cases a
 .rintro⟨id,e,n,j_,g,c,d,b,h⟩;refine⟨G1 w v l P id e,Gv.2 ⟨id,D2.2 j_,Ed.2 ⟨e,D2.2 g,rfl⟩⟩,?_⟩;unfold GI G1
  grind
end
section
variable {R HT:Type} (A:Eh R HT)
def np5(c:Nat)(b:Int)(a:HT)(K:TG->HT->R):R:=K [(.v (EQ (O ⟨c,0,Q⟩))),(.i b)] a
def np4(c:Nat)(x20:FO)(e:HT)(K:TG->HT->R):R:=A.km (EZ (EQ (O ⟨c,0,Q⟩))) (λf=>A.qa f ( A.km (Fq 11 f) (λg=>A.qa g ( A.oo (.lg cc 1 g) e (λr=>A.C7 r (λh s=>A.qa h ( A.wb s ( A.ln h (λa=>A.km (FV a a) (λG=>A.new (EJ (aQ [(EO DQ 0)] (Int.toNat a)) 1 J) e (λz n=>A.km (EZ (EQ (O ⟨c,0,Q⟩))) (λj=>A.qa j ( A.km (Fq 12 j) (λk=>A.qa k ( A.heap (.st k [(DW (O ⟨z,0,(O 11)⟩) (Int.toNat a) ((Int.toNat a)+1))]) n (λF o=>A.call 47 [(.v (EQ (O ⟨c,0,Q⟩))),(.v x20)] o (λt p=>A.k3 t (λl B=>A.ln l (λE=>A.loop (λD u b=>A.k4 u (λd=>A.cd .lss d E ( A.ix 1 l d 1 b (λw=>A.C7 w (λm x=>A.qa m ( A.wb x ( A.call 48 [(.v (EQ (O ⟨c,0,Q⟩))),(.v m)] b (λy q=>A.C3 y ( A.pa d 1 (λC=>D [(.i C)] q)))))))) ( np5 c B b K))) [(.i 0)] p)))))))))))))))))))
def np3(b:Nat)(x20:FO)(n:HT)(K:TG->HT->R):R:=A.km (EZ (EQ (O ⟨b,0,Q⟩))) (λp=>A.qa p ( A.km (Fq 7 p) (λq=>A.qa q ( A.oo (.lg cc 1 q) n (λL=>A.C7 L (λk M=>A.qa k ( A.wb M ( A.ln k (λa9=>A.loop (λa6 N e=>A.k4 N (λh=>A.cd .lss h a9 ( A.ix 1 k h 1 e (λP=>A.C7 P (λd S=>A.qa d ( A.wb S ( A.ln d (λbb=>A.loop (λa7 T f=>A.k4 T (λc=>A.cd .lss c bb ( A.ix 1 d c 1 f (λV=>A.k6 V (λa1=>A.km (GV 1 d Q (O c) Q) (λl=>A.qa l ( A.ln l (λbd=>A.loop (λa8 X a=>A.k4 X (λj=>A.cd .lss j bd ( A.ix 1 l j 1 a (λY=>A.k6 Y (λa2=>A.km (EZ (EQ (O ⟨b,0,Q⟩))) (λr=>A.qa r ( A.km (Fq 10 r) (λs=>A.qa s ( A.oo (.lg cc 1 s) a (λZ=>A.C7 Z (λt ad=>A.qa t ( A.wb ad ( A.km (EZ (EQ (O ⟨b,0,Q⟩))) (λu=>A.qa u ( A.km (Fq 11 u) (λv=>A.qa v ( A.oo (.lg cc 1 v) a (λag=>A.C7 ag (λw al=>A.qa w ( A.wb al ( A.ln w (λbe=>A.heap (.fn (Ic cc 124 t (EU ⟨[(EO DQ a2),(EO DQ a1)]⟩) (EO DQ be))) a (λbl g=>A.km (EZ (EQ (O ⟨b,0,Q⟩))) (λx=>A.qa x ( A.km (Fq 11 x) (λm=>A.qa m ( A.oo (.lg cc 1 m) g (λan=>A.C7 an (λy av=>A.qa y ( A.wb av ( A.km (EZ (EQ (O ⟨b,0,Q⟩))) (λz=>A.qa z ( A.km (Fq 11 z) (λB=>A.qa B ( A.oo (.lg cc 1 B) g (λax=>A.C7 ax (λC ay=>A.qa C ( A.wb ay ( A.ln C (λbk=>A.new (EJ [(EO DQ bk),(.bool U)] 2 J) g (λo G=>A.heap (.ap cc 2 16 y (DW (O ⟨o,0,(O 12)⟩) 1 2)) G (λaE H=>A.C7 aE (λD a0=>A.qa D ( A.wb a0 ( A.km (EZ (EQ (O ⟨b,0,Q⟩))) (λE=>A.qa E ( A.km (Fq 11 E) (λF=>A.qa F ( A.heap (.st F [D]) H (λbm I=>A.km (Fh [((DW (O ⟨o,0,(O 12)⟩) 1 2),(0,m))]) (λbn=>A.pa j 1 (λa3=>a8 [(.i a3)] I)))))))))))))))))))))))))))))))))))))))))))))))))) ( A.pa c 1 (λa4=>a7 [(.i a4)] a)))) [(.i 0)] f)))))) ( A.pa h 1 (λa5=>a6 [(.i a5)] f)))) [(.i 0)] e)))))) ( np4 A b x20 e K))) [(.i 0)] n)))))))))
def np2(g:Nat)(x20:FO)(n:Nat)(P:HT)(K:TG->HT->R):R:=A.km (EZ (EQ (O ⟨g,0,Q⟩))) (λv=>A.qa v ( A.km (Fq 6 v) (λo=>A.qa o ( A.oo (.lg cc 1 o) P (λS=>A.C7 S (λx113 T=>A.qa x113 ( A.wb T ( A.ln x113 (λGT=>A.km (FV GT GT) (λx116=>A.new (EJ (aQ [(DW Q 0 0)] (Int.toNat GT)) 1 J) P (λh r=>A.km (EZ (EQ (O ⟨g,0,Q⟩))) (λw=>A.qa w ( A.km (Fq 6 w) (λp=>A.qa p ( A.oo (.lg cc 1 p) r (λV=>A.C7 V (λk X=>A.qa k ( A.wb X ( A.ln k (λa=>A.km (FV a a) (λx125=>A.new (EJ (aQ [(DW Q 0 0)] (Int.toNat a)) 1 J) r (λc G=>A.km (EZ (EQ (O ⟨g,0,Q⟩))) (λx=>A.qa x ( A.km (Fq 7 x) (λe=>A.qa e ( A.heap (.st e [(DW (O ⟨h,0,(O 11)⟩) (Int.toNat GT) ((Int.toNat GT)+1))]) G (λa8 H=>A.km (EZ (EQ (O ⟨g,0,Q⟩))) (λy=>A.qa y ( A.km (Fq 8 y) (λz=>A.qa z ( A.heap (.st z [(DW (O ⟨c,0,(O 11)⟩) (Int.toNat a) ((Int.toNat a)+1))]) H (λa9 I=>A.km (Fh [((DW (O ⟨h,0,(O 11)⟩) (Int.toNat GT) ((Int.toNat GT)+1)),(0,p)),((DW (O ⟨h,0,(O 11)⟩) (Int.toNat GT) ((Int.toNat GT)+1)),(2,k)),((DW (O ⟨c,0,(O 11)⟩) (Int.toNat a) ((Int.toNat a)+1)),(0,o)),((DW (O ⟨c,0,(O 11)⟩) (Int.toNat a) ((Int.toNat a)+1)),(2,x113)),((DW (O ⟨h,0,(O 11)⟩) (Int.toNat GT) ((Int.toNat GT)+1)),(0,(DW (O ⟨c,0,(O 11)⟩) (Int.toNat a) ((Int.toNat a)+1)))),(e,(2,k)),((DW (O ⟨c,0,(O 11)⟩) (Int.toNat a) ((Int.toNat a)+1)),(0,e)),((DW (O ⟨c,0,(O 11)⟩) (Int.toNat a) ((Int.toNat a)+1)),(0,e))]) (λbd=>A.ln x20 (λa6=>A.loop (λa5 Y b=>A.k4 Y (λj=>A.cd .lss j a6 ( A.ix 3 x20 j 3 b (λZ=>A.IA Z (λs t u=>A.km (EZ (EQ (O ⟨g,0,Q⟩))) (λB=>A.qa B ( A.km (Fq 7 B) (λf=>A.qa f ( A.oo (.lg cc 1 f) b (λad=>A.C7 ad (λC ag=>A.qa C ( A.wb ag ( A.oo (.fn (Hv cc 67 U (EO DQ 0) (.map (O n)) (EU ⟨[(EO DQ s),(EO DQ t),(EO DU u)]⟩) U)) b (λal=>A.k6 al (λa2=>A.km (EZ (EQ (O ⟨g,0,Q⟩))) (λD=>A.qa D ( A.km (Fq 7 D) (λq=>A.qa q ( A.oo (.lg cc 1 q) b (λan=>A.C7 an (λE av=>A.qa E ( A.wb av ( A.oo (.fn (Hv cc 67 U (EO DQ 0) (.map (O n)) (EU ⟨[(EO DQ s),(EO DQ t),(EO DU u)]⟩) U)) b (λax=>A.k6 ax (λa3=>A.km (D8 1 E a3) (λF=>A.oo (.lg cc 1 F) b (λay=>A.C7 ay (λl aE=>A.qa l ( A.wb aE ( A.new (EJ [(EO DQ j)] 1 J) b (λd L=>A.heap (.ap cc 1 8 l (DW (O ⟨d,0,(O 11)⟩) 1 2)) L (λa0 M=>A.C7 a0 (λm a1=>A.qa m ( A.wb a1 ( A.km (D8 1 C a2) (λa7=>A.heap (.st a7 [m]) M (λbb N=>A.km (Fh [((DW (O ⟨d,0,(O 11)⟩) 1 2),(0,f)),((DW (O ⟨d,0,(O 11)⟩) 1 2),(0,(.map (O n)))),((DW (O ⟨d,0,(O 11)⟩) 1 2),(0,q)),((DW (O ⟨d,0,(O 11)⟩) 1 2),(0,(.map (O n)))),((DW (O ⟨d,0,(O 11)⟩) 1 2),(0,F)),(l,(0,f)),(m,(0,f)),(l,(0,(.map (O n)))),(m,(0,(.map (O n))))]) (λbe=>A.pa j 1 (λa4=>a5 [(.i a4)] N))))))))))))))))))))))))))))))))))))) ( np3 A g x20 b K))) [(.i 0)] I))))))))))))))))))))))))))))))))))
def np1(c:Nat)(j:Nat)(x20:FO)(f:HT)(K:TG->HT->R):R:=A.km (EZ (EQ (O ⟨c,0,Q⟩))) (λx80=>A.qa x80 ( A.km (Fq 6 x80) (λo=>A.qa o ( A.oo (.lg cc 1 o) f (λp=>A.C7 p (λx83 q=>A.qa x83 ( A.wb q ( A.call 46 [(.v x83),(.v (.func (.func 34) ⟨[]⟩ ⟨[]⟩))] f (λr g=>A.C3 r ( A.km (EZ (EQ (O ⟨c,0,Q⟩))) (λx87=>A.qa x87 ( A.km (Fq 6 x87) (λx88=>A.qa x88 ( A.oo (.lg cc 1 x88) g (λs=>A.C7 s (λd t=>A.qa d ( A.wb t ( A.ln d (λx=>A.loop (λw u b=>A.k4 u (λa=>A.cd .lss a x ( A.ix 3 d a 3 b (λh=>A.IA h (λk l m=>A.heap (.fn (Ic cc 67 (.map (O j)) (EU ⟨[(EO DQ k),(EO DQ l),(EO DU m)]⟩) (EO DQ a))) b (λy e=>A.pa a 1 (λn=>w [(.i n)] e))))) ( np2 A c x20 j b K))) [(.i 0)] g)))))))))))))))))))
def np0(ls:TG)(h:HT)(K:TG->HT->R):R:=A.qs ls (λn6 l7=>A.qs l7 (λn8 l9=>A.D3 l9 (λx10 H=>A.k7 H (λp q r=>A.call 45 [(.i n6),(.i n8),(.v x10),(.i p),(.i q),(.i r)] h (λI b=>A.k3 I (λx20 s=>A.cd .neq s 0 ( K [(.v (EQ Q)),(.i s)] b) ( A.pm n6 n8 (λad=>A.cd .gtr ad 9 ( K [(.v (EQ Q)),(.i 3)] b) ( A.ln x20 (λx27=>A.km (FV x27 x27) (λx28=>A.new (EJ (aQ [(.bool U)] (Int.toNat x27)) 1 J) b (λn y=>A.new (.map [] 0) y (λc z=>A.new (EJ [(EO DQ n6),(EO DQ n8),x10,(EO DU p),(EO DQ q),(EO DQ r),(DW Q 0 0),(DW Q 0 0),(DW Q 0 0),(DW (O ⟨n,0,(O 11)⟩) (Int.toNat x27) ((Int.toNat x27)+1)),(.map (O c)),(DW Q 0 0),(DW Q 0 0),(DW Q 0 0),(.bool U)] 15 J) z (λd B=>A.km (Fh [((.map (O c)),(2,x20)),((DW (O ⟨n,0,(O 11)⟩) (Int.toNat x27) ((Int.toNat x27)+1)),(0,(.map (O c))))]) (λx35=>A.new (.map [] 0) B (λe C=>A.ln x20 (λx38=>A.loop (λal L a=>A.k4 L (λf=>A.cd .lss f x38 ( A.ix 3 x20 f 3 a (λM=>A.IA M (λg j k=>A.oo (.fn (Hv cc 67 U (EO DQ 0) (.map (O e)) (EU ⟨[(EO DQ g),(EO DQ j),(EO DU k)]⟩) J)) a (λN=>A.ua DQ N (λay P=>A.F5 P (λan S=>A.wb S ( A.join (λT D=>A.C3 T ( A.pa f 1 (λag=>al [(.i ag)] D))) (λm=>A.cond (!an) ( A.heap (.fn (Ic cc 67 (.map (O e)) (EU ⟨[(EO DQ g),(EO DQ j),(EO DU k)]⟩) (EO DQ 0))) a (λav l=>A.km (EZ (EQ (O ⟨d,0,Q⟩))) (λt=>A.qa t ( A.km (Fq 6 t) (λx65=>A.qa x65 ( A.oo (.lg cc 1 x65) l (λV=>A.C7 V (λx67 X=>A.qa x67 ( A.wb X ( A.new (EJ [(EO DQ g),(EO DQ j),(EO DU k)] 3 J) l (λo E=>A.heap (.ap cc 3 24 x67 (DW (O ⟨o,0,(O 13)⟩) 1 2)) E (λY F=>A.C7 Y (λu Z=>A.qa u ( A.wb Z ( A.km (EZ (EQ (O ⟨d,0,Q⟩))) (λw=>A.qa w ( A.km (Fq 6 w) (λx=>A.qa x ( A.heap (.st x [u]) F (λax G=>A.km (Fh [((DW (O ⟨o,0,(O 13)⟩) 1 2),(0,x65))]) (λx79=>m [] G))))))))))))))))))))) ( m [] a))))))))) ( np1 A d e x20 a K))) [(.i 0)] C)))))))))))))))))
end
def np0_eq{R a:Type}(A:Eh R a)(ls:TG)(h:a)(K:TG->a->R):f18 A ls h K=np0 A ls h K:=rfl
def Z2{l:TC}{N:Nat}(h:l.Nodup)(j:∀x∈l,x<N):W l<=N:=by
 have d:∀(a b:TC),a.Nodup->(∀x∈a,x∈b)->W a<=W b:=by
  intro a
  induction a with
  |nil=>simp_all
  |cons x a k=>
   intro b c f;rw[o7]at c;have g:=f x d_;have:=k (b.erase x) c.2 λy i=>(List.mem_erase_of_ne λe=>c.1 (by rw[←e];exact i)).2 (f y (by simp[i]))
   grind
 have:=d l (EW N) h λx g=>D2.2 (j x g)
 simp_all
def nbC_ne{c:Cl}{e:Nat}(a:c.2.2<4)(b:e<3):E5 c e≠c:=by
 obtain⟨x,y,q⟩:=c;simp only at a;obtain rfl|rfl|rfl|rfl:=Gq a
 all_goals
  obtain rfl|rfl|rfl:e=0∨e=1∨e=2:=a_
 all_goals simp[E5]
 all_goals omega
def eT_inj{t e f:Nat}(a:e<3)(b:f<3)(h:eT t e=eT t f):e=f:=by
 unfold eT at h
 grind
def fW{l:TD}(j:∀c∈l,c.2.2≠0){u e:Nat}:cX l (DO u) (DO e)≠0↔Es l u e=J:=by
 unfold cX Es;rw[Gp,Ed];cases b:l.find? (Kq (DO u) (DO e))with
 |none=>have d:=qdf.1 b;refine⟨λh=>absurd rfl h,?_⟩;rintro⟨c,i,a⟩;refine absurd ?_ (d c i);unfold bD at a;simp only[x3]at a;simp[Kq,a]
 |some c=>have g:=qcc b;have f:=qdE b;refine⟨λ_=>⟨c,g,?_⟩,λ_=>j c g⟩;simp only[Kq,y_,Gp]at f;unfold bD;rw[f.1,f.2]
def Zn{x y z:Cl}(a:y≠x)(b:z≠x)(h:v9 x y=v9 x z):y=z:=by
 unfold v9 at h
 grind
section
variable {w v:Nat} (hs:Sh w v) {l:TD} {G:TH} (hG:C' w v l G) {r:Mv} (hr:r.1<8)
abbrev my(G:TH)(r:Mv):Nat->Mv:=λc=>ae (G c) r
include hs
theorem qlt{c:Nat}(a:c<4*w*v):(ra w c).2.2<4:=(cg hs a).2.2.2.2
theorem Cr{c e:Nat}(a:c<4*w*v)(b:e<3):Ek w (my G r) c e=E5 (t_ w (my G r) c) (eT (my G r c).1 e):=
 jv eH (qlt hs a) b
theorem N6{c e:Nat}(b:c<4*w*v)(a:e<3):Ek w (my G r) c e≠t_ w (my G r) c:=by rw[Cr hs b a];exact nbC_ne fi (jY a)
theorem X4{c e f:Nat}(d:c<4*w*v)(a:e<3)(b:f<3)(h:Ek w (my G r) c e=Ek w (my G r) c f):e=f:=by rw[Cr hs d a,Cr hs d b]at h;exact eT_inj a b (yZ fi (jY a) (jY b) h)
theorem fV{c e f:Nat}(a:c<4*w*v)(b:e<3)(d:f<3)(h:v9 (t_ w (my G r) c) (Ek w (my G r) c e)=v9 (t_ w (my G r) c) (Ek w (my G r) c f)):e=f:=
 X4 hs a b d (Zn (N6 hs a b) (N6 hs a d) h)
include hG hr
theorem yn{c e n:Nat}(j:c<4*w*v)(h:e<3)(q:D_ w v c e=O n)(k:Es l (min c n) e=J):t_ w (my G r) n=t_ w (my G r) c/\Ek w (my G r) n e=Ek w (my G r) c e:=by
 obtain⟨i,o,m,d,t⟩:=de hs j h q;obtain⟨_,_,_,f,_⟩:=de hs i h o;have b:(ae (G c) r).1<8:=eH;have a:=hG.g c e n j h q;unfold Gt at a;rw[rv k]at a;have s:u_ (ra w (min c n)) e=u_ (ra w c) e:=by grind
 rw[s]at a;have p:ae (G n) r=ae (wd (u_ (ra w c) e)) (ae (G c) r):=by rw[a,cD (jx _) (hG.ok c j).1 hr]
 constructor
 .unfold t_ my;rw[p,d];exact iq b (qlt hs j) h
 .unfold Ek my;rw[←f,←d,p,m];have:=iq (g:=ae (G c) r) (c:=ra w n) (e:=e) b (qlt hs i) h
  grind
theorem Yq{c e n:Nat}(m:c<4*w*v)(i:e<3)(o:D_ w v c e=O n)(h:Es l (min c n) e=U):my G r n=my G r c/\t_ w (my G r) n=Ek w (my G r) c e/\Ek w (my G r) n e=t_ w (my G r) c:=by
 obtain⟨j,k,p,f,q⟩:=de hs m i o;obtain⟨_,_,_,b,_⟩:=de hs j i k;have a:=hG.g c e n m i o;unfold Gt at a;rw[ts (by rw[h];decide)]at a;have d:my G r n=my G r c:=by unfold my;rw[a]
 refine⟨d,?_,?_⟩
 .unfold t_ Ek;rw[d,f]
 .unfold t_ Ek;rw[d,←b]
variable (hk0:∀c∈l,c.2.2≠0)
structure Hy(w v:Nat)(l:TD)(G:TH)(r:Mv)(k:K6)(t:Nat)(o:K2)(e:Nat):Prop where
 he:e<3
 n1:o.1<4*w*v
 n2:o.2<4*w*v
 lt:o.1<o.2
 nb:D_ w v o.1 e=O o.2
 bn:D_ w v o.2 e=O o.1
 cr:Es l o.1 e=J
 k1:v9 (t_ w (my G r) o.1) (Ek w (my G r) o.1 e)=k
 k2:v9 (t_ w (my G r) o.2) (Ek w (my G r) o.2 e)=k
 im:t_ w (my G r) o.1=(if t=1 then k.1 else k.2)/\t_ w (my G r) o.2=(if t=1 then k.1 else k.2)
 gt:Ez (t_ w (my G r) o.1) (Ek w (my G r) o.1 e)=decide (t=2)
include hk0
theorem uR{k:K6}{t:Nat}{o:K2}(B:t=1∨t=2)(h:iQ w v l (my G r) (4*w*v) k t o):∃e,Hy w v l G r k t o e:=by
 obtain⟨id,e,n,j_,c,f,x,d,h⟩:=h;rcases h with⟨z,_,_⟩|⟨A,q,rfl⟩
 .omega
 obtain⟨g,i,u,s,y⟩:=de hs j_ c f;have m:min id n=id:=Xk a_;have b:Es l (min id n) e=J:=(fW hk0).1 q;obtain⟨j,p⟩:=yn hs hG hr j_ c f b;have a:t_ w (my G r) id=(if t=1 then k.1 else k.2):=by
  unfold v9 at d
  grind
 refine⟨e,c,j_,g,a_,f,i,jw,d,by rw[j,p];exact d,⟨a,by rw[j];exact a⟩,?_⟩
 grind
omit hk0 hG hr in
theorem mg{k:K6}{t z:Nat}{o u:K2}{e f:Nat}(a:Hy w v l G r k t o e)(b:Hy w v l G r k z u f)(h:o.1=u.1∨o.1=u.2∨o.2=u.1∨o.2=u.2):o=u/\e=f:=by
 obtain⟨A,B⟩:=o;obtain⟨C,D⟩:=u;have n:=a.nb;have p:=a.bn;have s:=b.nb;have x:=b.bn;have q:=a.lt;have y:=b.lt;have c:=a.k1;have d:=a.k2;have j:=b.k1;have m:=b.k2;have g:=a.n1;have i:=a.n2;simp only at n p s x q y c d j m g i h;rcases h with h|h|h|h
 .subst h;have:=fV hs g a.he b.he (c.trans j.symm)
  simp_all
 .subst h;have:=fV hs g a.he b.he (c.trans m.symm)
  grind
 .subst h;have:=fV hs i a.he b.he (d.trans j.symm)
  grind
 .subst h;have:=fV hs i a.he b.he (d.trans m.symm)
  simp_all
structure Hz(w v:Nat)(l:TD)(G:TH)(r:Mv)(k:K6)(p:K2)(e:Nat):Prop where
 he:e<3
 n1:p.1<4*w*v
 n2:p.2<4*w*v
 ne:p.1≠p.2
 nb:D_ w v p.1 e=O p.2
 bn:D_ w v p.2 e=O p.1
 cr:Es l (min p.1 p.2) e=U
 k1:v9 (t_ w (my G r) p.1) (Ek w (my G r) p.1 e)=k
 k2:v9 (t_ w (my G r) p.2) (Ek w (my G r) p.2 e)=k
 i1:t_ w (my G r) p.1=k.1
 i2:t_ w (my G r) p.2=k.2
theorem vg{k:K6}{p:K2}(h:iQ w v l (my G r) (4*w*v) k 0 p):∃e,Hz w v l G r k p e:=by
 obtain⟨id,e,n,j_,c,m,A,a,h⟩:=h;rcases h with⟨_,x,o⟩|⟨u,_,_⟩
 case inr=>split at u<;>omega
 obtain⟨f,i,z,y,j⟩:=de hs j_ c m;have b:Es l (min id n) e=U:=by rw[←Ii];exact λq=>(fW hk0).2 q x
 obtain⟨_,s,t⟩:=Yq hs hG hr j_ c m b;have d:v9 (t_ w (my G r) n) (Ek w (my G r) n e)=k:=by
  rw[s,t,←a];unfold v9;cases g:Ez (t_ w (my G r) id) (Ek w (my G r) id e)with
  |true=>rw[wH g];rfl
  |false=>rw[qK g λq=>N6 hs j_ c q.symm];rfl
 unfold v9 at a;cases g:Ez (t_ w (my G r) id) (Ek w (my G r) id e)with
 |true=>
  rw[g,rv rfl]at o a;subst o;refine⟨e,c,f,j_,j,i,m,k_,d,?_,by rw[s,←a],by rw[←a]⟩;unfold v9
  simp_all
 |false=>
  rw[g,ts q7]at o a;subst o;refine⟨e,c,j_,f,EC j,m,i,b,?_,d,by rw[←a],by rw[s,←a]⟩;unfold v9
  simp_all
omit hk0 hG hr in
theorem pU{k:K6}{p q:K2}{e f:Nat}(a:Hz w v l G r k p e)(b:Hz w v l G r k q f)(h:p.1=q.1∨p.2=q.2):p=q/\e=f:=by
 obtain⟨u,x⟩:=p;obtain⟨y,z⟩:=q;have n:=a.nb;have o:=a.bn;have s:=b.nb;have t:=b.bn;have c:=a.k1;have d:=a.k2;have j:=b.k1;have m:=b.k2;have g:=a.n1;have i:=a.n2;simp only at n o s t c d j m g i h;rcases h with h|h
 .subst h;have:=fV hs g a.he b.he (c.trans j.symm)
  simp_all
 .subst h;have:=fV hs i a.he b.he (d.trans m.symm)
  simp_all
omit hk0 hG hr in
theorem xC{k:K6}{t:Nat}{p o:K2}{e f:Nat}(a:Hz w v l G r k p e)(b:Hy w v l G r k t o f):p.1≠o.1/\p.1≠o.2/\p.2≠o.1/\p.2≠o.2:=by
 obtain⟨D,E⟩:=p;obtain⟨q,B⟩:=o;have s:=a.nb;have u:=a.bn;have y:=b.nb;have z:=b.bn;have x:=a.cr;have A:=b.cr;have c:=a.k1;have d:=a.k2;have j:=b.k1;have m:=b.k2;have g:=a.n1;have i:=a.n2;have n:=b.lt;simp only at s u y z x A c d j m g i n ⊢;have C:min q B=q:=Xk (qdK n);refine⟨λh=>?_,λh=>?_,λh=>?_,λh=>?_⟩
 .subst h;have:=fV hs g a.he b.he (c.trans j.symm)
  simp_all
 .subst h;have:=fV hs g a.he b.he (c.trans m.symm)
  grind
 .subst h;have:=fV hs i a.he b.he (d.trans j.symm)
  grind
 .subst h;have:=fV hs i a.he b.he (d.trans m.symm)
  simp_all
end
def vz{w v:Nat}{l:TD}{P:TH}{k:K6}{t id e:Nat}{b:K2}(h:GI k t (G1 w v l P id e)=O b):v9 (t_ w P id) (Ek w P id e)=k/\∃n,D_ w v id e=O n/\¬n<id/\(b=(id,n)∨b=(n,id)):=by
 unfold GI G1 at h
 grind
def sel_nd{w v:Nat}(p:Sh w v){l:TD}{G:TH}{r:Mv}{k:K6}{t:Nat}:((HY w v l (my G r) (4*w*v)).filterMap (GI k t)).Nodup:=by
 rw[j2,qcK];unfold HY;rw[qbU];constructor
 .intro id j_;rw[KZ];refine List.pairwise_lt_range.imp_of_mem λ{e f} i m j b c h a _=>?_;have d:=(vz c).1;have g:=(vz a).1;have:=fV p (D2.1 j_) (D2.1 i) (D2.1 m) (d.trans g.symm);omega
 .refine List.pairwise_lt_range.imp λ{id u} o x q y s b c h a e=>?_;obtain⟨z,_,rfl⟩:=Ed.1 q;obtain⟨A,_,rfl⟩:=Ed.1 s;obtain⟨_,n,_,d,g⟩:=vz c;obtain⟨_,D,_,B,C⟩:=vz a
  grind
def FC(A:GP)(i t:Nat):List K2:=A.2.getD (3*i+t) []
def NA{w v:Nat}{l:TD}{P:TH}{n i t:Nat}{k:K6}(a:(E2 w v l P n).1[i]?=O k)(b:t<3):(E2 w v l P n).2[3*i+t]?=O (FC (E2 w v l P n) i t)/\FC (E2 w v l P n) i t=(HY w v l P n).filterMap (GI k t):=by
 have:=(zF w v l P n).ls i k t a b;unfold FC
 simp_all
def dx{w v:Nat}{l:TD}{P:TH}{n i t:Nat}{k:K6}(a:(E2 w v l P n).1[i]?=O k)(b:t<3){p:K2}:p∈FC (E2 w v l P n) i t↔iQ w v l P n k t p:=by rw[(NA a b).2];exact A3 w v l P
section
variable {w v:Nat} (hs:Sh w v) {l:TD} {G:TH} (hG:C' w v l G) {r:Mv} (hr:r.1<8) (hk0:∀c∈l,c.2.2≠0) {i:Nat} {k:K6} (hi:(E2 w v l (my G r) (4*w*v)).1[i]?=O k)
abbrev B2(w v:Nat)(l:TD)(G:TH)(r:Mv):GP:=E2 w v l (my G r) (4*w*v)
include hs hi
theorem xU{t:Nat}(a:t<3):(FC (B2 w v l G r) i t).Nodup:=by rw[(NA hi a).2];exact sel_nd hs
include hG hr hk0
theorem nq{t:Nat}(b:t=1∨t=2){o:K2}(a:o∈FC (B2 w v l G r) i t):∃e,Hy w v l G r k t o e:=uR hs hG hr hk0 b ((dx hi a_).1 a)
theorem Ry{o:K2}(a:o∈FC (B2 w v l G r) i 0):∃e,Hz w v l G r k o e:=vg hs hG hr hk0 ((dx hi a_).1 a)
theorem wY{t:Nat}(d:t=1∨t=2):W (FC (B2 w v l G r) i t)<=4*w*v:=by
 have g:((FC (B2 w v l G r) i t).map Prod.fst).Nodup:=by rw[j2,KZ];have:=xU hs hi (G:=G) (r:=r) (l:=l) (t:=t) a_;rw[j2]at this;refine this.imp_of_mem λ{a b} h j c e=>c ?_;obtain⟨q,f⟩:=nq hs hG hr hk0 hi d h;obtain⟨s,p⟩:=nq hs hG hr hk0 hi d j;exact(mg hs f p (.inl e)).1
 have:=Z2 g λx n=>by obtain⟨o,m,rfl⟩:=Ed.1 n;obtain⟨e,f⟩:=nq hs hG hr hk0 hi d m;exact f.n1
 simp_all
theorem z2(A:2<=W (FC (B2 w v l G r) i 0)+W (FC (B2 w v l G r) i 1)+W (FC (B2 w v l G r) i 2)):0<W (F9 (s7 (C6 w v G r))):=by
 have h:W (C6 w v G r)=4*w*v:=by simp[C6]
 have B:∀t,(t=1∨t=2)->0<W (FC (B2 w v l G r) i t)->0<W (F9 (s7 (C6 w v G r))):=λt s d=>by
  obtain⟨o,m⟩:=ak d;obtain⟨e,q⟩:=nq hs hG hr hk0 hi s (A9 m);refine vo (x:=o.1) (y:=o.2) (by have:=q.lt;omega) ?_ (by rw[h];exact q.n1);rw[dv q.n1,dv q.n2];have:=q.im.1.trans q.im.2.symm;unfold t_ at this
  simp_all
 by_cases u:0<W (FC (B2 w v l G r) i 1)
 .simp_all
 by_cases z:0<W (FC (B2 w v l G r) i 2)
 .simp_all
 obtain⟨p,d⟩:=ak (l:=FC (B2 w v l G r) i 0) (i:=0) a_;obtain⟨q,n⟩:=ak (l:=FC (B2 w v l G r) i 0) (i:=1) a_;obtain⟨e,a⟩:=Ry hs hG hr hk0 hi (A9 d);obtain⟨f,g⟩:=Ry hs hG hr hk0 hi (A9 n);have c:p.1≠q.1:=λj=>by
  have:=(pU hs a g (.inl j)).1;subst this;have b:=xU hs hi (G:=G) (r:=r) (l:=l) (t:=0) a_;rw[j2,Ki]at b
  grind
 refine vo (x:=p.1) (y:=q.1) c ?_ (by rw[h];exact a.n1);rw[dv a.n1,dv g.n1];have:=a.i1.trans g.i1.symm;unfold t_ at this
 simp_all
end
def Pt{pn:Ti}{L:List K2}{i:Nat}{f:DZ}:f∈m' pn L i↔∃(j:Nat) (o u:K2),j<i/\L[i]?=O o/\L[j]?=O u/\f=four pn o u:=by
 unfold m';cases h:L[i]? with
 |none=>simp
 |some o=>
  simp only[Ed,Ih];constructor
  .rintro⟨u,a,rfl⟩;obtain⟨j,d⟩:=E4 a
   grind
  .rintro⟨j,e,u,b,rfl,c,rfl⟩;exact⟨u,A9 (i:=j) k_,rfl⟩
def yG{pn:Ti}{L:List K2}{f:DZ}:f∈HE pn L (W L)↔∃(i j:Nat) (o u:K2),j<i/\L[i]?=O o/\L[j]?=O u/\f=four pn o u:=by
 unfold HE;rw[Gv];constructor
 .rintro⟨i,_,d⟩;exact⟨i,Pt.1 d⟩
 .rintro⟨i,h⟩;obtain⟨j,o,u,b,a,c⟩:=h;exact⟨i,D2.2 (ah a),Pt.2 ⟨j,o,u,b,a,c⟩⟩
def M5{pn:Ti}{L:List K2}:∀n,W (HE pn L n)<=n*W L
 |0=>by simp[HE]
 |n+1=>by
  have a:=M5 (pn:=pn) (L:=L) n;rw[ux,IL,Nq,u4];have:W (m' pn L n)<=W L:=by
   unfold m'
   grind
  omega
def Km(pn:Ti)(A:GP)(n:Nat):List DZ:=(EW n).flatMap λi=>HE pn (FC A i 1) (W (FC A i 1))++HE pn (FC A i 2) (W (FC A i 2))
def Ae{pn:Ti}{A:GP}{n:Nat}:Km pn A (n+1)=Km pn A n++HE pn (FC A n 1) (W (FC A n 1))++HE pn (FC A n 2) (W (FC A n 2)):=by unfold Km;rw[RL,nC];simp
def yc{pn:Ti}{A:GP}{B:Nat}:∀n,(∀i t,i<n->(t=1∨t=2)->W (FC A i t)<=B)->W (Km pn A n)<=n*(2*(B*B))
 |0,_=>by simp[Km]
 |n+1,h=>by have d:=yc (pn:=pn) n λi t c=>h i t a_;have a:=h n 1 a_ (.inl rfl);have b:=h n 2 a_ (.inr rfl);have e:=M5 (pn:=pn) (L:=FC A n 1) (W (FC A n 1));have f:=M5 (pn:=pn) (L:=FC A n 2) (W (FC A n 2));have g:W (FC A n 1)*W (FC A n 1)<=B*B:=qcq a a;have j:W (FC A n 2)*W (FC A n 2)<=B*B:=qcq b b;rw[Ae,IL,IL,Nq,u4];omega
def RuC(pn:Ti)(A:GP)(V:Tx)(n:Nat):Prop:=∀i,i<n->∀j,j<W (FC A i 0)->I8 pn (FC A i 0) (FC A i 1) (FC A i 2) V j
section
variable {w v:Nat} (hs:Sh w v) {l:TD} {G:TH} (hG:C' w v l G) {r:Mv} (hr:r.1<8) (hk0:∀c∈l,c.2.2≠0)
include hs hG hr hk0
theorem Xs{pn:Ti}{n:Nat}(S:n<=W (B2 w v l G r).1):∀f∈Km pn (B2 w v l G r) n,∀x∈[f.1,f.2.1,f.2.2.1,f.2.2.2],∃q∈s7 (C6 w v G r),∃a∈q,∃b∈q,a≠b/\x=Em pn a b:=by
 intro f m x A;unfold Km at m;obtain⟨i,H,m⟩:=Gv.1 m;rw[D2]at H;obtain⟨k,p⟩:=ak (l:=(B2 w v l G r).1) (i:=i) a_;have N:∀t,(t=1∨t=2)->f∈HE pn (FC (B2 w v l G r) i t) (W (FC (B2 w v l G r) i t))->∃q∈s7 (C6 w v G r),∃a∈q,∃b∈q,a≠b/\x=Em pn a b:=λt D m=>by
  obtain⟨a,b,o,u,F,I,K,rfl⟩:=yG.1 m;obtain⟨e,d⟩:=nq hs hG hr hk0 p D (A9 I);obtain⟨C,g⟩:=nq hs hG hr hk0 p D (A9 K);have c:¬(o.1=u.1∨o.1=u.2∨o.2=u.1∨o.2=u.2):=λq=>by
   have:=(mg hs d g q).1;subst this;have s:=xU hs p (G:=G) (r:=r) (l:=l) (t:=t) a_;rw[j2,Ki]at s
   grind
  have j:∀y,y<4*w*v->t_ w (my G r) y=(if t=1 then k.1 else k.2)->(C6 w v G r)[y]?=O (if t=1 then k.1 else k.2):=λy B e=>by rw[dv B];exact congrArg O e
  have h:∀y z,y<4*w*v->z<4*w*v->t_ w (my G r) y=(if t=1 then k.1 else k.2)->t_ w (my G r) z=(if t=1 then k.1 else k.2)->y≠z->∃q∈s7 (C6 w v G r),∃a∈q,∃b∈q,a≠b/\Em pn y z=Em pn a b:=λy z B M E C L=>by
   obtain⟨q,T,P,R⟩:=gQ (j y B E) (j z M C)
   grind
  unfold four at A;simp only[Fy,kG,or_false]at A;rcases A with rfl|rfl|rfl|rfl
  .exact h _ _ d.n1 g.n1 d.im.1 g.im.1 λe=>c (.inl e)
  .exact h _ _ d.n2 g.n1 d.im.2 g.im.1 λe=>c (.inr (.inr (.inl e)))
  .exact h _ _ d.n1 g.n2 d.im.1 g.im.2 λe=>c (.inr (.inl e))
  .exact h _ _ d.n2 g.n2 d.im.2 g.im.2 λe=>c (.inr (.inr (.inr e)))
 grind
theorem cr_pos{i e n:Nat}(a:i<4*w*v)(d:e<3)(f:D_ w v i e=O n)(h:cX l (DO (min i n)) (DO e)≠0):0<W (F9 (s7 (C6 w v G r))):=by
 obtain⟨b,_,_,_,c⟩:=de hs a d f;have g:=(yn hs hG hr a d f ((fW hk0).1 h)).1;refine vo (x:=i) (y:=n) (EC c) ?_ (by simp[C6];exact a);rw[dv a,dv b];unfold t_ at g
 simp_all
end
def RF{IDS:List (TC)}{B:Nat}(h:∀l∈IDS,W l<=B):W (F9 IDS)<=W IDS*(B*B):=by
 induction IDS with
 |nil=>simp[F9]
 |cons l I c=>have d:=c λm b=>h m (by simp[b]);have a:=h l d_;have e:=zr (l:=l) (W l);have f:W l*W l<=B*B:=qcq a a;show(KX l (W l)++F9 I).length<=_;rw[IL,j1,Nq,u4];omega
structure N4(h0 h4:HL)(b mp:Nat)(w v:Nat)(xv:FO)(r:Mv)(xa xd xl xu xp:FO)(vs:Tn)(IM:TL):Prop where
 hb:h4[b]?=O (.o (.cells (aj ⟨w,v,xv,r,xa,xd,xl,xu,mp,xp,.slice Q 0 0,.slice Q 0 0⟩ U) 15 J))
 bn:h0.length<=b
 mpn:h0.length<=mp
 old:∀(j:Nat) o,h0[j]?=O o->h4[j]?=O o
 at_:i' h0.length h4 xa 3 bX (E3 IM)
 ids:i' h0.length h4 xd 1 ER vs
 vl:vs.length=(s7 IM).length
 iv:∀(j:Nat) x l,vs[j]?=O x->(s7 IM)[j]?=O l->i' h0.length h4 x 1 l_ l
 lay:i' h0.length h4 xl 1 ER ((s7 IM).map λ_=>.slice Q 0 0)
 us:i' h0.length h4 xu 1 D0 (FJ IM.length U)
 pr:E8 Gf h4 mp (prV (F9 (s7 IM)))
 up:i' h0.length h4 xp 2 Fb ((EW (F9 (s7 IM)).length).map λi=>(i,U))
 s1:∀j,i_ xu=O j->i_ xl≠O j
 s2:∀j,i_ xu=O j∨i_ xl=O j->i_ xd≠O j/\∀x∈vs,i_ x≠O j
def Xy(h0:HL)(b w v:Nat)(a:FO)(r:Mv)(AT:List K3)(CR:TD)(IDS:List (TC))(pn:Ti)(S:(Nat->Bool)->Prop)(F:List DZ)(g:HL):Prop:=
 ∃c n,(c.w=w/\c.v=v/\c.r=r)/\(∀(j:Nat) o,h0[j]?=O o->g[j]?=O o)/\h0.length<=W g/\(∀j,i_ c.va=O j∨i_ c.us=O j∨i_ c.lay=O j->W h0<=j)/\
  ∀E:Nat->Prop,(∀j,E j->j<W h0/\i_ a≠O j)->NpR b c n g (λj=>E j∨i_ c.va=O j∨i_ c.us=O j∨i_ c.lay=O j) AT CR IDS pn S F
def SvC(w v:Nat)(l:TD)(G:TH)(r:Mv)(pn:Ti)(V:Tx):Prop:=
 (∀i e,i<4*w*v->e<3->Gy pn w v l (my G r) V i e)/\RuC pn (B2 w v l G r) V (W (B2 w v l G r).1)
def frs_id(M:Nat):Lg ((EW M).map λi=>((i,U):Lit)) (λ_=>0):=by
 have a:∀(i:Nat) u,((EW M).map λi=>((i,U):Lit))[i]?=O u->i<M/\u=(i,U):=λi u h=>by grind
 refine⟨λi u h=>?_,λi u h b=>?_,λi u h _=>?_⟩
 .grind
 .grind
 grind
def rs_id(M:Nat)(V:Tx):Rs ((EW M).map λi=>((i,U):Lit)) (FJ M 0) V:=by
 constructor
 .intro i u h;have a:=ah h;rw[IR,lD]at a;rw[GL,List.getElem?_range a]at h;have:=Fm h;subst this;unfold A4;rw[Xd]
 grind
def okW_id(M:Nat):IF ((EW M).map λi=>((i,U):Lit)) (FJ M 0):=
 ⟨d_,λx a=>.inl (qdn a)⟩
def np_fin{h0 C g:HL}{b mp w v:Nat}{xv:TV}{r:Mv}{xa xd Z xu xp:TV}{vs:Tn}{l:TD}{G:TH}(m:N4 h0 C b mp w v xv r xa xd Z xu xp vs (C6 w v G r))(X:S3 w v)(bm:XA w v l)(an:∀c∈l,c.2.2≠0)(al:C' w v l G)(aE:Ew 4000 r)(bd:q_ h0 xv 3 q9 l)
  {I:List K2} (ag:I=F9 (s7 (C6 w v G r))) {va fo:TV} {n:Bool} {rN:List Lit} {DJ:TE} (b3:i_ va=O (W C))
  (T:Pi g b ⟨w,v,xv,r,xa,xd,Z,xu,mp,xp,va,fo⟩ n rN DJ (Fu I) (Km (Fu I) (B2 w v l G r) (W (B2 w v l G r).1))) (hU:W rN=W I) (hC:∀V,(n=U/\Rs rN DJ V)↔SvC w v l G r (Fu I) V)
  (hk:∀(j:Nat) o,C[j]?=O o->j≠b->i_ xp≠O j->g[j]?=O o) (b1:∀j,i_ fo=O j->W C<j) (b2:W C+1<W g) :
  Xy h0 b w v xv r (E3 (C6 w v G r)) l (s7 (C6 w v G r)) (Fu I) (SvC w v l G r (Fu I)) (Km (Fu I) (B2 w v l G r) (W (B2 w v l G r).1)) g:=by
 have hs:=X.sh;have hN:W (C6 w v G r)=4*w*v:=by simp[C6]
 have bs:=X.n;have bP:=ah m.hb;have bt:W h0<=W C:=by have:=m.bn;omega
 have a4:∀ {j e:Nat} {H:Tn} {S:Bool},C[j]?=O (.o (.cells H e S))->e≠15->j≠b:=λ{j e H S} u he q=>by
  subst q;rw[m.hb]at u
  simp_all
 have be:∀ {j e:Nat} {H:Tn} {S:Bool},C[j]?=O (.o (.cells H e S))->e≠2->i_ xp≠O j:=λ{j e H S} u he q=>by
  obtain⟨a0,D⟩:=m.up.wid q
  simp_all
 have b4:∀j,i_ xp=O j->W h0<=j/\j<W C:=λj q=>m.up.i_ q;have kO:∀ {R:Type} {e:Nat} {p:R->Tn} {L:List R} {x:TV} {n0:Nat},i' n0 C x e p L->e≠15->e≠2->i' n0 g x e p L:=λ{R e p L x n0} N s D=>N.D6 λj H _ u=>hk j _ u (a4 u s) (be u D);have ay:∀(j:Nat) o,h0[j]?=O o->g[j]?=O o:=λj o u=>by
  have s:=ah u;refine hk j o (m.old j o u) (λe=>?_) λe=>?_
  .have:=m.bn;omega
  grind
 have a9:∀j,i_ xu=O j∨i_ Z=O j->(∃H,C[j]?=O (.o (.cells H 1 J)))/\h0.length<=j/\j<W C:=λj q=>by
  rcases q with q|q
  .exact⟨m.us.wid q,m.us.i_ q⟩
  .exact⟨m.lay.wid q,m.lay.i_ q⟩
 refine⟨⟨w,v,xv,r,xa,xd,Z,xu,mp,xp,va,fo⟩,n,⟨rfl,rfl,rfl⟩,ay,a_,λj q=>?_,λE hE=>?_⟩
 .grind
 have ax:S3x ⟨w,v,xv,r,xa,xd,Z,xu,mp,xp,va,fo⟩ (W g):=by
  refine⟨λj q=>?_,λj q=>?_,λj q=>?_⟩
  .grind
  .have:=(a9 _ (.inl q)).2.2;exact⟨a_,m.s1 j q⟩
  grind
 obtain⟨mu,a2⟩ : ∃mu:Nat->Prop,mu=λj=>E j∨i_ va=O j∨i_ xu=O j∨i_ Z=O j:=⟨_,rfl⟩;have M:∀j,mu j->(j<W h0/\i_ xv≠O j)∨j=W C∨(W h0<=j/\j<W C/\(i_ xu=O j∨i_ Z=O j)/\∃H,C[j]?=O (.o (.cells H 1 J))):=λj q=>by grind
 show NpR b _ n g (λj=>E j∨i_ va=O j∨i_ xu=O j∨i_ Z=O j) _ _ _ _ _ _;rw[←a2];have ap:¬mu b:=λq=>by
  rcases M b q with q|q|⟨_,_,_,H,q⟩
  .have:=m.bn;omega
  .omega
  grind
 refine⟨T.hb,ax,ap,λhn x=>?_,λhn=>?_⟩
 .rw[←Ii,Bm];rintro⟨V,hV,_⟩
  simp_all
 subst hn;have av:0<W (C6 w v G r):=by
  have s:0<w*v:=qdN X.1 X.2.2.1
  grind
 obtain⟨P,li,hI⟩ : ∃P li,s7 (C6 w v G r)=P::li:=by
  cases h:s7 (C6 w v G r)with
  |cons a b=>exact⟨a,b,rfl⟩
  |nil=>
   obtain⟨c,hc⟩:=ak av;obtain⟨q,F,_⟩:=gQ hc hc
   simp_all
 have K:=gJ (C6 w v G r);have a6:W (s7 (C6 w v G r))=W (E3 (C6 w v G r)):=by simp[s7]
 have bC:=tQ (C6 w v G r);have bx:Xg C mp (Fu I):=by rw[ag];exact RC (Q' K) m.pr
 have a8:∀q∈s7 (C6 w v G r),W q<=36:=λq F=>by obtain⟨c,_,rfl⟩:=Ed.1 F;have:=pM (L:=C6 w v G r) (n:=W (C6 w v G r)) (c:=c);show(HF _ _ _).length<=36;omega
 have a5:∀q∈s7 (C6 w v G r),∀x∈q,∀y∈q,x≠y->(Em (Fu I) x y).1<W rN:=λq F x hx y hy bk=>by obtain⟨e1,e2⟩:=AL F hx hy;rw[hU];refine yg ?_ x y;rw[ag];exact vo bk e1 e2
 have Y:=Xs hs al aE.1 an (pn:=Fu I) (B7 (W (B2 w v l G r).1));have bb:∀x,(FJ (W (C6 w v G r)) U).getD x U=U:=λx=>by grind
 have a7:EA (FJ (W (C6 w v G r)) U) P=P:=by
  unfold EA;rw[qc6]
  grind
 obtain⟨r0,a3⟩:=T.fr;have hP:∀ {h:HL},AgP g mu h->∀ {R:Type} {e:Nat} {p:R->Tn} {L:List R} {x:TV} {n0:Nat},i' n0 g x e p L->(∀j,i_ x=O j->¬mu j)->i' n0 h x e p L:=by intro h hA R e p L x n0 N hm;exact N.ke λj o u hb=>hA.2 j o (ah u) (hm j hb) u
 have bl:∀ {R:Type} {e:Nat} {p:R->Tn} {L:List R} {x:TV},i' (W h0) C x e p L->e≠1->∀j,i_ x=O j->¬mu j:=λ{R e p L x} N he j u q=>by
  have a1:=N.i_ u;rcases M j q with q|q|⟨_,_,_,H,q⟩
  .omega
  .omega
  .obtain⟨a0,D⟩:=N.wid u
   grind
 refine⟨rN,DJ,FJ (W (C6 w v G r)) U,(s7 (C6 w v G r)).map λ_=>DW Q 0 0,r0,W (C6 w v G r),P,li,?_,a3,K,Y,hI,?_,a7,?_,λx hx=>?_⟩
 .refine⟨λh h' hA ad=>⟨?_,λj o s D X=>ad j o s D (hA.2 j o s D X)⟩,λh hA=>hA.1,ax,λj q=>?_,ah T.hb,λh hA=>hA.2 b _ (ah T.hb) ap T.hb,λh hA=>i'.ls dQ (hP hA T.up λj q=>?_),λh hA=>i'.ls (λ_=>rfl) (hP hA T.fo λj q=>?_),?_,λf hf=>?_,λh hA=>T.pr.ke λo N=>hA.2 mp o (ah N) (λq=>?_) N,λh hA=>i'.ls gu (hP hA (kO m.at_ q7 q7) (bl m.at_ q7)),λh hA=>bd.ke λj o u b0=>hA.2 j o ?_ (λq=>?_) (ay j o u),by have:=bm.len;omega,a_,a6,⟨vs,m.vl,λh hA=>⟨i'.ls bh (hP hA (kO m.ids q7 q7) λj u q=>?_),λj x q s D=>i'.ls bc (hP hA (kO (m.iv j x q s D) q7 q7) λi hi q2=>?_)⟩⟩,λq F=>⟨K.nd q F,by have:=a8 q F;omega,a5 q F⟩⟩
  .obtain⟨o,N⟩:=ak (l:=g) (i:=W g-1) a_;have s:=hA.2 _ o a_ (λq=>by grind) N
   grind
  .grind
  .grind
  .grind
  .have s:=yc (pn:=Fu I) (A:=B2 w v l G r) (B:=36) (W (B2 w v l G r).1) λi t hi ht=>by obtain⟨k,ad⟩:=ak hi;have:=wY hs al aE.1 an ad ht;omega
   have D:W (B2 w v l G r).1<=3*(4*w*v):=pY (4*w*v);omega
  .have q1:=Y f hf;have b5:∀x∈[f.1,f.2.1,f.2.2.1,f.2.2.2],x.1<W rN:=λx hx=>by grind
   grind
  .rcases M mp q with q|q|⟨_,_,_,H,q⟩
   .have:=m.mpn;omega
   .have:=m.pr.lt;omega
   .obtain⟨es,c,a1,_⟩:=m.pr
    grind
  .grind
  .grind
  .have a1:=m.ids.i_ u;rcases M j q with q|q|⟨_,_,q,_⟩
   .omega
   .omega
   .exact(m.s2 j q).1 u
  .have a1:=(m.iv j x q s D).i_ hi;rcases M i q2 with q2|q2|⟨_,_,q2,_⟩
   .omega
   .omega
   .exact(m.s2 i q2).2 x (A9 s) hi
 .refine⟨⟨T.ok,λV=>?_,λq F=>(by cases F),.nil,λa ha=>(by cases ha)⟩,d_,rfl,?_,λi d q s=>(by cases s),λq _ x _=>bb x,λq=>?_⟩
  .constructor
   .intro hR;exact⟨(hC V).1 ⟨rfl,hR⟩,λq F=>(by cases F),.nil,λa ha=>(by cases ha)⟩
   grind
  .grind
  grind
 .refine⟨T.va,?_,?_,?_,λj x q s D=>?_,λj x y s D=>?_,λi j x y z s D X=>?_⟩
  .rcases kO m.us q7 q7 with q|⟨id,cx,e1,e2,e3⟩
   .exact .inl q
   .exact .inr ⟨id,cx,e1,Eg _,e3⟩
  .rcases kO m.lay q7 q7 with q|⟨id,cx,e1,e2,e3⟩
   .exact .inl q
   .exact .inr ⟨id,cx,e1,Eg _,e3⟩
  .grind
  .obtain⟨_,_,rfl⟩:=Ed.1 (A9 s);have F:q=[]:=by grind
   subst F;exact Iq.nil g
  .obtain⟨_,_,rfl⟩:=Ed.1 (A9 s);cases D
  .obtain⟨_,_,rfl⟩:=Ed.1 (A9 s);cases X
 .obtain⟨_,_,rfl⟩:=Ed.1 hx;rfl
section
variable {h0 h4:HL} {b mp w v:Nat} {xv:FO} {r:Mv} {xa xd xl xu xp:FO} {vs:Tn} {l:TD} {G:TH}
def np4_c(s:N4 h0 h4 b mp w v xv r xa xd xl xu xp vs (C6 w v G r))(h3:S3 w v)(bs:XA w v l)(T:∀c∈l,c.2.2≠0)(D:C' w v l G)(M:Ew 4000 r)(co:∀id e,id<4*w*v->e<3->NL (aq (ae (G id) r) (E5 (ra w id) e))=J)
  (ay:q_ h0 xv 3 q9 l) {xi:TV} (a7:q_ h0 xi 3 bX (C6 w v G r)) (cl:∀H,q_ H xv 3 q9 l->∃lx h',aD cc ac 74 [.i (DO w),.i (DO v),.v xv,.i (DO r.1),.i r.2.1,.i r.2.2] (h_ aa H) [.v lx,.i 0] (h_ aa h')/\xk H h'/\q_ h' lx 3 u9 (Fi w v G r))
  {K:Te} (hK:∀g,Xy h0 b w v xv r (E3 (C6 w v G r)) l (s7 (C6 w v G r)) (Fu (F9 (s7 (C6 w v G r)))) (SvC w v l G r (Fu (F9 (s7 (C6 w v G r))))) (Km (Fu (F9 (s7 (C6 w v G r)))) (B2 w v l G r) (W (B2 w v l G r).1)) g->K [.v (lM b),.i 0] g) :
  np4 (hA P1) b xi h4 K:=by
 have hs:=h3.sh;have hN:W (C6 w v G r)=4*w*v:=by simp[C6]
 have cp:=h3.n;obtain⟨d,p⟩ : ∃d,d=F9 (s7 (C6 w v G r)):=⟨_,rfl⟩;have hM:W d<=1048576:=by
  have R:=RF (IDS:=s7 (C6 w v G r)) (B:=36) λl hl=>by obtain⟨c,_,rfl⟩:=Ed.1 hl;have:=pM (L:=C6 w v G r) (n:=W (C6 w v G r)) (c:=c);show(HF _ _ _).length<=36;omega
  have E:W (s7 (C6 w v G r))<=36:=by unfold s7;rw[IR];have:=tQ (C6 w v G r);omega
  rw[p];omega
 unfold np4;simp only[w7];refine m9 ?_;refine bA (ds:=[xp]) s.hb (by simp[aj]) rfl ?_;refine c_ ?_;refine ab (i'.g_ (e:=2) (enc:=Fb) (λ_=>rfl) s.up) ?_;refine m9 ?_;refine aO (i'.ls dQ s.up) ?_;rw[IR,lD,←p];refine af (dG hM) ?_;refine m9 ?_;rw[show(DO (W d)).toNat=W d from rfl];have z0:HO.o (EJ (aQ [EO DQ 0] (W d)) 1 J)=HO.o (EJ ((FJ (W d) (0:Int)).flatMap En) 1 J):=by rw[←cP (enc:=En) (z:=0)];rfl
 rw[z0];have c5:=ah s.hb;have cw:W h0<=W h4:=by have:=s.bn;omega
 obtain⟨h5,e5⟩ : ∃h5,h5=h4++[HO.o (EJ ((FJ (W d) (0:Int)).flatMap En) 1 J)]:=⟨_,rfl⟩;rw[←e5];have k5:∀(j:Nat) o,h4[j]?=O o->h5[j]?=O o:=λj o f=>jw;have l5:W h5=W h4+1:=by rw[e5];simp
 have m5:h5[W h4]?=O (.o (EJ ((FJ (W d) (0:Int)).flatMap En) 1 J)):=by rw[e5];exact aG
 refine gz (b:=b) (k5 _ _ s.hb) (by simp[aj]) ?_;obtain⟨N,u⟩ : ∃N:XC,N=⟨w,v,xv,r,xa,xd,xl,xu,mp,xp,DW (O ⟨W h4,0,le 1⟩) (W d) (W d+1),DW Q 0 0⟩:=⟨_,rfl⟩;obtain⟨S,e6⟩ : ∃S,S=h5.set b (.o (EJ (aj N U) 15 J)):=⟨_,rfl⟩;have bC:h5.set b (.o (EJ (List.take 12 (aj ⟨w,v,xv,r,xa,xd,xl,xu,mp,xp,DW Q 0 0,DW Q 0 0⟩ U)++[DW (O ⟨W h4,0,O 11⟩) (W d) (W d+1)]++List.drop (12+W [Value.slice (O ⟨W h4,0,O 11⟩) (W d) (W d+1)]) (aj ⟨w,v,xv,r,xa,xd,xl,xu,mp,xp,DW Q 0 0,DW Q 0 0⟩ U)) 15 J))=S:=by rw[e6,u];rfl
 rw[bC];refine m9 ?_;have l6:W S=W h4+1:=k_;have k6:∀(j:Nat) o,h4[j]?=O o->j≠b->S[j]?=O o:=λj o f c8=>by grind
 have cb:∀ {j e:Nat} {cs:Tn} {bt:Bool},h4[j]?=O (.o (.cells cs e bt))->e≠15->j≠b:=λ{j e cs bt} f he q=>by
  subst q;rw[s.hb]at f
  simp_all
 have ad:∀(j:Nat) o,h0[j]?=O o->S[j]?=O o:=λj o f=>k6 j o (s.old j o f) (by have:=ah f;have:=s.bn;omega);have be:i' 0 S (DW (O ⟨W h4,0,le 1⟩) (W d) (W d+1)) 1 En (FJ (W d) 0):=by
  refine .inr ⟨W h4,W d+1,k_,Eg _,?_,.inr k_⟩
  simp_all
 have bb:Xg S mp (Fu d):=by rw[p];refine(RC (Q' (gJ _)) s.pr).ke λo ho=>k6 mp o ho λe=>?_;obtain⟨es,c,a1,_⟩:=s.pr;rw[e,s.hb]at a1;cases a1
 have bd:∀ {g:HL},i' (W h0) g xp 2 Fb ((EW (W d)).map λi=>(i,U))->i' 0 g xp 2 Fb ((EW (W d)).map λi=>(i,U)):=λq=>by
  rcases q with q|⟨id,cx,e1,_,e3⟩
  .exact .inl q
  .exact .inr ⟨id,cx,e1,Eg _,e3⟩
 have I:=s.up;rw[←p]at I;have ck:Pi S b N U ((EW (W d)).map λi=>((i,U):Lit)) (FJ (W d) 0) (Fu d) []:=by
  rw[u];refine⟨?_,bd (I.D6 λj cs _ h=>k6 j _ h (cb h q7)),be,.inl ⟨rfl,rfl⟩,bb,⟨_,frs_id _⟩,okW_id _⟩
  grind
 have cm:SeX S N w v l G r xi:=by rw[u];exact⟨h3,⟨rfl,rfl,rfl⟩,ay.ke λj o f _=>ad j o f,bs,D,M,co,a7.ke λj o f _=>ad j o f,cl⟩
 have c2:∀j,i_ xv=O j->j<W h0:=λj q=>yS ay q;have c1:∀j,i_ xi=O j->j<W h0:=λj q=>yS a7 q;have c0:i_ N.va=O (W h4):=by rw[u];rfl
 have bm:∀j,i_ xp=O j->W h0<=j/\j<W h4:=λj q=>I.i_ q;obtain⟨kv,Z,mm,n1,cs,dk,lx,hS⟩:=p3 ck cm (λj q e=>by
  grind) (λj q e=>by
  grind) (λi n hi ⟨e,he,hn,hc⟩=>by
  rw[IR,lD];refine yg ?_ i n;rw[p];exact cr_pos hs D M.1 T hi he hn hc)
 refine ai cs ?_;refine c_ ?_;obtain⟨A,Y⟩ : ∃A,A=B2 w v l G r:=⟨_,rfl⟩;have bP:E2 w v l (λc=>ae (G c) r) (4*w*v)=A:=Y.symm;rw[bP]at hS;obtain⟨⟨n7,W7,is,dn,p7,c7,C⟩,_,dm,b4⟩:=hS;have b6:W A.1<=108:=by have E:W (B2 w v l G r).1<=3*(4*w*v):=pY (4*w*v);rw[Y];omega
 have bx:∀V,(n7=U/\Rs ((EW (W d)).map λi=>((i,U):Lit)) W7 V)↔∀i e,i<4*w*v->e<3->Gy (Fu d) w v l (my G r) V i e:=λV=>(c7 V).trans ⟨λq=>q.2,λq=>⟨⟨rfl,rs_id _ V⟩,q⟩⟩;have b5:=i'.g_ (e:=1) (enc:=ER) bh C.kl;refine aO (i'.ls bh C.kl) ?_;rw[IR];have c4:S1 Z b N (W d) W7 (Fu d) (Km (Fu d) A 0) (λV=>(∀i e,i<4*w*v->e<3->Gy (Fu d) w v l (my G r) V i e)/\RuC (Fu d) A V 0) Z:=
  ⟨n7,_,p7,d_,λV=>(bx V).trans ⟨λq=>⟨q,λi hi=>a_⟩,λq=>q.1⟩,λ_ _ h _ _=>h,rfl⟩
 refine aN (m:=W is) (λm ls g=>∃i fo,ls=[.i (DO i)]/\m=W is-i/\i<=W is/\S1 g b { N with fo:=fo } (W d) W7 (Fu d) (Km (Fu d) A i) (λV=>(∀i e,i<4*w*v->e<3->Gy (Fu d) w v l (my G r) V i e)/\RuC (Fu d) A V i) g/\(∀(j:Nat) o,Z[j]?=O o->j≠b->i_ xp≠O j->g[j]?=O o)/\Z.length<=W g/\∀j,i_ fo=O j->W Z<=j) ⟨0,DW Q 0 0,rfl,rfl,Eg _,by grind,λ_ _ h _ _=>h,B7 _,λj q=>(by cases q)⟩ ?_
 rintro m ls g ⟨i,fo,rfl,rfl,hi,a0,ap,dj,cd⟩ c3 av;refine Fc ?_;refine c_ ?_;have cq:b<n1:=a_;have ag:∀(j:Nat) o,n1<=j->Z[j]?=O o->g[j]?=O o:=λj o f ho=>ap j o ho a_ λe=>jw;by_cases X:i<W is
 case neg=>
  obtain rfl:i=W is:=a_;rw[aw (B7 _)];refine m9 ?_;obtain⟨n8,U8,p8,ca,aE,_,_⟩:=a0;have a9:W is=W A.1:=C.il;have cy:0<W A.1:=by
   have R:0<w*v:=qdN h3.1 h3.2.2.1;have E:(G1 w v l (my G r) 0 0).1∈A.1:=by
    rw[Y];refine((zF w v l (my G r) (4*w*v)).ks _).2 ⟨G1 w v l (my G r) 0 0,?_,rfl⟩;unfold HY
    grind
   grind
  obtain⟨id,F⟩:=ak (l:=is) (i:=0) a_;obtain⟨a1,_,_,_,_,_,_,a5⟩:=C.bl 0 id F;have a6:=ah a5;refine hK g ?_;rw[←p];rw[a9,Y]at p8 aE;rw[u]at p8;exact np_fin s h3 bs T D M ay p rfl p8 ca (λV=>aE V) (λj o f R E=>ap j o (b4 j o (k6 j o f R) R jw) R E) (λj q=>by have:=cd j q;omega) a_
 rw[aB X];refine c_ ?_;obtain⟨id,F⟩:=ak X;refine aJ (i'.ls bh (C.kl.ke λj o f hb=>ag j o (C.kl.i_ hb).1 f)) rfl (a:=lM id) jw ?_;rw[show ER (lM id)=[lM id]from rfl];refine c_ ?_;refine ab (az _) ?_;refine m9 ?_;obtain⟨a1,x,y,z,a2,a3,a4,a5⟩:=C.bl i id F;obtain⟨k,hk⟩:=ak (l:=A.1) (i:=i) (by rw[←C.il];exact X);have al:=hk;rw[Y]at al;have hL:∀t,t<3->A.2[3*i+t]?=O (FC A i t):=λt ht=>by rw[Y];exact(NA al ht).1
 have an:∀ {x:TV} {L:List K2},i' n1 Z x 2 Gf L->i' n1 g x 2 Gf L:=λho=>ho.ke λj o f hb=>ag j o (ho.i_ hb).1 f;have o0:=an (C.ow _ x _ a2 (hL 0 a_));have o1:=an (C.ow _ y _ a3 (hL 1 a_));have o2:=an (C.ow _ z _ a4 (hL 2 a_));have ax:∀t,t<3->W (FC A i t)<=1000:=λt ht=>by
  have:=vy (w:=w) (v:=v) (l:=l) (P:=my G r) (4*w*v) (FC A i t) (by grind)
  omega
 have dl:∀ {x:TV} {L:List K2},i' n1 g x 2 Gf L->∀j,i_ xp=O j->i_ x≠O j:=λho j q e=>by have R:=(bm j q).2;have E:=(ho.i_ e).1;omega
 have b8:W (Km (Fu d) A i)<=1000000000:=by
  have R:=yc (pn:=Fu d) (A:=A) (B:=1000) i λj t f ht=>by obtain⟨k2,a8⟩:=ak (l:=A.1) (i:=j) (by rw[←C.il];omega);rw[Y]at a8 ⊢;have:=wY hs D M.1 T a8 ht;omega
  grind
 have cn:({ N with fo:=fo }:XC).up=xp:=by rw[u]
 obtain⟨g',cr,b0,n',U',p',b9,b7,ct,cf,c9⟩:=eA a0 (sb:=id) (ag id _ a1 a5) (i'.ls (λ_=>rfl) o0) (i'.ls (λ_=>rfl) o1) (i'.ls (λ_=>rfl) o2) (λj q=>jw) ⟨ax 0 a_,ax 1 a_,ax 2 a_⟩ b8 (λE a b'=>by refine yg ?_ a b';rw[p];rw[Y]at E;exact z2 hs D M.1 T al E)
 refine ai cr ?_;refine c_ ?_;rw[aI (by have:=C.il;omega)];have ci:∀j,j<W Z->i_ fo≠O j:=λj f e=>by grind
 have bk:∀j,i_ ({ N with fo:=fo }:XC).up≠O j↔i_ xp≠O j:=λj=>by rw[cn]
 refine av _ _ _ a_ ⟨i+1,b0,rfl,rfl,X,⟨n',U',by rw[Ae];exact p',b9,λV=>(b7 V).trans ?_,λ_ _ h _ _=>h,rfl⟩,λj o f R E=>cf j o (ap j o f R E) R ((bk j).2 E) (ci j (ah f)),a_,λj q=>?_⟩
 .constructor
  .rintro⟨⟨b1,b2⟩,b3⟩;refine⟨b1,λi2 ce=>?_⟩;by_cases e:i2=i
   .grind
   .exact b2 i2 a_
  .rintro⟨b1,b2⟩;exact⟨⟨b1,λi2 ce=>b2 i2 a_⟩,b2 i a_⟩
 grind
end
structure N3(h0 h4:HL)(b mp:Nat)(w v:Nat)(xv:FO)(r:Mv)(xa xd xl xu:FO)(vs:Tn)(IM:TL):Prop where
 hb:h4[b]?=O (.o (.cells (aj ⟨w,v,xv,r,xa,xd,xl,xu,mp,.slice Q 0 0,.slice Q 0 0,.slice Q 0 0⟩ U) 15 J))
 bn:h0.length<=b
 mpn:h0.length<=mp
 old:∀(j:Nat) o,h0[j]?=O o->h4[j]?=O o
 at_:i' h0.length h4 xa 3 bX (E3 IM)
 ids:i' h0.length h4 xd 1 ER vs
 vl:vs.length=(s7 IM).length
 iv:∀(j:Nat) x l,vs[j]?=O x->(s7 IM)[j]?=O l->i' h0.length h4 x 1 l_ l
 lay:i' h0.length h4 xl 1 ER ((s7 IM).map λ_=>.slice Q 0 0)
 us:i' h0.length h4 xu 1 D0 (FJ IM.length U)
 pr:h4[mp]?=O (.o (.map [] 0))
 s1:∀j,i_ xu=O j->i_ xl≠O j
 s2:∀j,i_ xu=O j∨i_ xl=O j->i_ xd≠O j/\∀x∈vs,i_ x≠O j
structure NJ(h4 g:HL)(b mp:Nat)(w v:Nat)(xv:FO)(r:Mv)(xa xd xl xu:FO)(PR:List K2):Prop where
 x:∃xp,g[b]?=O (.o (.cells (aj ⟨w,v,xv,r,xa,xd,xl,xu,mp,xp,.slice Q 0 0,.slice Q 0 0⟩ U) 15 J))/\i' h4.length g xp 2 Fb ((EW PR.length).map λi=>(i,U))
 m:E8 Gf g mp (prV PR)
 k:∀(j:Nat) o,h4[j]?=O o->j≠b->j≠mp->g[j]?=O o
 l:h4.length<=g.length
section
variable {h0 h4:HL} {b mp w v:Nat} {xv:FO} {r:Mv} {xa xd xl xu:FO} {vs:Tn} {IM:TL}
def N3.wid(d:N3 h0 h4 b mp w v xv r xa xd xl xu vs IM){j e:Nat}{cs:Tn}{c:Bool}(a:h4[j]?=O (.o (.cells cs e c)))(f:e≠15):j≠b/\j≠mp:=by
 constructor
 .intro q;subst q;rw[d.hb]at a
  simp_all
 .intro q;subst q;rw[d.pr]at a;cases a
def NJ.ls{j7:Type}{e:Nat}{enc:j7->Tn}{L:List j7}{x:TV}(c:N3 h0 h4 b mp w v xv r xa xd xl xu vs IM){g:HL}{d:List K2}(f:NJ h4 g b mp w v xv r xa xd xl xu d)(a:e≠15){n0:Nat}(i:i' n0 h4 x e enc L):i' n0 g x e enc L:=
 i.D6 λj l _ h=>f.k j _ h (c.wid h a).1 (c.wid h a).2
def NJ.done(a:N3 h0 h4 b mp w v xv r xa xd xl xu vs IM){g:HL}(c:NJ h4 g b mp w v xv r xa xd xl xu (F9 (s7 IM)))(f:W h0<=W h4):∃d,N4 h0 g b mp w v xv r xa xd xl xu d vs IM:=by
 obtain⟨d,t,u⟩:=c.x;refine⟨d,t,a.bn,a.mpn,λj o h=>c.k j o (a.old j o h) (λe=>?_) (λe=>?_),c.ls a q7 a.at_,c.ls a q7 a.ids,a.vl,λj x l p s=>c.ls a q7 (a.iv j x l p s),c.ls a q7 a.lay,c.ls a q7 a.us,c.m,?_,a.s1,a.s2⟩
 .have:=ah h;have:=a.bn;omega
 .have:=ah h;have:=a.mpn;omega
 .rcases u with q|⟨id,i,n,y,e3⟩
  .exact .inl q
  .exact .inr ⟨id,i,n,a_,e3⟩
def np3_c(t:N3 h0 h4 b mp w v xv r xa xd xl xu vs IM)(ad:W h0<=W h4)(be:W IM<=36){xi:TV}{K:Te}(hK:∀g H,N4 h0 g b mp w v xv r xa xd xl xu H vs IM->np4 (hA P1) b xi g K) :
  np3 (hA P1) b xi h4 K:=by
 have a0:=gJ IM;have bl:W (s7 IM)<=36:=by unfold s7;rw[IR];have:=tQ IM;omega
 have ag:∀l∈s7 IM,W l<=36:=λl z=>by obtain⟨c,_,rfl⟩:=Ed.1 z;have:=pM (L:=IM) (n:=W IM) (c:=c);show(HF _ _ _).length<=36;omega
 have F:∀ {g:HL} {PR:List K2},NJ h4 g b mp w v xv r xa xd xl xu PR->∀(j:Nat) x l,vs[j]?=O x->(s7 IM)[j]?=O l->q_ g x 1 l_ l:=λX j x l h1 P=>i'.ls bc (X.ls t q7 (t.iv j x l h1 P));unfold np3;simp only[w7];refine m9 ?_;refine bA (ds:=[xd]) t.hb (by simp[aj]) rfl ?_;refine c_ ?_;refine ab (i'.g_ (e:=1) (enc:=ER) bh t.ids) ?_;refine m9 ?_;refine aO (i'.ls bh t.ids) ?_;have ax:NJ h4 h4 b mp w v xv r xa xd xl xu (VL (s7 IM) 0):=⟨⟨_,t.hb,.inl ⟨rfl,rfl⟩⟩,⟨[],0,t.pr,rfl⟩,λ_ _ h _ _=>h,B7 _⟩;refine aN (m:=W vs) (λm Y g=>∃s,Y=[.i (DO s)]/\m=W vs-s/\s<=W vs/\NJ h4 g b mp w v xv r xa xd xl xu (VL (s7 IM) s)) ⟨0,rfl,rfl,Eg _,ax⟩ ?_;rintro m Y g ⟨s,rfl,rfl,bs,V⟩ bb S;refine Fc ?_;refine c_ ?_;by_cases C:s<W vs
 case neg=>obtain rfl:s=W vs:=a_;rw[aw (B7 _)];refine m9 ?_;rw[hX (by rw[t.vl];omega)]at V;obtain⟨H,q⟩:=V.done t ad;exact hK g H q
 rw[aB C];refine c_ ?_;obtain⟨x,hx⟩:=ak C;obtain⟨l,z⟩:=ak (l:=s7 IM) (i:=s) (by rw[←t.vl];exact C);have a9:=ag l (A9 z);refine aJ (i'.ls bh (V.ls t q7 t.ids)) rfl hx ?_;rw[show ER x=[x]from rfl];refine c_ ?_;have an:=F V s x l hx z;refine ab an.g_ ?_;refine m9 ?_;refine aO an ?_;refine aN (m:=W l) (λm Y g=>∃i,Y=[.i (DO i)]/\m=W l-i/\i<=W l/\NJ h4 g b mp w v xv r xa xd xl xu (VL (s7 IM) s++KX l i)) ⟨0,rfl,rfl,Eg _,by simpa[KX]using V⟩ ?_;rintro m2 bx g2 ⟨i,rfl,rfl,hi,R⟩ a6 D;refine Fc ?_;refine c_ ?_;by_cases A:i<W l
 case neg=>obtain rfl:i=W l:=a_;rw[aw (B7 _)];refine c_ ?_;rw[aI (j:=s) (by have:=t.vl;omega)];refine S _ _ _ a_ ⟨s+1,rfl,rfl,C,?_⟩;rw[j5 z];exact R
 rw[aB A];refine c_ ?_;obtain⟨y,hy⟩:=ak A;refine aJ (F R s x l hx z) rfl hy ?_;rw[show l_ y=[EO DQ (DO y)]from rfl];refine c_ ?_;obtain⟨xt,et,lt,gt,bt⟩:=vF (F V s x l hx z) hi;refine af et (ab gt ?_);refine m9 ?_;have a4:W (l.take i)=i:=k_;refine aO lt ?_;rw[a4];refine aN (m:=i) (λm Y g=>∃k,Y=[.i (DO k)]/\m=i-k/\k<=i/\NJ h4 g b mp w v xv r xa xd xl xu (VL (s7 IM) s++KX l i++(l.take k).map λa=>((a,y):K2))) ⟨0,rfl,rfl,Eg _,by simpa using R⟩ ?_;rintro m3 bC g3 ⟨k,rfl,rfl,hk,d⟩ a7 E;refine Fc ?_;refine c_ ?_;by_cases B:k<i
 case neg=>obtain rfl:k=i:=a_;rw[aw (B7 _)];refine c_ ?_;rw[aI a_];refine D _ _ _ a_ ⟨k+1,rfl,rfl,A,?_⟩;rw[vj,prI_eq hy,←Gu];exact d
 rw[aB B];refine c_ ?_;obtain⟨a,ha⟩:=ak (l:=l) (i:=k) a_;have ay:(l.take i)[k]?=O a:=jw;have a5:q_ g3 xt 1 l_ (l.take i):=by
  obtain⟨b0,bd,bP,_,_⟩:=vF (F d s x l hx z) hi
  simp_all
 refine aJ a5 rfl ay ?_;rw[show l_ a=[EO DQ (DO a)]from rfl];refine c_ ?_;obtain⟨p,I⟩ : ∃p,p=VL (s7 IM) s++KX l i++(l.take k).map λa=>((a,y):K2):=⟨_,rfl⟩;have N:=eD a0 z hy B ha;rw[←I]at d N;have bk:W p<=1000000:=by
  have h1:W (VL (s7 IM) s)<=W ((s7 IM).take s)*(36*36):=RF λl z=>ag l (Xj z);have P:=zr (l:=l) i;have h3:i*i<=36*36:=qcq a_ a_
  grind
 obtain⟨H,Z,q2⟩:=d.x;refine bA (ds:=[.map (O mp)]) Z (by simp[aj]) rfl ?_;refine c_ ?_;refine ab rfl ?_;refine m9 ?_;refine bA (ds:=[H]) Z (by simp[aj]) rfl ?_;refine c_ ?_;refine ab (i'.g_ (e:=2) (enc:=Fb) dQ q2) ?_;refine m9 ?_;refine aO (i'.ls dQ q2) ?_;rw[IR,lD];have bn:∀k:K2,Instr.sameBits 10000 (EU ⟨Gf k⟩) (EU ⟨Gf k⟩)=J:=λk=>by simp[Gf,Instr.sameBits]
 refine m4 Gf Yt e_ e_ Pn d.m ((a,y):K2) (by rw[RB];exact N) rfl λo hm=>?_;obtain⟨M,e4⟩ : ∃M,M=g3.set mp o:=⟨_,rfl⟩;rw[←e4]at hm ⊢;rw[←eX]at hm;have l4:W M=W g3:=k_;have bm:∀ {j e:Nat} {u:Tn} {f:Bool},g3[j]?=O (.o (.cells u e f))->mp≠j:=λ{j e u f} X q=>by
  subst q;obtain⟨es,c,P,_⟩:=d.m
  simp_all
 have k4:∀ {j e:Nat} {u:Tn} {f:Bool},g3[j]?=O (.o (.cells u e f))->M[j]?=O (.o (.cells u e f)):=λ{j e u f} X=>by grind
 refine m9 ?_;refine kK (ds:=[H]) (k4 Z) (by simp[aj]) rfl ?_;refine c_ ?_;have T:i' (W h4) M H 2 Fb ((EW (W p)).map λi=>(i,U)):=q2.D6 λj u _ h=>k4 h;refine ab (i'.g_ (e:=2) (enc:=Fb) dQ T) ?_;refine m9 ?_;refine bA (ds:=[H]) (k4 Z) (by simp[aj]) rfl ?_;refine c_ ?_;refine ab (i'.g_ (e:=2) (enc:=Fb) dQ T) ?_;refine m9 ?_;refine aO (i'.ls dQ T) ?_;rw[IR,lD];refine m9 ?_;refine T.KG (a:=((W p,U):Lit)) dQ (by have:=d.l;omega) rfl rfl rfl (by unfold aY;rw[IR,lD,FE a_,FE a_];rfl) ?_;intro a8 g5 o5 gx k5 l5 b5;refine c_ ?_;refine ab gx ?_;refine m9 ?_;have G:=k4 Z;have al:∀ {j e:Nat} {u:Tn} {f:Bool},M[j]?=O (.o (.cells u e f))->e≠2->i_ H≠O j:=λ{j e u f} X he q=>by
  obtain⟨ap,P⟩:=T.wid q
  simp_all
 refine gz (b:=b) (k5 _ _ G (al G q7)) (by simp[aj]) ?_;refine m9 ?_;refine af (x:=()) (df (bV ⟨_,_,_,rfl⟩ λi hi=>?_) fj) ?_
 .have Z:W M=i:=by simpa[i_]using hi
  grind
 refine m9 ?_;rw[aI a_];refine E _ _ _ a_ ⟨k+1,rfl,rfl,B,?_⟩;rw[b9 ha,←Gu,←I];have aE:=k5 _ _ G (al G q7);have a3:mp≠b:=λe=>by grind
 refine⟨⟨a8,?_,?_⟩,?_,λj o X h1 P=>?_,?_⟩
 .exact ew aE
 .have e1:((EW (W (p++[((a,y):K2)]))).map λi=>((i,U):Lit))=((EW (W p)).map λi=>((i,U):Lit))++[(W p,U)]:=by rw[IL,qcV,RL,ME];rfl
  rw[e1];exact o5.D6 λj u _ h=>cV h λe=>by simp_all
 .obtain⟨es,c,a1,a2⟩:=hm;refine⟨es,c,cV (k5 mp _ a1 λe=>?_) (EC a3),a2⟩;obtain⟨ap,P⟩:=T.wid e
  simp_all
 .have h3:=d.k j o X h1 P;have av:M[j]?=O o:=by grind
  refine cV (k5 j o av λe=>?_) (EC h1);have:=(T.i_ e).1
  simp_all
 .rw[HP];have:=d.l;omega
end
def uk(a:K3):∃r,fU kk3 (Hg a) (Hg a)=O r:=by have b:dc DQ DQ=J:=rfl;have c:dc DU DU=J:=rfl;simp only[Hg,fU,b,c,jg];exact⟨_,rfl⟩
def WhH(h:HL)(m:Nat)(b:TL):Prop:=∃a:List (K3×FO),E8 Hg h m a/\(∀c,c∈a.map Prod.fst↔c∈b)/\∀(i:Nat) k u,a[i]?=O (k,u)->u=EO DQ (DO ((E3 b).idxOf k))
def WhH.ke{h h':HL}{m:Nat}{a:TL}(e:WhH h m a)(d:∀o,h[m]?=O o->h'[m]?=O o):WhH h' m a:=by obtain⟨f,b,c⟩:=e;exact⟨f,b.ke Hg d,c⟩
def WhH.lt{h:HL}{m:Nat}{a:TL}(c:WhH h m a):m<W h:=by obtain⟨d,b,_⟩:=c;exact b.lt
def WhH.ne{h:HL}{m:Nat}{b:TL}(d:WhH h m b){j e:Nat}{cs:Tn}{a:Bool}(i:h[j]?=O (.o (.cells cs e a))):j≠m:=λq=>by
 subst q;obtain⟨k,⟨f,c,g,_⟩,_⟩:=d
 simp_all
def r_luW{h:HL}{m:Nat}{a:TL}(n:WhH h m a){c:Cl}(g:c∈a){K:Tf}(q:K [EO DQ (DO ((E3 a).idxOf c))]):P1.oo (.fn (Hv cc 67 U (EO DQ 0) (.map (O m)) (EU ⟨[EO DQ c.1,EO DQ c.2.1,EO DU (DO c.2.2)]⟩) U)) h (@j_ _ ⟨K⟩):=by
 obtain⟨r,d,f,o⟩:=n;refine pD Hg Al e_ e_ uk d c rfl (λb e=>by cases e) (λp l b e=>?_) (λk=>absurd ((f c).2 g) k) λi u j=>?_
 .obtain⟨i,j⟩:=E4 l
  grind
 grind
def Aq{u v:TV}(e:∃a n c,v = .slice a n c):Eo (E' u) (D9 2 v)=J:=by obtain⟨b,m,d,rfl⟩:=e;exact pz
def qv{v:TV}{b:Nat}(e:∃a n c,v = .slice a n c)(h:∀i,i_ v=O i->i≠b):Eo (E' v) (D9 0 (.map (O b)))=J:=by
 obtain⟨a,n,c,rfl⟩:=e;show Eo (E' (.slice a n c)) [b]=J;rcases a with _|a
 .rfl
 have d:=h a.block rfl;unfold E';simp only;split
 .rfl
 .exact yp d
def zj{j7:Type}{n0 e:Nat}{enc:j7->Tn}{l:List j7}{h:HL}{v:TV}(b:i' n0 h v e enc l):∃a n c,v = .slice a n c:=by
 rcases b with⟨rfl,_⟩|⟨id,d,rfl,_⟩
 .simp_all
 simp_all
def p_setY{h:HL}{b e:Nat}{cs new:Tn}{K:TV->Tn->HL->Prop}{o:Nat}(a:h[b]?=O (.o (.cells cs e J)))(d:o+W new<=W cs)(c:K (EQ (O ⟨b,o,Q⟩)) [] (h.set b (.o (EJ (cs.take o++new++cs.drop (o+W new)) e J)))) :
  P1.km (EZ (lM b)) (@j_ _ ⟨λx=>P1.qa x (@j_ _ ⟨P1.km (Fq o x) (@j_ _ ⟨λy=>P1.qa y (@j_ _ ⟨P1.heap (.st y new) h (@j_ _ ⟨K y⟩)⟩)⟩)⟩)⟩):=by
 refine af (x:=lM b) rfl (ab (az b) (af (x:=EQ (O ⟨b,0+o,Q⟩)) rfl (ab (by simp[aH,q8,aW,bG,bu,aR,aL]) ?_)));rw[Hd];exact r_stO a d c
structure N2(h0 h4:HL)(b mp mw:Nat)(w v:Nat)(xv:FO)(r:Mv)(xa xu:FO)(IM:TL):Prop where
 hb:h4[b]?=O (.o (.cells (aj ⟨w,v,xv,r,xa,.slice Q 0 0,.slice Q 0 0,xu,mp,.slice Q 0 0,.slice Q 0 0,.slice Q 0 0⟩ U) 15 J))
 bn:h0.length<=b
 mpn:h0.length<=mp
 old:∀(j:Nat) o,h0[j]?=O o->h4[j]?=O o
 at_:i' h0.length h4 xa 3 bX (E3 IM)
 us:i' h0.length h4 xu 1 D0 (FJ IM.length U)
 pr:h4[mp]?=O (.o (.map [] 0))
 wh:WhH h4 mw IM
structure NK(h6 g:HL)(xd:FO)(m:Nat)(IM:TL)(n:Nat)(vs:Tn):Prop where
 x:i' 0 g xd 1 ER vs
 vl:vs.length=(E3 IM).length
 iv:∀(j:Nat) x c,vs[j]?=O x->(E3 IM)[j]?=O c->i' h6.length g x 1 l_ (HF IM n c)
 dj:∀(i j:Nat) x y z,vs[i]?=O x->vs[j]?=O y->i_ x=O z->i_ y=O z->i=j
 k:∀(j:Nat) o,h6[j]?=O o->j≠m->g[j]?=O o
 l:h6.length<=g.length
def np2_c{h0 A:HL}{b N mw w v:Nat}{V:TV}{r:Mv}{D P:TV}{f:TL}(s:N2 h0 A b N mw w v V r D P f)(cl:W f<=36){xi:TV}(a8:q_ h0 xi 3 bX f){K:Te}(hK:∀g u G vs,W h0<=W g->N3 h0 g b N w v V r D u G P vs f->np3 (hA P1) b xi g K) :
  np2 (hA P1) b xi mw A K:=by
 have cn:=ah s.hb;have a9:W h0<=W A:=by have:=s.bn;omega
 have cm:W (E3 f)<=36:=by have:=tQ f;omega
 obtain⟨M,eM⟩ : ∃M,M=W (E3 f):=⟨_,rfl⟩;unfold np2;simp only[w7];refine kK (ds:=[D]) s.hb (by simp[aj]) rfl ?_;refine c_ ?_;refine ab (i'.g_ (e:=3) (enc:=bX) cK s.at_) ?_;refine m9 ?_;refine aO (i'.ls cK s.at_) ?_;rw[←eM];refine af (dG a_) ?_;refine m9 ?_;rw[show(DO M).toNat=M from rfl];obtain⟨H,e5⟩ : ∃H,H=A++[HO.o (EJ (aQ [DW Q 0 0] M) 1 J)]:=⟨_,rfl⟩;rw[←e5];have k5:∀(j:Nat) o,A[j]?=O o->H[j]?=O o:=λj o d=>jw;have l5:W H=W A+1:=by rw[e5];simp
 have m5:H[W A]?=O (.o (EJ (aQ [DW Q 0 0] M) 1 J)):=by rw[e5];exact aG
 refine kK (ds:=[D]) (k5 _ _ s.hb) (by simp[aj]) rfl ?_;refine c_ ?_;have a3:i' (W h0) H D 3 bX (E3 f):=s.at_.ke λj o d _=>k5 j o d;refine ab (i'.g_ (e:=3) (enc:=bX) cK a3) ?_;refine m9 ?_;refine aO (i'.ls cK a3) ?_;rw[←eM];refine af (dG a_) ?_;refine m9 ?_;rw[show(DO M).toNat=M from rfl];obtain⟨h6,e6⟩ : ∃h6,h6=H++[HO.o (EJ (aQ [DW Q 0 0] M) 1 J)]:=⟨_,rfl⟩;rw[←e6];have k6:∀(j:Nat) o,H[j]?=O o->h6[j]?=O o:=λj o d=>jw;have l6:W h6=W A+2:=by rw[e6];simp;omega
 have m6:h6[W H]?=O (.o (EJ (aQ [DW Q 0 0] M) 1 J)):=by rw[e6];exact aG
 refine p_setY (b:=b) (k6 _ _ (k5 _ _ s.hb)) (by simp[aj]) ?_;refine m9 ?_;obtain⟨u,Y⟩ : ∃u:FO,u=DW (O ⟨W A,0,le 1⟩) M (M+1):=⟨_,rfl⟩;obtain⟨G,Z⟩ : ∃G:FO,G=DW (O ⟨W H,0,le 1⟩) M (M+1):=⟨_,rfl⟩;have a4:Value.slice (O ⟨W A,0,O 11⟩) M (M+1)=u:=Y.symm;have a5:Value.slice (O ⟨W H,0,O 11⟩) M (M+1)=G:=Z.symm;rw[a4,a5];obtain⟨h7,e7⟩ : ∃h7,h7=h6.set b (.o (EJ (aj ⟨w,v,V,r,D,u,DW Q 0 0,P,N,DW Q 0 0,DW Q 0 0,DW Q 0 0⟩ U) 15 J)):=⟨_,rfl⟩;have bt:h6.set b (.o (EJ (List.take 7 (aj ⟨w,v,V,r,D,DW Q 0 0,DW Q 0 0,P,N,DW Q 0 0,DW Q 0 0,DW Q 0 0⟩ U)++[u]++List.drop (7+W [u]) (aj ⟨w,v,V,r,D,DW Q 0 0,DW Q 0 0,P,N,DW Q 0 0,DW Q 0 0,DW Q 0 0⟩ U)) 15 J))=h7:=by rw[e7];rfl
 rw[bt];have b0:h7[b]?=O (.o (EJ (aj ⟨w,v,V,r,D,u,DW Q 0 0,P,N,DW Q 0 0,DW Q 0 0,DW Q 0 0⟩ U) 15 J)):=by grind
 refine gz (b:=b) b0 (by simp[aj]) ?_;obtain⟨C,e8⟩ : ∃C,C=h7.set b (.o (EJ (aj ⟨w,v,V,r,D,u,G,P,N,DW Q 0 0,DW Q 0 0,DW Q 0 0⟩ U) 15 J)):=⟨_,rfl⟩;have bx:h7.set b (.o (EJ (List.take 8 (aj ⟨w,v,V,r,D,u,DW Q 0 0,P,N,DW Q 0 0,DW Q 0 0,DW Q 0 0⟩ U)++[G]++List.drop (8+W [G]) (aj ⟨w,v,V,r,D,u,DW Q 0 0,P,N,DW Q 0 0,DW Q 0 0,DW Q 0 0⟩ U)) 15 J))=C:=by rw[e8];rfl
 refine m9 ?_;rw[bx];have cy:∀i,i_ D=O i->W h0<=i/\i<W A:=λi q=>s.at_.i_ q;have a1:=zj s.at_;have c1:i_ u=O (W A):=by rw[Y];rfl
 have c4:i_ G=O (W H):=by rw[Z];rfl
 have bd:∃a n c,u = .slice a n c:=⟨_,_,_,Y⟩;have ap:∃a n c,G = .slice a n c:=⟨_,_,_,Z⟩;refine af (x:=()) (df (bV bd λi B=>?_) (df (Aq a1) (df (bV ap λi B=>?_) (df (Aq a1) (df (wj bd ap λi B=>?_) (df (Aq a1) (df (bV ap λi B=>?_) (df (bV ap λi B=>?_) fj)))))))) ?_
 .grind
 .grind
 .simp_all
 .grind
 .grind
 refine m9 ?_;have l8:W C=W A+2:=k_;have k8:∀(j:Nat) o,h6[j]?=O o->j≠b->C[j]?=O o:=λj o d ad=>by grind
 have b1:C[b]?=O (.o (EJ (aj ⟨w,v,V,r,D,u,G,P,N,DW Q 0 0,DW Q 0 0,DW Q 0 0⟩ U) 15 J)):=by grind
 have a2:∀(j:Nat) o,A[j]?=O o->j≠b->C[j]?=O o:=λj o d ad=>k8 j o (k6 j o (k5 j o d)) ad;have zz:(aQ [Value.slice Q 0 0] M)=((E3 f).map λ_=>Value.slice Q 0 0).flatMap ER:=by show aQ (ER (Value.slice Q 0 0)) M=_;rw[cP (enc:=ER) (z:=Value.slice Q 0 0) (n:=M),eM,List.map_const']
 have ag:W ((E3 f).map λ_=>Value.slice Q 0 0)=M:=k_;have b7:i' (W h0) C u 1 ER ((E3 f).map λ_=>DW Q 0 0):=.inr ⟨W A,M+1,by rw[ag,Y],a9,k_,.inr (by rw[ag])⟩;have b8:i' (W h0) C G 1 ER ((E3 f).map λ_=>DW Q 0 0):=.inr ⟨W H,M+1,by rw[ag,Z],a_,k_,.inr (by rw[ag])⟩;have T:∀(j:Nat) o,h0[j]?=O o->C[j]?=O o:=λj o d=>a2 j o (s.old j o d) (by have:=ah d;have:=s.bn;omega);refine aO (a8.ke λj o d _=>T j o d) ?_;have bl:∀ {j7:Type} {e n0:Nat} {enc:j7->Tn} {L:List j7} {g:HL} {x:TV},i' n0 g x e enc L->i' 0 g x e enc L:=λq=>by
  rcases q with q|⟨id,cx,e1,_,e3⟩
  .exact .inl q
  .exact .inr ⟨id,cx,e1,Eg _,e3⟩
 refine aN (m:=W f) (λm ls g=>∃n vs,ls=[.i (DO n)]/\m=W f-n/\n<=W f/\NK C g u (W A) f n vs) ⟨0,(E3 f).map λ_=>DW Q 0 0,rfl,rfl,Eg _,bl b7,d_,λj x c E F=>?_,λi j x y z E F h3=>?_,λ_ _ h _=>h,B7 _⟩ ?_
 .obtain⟨_,_,rfl⟩:=Ed.1 (A9 E);exact .inl ⟨rfl,by simp[HF]⟩
 .obtain⟨_,_,rfl⟩:=Ed.1 (A9 E);cases h3
 rintro m ls g ⟨n,vs,rfl,rfl,hn,p⟩ ci a0;refine Fc ?_;refine c_ ?_;have bb:WhH g mw f:=by
  refine(s.wh.ke λo ho=>a2 mw o ho λe=>?_).ke λo ho=>p.k mw o ho ?_
  .exact s.wh.ne s.hb e.symm
  .have:=s.wh.lt;omega
 have ax:g[b]?=O (.o (EJ (aj ⟨w,v,V,r,D,u,G,P,N,DW Q 0 0,DW Q 0 0,DW Q 0 0⟩ U) 15 J)):=p.k b _ b1 a_;by_cases al:n<W f
 case neg=>
  obtain rfl:n=W f:=a_;rw[aw (B7 _)];refine m9 ?_;have kg:∀(j:Nat) o,A[j]?=O o->j≠b->g[j]?=O o:=λj o d ad=>p.k j o (a2 j o d ad) jw;have a6:∀ {j e:Nat} {cs:Tn} {bs:Bool},A[j]?=O (.o (.cells cs e bs))->e≠15->j≠b:=λ{j e cs bs} d he q=>by
   subst q;rw[s.hb]at d
   simp_all
  have b4:W (s7 f)=W (E3 f):=by simp[s7]
  have cr:∀j,i_ P=O j->j<W A:=λj q=>(s.us.i_ q).2;have ct:∀x∈vs,∀j,i_ x=O j->W C<=j:=λx hx j q=>by obtain⟨i,B⟩:=E4 hx;obtain⟨c,X⟩:=ak (l:=E3 f) (i:=i) (by rw[←p.vl];exact ah B);exact((p.iv i x c B X).i_ q).1
  refine hK g u G vs (by have:=p.l;omega) ⟨ax,s.bn,s.mpn,λj o d=>p.k j o (T j o d) jw,s.at_.D6 λj cs _ h=>kg j _ h (a6 h q7),?_,by rw[b4];exact p.vl,λj x l E F=>?_,?_,s.us.D6 λj cs _ h=>kg j _ h (a6 h q7),kg N _ s.pr λe=>?_,λj q e=>?_,λj q=>⟨λe=>?_,λx hx e=>?_⟩⟩
  .rcases p.x with q|⟨id,cx,e1,_,e3⟩
   .exact .inl q
   .refine .inr ⟨id,cx,e1,?_,e3⟩
    simp_all
  .unfold s7 at F;rw[GL]at F;cases X:(E3 f)[j]? with
   |none=>rw[X]at F;cases F
   |some c=>
    rw[X]at F;have:=Fm F;subst this;rcases p.iv j x c E X with q|⟨id,cx,e1,e2,e3⟩
    .exact .inl q
    .exact .inr ⟨id,cx,e1,a_,e3⟩
  .have e1:((s7 f).map λ_=>Value.slice Q 0 0)=(E3 f).map λ_=>Value.slice Q 0 0:=by
    unfold s7
    simp_all
   rw[e1];exact b8.ke λj o d hb=>p.k j o d jw
  .have E:=s.pr;rw[e,s.hb]at E;cases E
  .grind
  .grind
  grind
 rw[aB al];refine c_ ?_;obtain⟨c,X⟩:=ak al;have ay:=A9 X;refine aJ (a8.ke λj o d co=>p.k j o (T j o d) jw) rfl X ?_;rw[show bX c=[EO DQ c.1,EO DQ c.2.1,EO DU (DO c.2.2)]from rfl];refine c_ ?_;refine kK (ds:=[u]) ax (by simp[aj]) rfl ?_;refine c_ ?_;have a7:=i'.g_ (e:=1) (enc:=ER) bh p.x;refine ab a7 ?_;refine m9 ?_;refine r_luW bb ay ?_;refine c_ ?_;refine kK (ds:=[u]) ax (by simp[aj]) rfl ?_;refine c_ ?_;refine ab a7 ?_;refine m9 ?_;refine r_luW bb ay ?_;refine c_ ?_;obtain⟨I,bC⟩ : ∃I,I=(E3 f).idxOf c:=⟨_,rfl⟩;rw[←bC];have aE:(E3 f)[I]?=O c:=by
  have al:=qcH.2 (gZ.2 ay)
  simp_all
 obtain⟨x,hx⟩:=ak (l:=vs) (i:=I) (by rw[p.vl];exact ah aE);refine nD p.x rfl hx ?_;intro id j_;refine c_ ?_;have an:=p.iv I x c hx aE;refine ab (i'.g_ (e:=1) (enc:=l_) bc an) ?_;refine m9 ?_;obtain⟨g1,ck⟩ : ∃g1,g1=g++[HO.o (EJ [EO DQ (DO n)] 1 J)]:=⟨_,rfl⟩;refine an.KG (a:=n) bc p.l rfl rfl rfl (by have:=pM (L:=f) (n:=n) (c:=c);unfold aY;rw[FE a_,FE a_];rfl) ?_;intro x' g2 o2 gx k2 l2 b2;refine c_ ?_;refine ab gx ?_;refine m9 ?_;have cd:id=W A:=by simp_all
 have c0:∀j,i_ x=O j->W C<=j/\j<W g:=λj q=>an.i_ q;have cf:∀j,i_ x'=O j->W C<=j:=λj q=>(o2.i_ q).1;have ce:mw<W A:=s.wh.lt;have cb:=p.l;have bk:∀(j:Nat) o,g[j]?=O o->i_ x≠O j->g2[j]?=O o:=λj o d hb=>k2 j o d hb;have b9:i' 0 g2 u 1 ER vs:=p.x.ke λj o d hb=>bk j o d λe=>by grind
 refine b9.Ny bh rfl (ah hx) rfl ?_;intro g3 ca k3 l3;refine m9 ?_;have S:∀m n c,∃a n' c',Value.slice (O ⟨m,0,O 11⟩) n c = .slice a n' c':=λm n c=>⟨_,_,_,rfl⟩;have be:=zj an;have av:=zj o2;have bm:∀i,i_ (DW (O ⟨W g,0,O 11⟩) 1 2)=O i->i=W g:=λi q=>(Fm q).symm;refine af (x:=()) (df (bV (S _ _ _) λi B=>?_) (df (qv (S _ _ _) λi B=>?_) (df (bV (S _ _ _) λi B=>?_) (df (qv (S _ _ _) λi B=>?_) (df (bV (S _ _ _) λi B=>?_) (df (bV be λi B=>?_) (df (bV av λi B=>?_) (df (qv be λi B=>?_) (df (qv av λi B=>?_) fj))))))))) ?_
 .grind
 .grind
 .grind
 .grind
 .grind
 .grind
 .grind
 .grind
 .grind
 refine m9 ?_;rw[aI a_];have R:∀(j:Nat) y,(vs.set I x')[j]?=O y->(j=I/\y=x')∨(j≠I/\vs[j]?=O y):=λj y d=>by
  by_cases e:j=I
  .grind
  grind
 have cp:∀(j:Nat) y z,j≠I->vs[j]?=O y->i_ y=O z->i_ x≠O z/\C.length<=z/\z<W g:=λj y z e d hz=>by obtain⟨c2,b3⟩:=ak (l:=E3 f) (i:=j) (by rw[←p.vl];exact ah d);exact⟨λq=>e (p.dj j I y x z d hx hz q),(p.iv j y c2 d b3).i_ hz⟩
 refine a0 _ _ _ a_ ⟨n+1,vs.set I x',rfl,rfl,al,ca,by rw[HP];exact p.vl,λj y c2 E F=>?_,λi j y z t E F h3 bP=>?_,λj o d b5=>?_,?_⟩
 .rcases R j y E with⟨rfl,rfl⟩|⟨e,E⟩
  .rw[aE]at F;have:=Fm F;subst this;rw[wN,rv X];refine o2.ke λi o B hb=>k3 i o B λe=>?_
   grind
  .have b6:f[n]?≠O c2:=λq=>by
    rw[X]at q;have:=Fm q;subst this;have cq:=MI (mV f)
    grind
   rw[wN,ts b6,Kv];refine(p.iv j y c2 E F).ke λi o B hb=>?_
   grind
 .have c3:∀(j:Nat) y t,j≠I->vs[j]?=O y->i_ y=O t->i_ x'≠O t:=λj y t e d hy cw=>by grind
  rcases R i y E with⟨q1,q2⟩|⟨e,q1⟩
  .grind
  .rcases R j z F with⟨p1,p2⟩|⟨e2,p1⟩
   .grind
   .exact p.dj i j y z t q1 p1 h3 bP
 .refine k3 j o (bk j o (p.k j o d b5) λe=>?_) λe=>?_
  .grind
  grind
 .omega
end Go.Am
namespace Go.Am
open Sx Go.Proofs Go.Shelf Go.Lib Go.Sort
section
variable [El]
def K4 [Gc]{C:p_}{a:Nat}{mu:m_}{H:Tu}{w w':TX}(h:WR C a mu H w)(d:Go.RowKit.Below w.heap.size w w')(n:w.drawn<=w'.drawn):WR C a mu H w'/\Gw H mu w H mu w':=by
 refine⟨⟨λid o k f=>?_,h.inj,h.own,h.ro,h.Mw,λg r q=>?_⟩,⟨B7 _,λ_ _=>rfl,d.size,λb l _=>d.block b l,λb h=>.inr h,d.os,d.tape,d.output,n⟩⟩
 .obtain⟨p,i,j⟩:=h.obj id o k f;exact⟨p,i,by rw[d.block _ (lh f j)];exact j⟩
 .obtain⟨k,f,c,e,m,i,j⟩:=h.Gd g r q;exact⟨k,f,c,e,m,by rw[d.block _ (MD.1 i).1];exact i,j⟩
def Du{DJ w':TX}(h1:w'.os=DJ.os)(d:w'.tape=DJ.tape)(f:w'.output=DJ.output)(g:DJ.drawn<=w'.drawn)(i:DJ.heap.size<=w'.heap.size)(j:∀b,b<DJ.heap.size->w'.heap[b]?=DJ.heap[b]?):∃q a,w'=grow (DJ.drewN q) a:=by
 refine⟨w'.drawn-DJ.drawn,w'.heap.extract DJ.heap.size w'.heap.size,?_⟩;have e:w'.heap=DJ.heap++w'.heap.extract DJ.heap.size w'.heap.size:=by grind
 obtain⟨k,m,c,l,h⟩:=w';simp only at h1 d f g e;subst h1 d f;unfold grow World.drewN;simp only;rw[←e,show DJ.drawn+(c-DJ.drawn)=c by omega]
def AE{j7:Type} [Inhabited j7]{enc:j7->Tn}{e:Nat}(c:∀x,W (enc x)=e){l:List j7}{t:Nat}(j:t<W l*e):(l.flatMap enc)[t]?=O (Go.Sort.flatK enc e l.toArray)[t]!:=by
 rw[Go.Sort.get_flatK enc e l.toArray t a_];have b:0<e:=by grind
 have d:t / e<W l:=Nat.div_lt_of_lt_mul jw;have g:=nj (e:=e) (enc:=enc) (l:=l) (λa _=>c a) (i:=t / e) (a:=l[t / e]) (Gn d);have h:=VN t b;have f:t=t / e*e+t%e:=by rw[Nat.mul_comm];exact(Nat.div_add_mod t e).symm
 grind
def u6{j7:Type} [Inhabited j7]{enc:j7->Tn}{e:Nat}(n:∀x,W (enc x)=e)(y:∀x,∀v∈enc x,Am.scalar v=J) [Gc]{mu:m_}{p:Pl}{w:TX}{l:List j7}(q:G6 mu p w.heap[p.b]? (EJ (l.flatMap enc) e J)):HoldsK enc e w p.b p.o l.toArray:=by
 obtain⟨_,_,_,c,t,r,f,s,g,h⟩:=q;obtain rfl:=g rfl;intro j m;rw[Go.Sort.size_flatK]at m;have d:=AE (enc:=enc) n (l:=l) (t:=j) a_;obtain⟨z,i,k⟩:=h j _ d;have a:Am.scalar (Go.Sort.flatK enc e l.toArray)[j]! = J:=by
  have u:=A9 d
  grind
 have:=cO a k;subst this;exact⟨by simp[World.cell?,f,i],by simp[World.frozen?,f]⟩
def Do{C:p_}{d:Nat}{mu:m_}{H:Tu}{w:TX} [Gc](y:WR C d mu H w){j7:Type} [Inhabited j7]{enc:j7->Tn}{e:Nat}(h:∀x,W (enc x)=e)(A:∀x,∀v∈enc x,Am.scalar v=J){id:Nat}{p:Pl}{l l':List j7}
  (j_:H[id]?=O (EJ (l.flatMap enc) e J)) (z:mu id=O p) (X:W l'=W l) (n:Nat) (os:Array Obj) :
  WR C d mu (H.set id (EJ (l'.flatMap enc) e J)) (sortWorldK enc e w p.b p.o n l'.toArray os)/\Gw H mu w (H.set id (EJ (l'.flatMap enc) e J)) mu (sortWorldK enc e w p.b p.o n l'.toArray os):=by
 obtain⟨Y,f,P⟩:=y.obj id _ j_ rfl;rw[z]at f;cases f;obtain⟨G,S,T,c,t,r,s,I,K,V⟩:=P;have N:W (l'.flatMap enc)=W l'*e:=aT λa _=>h a;have M:W (l.flatMap enc)=W l*e:=aT λa _=>h a;have g:=y.set (w':=Go.Sort.putRowK enc e (Go.Sort.ahead w n) p.b p.o l'.toArray) (x:=.cells (Go.Sort.putCells (λv:FO=>v) p.o (Go.Sort.flatK enc e l'.toArray) c) t r) j_ rfl z (by
   apply qdd;intro i;show(w.heap.modify p.b _)[i]?=_;rw[Array.getElem?_modify,aE];split
   next q=>subst q;rw[s,rv (MD.1 s).1];rfl
   .rfl) rfl rfl rfl (EJ (l'.flatMap enc) e J) (λ_=>rfl) ⟨G,k_,by
    rw[D7];intro v j;obtain⟨a,_,m⟩:=Gv.1 j;exact iG (A a v m),_,t,r,rfl,by simp[Go.Sort.putCells,I],K,λi v j=>by
    have q:i<W l'*e:=jw;have L:=AE (enc:=enc) h (l:=l') q;rw[j]at L;obtain⟨u,R⟩ : ∃u,c[p.o+i]?=O u:=⟨c[p.o+i]'(by grind),qcy _⟩;refine⟨v,?_,?_⟩
    .simp only[Go.Sort.putCells,Array.getElem?_mapIdx,R,G9]
     simp_all
    .obtain⟨a,_,m⟩:=Gv.1 (A9 j);exact .scalar (A a v m)⟩ (Nat.le_add_right _ _)
 obtain⟨B,D⟩:=g;obtain⟨E,F⟩:=K4 (w':=sortWorldK enc e w p.b p.o n l'.toArray os) B ⟨rfl,rfl,rfl,by unfold sortWorldK grow;simp,λk h=>by
  unfold sortWorldK grow
  grind⟩ (B7 _)
 exact⟨E,D.trans F⟩
def Yk{C:p_}(X:∀g vs,C.G g=O vs->vs.all ma=J){j7:Type} [Inhabited j7]{enc:j7->Tn}{e:Nat}{s:j7->j7->Int}{g:TT}(hs:∀x,∀v∈enc x,Am.scalar v=J)
  (hc:∀x y,eR C g [EU ⟨enc x⟩,EU ⟨enc y⟩] [] (EO DQ (s x y)) []) [glo:Gc] {a:Nat} {mu:m_} {H:Tu} {w:TX} (Y:WR C a mu H w) {i_:Nat} (A:a<=i_) (off n:Nat):CmpLays C.P g #[] enc e s i_ off n w:=by
 intro m F l _ x y N;have d:∀b t,b<a->w.heap[b]?=O t->(sortWorldK enc e w i_ off m l F).heap[b]?=O t:=λb t ad ht=>by
  unfold sortWorldK grow;simp only;rw[qda (by rw[show(Go.Sort.putRowK enc e (Go.Sort.ahead w m) i_ off l).heap.size=w.heap.size from Go.Sort.size_putRow _ _ _ _ _];grind)];show(w.heap.modify i_ _)[b]?=_
  grind
 generalize sortWorldK enc e w i_ off m l F=DJ at *;have r:WR C DJ.heap.size (λ_=>Q) [] DJ:=
  ⟨λid o h=>by simp at h,λi j oi oj pi pj h=>by simp at h,λi o p h=>by simp at h,λi o p h=>by simp at h,λ_ _=>rfl,λg vs B=>by obtain⟨R,S,c,t,q,T,V⟩:=Y.Gd g vs B;have z:=d _ _ R T;exact⟨(MD.1 z).1,S,c,t,q,z,uE (X g vs B) V⟩⟩
 have k:∀x:j7,VR Ev (λ_=>Q) (EU ⟨enc x⟩) (EU ⟨enc x⟩):=λx=>.agg rfl λi u v D E=>by rw[D]at E;cases E;exact .scalar (hs x u (A9 (by simpa using D)))
 obtain⟨v,ag,w',I,a2,f,a4,q,K,L,M⟩:=hc x y glo DJ.heap.size (λ_=>Q) DJ #[.agg (enc x).toArray,.agg (enc y).toArray] (B7 _) (A1.cons (k x) (A1.cons (k y) .nil)) r N;rw[show(#[Value.agg (enc x).toArray,Value.agg (enc y).toArray] ++ #[]) = #[Value.agg (enc x).toArray,Value.agg (enc y).toArray]by simp];exact⟨.returned v,w',q,⟨by rw[cO rfl I],Du f.os f.tape f.output f.dr f.size λb Z=>f.ke b Z Ni⟩,K,L,M⟩
def KA{j7:Type} [Inhabited j7](a:j7->j7->Int)(l:List j7):List j7:=(pdq (ltOf a) l.toArray 0 (W l) (Lib.bitLen (W l)) J J).toList
def xW{j7:Type} [Inhabited j7]{a:j7->j7->Int}(b:SWO (ltOf a))(l:List j7):PermIn 0 (W l) l.toArray (KA a l).toArray/\SortedIn (ltOf a) 0 (W l) (KA a l).toArray:=by have h:=pdq_sorts (ltOf a) b l.toArray 0 (W l) (Lib.bitLen (W l)) J J (Eg _) d_ (Or.inl rfl);unfold KA;simpa using h
def ng{j7:Type} [Inhabited j7]{a:j7->j7->Int}(b:SWO (ltOf a))(l:List j7):(KA a l).Perm l:=by
 have h:=(xW b l).1.2.2;have c:W (KA a l)=W l:=by have:=(xW b l).1.1;omega
 grind
def C1{j7:Type} [Inhabited j7]{a:j7->j7->Int}(c:SWO (ltOf a))(l:List j7):(KA a l).Pairwise λx y=>ltOf a y x=U:=by
 have f:W (KA a l)=W l:=by have:=(xW c l).1.1;omega
 rw[Ki];intro i j d e b;have h:=(xW c l).2 i j (Eg _) b a_;simpa[d,e]using h
def zL{C:p_}(hG:∀g vs,C.G g=O vs->vs.all ma=J){z:Ren}(L:SlLaysF0.n6 C.P z){j7:Type} [Inhabited j7]{enc:j7->Tn}{e:Nat}(Z:∀w,(isAgg (z.t 24)).run C.P w = .ok J w)(zE:∀w,(Go.sizeOf (z.t 24)).run C.P w = .ok e w)
  (E:∀x,W (enc x)=e) (u:∀x,∀v∈enc x,Am.scalar v=J) {c:j7->j7->Int} (S:SWO (ltOf c)) {g:TT} (eg:∀args w,(callFunc g args).run C.P w = .ok (.enter g args) w)
  (hc:∀x y,eR C g [EU ⟨enc x⟩,EU ⟨enc y⟩] [] (EO DQ (c x y)) []) {H:Tu} {id n cx:Nat} {l:List j7} (j_:H[id]?=O (EJ (l.flatMap enc) e J)) (hn:n=W l) (h0:0<n) (hl:n<4611686018427387904) :
  eR C (z.f 6) [DW (O ⟨id,0,le e⟩) n cx,.func (.func g) ⟨[]⟩ ⟨[]⟩] H (.tuple #[]) (H.set id (EJ ((KA c l).flatMap enc) e J)):=by
 subst hn;intro ad R V w d hb k s cs;obtain⟨X,al,h1,h2,h3⟩:=k.Le;obtain⟨Y,an,rfl,h5,h6⟩:=h3.Le;obtain rfl:=h6.unnil;have a:d = #[X,Y]:=e1.1 h1;subst a;obtain⟨p,j,F,rfl⟩ : ∃p j,V id=O p/\X=DW (O ⟨p.b,p.o,Q⟩) (W l) j:=by
  clear j_ hl;generalize (W l)=N at *;cases h2 with
  |scalar h=>simp[Am.scalar]at h
  |DX h I ag hx=>simp_all
  |C_ hx=>omega
 obtain⟨A,B,rfl,T,D⟩ : ∃A B,Y = .func (.func g) A B/\A.size=0/\B.size=0:=by
  cases h5 with
  |scalar h=>simp[Am.scalar]at h
  |func hf T hb _ _=>grind
 obtain rfl:=qcQ T;obtain rfl:=qcQ D;obtain⟨p',r,I⟩:=s.obj id _ j_ rfl;rw[F]at r;cases r;have m:=AnyQ.slices_SortFunc_eq L e Z zE enc E (λx v hv=>by have:=u x v hv;unfold Am.scalar at this;split at this<;>first|rfl|cases this) c S g #[] p.b p.o j l.toArray w eg (Yk hG u hc s (s.own id _ p j_ rfl F) p.o l.toArray.size) (u6 E u I) (lh rfl I) a_
 obtain⟨e',w',fr,⟨rfl,n,os,rfl⟩,K,b2,M⟩:=m cs;have q:W (KA c l)=W l:=by have:=(xW S l).1.1;omega
 obtain⟨c1,c2⟩:=Do (l':=KA c l) s E u j_ F q n os;have e2:(pdq (ltOf c) l.toArray 0 l.toArray.size (Lib.bitLen l.toArray.size) J J)=(KA c l).toArray:=by simp[KA]
 rw[e2]at K M;exact⟨.tuple #[],V,_,.tuple d_ rfl (λi x y h=>by simp at h),c1,c2,L.f6.enters rfl _ _,fr,K,b2,M⟩
end
def renS:Ren:=⟨fun|6=>46|15=>73|14=>72|28=>105|29=>106|20=>97|21=>98|22=>99|23=>100|24=>101|25=>102|26=>103|27=>104|46=>132|47=>133|48=>134|49=>135|50=>136|57=>144|n=>n,
 fun|22=>111|24=>67|25=>96|39=>156|53=>194|55=>196|46=>188|45=>187|50=>122|66=>234|70=>238|76=>248|77=>226|n=>n,λn=>n⟩
def nmOf(P:TI)(f:TT):String:=match P.funcs[f]? with
 |O g=>g.name
 |Q => ""
def X5 {P:TI} {f:TT} {B:Func} (h1:(nmOf P f == "runtime.NumGoroutine")=U) (a:P.funcs[f]?=O { B with name:=nmOf P f }):Bears P f B:=⟨_,h1,a⟩
def layS:SlLaysF0.n6 Tryz.prog renS:=by
 constructor
 all_goals first
  |kernel_rfl
  |exact X5 e_ e_
  |exact λ_=>e_
end Go.Am
namespace Go.Am
namespace Sx
open Go.ChangeShapes Go.WideShapes Go.ChangeAt Go.WideMaps Go.WideElems Go.RowKit
def EI:TK->Tn->Prop
 | [],[]=>True
 | .i k::ks,v::vs=>(∃n,v = .int k n/\(Lit.int k n).wf=J)/\EI ks vs
 | .b::ks,v::vs=>(∃t,v = .bool t)/\EI ks vs
 |_,_=>False
def EI.len:∀ {ks:TK} {vs:Tn},EI ks vs->W vs=W ks
 | [],[],_=>rfl
 | .i k::ks,v::vs,h=>by simp[EI.len h.2]
 | .b::ks,v::vs,h=>by simp[EI.len h.2]
 | .v::_,_,h=>by cases h
 | [],_::_,h=>by cases h
 | .i _::_,[],h=>by cases h
 | .b::_,[],h=>by cases h
def EI.Hu:∀ {ks a:TK} {vs c:Tn},EI ks vs->EI a c->EI (ks++a) (vs++c)
 | [],_,[],_,_,h=>h
 | .i k::ks,_,v::vs,_,h,h'=>⟨h.1,EI.Hu h.2 h'⟩
 | .b::ks,_,v::vs,_,h,h'=>⟨h.1,EI.Hu h.2 h'⟩
 | .v::_,_,_,_,h,_=>by cases h
 | [],_,_::_,_,h,_=>by cases h
 | .i _::_,_,[],_,h,_=>by cases h
 | .b::_,_,[],_,h,_=>by cases h
def LG(F:TS->Option (TK)):List Field->Nat->Option (TK)
 | [],_=>O []
 |f::a,off=>match Nat.beq f.offset off,F f.type with
  |J,O ks=>(LG F a (off+W ks)).map (ks ++ ·)
  |_,_=>Q
def yD(P:TI):Nat->TS->Option (TK)
 |0,_=>Q
 |d+1,t=>match P.underlying t with
  |O (.int k)=>O [.i k]
  |O .bool=>O [.b]
  |O (.struct a)=>match LG (yD P d) a.toList 0 with
   |O ks=>match Nat.beq (W ks) (P.cellsOf t)with
    |J=>O ks
    |U=>Q
   |Q=>Q
  |O (.array n e)=>match yD P d e with
   |O ks=>match Nat.beq (P.cellsOf e) (W ks)&&Nat.beq (P.cellsOf t) (n*W ks)with
    |J=>O (FJ n ks).flatten
    |U=>Q
   |Q=>Q
  |_=>Q
section
variable {H:Type} {enc:TypeId×FO->H} {P:TI}
def AD{F:TS->Option (TK)}{w:TX}{b:Nat}{j:Tx}{c:Bool}{fuel:Nat}
  (i:∀t ks,F t=O ks->∀cs (x:FU H×List GW),DataW.trod enc P w b j c fuel t cs=O x->x.2=[]/\EI ks cs/\∀w' d e h',DataW.trod enc P w' d e h' fuel t cs=O x) (cs:Tn) :
  ∀(g:List Field) (off:Nat) (ks:TK) (xs:List (FU H×List GW)),LG F g off=O ks->g.mapM (λf=>DataW.trod enc P w b j c fuel f.type ((cs.drop f.offset).take (P.cellsOf f.type)))=O xs->
   xs.flatMap (·.2)=[]/\EI ks ((cs.drop off).take (W ks))/\∀w' d e h',g.mapM (λf=>DataW.trod enc P w' d e h' fuel f.type ((cs.drop f.offset).take (P.cellsOf f.type)))=O xs
 | [],off,ks,xs,h1,a=>by simp only[LG,Ih]at h1;subst h1;simp only[qds,qc9,Ih]at a;subst a;refine⟨rfl,by simp[EI],λ_ _ _ _=>d_⟩
 |f::g,off,ks,xs,h1,a=>by
  simp only[LG]at h1;split at h1
  next k1 h p=>
   obtain⟨s,e3,rfl⟩:=FD.1 h1;have h:=Fs h;rw[x0]at a;obtain⟨x,q,a⟩:=GY.1 a;obtain⟨u,r,a⟩:=GY.1 a;cases a;obtain⟨k,l,m⟩:=i _ _ p _ _ q;obtain⟨n,v,o⟩:=AD i cs g _ s u e3 r;refine⟨by simp[k,n],?_,λw' d e h'=>?_⟩
   .rw[IL,qdt];refine EI.Hu ?_ k_;have y:=EI.len l
    grind
   .rw[x0,m w' d e h',o w' d e h'];rfl
  .cases h1
def XI{w:TX}{a:Nat}{k:Tx}{b:Bool}{fuel c:Nat}{e:TS}{ks:TK}(t:c=W ks)
  (j:∀cs (x:FU H×List GW),DataW.trod enc P w a k b fuel e cs=O x->x.2=[]/\EI ks cs/\∀w' d f h',DataW.trod enc P w' d f h' fuel e cs=O x) (cs:Tn) :
  ∀(n:Nat) (xs:List (FU H×List GW)),(EW n).mapM (λi=>DataW.trod enc P w a k b fuel e ((cs.drop (i*c)).take c))=O xs->
   xs.flatMap (·.2)=[]/\EI (FJ n ks).flatten (cs.take (n*c))/\∀w' d f h',(EW n).mapM (λi=>DataW.trod enc P w' d f h' fuel e ((cs.drop (i*c)).take c))=O xs
 |0,xs,h=>by simp only[List.range_zero,qds,qc9,Ih]at h;subst h;exact⟨rfl,by simp[EI],λ_ _ _ _=>d_⟩
 |n+1,xs,h=>by
  rw[RL,List.mapM_append]at h;obtain⟨ys,h1,h⟩:=GY.1 h;obtain⟨u,g,h⟩:=GY.1 h;cases h;rw[x0]at g;obtain⟨z,s,g⟩:=GY.1 g;cases g;obtain⟨l,m,o⟩:=XI t j cs n ys h1;obtain⟨p,q,r⟩:=j _ _ s;refine⟨by simp[l,p],?_,λw' d f h'=>?_⟩
  .rw[List.replicate_succ',List.flatten_append,Nq,u4,qdt];refine EI.Hu m ?_;simpa using q
  .rw[RL,List.mapM_append,o w' d f h',x0,r w' d f h'];rfl
def lU:∀(d:Nat) (t:TS) (ks:TK),yD P d t=O ks->∀(w:TX) (b:Nat) (j:Tx) (c:Bool) (fuel:Nat) (cs:Tn) (x:FU H×List GW),DataW.trod enc P w b j c fuel t cs=O x->
  x.2=[]/\EI ks cs/\∀w' f g h',DataW.trod enc P w' f g h' fuel t cs=O x
 |0,_,_,h=>by cases h
 |d+1,t,ks,h=>by
  intro w b j c fuel cs x a;simp only[yD]at h;split at h
  next k e=>
   cases h;obtain⟨n,rfl,rfl,v⟩:=DataW.trod_int e a;refine⟨rfl,⟨⟨n,rfl,v⟩,trivial⟩,λw' f g h'=>?_⟩;cases fuel with
   |zero=>simp[DataW.trod]at a
   |succ m=>simp[DataW.trod,e,v]
  next e=>
   cases h;obtain⟨n,rfl,rfl⟩:=DataW.trod_bool e a;refine⟨rfl,⟨⟨n,rfl⟩,trivial⟩,λw' f g h'=>?_⟩;cases fuel with
   |zero=>simp[DataW.trod]at a
   |succ m=>simp[DataW.trod,e]
  next z e=>
   split at h
   next y p=>
    split at h
    next e3=>
     cases h;have e3:=Fs e3;cases fuel with
     |zero=>simp[DataW.trod]at a
     |succ m=>
      simp only[DataW.trod,e]at a;split at a
      next r=>obtain⟨s,q,rfl⟩:=FD.1 a;obtain⟨l,i,o⟩:=AD (λt ks h cs x a=>lU d t ks h w b j c m cs x a) cs z.toList 0 ks s p q;rw[an,K5 a_]at i;refine⟨l,i,λw' f g h'=>?_⟩;simp only[DataW.trod,e,r,if_true];rw[o w' f g h'];rfl
      .cases a
    .cases h
   .cases h
  next n e u=>
   split at h
   next y p=>
    split at h
    next e3=>
     cases h;rw[y_]at e3;have e4:=Fs e3.1;have e5:=Fs e3.2;cases fuel with
     |zero=>simp[DataW.trod]at a
     |succ m=>
      simp only[DataW.trod,u]at a;split at a
      next r=>obtain⟨s,q,rfl⟩:=FD.1 a;obtain⟨l,i,o⟩:=XI e4 (λcs x a=>lU d e y p w b j c m cs x a) cs n s q;rw[K5 k_]at i;refine⟨l,i,λw' f g h'=>?_⟩;simp only[DataW.trod,u,r,if_true];rw[o w' f g h'];rfl
      .cases a
    .cases h
   .cases h
  .cases h
end
section
variable [El]
end
end Sx
end Go.Am
namespace Go.Am
namespace Sx
def xT{n:Int}(h:(Lit.int DU n).wf=J):0<=n/\n<=255:=by simp only[Lit.wf,y_,Gp]at h;exact h
def rH{H:Type}{enc:TypeId×FO->H}{P:TI}{w:TX}{a:Nat}{f:Tx}{b:Bool}:∀ {c:List TypeId} {vs:Tn} {ds:List (FU H)} {e:List GW},DataW.TrodAll enc P w a f b c vs ds e->W ds=W c
 | [],[],[],_,_=>rfl
 |_::_,_::_,_::_,_,h=>by obtain⟨p,q,_,d,_⟩:=h;simp[rH d]
 | [],_::_,_,_,h=>by cases h
 | [],[],_::_,_,h=>by cases h
 |_::_,[],_,_,h=>by cases h
 |_::_,_::_,[],_,h=>by cases h
end Sx
namespace Sx
open Go.ChangeShapes Go.WideShapes Go.ChangeAt Go.WideMaps Go.WideElems Go.RowKit
inductive GX where
 |i (k:TN)
 |b
 |s (ks:TK)
def GX.lk:GX->LK
 | .i k=>.i k
 | .b=>.b
 | .s _=>.v
def p2(w:TX)(ks:TK)(v:FO):Prop:=
 v=DW Q 0 0∨∃(a:Addr) (len cap:Nat) (c:Tl) (t:TS) (fr:Nat×Nat) (b:Tn),v=DW (O a) len cap/\a.spot=Q/\len<=cap/\cap<=maxLen/\
  w.heap[a.block]?=O (.cells c t fr)/\(cap=0∨a.off+cap*W ks<=c.size)/\b.length=len*W ks/\(∀(i:Nat) v,b[i]?=O v->c[a.off+i]?=O v)/\
  ∀i,i<len->EI ks ((b.drop (i*W ks)).take (W ks))
def NN(w:TX):GX->FO->Prop
 | .i k,v=>∃n,v = .int k n/\(Lit.int k n).wf=J
 | .b,v=>∃t,v = .bool t
 | .s ks,v=>p2 w ks v
def em(w:TX):List GX->Tn->Prop
 | [],[]=>True
 |k::ks,v::vs=>NN w k v/\em w ks vs
 |_,_=>False
def bH(h:HL):List GX->TG->Prop
 | [],[]=>True
 | .i k::ks,.i n::ls=>(Lit.int k n).wf=J/\bH h ks ls
 | .b::ks,.b _::ls=>bH h ks ls
 | .s c::ks,.v x::ls=>(∃n a,Ip h x (W c) n a/\n<=maxLen/\∀i,i<n->EI c ((a.drop (i*W c)).take (W c)))/\bH h ks ls
 |_,_=>False
def em.len{w:TX}:∀ {ks:List GX} {vs:Tn},em w ks vs->W vs=W ks
 | [],[],_=>rfl
 |_::_,_::_,h=>by simp[em.len h.2]
 | [],_::_,h=>by cases h
 |_::_,[],h=>by cases h
def em.Hu{w:TX}:∀ {ks a:List GX} {vs b:Tn},em w ks vs->em w a b->em w (ks++a) (vs++b)
 | [],_,[],_,_,h=>h
 |_::_,_,_::_,_,h,h'=>⟨h.1,em.Hu h.2 h'⟩
 | [],_,_::_,_,h,_=>by cases h
 |_::_,_,[],_,h,_=>by cases h
def bH.Hu{h:HL}:∀ {ks a:List GX} {vs c:TG},bH h ks vs->bH h a c->bH h (ks++a) (vs++c)
 | [],_,[],_,_,h=>h
 | .i _::ks,_,.i _::_,_,h,h'=>⟨h.1,bH.Hu (ks:=ks) h.2 h'⟩
 | .b::ks,_,.b _::_,_,h,h'=>bH.Hu (ks:=ks) h h'
 | .s _::ks,_,.v _::_,_,h,h'=>⟨h.1,bH.Hu (ks:=ks) h.2 h'⟩
 | [],_,_::_,_,h,_=>by cases h
 | .i _::_,_,[],_,h,_=>by cases h
 | .b::_,_,[],_,h,_=>by cases h
 | .s _::_,_,[],_,h,_=>by cases h
 | .i _::_,_,.b _::_,_,h,_=>by cases h
 | .i _::_,_,.v _::_,_,h,_=>by cases h
 | .b::_,_,.i _::_,_,h,_=>by cases h
 | .b::_,_,.v _::_,_,h,_=>by cases h
 | .s _::_,_,.i _::_,_,h,_=>by cases h
 | .s _::_,_,.b _::_,_,h,_=>by cases h
def ckF(F:TS->Option (List GX)):List Field->Nat->Option (List GX)
 | [],_=>O []
 |f::a,off=>match Nat.beq f.offset off,F f.type with
  |J,O ks=>(ckF F a (off+W ks)).map (ks ++ ·)
  |_,_=>Q
def kby:LK->Nat
 | .i DQ=>8
 |_=>0
def kbs:TK->Nat
 | []=>0
 |k::ks=>kby k+kbs ks
def n8:TK->Option (List GX)
 | []=>O []
 | .i k::ks=>(n8 ks).map (.i k :: ·)
 | .b::ks=>(n8 ks).map (.b :: ·)
 | .v::_=>Q
def ym{w:TX}:∀ {ks:TK} {cs:Tn} {c:List GX},n8 ks=O c->EI ks cs->em w c cs
 | [],[],_,h,_=>by cases h;exact trivial
 | .i k::ks,v::vs,_,h,a=>by obtain⟨l,h1,rfl⟩:=FD.1 h;exact⟨a.1,ym h1 a.2⟩
 | .b::ks,v::vs,_,h,a=>by obtain⟨l,h1,rfl⟩:=FD.1 h;exact⟨a.1,ym h1 a.2⟩
 | .v::_,_,_,h,_=>by cases h
 | [],_::_,_,_,a=>by cases a
 | .i _::_,[],_,_,a=>by cases a
 | .b::_,[],_,_,a=>by cases a
def ckT(P:TI):Nat->TS->Option (List GX)
 |0,_=>Q
 |d+1,t=>match P.underlying t with
  |O (.int k)=>O [.i k]
  |O .bool=>O [.b]
  |O (.slice e)=>match yD P 20 e with
   |O ks=>match Nat.beq (P.cellsOf e) (W ks)&&Nat.blt 0 (W ks)&&Nat.ble (kbs ks) (P.bytesOf e)with
    |J=>O [.s ks]
    |U=>Q
   |Q=>Q
  |O (.struct a)=>match ckF (ckT P d) a.toList 0 with
   |O ks=>match Nat.beq (W ks) (P.cellsOf t)with
    |J=>O ks
    |U=>Q
   |Q=>Q
  |O (.array _ _)=>match yD P 20 t with
   |O ks=>n8 ks
   |Q=>Q
  |_=>Q
section
variable {H:Type} {enc:TypeId×FO->H} {P:TI}
def SA(w:TX)(v:FO):Prop:=∀a len cap,v=DW (O a) len cap->a.spot=Q/\∃c t fr,w.heap[a.block]?=O (.cells c t fr)
def kZ{j7 c:Type}{f g:j7->Option c}:∀ {l:List j7},(∀x∈l,f x=g x)->l.mapM f=l.mapM g
 | [],_=>rfl
 |a::l,h=>by rw[x0,x0,h a MA,kZ λx b=>h x (G_ _ b)]
def bZ{a:Addr}(h:a.spot=Q)(i:Nat):a.add i=⟨a.block,a.off+i,Q⟩:=by obtain⟨b,o,s⟩:=a;cases h;unfold Addr.add;simp
def gD{w:TX}{t e:TS}{ks:TK}(V:P.underlying t=O (.slice e))(he:yD P 20 e=O ks)(hc:P.cellsOf e=W ks)(h0:0<W ks){q:Nat}(A:q=0){g:Bool}{fuel:Nat}{cs:Tn}{x:FU H×List GW}
  (X:DataW.trod enc P w q (λ_=>J) g fuel t cs=O x) (hl:∀v∈cs,SA w v) :
  ∃v,cs=[v]/\p2 w ks v/\∀(w':TX) (E:Tx),(∀b,b<w.heap.size->w'.heap[b]?=w.heap[b]?)->(∀b,b<w.heap.size->E b=J)->DataW.trod enc P w' q E g fuel t cs=O x:=by
 subst A;have D:=X;rcases DataW.trod_slice V X with⟨rfl,rfl⟩|⟨a,d,f,h,k,n,rfl,rfl,rfl,hb,I,hm,ag,G,S,_⟩
 .refine⟨_,rfl,.inl rfl,λw' E _ _=>?_⟩;cases fuel with
  |zero=>simp[DataW.trod]at X
  |succ m=>simp[DataW.trod,V]
 .obtain⟨R,c,t',fr,z⟩:=hl _ MA a d f rfl;obtain⟨ap,hr⟩:=S rfl;rw[hc]at G hr;have N:a.block<w.heap.size:=by grind
  have r:∀i,i<f->∃o y,w.cells? 0 (a.add (i*W ks)) (W ks)=O o/\DataW.trod enc P w 0 (λ_=>J) g n e o=O y/\(h++k)[i]?=O y:=by
   intro i C;by_cases s:i<d
   .have p:=G i s;have u:h[i]?=O h[i]:=Gn a_;rw[u]at p;obtain⟨o,Z,h5⟩:=GY.1 p
    simp_all
   .have p:=hr (i-d) a_;rw[show d+(i-d)=i by omega]at p;have u:k[i-d]?=O (k[i-d]'(by omega)):=Gn a_;rw[u]at p;obtain⟨o,Z,h5⟩:=GY.1 p
    grind
  have rd:∀i,i<f->∀j,j<W ks->∀o,w.cells? 0 (a.add (i*W ks)) (W ks)=O o->c[a.off+i*W ks+j]?=o[j]?:=by intro i C j M o K;have s:=(World.cells?_some K).2.2 j M;rw[bZ R,bZ rfl]at s;rw[←s];unfold World.cell?;simp[z]
  have T:f=0∨a.off+f*W ks<=c.size:=by
   by_cases ad:f=0
   .omega
   .right;obtain⟨o,y,s,_,_⟩:=r (f-1) a_;have p:=rd (f-1) a_ (W ks-1) a_ o s;have L:=(World.cells?_some s).2.1;rw[Gn a_]at p;have u:=(MD.1 p).1;have Z:f*W ks=(f-1)*W ks+W ks:=by rw[←Nat.succ_mul];congr 1;omega
    omega
  have al:a.off+d*W ks<=c.size∨d=0:=by grind
  refine⟨_,rfl,.inr ⟨a,d,f,c,t',fr,(c.toList.drop a.off).take (d*W ks),rfl,R,I,hm,z,T,?_,?_,?_⟩,?_⟩
  .grind
  .grind
  .intro i C;obtain⟨o,y,s,p,_⟩:=r i a_;obtain⟨_,u,_⟩:=lU 20 e ks he w 0 _ g n o y p;have L:=(World.cells?_some s).2.1;have:(((c.toList.drop a.off).take (d*W ks)).drop (i*W ks)).take (W ks)=o:=by
    apply Kj;intro j;by_cases M:j<W ks
    .have an:i*W ks+W ks<=d*W ks:=by
      have:=p9 (W ks) (show i+1<=d by omega)
      grind
     grind
    grind
   rw[this];exact u
  .intro w' E hw av;have B:∀i,i<f->w'.cells? 0 (a.add (i*W ks)) (W ks)=w.cells? 0 (a.add (i*W ks)) (W ks):=by
    intro i C;unfold World.cells?;have:∀j,w'.cell? ((a.add (i*W ks)).add j)=w.cell? ((a.add (i*W ks)).add j):=by intro j;rw[bZ R,bZ rfl];unfold World.cell?;rw[hw _ N]
    simp only[this]
   have Y:∀i,i<f->(w'.cells? 0 (a.add (i*P.cellsOf e)) (P.cellsOf e)).bind (DataW.trod enc P w' 0 E g n e)=(h++k)[i]?:=by intro i C;rw[hc,B i C];obtain⟨o,y,s,p,u⟩:=r i C;rw[s,u,Fj];exact(lU 20 e ks he w 0 _ g n o y p).2.2 w' 0 E g
   have F:∀i,i<f->(w.cells? 0 (a.add (i*P.cellsOf e)) (P.cellsOf e)).bind (DataW.trod enc P w 0 (λ_=>J) g n e)=(h++k)[i]?:=by grind
   unfold DataW.trod at D ⊢;simp only[V]at D ⊢;rw[rv ⟨Eg _,I,hm⟩]at D ⊢;rw[kZ (λi C=>(Y i jw).trans (F i jw).symm)];rw[kZ (l:=EW (f-d)) (λj M=>(Y (d+j) jw).trans (F (d+j) jw).symm)]
   simp_all
def Yd{F:TS->Option (List GX)}{w:TX}{a:Bool}{fuel:Nat}(cs:Tn)(g:∀v∈cs,SA w v)
  (i:∀t ks,F t=O ks->∀cs (x:FU H×List GW),(∀v∈cs,SA w v)->DataW.trod enc P w 0 (λ_=>J) a fuel t cs=O x->em w ks cs/\∀(w':TX) (d:Tx),(∀b,b<w.heap.size->w'.heap[b]?=w.heap[b]?)->(∀b,b<w.heap.size->d b=J)->DataW.trod enc P w' 0 d a fuel t cs=O x) :
  ∀(e:List Field) (off:Nat) (ks:List GX) (xs:List (FU H×List GW)),ckF F e off=O ks->e.mapM (λf=>DataW.trod enc P w 0 (λ_=>J) a fuel f.type ((cs.drop f.offset).take (P.cellsOf f.type)))=O xs->
   em w ks ((cs.drop off).take (W ks))/\∀(w':TX) (d:Tx),(∀b,b<w.heap.size->w'.heap[b]?=w.heap[b]?)->(∀b,b<w.heap.size->d b=J)->e.mapM (λf=>DataW.trod enc P w' 0 d a fuel f.type ((cs.drop f.offset).take (P.cellsOf f.type)))=O xs
 | [],off,ks,xs,h1,c=>by simp only[ckF,Ih]at h1;subst h1;simp only[qds,qc9,Ih]at c;subst c;refine⟨by simp[em],λ_ _ _ _=>d_⟩
 |f::e,off,ks,xs,h1,c=>by
  simp only[ckF]at h1;split at h1
  next k1 h k=>
   obtain⟨p,e3,rfl⟩:=FD.1 h1;have h:=Fs h;rw[x0]at c;obtain⟨x,l,c⟩:=GY.1 c;obtain⟨q,m,c⟩:=GY.1 c;cases c;obtain⟨j,r⟩:=i _ _ k _ _ (λv o=>g v (qbN (Xj o))) l;obtain⟨s,u⟩:=Yd cs g i e _ p q e3 m;refine⟨?_,λw' d y n=>?_⟩
   .rw[IL,qdt];refine em.Hu ?_ k_;have g:=em.len j
    grind
   simp_all
  .cases h1
def Ye:∀(d:Nat) (t:TS) (ks:List GX),ckT P d t=O ks->∀(w:TX) (a:Bool) (fuel:Nat) (cs:Tn) (x:FU H×List GW),(∀v∈cs,SA w v)->DataW.trod enc P w 0 (λ_=>J) a fuel t cs=O x->
  em w ks cs/\∀(w':TX) (f:Tx),(∀b,b<w.heap.size->w'.heap[b]?=w.heap[b]?)->(∀b,b<w.heap.size->f b=J)->DataW.trod enc P w' 0 f a fuel t cs=O x
 |0,_,_,h=>by cases h
 |d+1,t,ks,h=>by
  intro w a fuel cs x o c;simp only[ckT]at h;split at h
  next k e=>
   cases h;obtain⟨n,rfl,rfl,p⟩:=DataW.trod_int e c;refine⟨⟨⟨n,rfl,p⟩,trivial⟩,λw' f _ _=>?_⟩;cases fuel with
   |zero=>simp[DataW.trod]at c
   |succ m=>simp[DataW.trod,e,p]
  next e=>
   cases h;obtain⟨n,rfl,rfl⟩:=DataW.trod_bool e c;refine⟨⟨⟨n,rfl⟩,trivial⟩,λw' f _ _=>?_⟩;cases fuel with
   |zero=>simp[DataW.trod]at c
   |succ m=>simp[DataW.trod,e]
  next e r=>
   split at h
   next z i=>
    split at h
    next e3=>cases h;simp only[y_,IV]at e3;obtain⟨v,rfl,g,l⟩:=gD r i (Fs e3.1.1) e3.1.2 rfl c o;exact⟨⟨g,trivial⟩,l⟩
    .cases h
   .cases h
  next s e=>
   split at h
   next z i=>
    split at h
    next e3=>
     cases h;have e3:=Fs e3;cases fuel with
     |zero=>simp[DataW.trod]at c
     |succ m=>
      simp only[DataW.trod,e]at c;split at c
      next j=>
       obtain⟨A,u,rfl⟩:=FD.1 c;obtain⟨g,l⟩:=Yd cs o (λt ks h cs x o c=>Ye d t ks h w a m cs x o c) s.toList 0 ks A i u;rw[an,K5 a_]at g;refine⟨g,λw' f p y=>?_⟩;simp only[DataW.trod,e,j,if_true]
       simp_all
      .cases c
    .cases h
   .cases h
  .split at h
   next q i=>obtain⟨_,g,l⟩:=lU 20 t q i w 0 _ a fuel cs x c;exact⟨ym h g,λw' f _ _=>l w' 0 f a⟩
   .cases h
  .cases h
abbrev Hf:=wa×Option Pl
def ya(w:TX)(b:Hf):Prop:=b.1 = .dead∨∃vs e p c t fr,b.1 = .cells vs e U/\b.2=O p/\p.vd=e/\vs.all flat=J/\vs.all bj=J/\vs.length<=p.room/\w.heap[p.b]?=O (.cells c t fr)/\c.size=p.o+p.room/\∀(i:Nat) v,vs[i]?=O v->c[p.o+i]?=O v
def qE:∀ {ks:TK} {vs:Tn},EI ks vs->vs.all flat=J/\vs.all bj=J
 | [],[],_=>⟨rfl,rfl⟩
 | .i k::ks,v::vs,h=>by obtain⟨⟨n,rfl,_⟩,c⟩:=h;obtain⟨a,b⟩:=qE c;exact⟨by simp[a,flat,gI,scalar],by simp[b];rfl⟩
 | .b::ks,v::vs,h=>by obtain⟨⟨n,rfl⟩,c⟩:=h;obtain⟨a,b⟩:=qE c;exact⟨by simp[a,flat,gI,scalar],by simp[b];rfl⟩
 | .v::_,_,h=>by cases h
 | [],_::_,h=>by cases h
 | .i _::_,[],h=>by cases h
 | .b::_,[],h=>by cases h
def yl{ks:TK}(d:0<W ks){c:Tn}{n:Nat}(o:W c=n*W ks)(h:∀i,i<n->EI ks ((c.drop (i*W ks)).take (W ks))):c.all flat=J/\c.all bj=J:=by
 have f:∀j,j<W c->∃v,c[j]?=O v/\flat v=J/\bj v=J:=by
  intro j k;have g:j / W ks<n:=by rw[Nat.div_lt_iff_lt_mul d];omega
  obtain⟨a,b⟩:=qE (h _ g);have p:=VN j d;have m:=Nat.div_add_mod j (W ks);have e:((c.drop (j / W ks*W ks)).take (W ks))[j%ks.length]?=O c[j]:=by grind
  grind
 constructor<;>
 .rw[D7];intro v l;obtain⟨j,k⟩:=E4 l
  grind
section
variable [El] [Gc]
def Yc{w:TX}{p:GX}{v:TV}(e:∀ks,p = .s ks->0<W ks)(h:NN w p v)(n0:Nat):∃(x:SL) (A:List Hf),(∀b∈A,ya w b)/\x.is p.lk=J/\x.g_/\
  (∀mu:m_,(∀(i:Nat) b,A[i]?=O b->mu (n0+i)=b.2)->VR Ev mu x.val v)/\∀e:HL,(∀(i:Nat) b,A[i]?=O b->e[n0+i]?=O (.o b.1))->bH e [p] [x.lf]:=by
 cases p with
 |i k=>obtain⟨n,rfl,R⟩:=h;exact⟨.i k n,[],d_,by simp[SL.is,GX.lk,fJ],trivial,λmu _=>.scalar rfl,λe _=>⟨R,trivial⟩⟩
 |b=>obtain⟨t,rfl⟩:=h;exact⟨.b t,[],d_,rfl,trivial,λmu _=>.scalar rfl,λe _=>trivial⟩
 |s ks=>
  have K:=e ks rfl;rcases h with rfl|⟨a,len,cap,c,t,E,d,rfl,M,y,T,f,z,m,u,j⟩
  .refine⟨.v (DW Q 0 0),[],d_,rfl,rfl,λmu _=>.scalar rfl,λe _=>⟨⟨0,[],⟨d_,.inl ⟨rfl,rfl⟩⟩,Eg _,λi S=>a_⟩,trivial⟩⟩
  .obtain⟨C,D⟩:=yl K m j;have F:aH (DW (O ⟨n0,0,le (W ks)⟩) len 0)=J:=by simp[aH,q8,aW,bG,bu,aR,aL,le]
   have I:a=⟨a.block,a.off,Q⟩:=by cases a;cases M;rfl
   have q:∀e:HL,e[n0]?=O (.o (.cells d (W ks) U))->bH e [.s ks] [.v (DW (O ⟨n0,0,le (W ks)⟩) len 0)]:=λe l=>
    ⟨⟨len,d,⟨m,.inr ⟨n0,0,0,d,U,rfl,l,A2 m⟩⟩,a_,j⟩,trivial⟩
   by_cases g:cap=0
   .subst g;obtain rfl:len=0:=a_;have B:d=[]:=qcY a_;subst B;refine⟨.v (DW (O ⟨n0,0,le (W ks)⟩) 0 0),[(EJ [] (W ks) U,O ⟨a.block,c.size,0,W ks⟩)],λb r=>?_,rfl,F,λmu _=>.C_ (Eg _),λe l=>q e (l 0 _ rfl)⟩;simp only[HN]at r;subst r;exact .inr ⟨[],W ks,_,c,t,E,rfl,rfl,rfl,rfl,rfl,Eg _,f,d_,λi v N=>by simp at N⟩
   .have z:a.off+cap*W ks<=c.size:=z.resolve_left g;have L:=p9 (W ks) y;refine⟨.v (DW (O ⟨n0,0,le (W ks)⟩) len 0),[(.cells d (W ks) U,O ⟨a.block,a.off,c.size-a.off,W ks⟩)],λb r=>?_,rfl,F,λmu l=>?_,λe l=>q e (l 0 _ rfl)⟩
    .simp only[HN]at r;subst r;exact .inr ⟨d,W ks,_,c,t,E,rfl,rfl,rfl,C,D,jw,f,jw,u⟩
    .have G:=l 0 _ rfl;rw[I];have:=VR.DX (la:=Ev) (mu:=mu) (id:=n0) (off:=0) (len:=len) (cap:=cap) (cx:=0) G jw y (.inl rfl);exact this
def vY{w:TX}:∀ {a:List GX} {vs:Tn},(∀ks,GX.s ks∈a->0<W ks)->em w a vs->∀n0,∃(xs:List SL) (d:List Hf),(∀b∈d,ya w b)/\bf xs (a.map GX.lk)=J/\(∀x∈xs,x.g_)/\xs.length=W vs/\
  (∀mu:m_,(∀(i:Nat) b,d[i]?=O b->mu (n0+i)=b.2)->A1 Ev mu (xs.map SL.val) vs)/\∀c:HL,(∀(i:Nat) b,d[i]?=O b->c[n0+i]?=O (.o b.1))->bH c a (xs.map SL.lf)
 | [],[],_,_,n0=>⟨[],[],d_,rfl,d_,rfl,λmu _=>⟨rfl,λi x y h=>by simp at h⟩,λc _=>trivial⟩
 |N::a,v::vs,c,h,n0=>by
  obtain⟨x,d,a1,a2,G,u,z⟩:=Yc (λks e=>c ks k_) h.1 n0;obtain⟨xs,j,I,A,K,B,C,D⟩:=vY (λks e=>c ks (G_ _ e)) h.2 (n0+W d);have r:∀ {n:Type} {f:Nat->n} {g:Hf->n},(∀(i:Nat) b,(d++j)[i]?=O b->f (n0+i)=g b)->(∀(i:Nat) b,d[i]?=O b->f (n0+i)=g b)/\∀(i:Nat) b,j[i]?=O b->f (n0+W d+i)=g b:=by
   intro n f g h;refine⟨λi b t=>h i b ?_,λi b t=>?_⟩
   .grind
   .rw[y7];refine h _ b ?_
    grind
  refine⟨x::xs,d++j,λb t=>?_,by simp[bf,a2,A],λy T=>?_,by simp[B],λmu m=>?_,λc F=>?_⟩
  .grind
  .grind
  .obtain⟨k,l⟩:=r (f:=mu) (g:=λb=>b.2) m;have L:=u mu k;obtain⟨E,M⟩:=C mu l;refine⟨by simpa using E,λi p q R S=>?_⟩
   grind
  .obtain⟨k,l⟩:=r (f:=λi=>c[i]?) (g:=λb=>O (HO.o b.1)) F;exact bH.Hu (z c k) (D c l)
 | [],_::_,_,h,_=>by cases h
 |_::_,[],_,h,_=>by cases h
end
end
end Sx
namespace Sx
open Go.ChangeShapes Go.WideShapes Go.ChangeAt Go.WideMaps Go.WideElems Go.RowKit
section
variable {H:Type} {enc:TypeId×FO->H} {P:TI}
def qV{w:TX}{r:Reach}{d:Nat}{u:TS}{v:TV}(h:Cell.okWide P w r d u v):SA w v:=by
 rintro a k b rfl;have g:∃e,w.has P r d a e b:=by
  unfold Cell.okWide at h;split at h<;>first|simp_all|(rename_i f;cases f;done)|skip
  all_goals
   unfold Cell.ok at h
   grind
 obtain⟨e,_,i,l,c,j,_⟩:=g;refine⟨i,?_⟩;unfold World.shape? at j
 grind
def ZB{w:TX}{r:Reach}{f:Nat}{t:TS}{v:TV}(h:Value.okWide P w r f t v):∀x∈v.cells.toList,SA w x:=by
 intro x e;unfold Value.okWide at h;split at h
 .obtain⟨a,rfl,_,j,_,_,b⟩:=h;obtain⟨i,d⟩:=E4 e;obtain⟨u,_,c⟩:=b i x (by simpa[Value.cells]using d);exact qV c
 .obtain⟨a,rfl,_,j,_,_,b⟩:=h;obtain⟨i,d⟩:=E4 e;obtain⟨u,_,c⟩:=b i x (by simpa[Value.cells]using d);exact qV c
 .have:x=v∨∃a,v = .agg a:=by cases v<;>first|(right;exact⟨_,rfl⟩)|(left;simpa[Value.cells]using e)
  rcases this with rfl|⟨a,rfl⟩
  .exact qV h
  .exfalso;unfold Cell.okWide at h;split at h<;>first|simp_all|(rename_i g;cases g;done)|skip
   all_goals
    unfold Cell.ok at h
    simp_all
def skC(P:TI)(t:TS)(a:List GX):Option SK:=
 match P.underlying t,a with
 |O (.struct _),a=>O (.agg (a.map GX.lk))
 |O (.array _ _),a=>O (.agg (a.map GX.lk))
 |O (.int _),[k]=>O (.leaf k.lk)
 |O .bool,[k]=>O (.leaf k.lk)
 |O (.slice _),[k]=>O (.leaf k.lk)
 |_,_=>Q
def posK(a:List GX):Bool:=a.all λk=>match k with
 | .s b=>Nat.blt 0 (W b)
 |_=>J
def hI{a:List GX}(h:posK a=J):∀ks,GX.s ks∈a->0<W ks:=by
 intro ks b;have:=D7.1 h _ b
 simp_all
section
variable [El] [Gc]
abbrev Xx(mu:m_)(n0:Nat)(a:List Hf):Prop:=∀(i:Nat) b,a[i]?=O b->mu (n0+i)=b.2
abbrev zv(c:HL)(n0:Nat)(a:List Hf):Prop:=∀(i:Nat) b,a[i]?=O b->c[n0+i]?=O (.o b.1)
abbrev NV(DJ a:TX):Prop:=∀b,b<DJ.heap.size->a.heap[b]?=DJ.heap[b]?
def CY{DJ:TX}{r:Reach}{a:Nat}{t:TS}{n:Nat}{e:TS}{v:TV}(b:P.underlying t=O (.array n e))(h:Value.okWide P DJ r a t v):∃cs,v = .agg cs:=by
 simp only[Value.okWide,b]at h
 grind
def VB{DJ:TX}{r:Reach}{b0:Nat}{c:Bool}{t:TS}{f:List GX}{C:SK}{v:TV}{d:FU H}{B:List GW}(h:ckT P 20 t=O f)(p:skC P t f=O C)(z:posK f=J)(a:Value.okWide P DJ r b0 t v)(hd:DataW.Trod enc P DJ 0 (λ_=>J) c t v d B)(n0:Nat) :
  ∃(x:S0) (j:List Hf),(∀b∈j,ya DJ b)/\x.is C=J/\x.g_/\(∀mu:m_,Xx mu n0 j->VR Ev mu x.val v)/\(∀o:HL,zv o n0 j->bH o f (x.cells.map SL.lf))/\
   ∀(q:TX) (s:Tx),NV DJ q->(∀b,b<DJ.heap.size->s b=J)->DataW.Trod enc P q 0 s c t v d B:=by
 obtain⟨u,hf⟩:=hd;obtain⟨D,Z⟩:=Ye 20 t f h DJ c u _ _ (ZB a) hf;obtain⟨N,j,E,F,R,S,A,G⟩:=vY (hI z) D n0;have g:∀(q:TX) (s:Tx),NV DJ q->(∀b,b<DJ.heap.size->s b=J)->DataW.Trod enc P q 0 s c t v d B:=λq s X h2=>⟨u,Z q s X h2⟩;have Y:(∀V,P.underlying t≠O (.struct V))->(∀n e,P.underlying t≠O (.array n e))->∀k,f=[k]->C = .leaf k.lk->∃(x:S0) (j:List Hf),(∀b∈j,ya DJ b)/\x.is C=J/\x.g_/\(∀mu:m_,Xx mu n0 j->VR Ev mu x.val v)/\(∀o:HL,zv o n0 j->bH o f (x.cells.map SL.lf))/\
   ∀(q:TX) (s:Tx),NV DJ q->(∀b,b<DJ.heap.size->s b=J)->DataW.Trod enc P q 0 s c t v d B:=by
  rintro ad ag k rfl rfl;have hv:v.cells.toList=[v]:=by
   have X:=em.len D;cases v with
   |agg T=>
    exfalso;unfold Value.okWide at a;split at a
    .simp_all
    .simp_all
    .unfold Cell.okWide at a;split at a<;>first|simp_all|(rename_i e1;cases e1;done)|skip
     all_goals
      unfold Cell.ok at a
      simp_all
   |_=>simp[Value.cells]
  rw[hv]at D S A;obtain⟨x,rfl⟩ : ∃x,N=[x]:=List.length_eq_one_iff.1 S;refine⟨.leaf x,j,E,?_,λl hl=>?_,λmu m=>?_,λo w=>G o w,g⟩
  .show x.is k.lk=J;simpa[bf]using F
  .simp only[S0.cells,HN]at hl
   simp_all
  .exact(A mu m).2 0 _ _ rfl rfl
 unfold skC at p;split at p
 next V e=>cases p;obtain⟨T,rfl,_⟩:=okWide_struct e a;refine⟨.agg N,j,E,F,R,λmu m=>?_,λo w=>G o w,g⟩;obtain⟨I,K⟩:=A mu m;refine .agg (by simpa[Value.cells]using I) λi x y L M=>K i x y (by simpa using L) (by simpa[Value.cells]using M)
 next n' e' e=>cases p;obtain⟨T,rfl⟩:=CY e a;refine⟨.agg N,j,E,F,R,λmu m=>?_,λo w=>G o w,g⟩;obtain⟨I,K⟩:=A mu m;refine .agg (by simpa[Value.cells]using I) λi x y L M=>K i x y (by simpa using L) (by simpa[Value.cells]using M)
 .simp_all
 .simp_all
 .simp_all
 .cases p
def argK(P:TI):List TypeId->Option (List (List GX)×List SK)
 | []=>O ([],[])
 |t::c=>match ckT P 20 t,argK P c with
  |O a,O (l,sks)=>match skC P t a,posK a with
   |O b,J=>O (a::l,b::sks)
   |_,_=>Q
  |_,_=>Q
def XL{j7:Type}{c a:List Hf}{f:Nat->j7}{g:Hf->j7}{n0:Nat}(h:∀(i:Nat) b,(c++a)[i]?=O b->f (n0+i)=g b):(∀(i:Nat) b,c[i]?=O b->f (n0+i)=g b)/\∀(i:Nat) b,a[i]?=O b->f (n0+W c+i)=g b:=by
 refine⟨λi b d=>h i b ?_,λi b d=>?_⟩
 .grind
 .rw[y7];refine h _ b ?_
  grind
def sZ{DJ:TX}{r:Reach}{L:Nat}{e:Bool}:∀(n:List TypeId) (l:List (List GX)) (sks:TP) (vs:Tn) (ds:List (FU H)) (z:List GW) (n0:Nat),argK P n=O (l,sks)->
  (∀(j:Nat) t v,n[j]?=O t->vs[j]?=O v->Value.okWide P DJ r L t v)->DataW.TrodAll enc P DJ 0 (λ_=>J) e n vs ds z->
  ∃(xs:List S0) (m:List Hf),(∀b∈m,ya DJ b)/\cJ xs sks=J/\(∀x∈xs,x.g_)/\(∀mu:m_,Xx mu n0 m->A1 Ev mu (ao xs) vs)/\(∀k:HL,zv k n0 m->bH k l.flatten (cT xs))/\
   ∀(s:TX) (u:Tx),NV DJ s->(∀b,b<DJ.heap.size->u b=J)->DataW.TrodAll enc P s 0 u e n vs ds z
 | [],l,sks,[],[],z,n0,h,_,a=>by cases h;exact⟨[],[],d_,rfl,d_,λmu _=>⟨rfl,λi x y h=>by simp[ao]at h⟩,λk _=>trivial,λ_ _ _ _=>a⟩
 |t::n,l,sks,v::vs,d::ds,z,n0,h,E,a=>by
  simp only[argK]at h;split at h
  next Y l' w Z e2=>
   split at h
   next sk e3 e4=>
    cases h;obtain⟨p,q,h1,c,rfl⟩:=a;obtain⟨x,m,a1,F,a3,G,I,K⟩:=VB Z e3 e4 (E 0 t v rfl rfl) h1 n0;obtain⟨xs,A,b1,M,b3,N,R,S⟩:=sZ n l' w vs ds q (n0+W m) e2 (λj t v h1 c=>E (j+1) t v h1 c) c;refine⟨x::xs,m++A,λb hb=>?_,by simp[cJ,F,M],λy hy=>?_,λmu D=>?_,λk hh=>?_,λs u h1 c=>⟨p,q,K s u h1 c,S s u h1 c,rfl⟩⟩
    .grind
    .grind
    .obtain⟨h1,c⟩:=XL (f:=mu) (g:=λb=>b.2) D;have T:=G mu h1;obtain⟨V,X⟩:=N mu c;refine⟨by simpa[ao]using V,λi p q B C=>?_⟩;cases i with
     |zero=>simp only[ao,Fx,qci,Ih]at B C;subst B C;exact T
     |succ i=>exact X i p q (by simpa[ao]using B) (by simpa using C)
    .obtain⟨h1,c⟩:=XL (f:=λi=>k[i]?) (g:=λb=>O (HO.o b.1)) hh;rw[qce];exact bH.Hu (I k h1) (R k c)
   .cases h
  .cases h
 | [],_,_,_::_,_,_,_,_,_,a=>by cases a
 | [],_,_,[],_::_,_,_,_,_,a=>by cases a
 |_::_,_,_,[],_,_,_,_,_,a=>by cases a
 |_::_,_,_,_::_,[],_,_,_,_,a=>by cases a
def yi{C:p_}{f:TT}{args:Tn}{r:TV}{H':Tu}{a:List Hf}{DJ:TX}(ad:∀b∈a,ya DJ b)(h:eR C f args (a.map (·.1)) r H'){args':Tl}(m:∀mu:m_,Xx mu 0 a->A1 Ev mu args args'.toList)(hr:flat r=J)
  (hG:∀g vs,C.G g=O vs->GA g<DJ.heap.size/\vs.all bj=J/\∃c e fr,DJ.heap[GA g]?=O (.cells c e fr)/\cF (λ_=>Q) vs c (H4 g)) (hf:∀g vs,C.G g=O vs->vs.all ma=J) :
  Calls C.P f args' DJ λe w=>e = .returned r/\w.os=DJ.os/\w.output=DJ.output/\w.tape=DJ.tape/\∀b,b<DJ.heap.size->w.heap[b]?=DJ.heap[b]?:=by
 let mu:m_:=λid=>(a[id]?).bind (·.2)
 have z:Xx mu 0 a:=λi b E=>jw;have n:∀(id:Nat) o,(a.map (·.1))[id]?=O o->∃b,a[id]?=O b/\o=b.1/\ya DJ b:=by grind
 have ag:∀(id:Nat) o,(a.map (·.1))[id]?=O o->o.owned=U:=by intro id o ho;obtain⟨b,_,rfl,q⟩:=n id o ho;rcases q with q|⟨vs,e,p,c,t,fr,q,_⟩<;>rw[q]<;>rfl
 have A:∀b,¬Mo mu (a.map (·.1)) b:=by
  rintro b ⟨id,o,p,l,d,_⟩
  grind
 have y:WR C DJ.heap.size mu (a.map (·.1)) DJ:=by
  refine⟨λid o l d=>?_,λi j oi oj pi pj l d q=>?_,λi o p l d=>?_,λi o p l d _ D=>?_,λid l=>?_,λg vs F=>?_⟩
  .obtain⟨b,q1,rfl,k⟩:=n id o l;rcases k with k|⟨vs,e,p,c,t,fr,k,q4,K,L,M,N,R,s,u⟩
   .rw[k]at d;cases d
   .refine⟨p,jw,?_⟩;rw[k];refine⟨K,N,M,c,t,fr,R,s,λh=>by(cases h),λi v I=>⟨v,u i v I,.of_flat (D7.1 L v (A9 I))⟩⟩
  .grind
  .grind
  .obtain⟨b,q1,rfl,k⟩:=n i o l;rcases k with k|⟨vs,e,p',c,t,fr,k,q4,K,L,M,N,R,s,u⟩
   .rw[k]at d;cases d
   grind
  .grind
  .obtain⟨l,d,c,e,fr,D,Z⟩:=hG g vs F;exact⟨l,d,c,e,fr,D,uE (hf g vs F) Z⟩
 intro Y;obtain⟨v,al,w',S,a2,x,_,B⟩:=h _ DJ.heap.size mu DJ args' (B7 _) (m mu z) y Y;rw[uw hr S]at B;obtain⟨fr,T,V,X⟩:=B;exact⟨.returned r,w',fr,⟨rfl,x.os,x.output,x.tape,λb E=>x.ke b E (A b)⟩,T,V,X⟩
def post_sl{P:TI}{f:Func}{s:ChangeSpec}{c g d:Bool}{DJ e:TX}{args:Tl}{v:TV}{ds k:List (FU H)}{a n:List GW}
  (q:DataW.Whole enc P f.params.toList s.vars c DJ args.toList ds k a)
  (l:∀(b:Nat) (m:Tx) (r:Bool),DataW.TrodAll enc P e b m r f.resultTypes.toList (v.resultList f.resultTypes.size) (s.fn H (ds++k)).results [])
  (i:DataW.TrodAll enc P e 0 (λb=>decide (b<DJ.heap.size)) J f.params.toList args.toList (s.fn H (ds++k)).args n)
  (j:∀m:Nat->Bool,DataW.TrodVars enc P e m s.vars (s.fn H (ds++k)).vars [])
  (h1:e.os=DJ.os) (o:e.output=DJ.output) (p:∀b,b<DJ.heap.size->e.heap[b]?=DJ.heap[b]?) :
  s.post enc P f c g d U DJ args v e:=
 ⟨ds,k,a,[],n,[],q,l _ _ _,i,j _,sk h1 o p _,λh=>by cases h⟩
end
end
section
variable [El]
def oq{C:p_}{N:Tc}{Sg:Td}(k:C.P.follows .mixedOrders=J){g:TT}{sg:Ko}(l:Sg g=O sg){ls e:TG}{H H':Tu}(j:let _:E_:=KnoC C N;aD C Sg g ls H e H'){xs ys:List S0}(h1:cJ xs sg.ps=J)(f:cT xs=ls)(h:cJ ys sg.rs=J)(i:cT ys=e) :
  eR C g (ao xs) H (gL (ao ys)) H':=by
 let _:E_:=KnoC C N
 obtain⟨m,p,q,a,b,c,d⟩:=j;rw[l]at a;cases a;obtain⟨n,_⟩:=db b.1 h1 (b.2.1.trans f.symm);obtain⟨o,_⟩:=db c.1 h (c.2.1.trans i.symm);rw[n,o]at d;exact xX k d
end
end Sx
end Go.Am
namespace Go.Am
open Sx Go.Proofs
abbrev C4:=Int×Int×Fin 4
def MR(a:C4):Cl:=(a.1,a.2.1,a.2.2.val)
def yv(a:C4):Tn:=bX (MR a)
def b6(a b:C4):Int:=Lx (MR a) (MR b)
def lt4(a b:C4):Go.Proofs.ltOf b6 a b=Ez (MR b) (MR a):=by unfold Go.Proofs.ltOf b6;rw[h9,Gp];exact Yj _ _
def swo4:Go.Sort.SWO (Go.Proofs.ltOf b6) where
 irrefl x:=by rw[lt4];exact kW
 trans x y z h1 h2:=by rw[lt4]at *;exact Y3 h1 h2
 ntrans x y z h1 h2:=by rw[lt4]at *;rw[wI]at *;omega
def cmp4(a b:C4):eR cc 34 [EU ⟨yv a⟩,EU ⟨yv b⟩] [] (EO DQ (b6 a b)) []:=by have c:=qo (a:=MR a) (b:=MR b) a.2.2.isLt b.2.2.isLt [];exact oq (N:=Ng) mixed (Sg:=ac) (sg:=⟨[.agg [.i DQ,.i DQ,.i DU],.agg [.i DQ,.i DQ,.i DU]],[M]⟩) rfl c (xs:=[.agg [.i DQ a.1,.i DQ a.2.1,.i DU (DO a.2.2.val)],.agg [.i DQ b.1,.i DQ b.2.1,.i DU (DO b.2.2.val)]]) rfl rfl (ys:=[.leaf (.i DQ (b6 a b))]) rfl rfl
abbrev cloC:FO:=.func (.func 34) ⟨[]⟩ ⟨[]⟩
def hP{H:HL}{id cx:Nat}{po:List C4}(j_:H[id]?=O (.o (EJ ((po.map MR).flatMap bX) 3 J)))(h0:0<W po)(k:W po<=100000) :
  ∃D:List C4,D.Perm po/\(D.Pairwise λx y=>Ez (MR x) (MR y)=U)/\aD cc ac 46 [.v (DW (O ⟨id,0,le 3⟩) (W po) cx),.v cloC] (h_ aa H) [] (h_ aa (sd H id 3 bX (D.map MR))):=by
 have i:∀L:List C4,(L.map MR).flatMap bX=L.flatMap yv:=λL=>by rw[qcz];rfl
 refine⟨KA b6 po,ng swo4 po,?_,?_⟩
 .refine(C1 swo4 po).imp λ{x y} h=>?_;rw[lt4]at h;exact h
 .have a:(h_ aa H)[id]?=O (EJ (po.flatMap yv) 3 J):=by rw[←i];unfold h_;rw[GL,j_];rfl
  have b:=zL (C:=cc) uF layS (enc:=yv) (e:=3) (λw=>e_) (λw=>e_) (λ_=>rfl) (λx v j=>by simp only[yv,bX,Fy,kG,or_false]at j;rcases j with rfl|rfl|rfl<;>rfl) swo4 (g:=34) (λf w=>e_) cmp4 (cx:=cx) a rfl h0 a_
  have c:(h_ aa H).set id (EJ ((KA b6 po).flatMap yv) 3 J)=h_ aa (sd H id 3 bX ((KA b6 po).map MR)):=by unfold sd;rw[i,lI];rfl
  rw[c]at b;exact⟨⟨[lv,lv],[]⟩,[.leaf (.v (DW (O ⟨id,0,le 3⟩) (W po) cx)),.leaf (.v cloC)],[],rfl,⟨rfl,rfl,λy d=>by
   simp only[Fy,kG,or_false]at d;rcases d with rfl|rfl
   .exact aF (show aH (DW (O ⟨id,0,le 3⟩) (W po) cx)=J by simp[aH,q8,aW,bG,bu,aR,aL,le])
   .exact aF rfl⟩,⟨rfl,rfl,λy d=>by cases d⟩,⟨0,.inr ⟨.inl e_,b⟩⟩⟩
def c4_of{L:TL}(h:∀c∈L,c.2.2<4):∃po:List C4,po.map MR=L:=by
 refine⟨L.map λc=>(c.1,c.2.1,⟨c.2.2%4,VN _ a_⟩),?_⟩;rw[y5]
 conv=>rhs;rw[←qdM L]
 refine p' λc a=>?_;have:=h c a;show(c.1,c.2.1,c.2.2%4)=c
 grind
structure N1(h0 h4:HL)(b mp mw:Nat)(w v:Nat)(xv:FO)(r:Mv)(xa xu:FO)(IM:TL):Prop where
 hb:h4[b]?=O (.o (.cells (aj ⟨w,v,xv,r,xa,.slice Q 0 0,.slice Q 0 0,xu,mp,.slice Q 0 0,.slice Q 0 0,.slice Q 0 0⟩ U) 15 J))
 bn:h0.length<=b
 mpn:h0.length<=mp
 mwn:h0.length<=mw
 mm:mw≠mp
 old:∀(j:Nat) o,h0[j]?=O o->h4[j]?=O o
 at_:i' h0.length h4 xa 3 bX (E9 IM)
 us:i' h0.length h4 xu 1 D0 (FJ IM.length U)
 pr:h4[mp]?=O (.o (.map [] 0))
 wh:E8 Hg h4 mw ((E9 IM).map λc=>(c,.int .i64 (DO 0)))
structure NW(h5 g:HL)(mw:Nat)(IM:TL)(n:Nat):Prop where
 m:∃ps:List (K3×FO),E8 Hg g mw ps/\ps.map Prod.fst=E9 IM/\∀(i:Nat) k u,ps[i]?=O (k,u)->u = .int .i64 (DO (if (E3 IM).idxOf k<n then(E3 IM).idxOf k else 0))
 k:∀(j:Nat) o,h5[j]?=O o->j≠mw->g[j]?=O o
def np1_c{h0 y:HL}{b mp t w v:Nat}{xv:TV}{r:Mv}{xa xu:TV}{a:TL}(f:N1 h0 y b mp t w v xv r xa xu a)(a3:W a<=36)(Y:0<W a)(hq:∀c∈a,c.2.2<4){xi:TV}{K:Te}(hK:∀g,N2 h0 g b mp t w v xv r xa xu a->np2 (hA P1) b xi t g K) :
  np1 (hA P1) b t xi y K:=by
 have a4:=ah f.hb;have aE:W h0<=W y:=by have:=f.bn;omega
 have a7:=uC a;unfold np1;simp only[w7];refine bA (ds:=[xa]) f.hb (by simp[aj]) rfl ?_;refine c_ ?_;refine ab (i'.g_ (e:=3) (enc:=bX) cK f.at_) ?_;refine m9 ?_;obtain⟨po,hJ⟩:=c4_of (L:=E9 a) λc x=>hq c (pJ.1 x);have X:E9 a≠[]:=λe=>by
  obtain⟨c,x⟩:=ak Y;have:=pJ.2 (A9 x)
  simp_all
 obtain⟨id,cx,H,P,j_,a6⟩:=nL f.at_ X;have ad:W po=W (E9 a):=jw;rw[←hJ]at j_;obtain⟨D,a1,a2,l⟩:=hP (cx:=cx) j_ jw a_;have hD:D.map MR=E3 a:=atL_of jw jw;rw[hD]at l;rw[ad,←H]at l;refine ai l ?_;refine c_ ?_;obtain⟨z,e5⟩ : ∃z,z=sd y id 3 bX (E3 a):=⟨_,rfl⟩;rw[←e5];have M:id≠b:=λe=>by
  rw[e,f.hb]at j_
  simp_all
 have Z:∀(j:Nat) o,y[j]?=O o->j≠id->z[j]?=O o:=λj o p av=>by rw[e5,cA av];exact p
 have l5:W z=W y:=by rw[e5,iC]
 have ag:W (E3 a)=W (E9 a):=(jI a).length_eq;have s:i' (W h0) z xa 3 bX (E3 a):=.inr ⟨id,cx,by rw[ag];exact H,P,by rw[e5];exact bS (ah j_),a_⟩;have al:=Z _ _ f.hb (EC M);refine bA (ds:=[xa]) al (by simp[aj]) rfl ?_;refine c_ ?_;refine ab (i'.g_ (e:=3) (enc:=bX) cK s) ?_;refine m9 ?_;refine aO (i'.ls cK s) ?_;have E:∀ {j e:Nat} {l:Tn} {d:Bool} {g:HL} {G:List (K3×FO)},E8 Hg g t G->g[j]?=O (.o (.cells l e d))->j≠t:=λhm p q=>by
  subst q;obtain⟨es,c,I,_⟩:=hm
  simp_all
 have N:id≠t:=E f.wh j_;have F:=f.wh.ke Hg λo ho=>Z t o ho (EC N);refine aN (m:=W (E3 a)) (λm ls g=>∃n,ls=[.i (DO n)]/\m=W (E3 a)-n/\n<=W (E3 a)/\NW z g t a n) ⟨0,rfl,rfl,Eg _,⟨_,F,by rw[y5];exact qdM _,λi k u hi=>?_⟩,λ_ _ h _=>h⟩ ?_
 .grind
 rintro m ls g ⟨n,rfl,rfl,hn,A⟩ a0 C;refine Fc ?_;refine c_ ?_;by_cases B:n<W (E3 a)
 case neg=>
  obtain rfl:n=W (E3 a):=a_;rw[aw (B7 _)];refine m9 ?_;obtain⟨G,m1,m2,m3⟩:=A.m;have kg:∀ {j e:Nat} {l:Tn} {d:Bool},z[j]?=O (.o (.cells l e d))->g[j]?=O (.o (.cells l e d)):=λ{j e l d} p=>A.k j _ p (E F p);have kk:∀ {j e:Nat} {l:Tn} {d:Bool},y[j]?=O (.o (.cells l e d))->e≠3->g[j]?=O (.o (.cells l e d)):=λ{j e l d} p he=>kg (Z j _ p λq=>by simp_all)
  refine hK g ⟨kk f.hb q7,f.bn,f.mpn,λj o p=>A.k j o (Z j o (f.old j o p) jw) (by have:=ah p;have:=f.mwn;omega),s.D6 λj l _ h=>kg h,f.us.D6 λj l _ h=>kk h q7,A.k mp _ (Z mp _ f.pr λq=>?_) (EC f.mm),G,m1,λc=>by rw[m2];exact pJ,λi k u hi=>?_⟩
  .have I:=f.pr
   simp_all
  grind
 rw[aB B];refine c_ ?_;obtain⟨c,x⟩:=ak B;refine aJ (i'.ls cK (s.D6 λj l _ h=>A.k j _ h (E F h))) rfl x ?_;rw[show bX c=[EO DQ c.1,EO DQ c.2.1,EO DU (DO c.2.2)]from rfl];refine c_ ?_;obtain⟨G,m1,m2,m3⟩:=A.m;have an:c∈E9 a:=(jI a).mem_iff.1 (A9 x);have ax:∀k:K3,Instr.sameBits 10000 (EU ⟨Hg k⟩) (EU ⟨Hg k⟩)=J:=λk=>by simp[Hg,Instr.sameBits]
 refine r_muS Hg Al e_ e_ uk m1 c (by rw[m2];exact an) rfl (ax c) λo i0 ap hm=>?_;refine m9 ?_;have a5:(E3 a).idxOf c=n:=by
  have T:=A9 x;have S:=qcH.2 T;have I:(E3 a)[(E3 a).idxOf c]?=O c:=k_;have V:=MI (mV a)
  grind
 rw[aI a_];have ay:i0<W G:=by simpa using ah ap
 refine C _ _ _ a_ ⟨n+1,rfl,rfl,B,⟨_,hm,?_,λi k u hi=>?_⟩,λj o2 p R=>cV (A.k j o2 p R) (EC R)⟩
 .rw[←m2];refine Kj λi=>?_
  grind
 .by_cases e:i0=i
  .simp_all
  .rw[K7 e]at hi;have X:(E3 a).idxOf k≠n:=λq=>by
    have hk:k∈E9 a:=by grind
    have S:=qcH.2 ((jI a).mem_iff.2 hk);have I:(E3 a)[(E3 a).idxOf k]?=O k:=jw;rw[q,x]at I;have:=Fm I;subst this;have V:(G.map Prod.fst).Nodup:=by rw[m2];exact uD a
    rw[j2,Ki]at V
    grind
   grind
def Vf{a:TL}{n:Nat}{c:Cl}(h:a[n]?=O c):E9 (a.take (n+1))=G3 (E9 (a.take n)) c:=by rw[Kx,h];exact Y1
structure NF(h5 g:HL)(b mp mw:Nat)(w v:Nat)(xv:FO)(r:Mv)(xu:FO)(L:TL):Prop where
 x:∃xa,g[b]?=O (.o (.cells (aj ⟨w,v,xv,r,xa,.slice Q 0 0,.slice Q 0 0,xu,mp,.slice Q 0 0,.slice Q 0 0,.slice Q 0 0⟩ U) 15 J))/\i' h5.length g xa 3 bX L
 m:E8 Hg g mw (L.map λc=>(c,.int .i64 (DO 0)))
 k:∀(j:Nat) o,h5[j]?=O o->j≠b->j≠mw->g[j]?=O o
 l:h5.length<=g.length
def np0_c{h h0:HL}{w v:Nat}{M:TV}{r:Mv}{xi:TV}{d:TL}(hg:aH M=J)(a7:w*v<=9)(ad:aD cc ac 45 [.i (DO w),.i (DO v),.v M,.i (DO r.1),.i r.2.1,.i r.2.2] (h_ aa h) [.v xi,.i 0] (h_ aa h0))(H:q_ h0 xi 3 bX d)(a3:W d<=36)
  {K:Te} (hK:∀g b mp mw S G,N1 h0 g b mp mw w v M r S G d->np1 (hA P1) b mw xi g K) :
  np0 (hA P1) [.i (DO w),.i (DO v),.v M,.i (DO r.1),.i r.2.1,.i r.2.2] h K:=by
 unfold np0;simp only[w7];refine c_ ?_;refine ai ad ?_;refine c_ ?_;rw[qZ a_];rw[A6 jw];refine c_ ?_;refine aO H ?_;refine af (dG a_) ?_;refine m9 ?_;rw[show(DO (W d)).toNat=W d from rfl];have a0:=kJ H;obtain⟨z,e1⟩ : ∃z,z=h0++[HO.o (EJ (aQ [.bool U] (W d)) 1 J)]:=⟨_,rfl⟩;rw[←e1];have l1:W z=W h0+1:=by rw[e1];simp
 refine af (x:=()) (df (Aq a0) (df (qv ⟨_,_,_,rfl⟩ λi hi=>?_) fj)) ?_
 .have:i=W h0:=(Fm hi).symm;omega
 refine m9 ?_;obtain⟨G,ap⟩ : ∃G:FO,G=DW (O ⟨W h0,0,le 1⟩) (W d) (W d+1):=⟨_,rfl⟩;have T:Value.slice (O ⟨W h0,0,O 11⟩) (W d) (W d+1)=G:=ap.symm;rw[T];obtain⟨t,e2⟩ : ∃t,t=z++[HO.o (.map [] 0)]:=⟨_,rfl⟩;rw[←e2];have l2:W t=W h0+2:=by rw[e2];simp;omega
 obtain⟨A,e3⟩ : ∃A,A=t++[HO.o (EJ (aj ⟨w,v,M,r,DW Q 0 0,DW Q 0 0,DW Q 0 0,G,W z,DW Q 0 0,DW Q 0 0,DW Q 0 0⟩ U) 15 J)]:=⟨_,rfl⟩;have al:t++[HO.o (EJ [EO DQ (DO w),EO DQ (DO v),M,EO DU (DO r.1),EO DQ r.2.1,EO DQ r.2.2,DW Q 0 0,DW Q 0 0,DW Q 0 0,G,.map (O (W z)),DW Q 0 0,DW Q 0 0,DW Q 0 0,.bool U] 15 J)]=A:=e3.symm;rw[al];have l3:W A=W h0+3:=by rw[e3];simp;omega
 obtain⟨B,e4⟩ : ∃B,B=A++[HO.o (.map [] 0)]:=⟨_,rfl⟩;rw[←e4];have l4:W B=W h0+4:=by rw[e4];simp;omega
 have k1:∀(j:Nat) o,h0[j]?=O o->z[j]?=O o:=λj o s=>jw;have k2:∀(j:Nat) o,z[j]?=O o->t[j]?=O o:=λj o s=>jw;have k3:∀(j:Nat) o,t[j]?=O o->A[j]?=O o:=λj o s=>jw;have k4:∀(j:Nat) o,A[j]?=O o->B[j]?=O o:=λj o s=>jw;have P:∀(j:Nat) o,h0[j]?=O o->B[j]?=O o:=λj o s=>k4 j o (k3 j o (k2 j o (k1 j o s)));have mu:B[W h0]?=O (.o (EJ (aQ [.bool U] (W d)) 1 J)):=k4 _ _ (k3 _ _ (k2 _ _ (by rw[e1];exact aG)));have mp:B[W z]?=O (.o (.map [] 0)):=k4 _ _ (k3 _ _ (by rw[e2];exact aG));have mb:B[W t]?=O (.o (EJ (aj ⟨w,v,M,r,DW Q 0 0,DW Q 0 0,DW Q 0 0,G,W z,DW Q 0 0,DW Q 0 0,DW Q 0 0⟩ U) 15 J)):=k4 _ _ (by rw[e3];exact aG);have mw:B[W A]?=O (.o (.map [] 0)):=by rw[e4];exact aG
 refine aO (H.ke λj o s _=>P j o s) ?_;have av:NF B B (W t) (W z) (W A) w v M r G (E9 (d.take 0)):=⟨⟨_,mb,.inl ⟨rfl,rfl⟩⟩,⟨[],0,mw,rfl⟩,λ_ _ h _ _=>h,B7 _⟩;refine aN (m:=W d) (λm ls g=>∃n,ls=[.i (DO n)]/\m=W d-n/\n<=W d/\NF B g (W t) (W z) (W A) w v M r G (E9 (d.take n))) ⟨0,rfl,rfl,Eg _,av⟩ ?_;rintro m ls g ⟨n,rfl,rfl,hn,C⟩ a2 F;refine Fc ?_;refine c_ ?_;obtain⟨S,Z,ha⟩:=C.x;by_cases I:n<W d
 case neg=>
  obtain rfl:n=W d:=a_;rw[aw (B7 _)];refine m9 ?_;rw[y0]at C ha;have z0:(aQ [.bool U] (W d))=(FJ (W d) U).flatMap D0:=by show aQ (D0 U) (W d)=_;rw[cP]
  refine hK g (W t) (W z) (W A) S G ⟨Z,a_,a_,a_,a_,λj o s=>C.k j o (P j o s) jw jw,?_,?_,C.k _ _ mp a_ a_,C.m⟩
  .rcases ha with q|⟨id,cx,Y,q2,q3⟩
   .exact .inl q
   .exact .inr ⟨id,cx,Y,a_,q3⟩
  .refine .inr ⟨W h0,W d+1,k_,B7 _,?_,.inr k_⟩;rw[←z0];exact C.k _ _ mu a_ a_
 rw[aB I];refine c_ ?_;obtain⟨c,hc⟩:=ak I;have E:=Vf hc;refine aJ (H.ke λj o s _=>C.k j o (P j o s) jw jw) rfl hc ?_;rw[show bX c=[EO DQ c.1,EO DQ c.2.1,EO DU (DO c.2.2)]from rfl];refine c_ ?_;refine r_luO Hg Al e_ e_ uk C.m c rfl (λy e=>by cases e) (λp hp y e=>?_) (λhn=>?_) λi u hi=>?_
 .obtain⟨q,_,rfl⟩:=Ed.1 hp;cases e
 .have ax:c∉E9 (d.take n):=λq=>hn (Ed.2 ⟨_,Ed.2 ⟨c,q,rfl⟩,rfl⟩);simp(disch:=omega)only[↓qb,GG];refine m4 (u:=EO DQ (DO 0)) Hg Al e_ e_ uk C.m c hn rfl λo hm=>?_;obtain⟨N,an⟩ : ∃N,N=g.set (W A) o:=⟨_,rfl⟩;rw[←an]at hm ⊢;have a9:W N=W g:=k_;have a6:∀ {j e:Nat} {y:Tn} {f:Bool},g[j]?=O (.o (.cells y e f))->W A≠j:=λ{j e y f} s q=>by
   subst q;obtain⟨es,c,t,_⟩:=C.m
   simp_all
  have L:∀ {j e:Nat} {y:Tn} {f:Bool},g[j]?=O (.o (.cells y e f))->N[j]?=O (.o (.cells y e f)):=λ{j e y f} s=>by grind
  refine m9 ?_;refine kK (ds:=[S]) (L Z) (by simp[aj]) rfl ?_;refine c_ ?_;have D:i' (W B) N S 3 bX (E9 (d.take n)):=ha.D6 λj y _ h=>L h;refine ab (i'.g_ (e:=3) (enc:=bX) cK D) ?_;refine m9 ?_;have a5:W (E9 (d.take n))<=36:=by
   have:=uC (d.take n)
   grind
  refine D.KG (a:=c) cK (by have:=C.l;omega) rfl rfl rfl (by unfold aY;rw[FE a_,FE a_];rfl) ?_;intro a1 g2 X gx R a8 b2;refine c_ ?_;refine ab gx ?_;refine m9 ?_;have aE:∀ {j e:Nat} {y:Tn} {f:Bool},N[j]?=O (.o (.cells y e f))->e≠3->i_ S≠O j:=λ{j e y f} s he q=>by
   obtain⟨ag,t⟩:=D.wid q
   simp_all
  have V:=R _ _ (L Z) (aE (L Z) q7);refine gz (b:=W t) V (by simp[aj]) ?_;refine m9 ?_;refine af (x:=()) (df (bV ⟨_,_,_,rfl⟩ λi hi=>?_) fj) ?_
  .have Y:W N=i:=by simpa[i_]using hi
   grind
  refine m9 ?_;rw[aI a_];refine F _ _ _ a_ ⟨n+1,rfl,rfl,I,?_⟩;rw[E];unfold G3;rw[ts ax];refine⟨⟨a1,ew V,X.D6 λj y _ h=>cV h λe=>?_⟩,?_,λj X s Y q2=>?_,?_⟩
  .grind
  .rw[ME];refine hm.ke Hg λo3 ay=>cV (R _ o3 ay λq=>?_) ?_
   .obtain⟨ag,t⟩:=D.wid q;obtain⟨es,c',h5,_⟩:=hm
    simp_all
   .omega
  .have p1:=C.k j X s Y q2;have p2:N[j]?=O X:=by grind
   refine cV (R j X p2 λq=>?_) (EC Y);have p3:=(D.i_ q).1
   grind
  .rw[HP];have:=C.l;omega
 .have a4:c∈E9 (d.take n):=by grind
  have hu:u=EO DQ (DO 0):=by grind
  subst hu;simp(disch:=omega)only[↓qb,Fv];rw[aI a_];refine F _ _ _ a_ ⟨n+1,rfl,rfl,I,?_⟩;rw[E];unfold G3
  simp_all
structure PtI(w v:Nat)(l:TD)(G:TH):Prop where
 h3:S3 w v
 pat:XA w v l
 lt:l.Pairwise λa b=>Ks a b=J
 k0:∀c∈l,c.2.2≠0
 g:C' w v l G
section
variable {w v:Nat} {l:TD} {G:TH} (pt:PtI w v l G) {r:Mv} (hr:Ew 4000 r)
include pt hr
theorem PtI.KF:KF w G r (4*w*v):=λc e=>by
 have f:=pt.g.ok c e;have h:=qN pt.h3 pt.g hr e;constructor
 .have:=dX f hr;unfold Xc;rw[Gp];obtain⟨_,a,b,c,d,_⟩:=this;omega
 .unfold NL
  grind
theorem PtI.nok:∀id e,id<4*w*v->e<3->NL (aq (ae (G id) r) (E5 (ra w id) e))=J:=λid e j_ a=>by
 have b:-(4000+15)<=(t_ w (my G r) id).1/\(t_ w (my G r) id).1<=4000+15/\-(4000+15)<=(t_ w (my G r) id).2.1/\(t_ w (my G r) id).2.1<=4000+15:=qN pt.h3 pt.g hr j_;have d:=L1 (c:=t_ w (my G r) id) (e:=eT (my G r id).1 e) fi (jY a);show NL (Ek w (my G r) id e)=J;rw[Cr pt.h3.sh j_ a];unfold NL
 grind
theorem PtI.both{H:HL}{o:TV}(k:q_ H o 3 q9 l):∃d ix h',BothC [.i (DO w),.i (DO v),.v o,.i (DO r.1),.i r.2.1,.i r.2.2] H d ix 0 h'/\q_ h' d 3 u9 (Fi w v G r)/\q_ h' ix 3 bX (C6 w v G r):=by
 obtain⟨y,h',c,x,u⟩:=both_c pt.h3.sh (gS pt.lt) pt.pat.len k (pt.pat.check k) (aU hr (show(4000:Int)<=16384 by decide));rcases u with⟨_,a⟩|⟨e,s,h⟩
 .exact absurd ⟨G,pt.g.g,pt.g.z⟩ a
 have t:∀c,c<4*w*v->e c=G c:=λc b=>BS pt.h3.sh s pt.g b;rcases h with⟨_,a⟩|⟨d,ix,rfl,_,f,j⟩
 .refine absurd (λc b=>?_) a;have:=pt.KF hr c b
  simp_all
 have p:Fi w v e r=Fi w v G r:=p' λc b=>k_;have q:C6 w v e r=C6 w v G r:=p' λc b=>k_;rw[p]at f;rw[q]at j;have m:=f.ls cZ;have n:=j.ls cK;exact⟨d,ix,h',⟨c,x,m.g_,n.g_⟩,m,n⟩
theorem Z5{h:HL}{k:TV}(e:q_ h k 3 q9 l):NpC h w v k r.1 r.2.1 r.2.2 (E3 (C6 w v G r)) l (s7 (C6 w v G r)) (Fu (F9 (s7 (C6 w v G r)))) (SvC w v l G r (Fu (F9 (s7 (C6 w v G r))))) (Km (Fu (F9 (s7 (C6 w v G r)))) (B2 w v l G r) (W (B2 w v l G r).1)):=by
 intro E N;have hN:W (C6 w v G r)=4*w*v:=by simp[C6]
 have D:=pt.h3.n;obtain⟨Y,xi,B,m,_,a⟩:=pt.both hr e;have s:=Zb e.g_ m;have z:q_ B k 3 q9 l:=e.ke λj o y _=>m.p.get y;have f:0<W (C6 w v G r):=by
  have h1:0<w*v:=qdN pt.h3.1 pt.h3.2.2.1
  grind
 have A:=x18 (ls:=[.i (DO w),.i (DO v),.v k,.i (DO r.1),.i r.2.1,.i r.2.2]) (K:=λI g=>∃b,I=[.v (lM b),.i 0]/\Xy B b w v k r (E3 (C6 w v G r)) l (s7 (C6 w v G r)) (Fu (F9 (s7 (C6 w v G r)))) (SvC w v l G r (Fu (F9 (s7 (C6 w v G r))))) (Km (Fu (F9 (s7 (C6 w v G r)))) (B2 w v l G r) (W (B2 w v l G r).1)) g) (H:=h) (mc (mc (o_ e.g_ (mc (mc (mc vc)))))) (by
  rw[np0_eq];refine np0_c e.g_ a_ s a a_ λg1 b mp mw xa xu Z=>?_;refine np1_c Z a_ f (λc t=>?_) λg2 n2=>?_
  .obtain⟨i,x⟩:=E4 t;have:=ah x;rw[dv a_]at x;rw[←Fm x];exact fi
  refine np2_c n2 a_ a λg3 xd xl vs T n3=>?_;refine np3_c n3 a_ a_ λg4 xp n4=>?_;refine np4_c n4 pt.h3 pt.pat pt.k0 pt.g hr (pt.nok hr) z a (λH C=>?_) λg R=>⟨b,rfl,R⟩;obtain⟨X,ix,M,d,q1,_⟩:=pt.both hr C;exact⟨X,M,hQ C.g_ d,d.p,q1⟩)
 obtain⟨I,g,L,b,rfl,c,n,t,S,F,u,P⟩:=A;have V:=m.p.len;refine⟨b,c,n,g,L,t,λj q=>?_,λj o y=>S j o (m.p.get y),a_,λj q=>by have:=u j q;omega,P E λj q=>⟨jw,(N j q).2⟩⟩
 grind
end
inductive Sz(w v:Nat):Nat->TD->Mv->(Nat->Mv)->List B_->Prop
 |flat:Sz w v 0 [] ET (λ_=>ET) (wC w v)
 |fold {n:Nat} {l l':TD} {r:Mv} {G:TH} {L L':List B_} {ln:Ln} {s o:Bool} (h:Sz w v n l r G L) (hln:∃p∈ES w v l G r (4*w*v),p.2.2=ln) (hp:l'.Perm (l++FA w v (λa=>ae (G a) r) o ln (ES w v l G r (4*w*v)))) (hs:HB l') (hL:L'.Perm (Iv ln s o L)) (hS:L'.Pairwise λa b=>Ez a.1 b.1=false):Sz w v (n+1) l' (bT ln s L r L.length) (Gj w ln s G r) L'
def g6{j7:Type}{n0 a e:Nat}{enc:j7->Tn}{L:List j7}{h:HL}{x:TV}(d:i' a h x e enc L)(g:n0<=a):i' n0 h x e enc L:=by
 rcases d with q|⟨id,b,c,f,e3⟩
 .exact .inl q
 .exact .inr ⟨id,b,c,a_,e3⟩
def CH{w v n0:Nat}(u:S3 w v){h:HL}{j:Nat}(Y:j<=4){z S:TV}{r:Mv}{l:TD}{G:TH}{Ms:List Sk}(e:StH w v n0 h (kB j) z r S l G Ms)(y:n0<=W h)(hl:W l<=108*j)(X:Sz w v j l r G (Ms.map HR)){ln:Ln}(L:∃p∈ES w v l G r (4*w*v),p.2.2=ln)(s o:Bool) :
  ∃E r' k l' M g h',aD cc ac 14 ([.i (.ofNat w),.i (.ofNat v),.v z]++EG r++[.v S,.i (.ofNat ln.1),.i ln.2,.i (if s then 1 else 0),.b o]) (h_ aa h) [.i (.ofNat w),.i (.ofNat v),.v E,.i (DO r'.1),.i r'.2.1,.i r'.2.2,.v k] (h_ aa h')/\xk h h'/\StH w v n0 h' (kB (j+1)) E r' k l' M g/\l'.length<=108*(j+1)/\Sz w v (j+1) l' r' M (g.map HR)/\i' n0 h' E 3 q9 l':=by
 obtain⟨b1,b2,b3,b4⟩:=u.n;have K:=yL (show j<=5 by omega);have P:=Zl Y;obtain⟨R,t,f⟩:=L;have N:=ZE u e.st.co e.st.rk t;rw[f]at N;have C:=e.st.vk;obtain⟨rs,h',c,H⟩:=YY u e.cr (λc I=>(C c I).1) (λc I=>(C c I).k0) a_ (aU e.st.rk a_) e.st.co (t3 e.ss e.pc) (e.st.pos u) (by have:=e.st.lenL;omega) (λa F=>by have:=e.st.cell u F;omega) (λa F=>⟨e.st.st.ne a F,by have:=e.st.lenP F;omega⟩) N.1 a_ s o;obtain⟨E,k,l',g,rfl,Z,x,d,B,D,A,m,q⟩:=H;have V:=e.st.fold u (s:=s) (o:=o) K.1 ⟨R,t,f⟩ d B m (KZ.2 q);refine⟨E,_,k,l',_,g,h',c,Z,⟨x.ls (λ_=>rfl),V,D,A.low y⟩,?_,X.fold ⟨R,t,f⟩ d B m (KZ.2 q),g6 x y⟩;have T:=d.length_eq;rw[IL]at T;have h2:W (FA w v (λa=>ae (G a) r) o ln (ES w v l G r (4*w*v)))<=W (ES w v l G r (4*w*v)):=by
  unfold FA
  grind
 have h4:=mz (w:=w) (v:=v) (l:=l) (G:=G) (r:=r) (n:=4*w*v);omega
def SofR(w v n:Nat)(H:HL)(b:TG)(h':HL):Prop:=
 ∃z r a l G Ms j,b=[.i (.ofNat w),.i (.ofNat v),.v z,.i (DO r.1),.i r.2.1,.i r.2.2,.v a]/\xk H h'/\j<=5/\j<=n/\l.length<=108*j/\StH w v (W H) h' (kB j) z r a l G Ms/\Sz w v j l r G (Ms.map HR)/\i' (W H) h' z 3 q9 l
def bit_of{a:Int}(h:0<=a/\a<=255):a%2=(if decide (a%2=1)then 1 else 0):=by grind
def hT{a:Int}{n:Nat}(h:0<=a)(b:0<n):a.toNat%n<n/\a%DO n=DO (a.toNat%n):=by
 refine⟨VN _ b,?_⟩
 grind
def l1{w8 v8:Int}(a8:0<=w8/\w8%4<=2/\w8<=255)(a7:0<=v8/\v8%4<=2/\v8<=255){H:HL}{xf:TV}{Fl:List o1}(hF:q_ H xf 3 yr Fl)(ag:∀a∈Fl,hZ a) :
  ∃w v rs h',(1+w8%4=DO w/\1+v8%4=DO v)/\S3 w v/\aD cc ac 4 [.i w8,.i v8,.v xf] (h_ aa H) rs (h_ aa h')/\SofR w v (W Fl) H rs h':=by
 obtain⟨DJ,hW⟩ : ∃DJ:Nat,1+w8%4=DO DJ:=⟨(1+w8%4).toNat,jw⟩;obtain⟨V,hV⟩ : ∃V:Nat,1+v8%4=DO V:=⟨(1+v8%4).toNat,jw⟩;have D:S3 DJ V:=by have a1:1+w8%4=(DJ:Int):=hW;have a2:1+v8%4=(V:Int):=hV;exact⟨a_,a_,a_,a_⟩
 obtain⟨b1,b2,b3,b4⟩:=D.n;have hN:=GK D.sh;refine⟨DJ,V,?_⟩;obtain⟨x0,F,E,c0,aE,a3,P,m⟩:=eZ D (H:=H);have R:StH DJ V (W H) F (kB 0) rW ET x0 [] (λ_=>ET) E:=⟨.nil _ _ _,by rw[m];exact AF D,a3,P⟩;have a9:=x4 (ls:=[.i w8,.i v8,.v xf]) (K:=SofR DJ V (W Fl) H) (H:=H) (mc (mc (o_ hF.g_ vc))) (by
  unfold f4;simp only[w7];simp(disch:=omega)only[↓DT];rw[hW,hV];refine ai c0 ?_;simp(disch:=omega)only[↓DT];refine di (SofR DJ V (W Fl) H) ?_ ?_
  case refine_2=>
   intro jj av;refine bo (g9:=HL×FO×Mv×FO×List Gs×(Nat->Mv)×List Sk) 5 (λj t=>[.i (DO j),.i (.ofNat DJ),.i (.ofNat V),.v t.2.1,.i (DO t.2.2.1.1),.i t.2.2.1.2.1,.i t.2.2.1.2.2,.v t.2.2.2.1]) (λ_ t=>t.1)
    (λj t=>j<=W Fl/\xk H t.1/\t.2.2.2.2.1.length<=108*j/\StH DJ V (W H) t.1 (kB j) t.2.1 t.2.2.1 t.2.2.2.1 t.2.2.2.2.1 t.2.2.2.2.2.1 t.2.2.2.2.2.2/\Sz DJ V j t.2.2.2.2.1 t.2.2.1 t.2.2.2.2.2.1 (t.2.2.2.2.2.2.map HR)/\i' (W H) t.1 t.2.1 3 q9 t.2.2.2.2.1)
    (j0:=0) (s0:=(F,rW,ET,x0,[],(λ_=>ET),E)) rfl rfl (Eg _) ⟨Eg _,aE,d_,R,by simp only;rw[m];exact .flat,.inl ⟨rfl,rfl⟩⟩ ?_
   rintro j ⟨h,z,r,Y,l,G,Z⟩ hj ⟨u,p,d,b,I,T⟩ a5 C;simp only at p d b I T ⊢;have f:∀h',xk h h'->jj [.i (.ofNat DJ),.i (.ofNat V),.v z,.i (DO r.1),.i r.2.1,.i r.2.2,.v Y] h':=λh' B=>av _ _ ⟨z,r,Y,l,G,Z,j,rfl,p.trans B,hj,u,d,b.pre B,I,T.ke λ_ _ q _=>B.get q⟩;refine c_ ?_;refine aO (hF.pre p) ?_;by_cases x:j<W Fl
   case neg=>rw[aw a_];refine c_ ?_;exact f h (.refl _)
   rw[aB x];refine c_ ?_;by_cases ap:j<5
   case neg=>rw[s_ (show(5:Int)<=DO j by grind)];refine c_ ?_;exact f h (.refl _)
   rw[r_ (show DO j<5 by grind)];refine c_ ?_;have a6:=yL (show j<=5 by omega);obtain⟨zl,h1,k,c1,g,A,ay,ax⟩:=p4 D b.cr (b.ss.g_) (λc hc=>(b.st.vk c hc).1) (λc hc=>(b.st.vk c hc).k0) a_ (aU b.st.rk a_) b.st.co;simp only[EG,Fe,E7]at c1;refine ai c1 ?_;refine c_ ?_;refine aO A ?_;by_cases F:W k=0
   .rw[ub (show DO (W k)=0 by rw[F];rfl)];refine c_ ?_;exact f h1 g
   rw[tx (show ¬DO (W k)=0 from λe=>F (Ky e))];refine c_ ?_;obtain⟨a,X⟩:=ak x;obtain⟨k1,k2,k3,k4,k5,k6⟩:=ag a (A9 X);have s:=(hF.pre p).pre g;refine Nr (o:=0) (cs:=[EO DU a.1]) s rfl X a_ rfl ?_;refine c_ ?_;refine aO A ?_;obtain⟨M,N⟩:=hT k1 (show 0<W k by omega);rw[Hq a_ (show(0:Int)<DO (W k) by grind)];rw[N];refine m9 ?_;obtain⟨y,hy⟩:=ak M;refine aJ A rfl hy ?_;rw[show ud y=[EO DU (DO y.1),EO DQ y.2]from rfl];refine c_ ?_;refine Nr (o:=1) (cs:=[EO DU a.2.1]) s rfl X a_ rfl ?_;refine c_ ?_;refine Nr (o:=2) (cs:=[EO DU a.2.2]) s rfl X a_ rfl ?_;refine c_ ?_;rw[bit_of ⟨k3,k4⟩];obtain⟨z',r',a4,l',G',ad,h2,c2,a0,S,L,an,al⟩:=CH D (j:=j) a_ (b.pre g) (by have:=(p.trans g).len;omega) d I (ax y (A9 hy)) (decide (a.2.1%2=1)) (decide (a.2.2%2=1));simp only[EG,Fe,E7]at c2;refine Nk λt ht=>?_;subst ht;refine ai c2 ?_;refine c_ ?_;rw[aI a_];exact C (h2,z',r',a4,l',G',ad) ap ⟨x,(p.trans g).trans a0,L,S,an,al⟩
  rintro ls h ⟨z,r,Y,l,G,Z,j,rfl,p,hj,u,d,b,I,T⟩;simp(disch:=omega)only[↓DT];exact⟨z,r,Y,l,G,Z,j,rfl,p,hj,u,d,b,I,T⟩)
 simp_all
def pt_of{w v:Nat}(f:S3 w v){l:TD}{G:TH}(i:∀c∈l,VK w v c)(d:l.Pairwise λa b=>Ks a b=J)(j:W l<=1000)(g:C' w v l G):PtI w v l G:=by
 have k:=f.sh;refine⟨f,⟨k,λc h=>?_,j,n5 i d⟩,d,λc h=>(i c h).k0,g⟩;have:=okC_of (i c h) (by have:=f.n;omega);obtain⟨⟨u,e,n,m,o,p,q,_,_,r,s⟩,_⟩:=i c h;have:=f.n;unfold Nt
 grind
def P4:∀H,aD cc ac 5 [] H [.b J] H:=mf (n:=60) rfl e_ rfl e_
abbrev Kp(h h':HL):Prop:=∀(j:Nat) o,h[j]?=O o->h'[j]?=O o
section
variable {w v:Nat} {l:TD} {G:TH} (pt:PtI w v l G) {r:Mv} (hr:Ew 4000 r)
def Hl(w v:Nat)(l:TD)(G:TH)(r:Mv):List (List (TC)):=
 (Ec (s7 (C6 w v G r))).filter (E6 (Fu (F9 (s7 (C6 w v G r)))) (SvC w v l G r (Fu (F9 (s7 (C6 w v G r))))) (Km (Fu (F9 (s7 (C6 w v G r)))) (B2 w v l G r) (W (B2 w v l G r).1)))
include pt hr
theorem zS{h:HL}{c:TV}(a:q_ h c 3 q9 l):∃b h',aD cc ac 6 [.i (DO w),.i (DO v),.v c,.i (DO r.1),.i r.2.1,.i r.2.2] (h_ aa h) b (h_ aa h')/\SvR w v r.1 r.2.1 r.2.2 (E3 (C6 w v G r)) l h' (Hl w v l G r).head? b/\Kp h h':=
 l3 a.g_ (λj q=>yS a q) (Z5 pt hr (a.ke λj o d _=>dI (dI d)))
theorem allP_c(a:Int){h:HL}{d:TV}(b:q_ h d 3 q9 l):∃c h',aD cc ac 10 [.i (DO w),.i (DO v),.v d,.i (DO r.1),.i r.2.1,.i r.2.2,.i a] (h_ aa h) c (h_ aa h')/\((a<1∨1000<a)->c=[.v (DW Q 0 0),.i 1])/\(1<=a/\a<=1000->AlR w v r.1 r.2.1 r.2.2 (E3 (C6 w v G r)) l h' ((Hl w v l G r).take a.toNat) c)/\Kp h h':=
 all_c a b.g_ (λj q=>yS b q) (Z5 pt hr (b.ke λj o e _=>dI e))
end
section
variable {w v:Nat} {l:TD} {G:TH} (pt:PtI w v l G) (hv:∀c∈l,VK w v c)
include pt hv
end
def vm:∀ {IDS x:List (TC)},x∈Ec IDS->∀l∈IDS,∃q∈x,q.Perm l
 | [],x,_,l,a=>by cases a
 |m::IDS,x,b,l,a=>by
  unfold Ec at b;obtain⟨p,c,b⟩:=Gv.1 b;obtain⟨t,e,rfl⟩:=Ed.1 b;rcases Fy.1 a with rfl|a
  .exact⟨p,d_,pX rfl c⟩
  .obtain⟨q,f,d⟩:=vm e l a
   grind
structure Xu where
 N:Nat
 nb:Nat->Nat->Option Nat
 im:Nat->Cl
 be:Nat->Nat->Cl
 kd:Nat->Nat->Int
 up:Nat->Bool
structure Xu.EN(g:Xu)(a b e:Nat):Prop where
 a0:a<g.N
 b0:b<g.N
 e0:e<3
 nb:g.nb a e=O b
 k0:g.kd a e=0
structure Xu.Loop(g:Xu)(a b e:Nat):Prop where
 a0:a<g.N
 b0:b<g.N
 e0:e<3
 nb:g.nb a e=O b
 k0:g.kd a e≠0
structure HX(g:Xu)(B:Nat->Nat->Bool):Prop where
 kd:∀a b e,g.Loop a b e->g.kd a e≠3->xr (B a b) (xr (decide (g.kd a e=2)) (g.up a))=J
 pp:∀a b e c d f,g.EN a b e->g.EN c d f->g.im a=g.im c->g.be a e=g.be c f->a≠c->B a c=B b d
 pl:∀a b e c d f,g.EN a b e->g.Loop c d f->g.im a=g.im c->g.be a e=g.be c f->B a c=B a d
 ll:∀a b e c d f,g.Loop a b e->g.Loop c d f->g.im a=g.im c->g.be a e=g.be c f->a≠c->a≠d->xr (xr (B a c) (B b c)) (xr (B a d) (B b d))=U
structure GMap(g g':Xu)(j8 B4:TF)(s:Bool):Prop where
 lt:∀a,a<g.N->j8 a<g'.N
 inj:∀a b,a<g.N->b<g.N->j8 a=j8 b->a=b
 et:∀e,e<3->B4 e<3
 nb:∀a e b,a<g.N->e<3->g.nb a e=O b->g'.nb (j8 a) (B4 e)=O (j8 b)
 im:∀a b,a<g.N->b<g.N->(g'.im (j8 a)=g'.im (j8 b)↔g.im a=g.im b)
 be:∀a e b f,a<g.N->b<g.N->e<3->f<3->g.be a e=g.be b f->g'.be (j8 a) (B4 e)=g'.be (j8 b) (B4 f)
 k0:∀a e,a<g.N->e<3->(g'.kd (j8 a) (B4 e)=0↔g.kd a e=0)
 k3:∀a e,a<g.N->e<3->g.kd a e≠3->g'.kd (j8 a) (B4 e)≠3
 ku:∀a e,a<g.N->e<3->g.kd a e≠0->g.kd a e≠3->xr (decide (g'.kd (j8 a) (B4 e)=2)) (g'.up (j8 a))=xr s (xr (decide (g.kd a e=2)) (g.up a))
end Go.Am
end

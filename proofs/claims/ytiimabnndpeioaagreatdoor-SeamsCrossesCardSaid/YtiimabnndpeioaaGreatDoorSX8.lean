/-
  PART 8 OF THE PROOF (no conditions).
-/
import Derived.Test.YtiimabnndpeioaaGreatDoorSX7
import Derived.SevenTiedAt
import Derived.Test.YtiimabnndpeioaaGreatDoorCards
import Derived.Test.YtiimabnndpeioaaGreatDoorTie
set_option linter.unusedSectionVars false
set_option linter.unusedSimpArgs false
set_option linter.unusedVariables false
set_option linter.constructorNameAsVariable false
set_option linter.defProp false
noncomputable section
set_option maxRecDepth 100000
set_option maxHeartbeats 16000000
namespace Go.Am
open Sx Go.Proofs
def Hk(a:Option Addr):EF a a=true:=by
 rcases a with _|⟨b,o,s⟩
 ·rfl
 ·unfold EF;simp only[Er];rcases s with _|s
  ·rfl
  ·exact Er s
def nZ{v:Value}(h:∃a n c,v = .slice a n c):Sx.eqVl v v=some ():=by
 obtain⟨a,n,c,rfl⟩:=h;show(match EF a a,Nat.beq n n,Nat.beq c c with
  |true,true,true=>some ()
  |_,_,_=>none)=_
 rw[Hk,Er,Er]
def Hm(n:Int):Sx.eqNt n n=true:=by
 cases n with
 |ofNat n=>exact Er n
 |negSucc n=>exact Er n
def aV(n:Int):Sx.eqIn n n=some ():=by
 unfold Sx.eqIn;rw[Hm]
def E3{e id n o cx:Nat}:C3 e (.slice (some ⟨id,o,qs e⟩) n cx) none (some (Int.ofNat n)) (some (Int.ofNat n))=some (.slice (some ⟨id,o,qs e⟩) n (n+1)):=by
 unfold C3;simp only;rw[ra (by simp),mc (by simp[cW])];simp[fQ,bT]
def X0{h:HL}{x:Value}{l:List Pq}(i:LsH h x 2 fe l)(d:l=[]->x = .slice none 0 0)(w:l.length<=1000) :
  ∃k p h',aD cc ab 79 [.v x] (ka aa h) [.v k] (ka aa h')/\(∀g:HL,aD cc ab 78 [.v k] (ka aa g) [.v p] (ka aa g))/\Pre h h'/\LsH h' p 2 fe l/\aC k=true/\∀b,blk p=some b->h.length<=b:=by
 by_cases q:l=[]
 ·subst q;obtain rfl:=d rfl;refine⟨.slice none 0 0,.slice none 0 0,h,?_,λg=>?_,.refl _,.nil _ _ _,rfl,λb f=>(by cases f)⟩
  ·exact xK x79 (oo rfl ua) (by
    unfold Y7;simp only[xp]
    repeat (first|simp(disch:=omega)only[↓po]|refine ae (x:=true) rfl ?_)
    trivial)
  ·exact xK x78 (oo rfl ua) (by
    unfold Y6;simp only[xp]
    repeat (first|simp(disch:=omega)only[↓po]|refine ae (x:=(0:Int)) rfl ?_|refine ae (x:=Value.slice none 0 0) rfl ?_|refine ac rfl ?_)
    trivial)
 ·have j:=qbl.2 q;have r:∃a n c,x = .slice (some a) n c:=by
   rcases i.2.2 with⟨_,y⟩|⟨id,s,u,z,t,rfl,_,_⟩
   ·omega
   ·exact⟨_,_,_,rfl⟩
  refine⟨.slice (some ⟨h.length+1,0,qs 2⟩) l.length 0,.slice (some ⟨h.length+1,0,qs 2⟩) l.length (l.length+1),h++[.o (.cells [] 2 true)]++[.o (.cells (l.flatMap fe) 2 true)],?_,λg=>?_,by rw[A6];exact⟨_,rfl⟩,?_,by simp[aC,noLoc,aR,bh,aX,aJ,aA,qs],λb f=>by
   have:h.length+1=b:=by simpa[blk]using f
   omega⟩
  ·exact xK x79 (oo i.good ua) (by
    unfold Y7;simp only[xp];refine jn ?_;obtain⟨a,n,c,rfl⟩:=r
    repeat (first|simp(disch:=omega)only[↓po]|refine ae (x:=false) rfl ?_|refine Gp (kb:=16) (h:=h++[.o (.cells [] 2 true)]) (m:=h.length) az (i.pre ⟨_,rfl⟩) j (by omega) (by omega) ?_)
    refine ac (by simp[aC,noLoc,aR,bh,aX,aJ,aA,qs]) ?_;refine⟨by simp,by simp⟩)
  ·exact xK x78 (oo (by simp[aC,noLoc,aR,bh,aX,aJ,aA,qs]) ua) (by
    unfold Y6;simp only[xp];refine jn ?_;refine ae (x:=Int.ofNat l.length) rfl ?_;refine ae (x:=Int.ofNat l.length) rfl ?_;refine ae E3 ?_;refine ac (by simp[aC,noLoc,aR,bh,aX,aJ,aA,qs]) ?_;trivial)
  ·refine bW (enc:=fe) (e:=2) (λ_=>rfl) ?_ rfl;rw[show h.length+1=(h++[HO.o (.cells [] 2 true)]).length by simp];exact az
def XZ{h:HL}{x:Value}{l:List Lq}(i:LsH h x 3 fP l)(d:l=[]->x = .slice none 0 0)(w:l.length<=1000) :
  ∃k p h',aD cc ab 81 [.v x] (ka aa h) [.v k] (ka aa h')/\(∀g:HL,aD cc ab 80 [.v k] (ka aa g) [.v p] (ka aa g))/\Pre h h'/\LsH h' p 3 fP l/\aC k=true/\∀b,blk p=some b->h.length<=b:=by
 by_cases q:l=[]
 ·subst q;obtain rfl:=d rfl;refine⟨.slice none 0 0,.slice none 0 0,h,?_,λg=>?_,.refl _,.nil _ _ _,rfl,λb f=>(by cases f)⟩
  ·exact xK x81 (oo rfl ua) (by
    unfold Y9;simp only[xp]
    repeat (first|simp(disch:=omega)only[↓po]|refine ae (x:=true) rfl ?_)
    trivial)
  ·exact xK x80 (oo rfl ua) (by
    unfold Y8;simp only[xp]
    repeat (first|simp(disch:=omega)only[↓po]|refine ae (x:=(0:Int)) rfl ?_|refine ae (x:=Value.slice none 0 0) rfl ?_|refine ac rfl ?_)
    trivial)
 ·have j:=qbl.2 q;have r:∃a n c,x = .slice (some a) n c:=by
   rcases i.2.2 with⟨_,y⟩|⟨id,s,u,z,t,rfl,_,_⟩
   ·omega
   ·exact⟨_,_,_,rfl⟩
  refine⟨.slice (some ⟨h.length+1,0,qs 3⟩) l.length 0,.slice (some ⟨h.length+1,0,qs 3⟩) l.length (l.length+1),h++[.o (.cells [] 3 true)]++[.o (.cells (l.flatMap fP) 3 true)],?_,λg=>?_,by rw[A6];exact⟨_,rfl⟩,?_,by simp[aC,noLoc,aR,bh,aX,aJ,aA,qs],λb f=>by
   have:h.length+1=b:=by simpa[blk]using f
   omega⟩
  ·exact xK x81 (oo i.good ua) (by
    unfold Y9;simp only[xp];refine jn ?_;obtain⟨a,n,c,rfl⟩:=r
    repeat (first|simp(disch:=omega)only[↓po]|refine ae (x:=false) rfl ?_|refine Gp (kb:=24) (h:=h++[.o (.cells [] 3 true)]) (m:=h.length) az (i.pre ⟨_,rfl⟩) j (by omega) (by omega) ?_)
    refine ac (by simp[aC,noLoc,aR,bh,aX,aJ,aA,qs]) ?_;refine⟨by simp,by simp⟩)
  ·exact xK x80 (oo (by simp[aC,noLoc,aR,bh,aX,aJ,aA,qs]) ua) (by
    unfold Y8;simp only[xp];refine jn ?_;refine ae (x:=Int.ofNat l.length) rfl ?_;refine ae (x:=Int.ofNat l.length) rfl ?_;refine ae E3 ?_;refine ac (by simp[aC,noLoc,aR,bh,aX,aJ,aA,qs]) ?_;trivial)
  ·refine bW (enc:=fP) (e:=3) (λ_=>rfl) ?_ rfl;rw[show h.length+1=(h++[HO.o (.cells [] 3 true)]).length by simp];exact az
def Rj{h:HL}{x:Value}{l:Tx}(i:LsH h x 1 kl l)(d:l=[]->x = .slice none 0 0)(w:l.length<=1000) :
  ∃k p h',aD cc ab 83 [.v x] (ka aa h) [.v k] (ka aa h')/\(∀g:HL,aD cc ab 82 [.v k] (ka aa g) [.v p] (ka aa g))/\Pre h h'/\LsH h' p 1 kl l/\aC k=true/\∀b,blk p=some b->h.length<=b:=by
 by_cases q:l=[]
 ·subst q;obtain rfl:=d rfl;refine⟨.slice none 0 0,.slice none 0 0,h,?_,λg=>?_,.refl _,.nil _ _ _,rfl,λb f=>(by cases f)⟩
  ·exact xK x83 (oo rfl ua) (by
    unfold Zb;simp only[xp]
    repeat (first|simp(disch:=omega)only[↓po]|refine ae (x:=true) rfl ?_)
    trivial)
  ·exact xK x82 (oo rfl ua) (by
    unfold Za;simp only[xp]
    repeat (first|simp(disch:=omega)only[↓po]|refine ae (x:=(0:Int)) rfl ?_|refine ae (x:=Value.slice none 0 0) rfl ?_|refine ac rfl ?_)
    trivial)
 ·have j:=qbl.2 q;have r:∃a n c,x = .slice (some a) n c:=by
   rcases i.2.2 with⟨_,y⟩|⟨id,s,u,z,t,rfl,_,_⟩
   ·omega
   ·exact⟨_,_,_,rfl⟩
  refine⟨.slice (some ⟨h.length+1,0,qs 1⟩) l.length 0,.slice (some ⟨h.length+1,0,qs 1⟩) l.length (l.length+1),h++[.o (.cells [] 1 true)]++[.o (.cells (l.flatMap kl) 1 true)],?_,λg=>?_,by rw[A6];exact⟨_,rfl⟩,?_,by simp[aC,noLoc,aR,bh,aX,aJ,aA,qs],λb f=>by
   have:h.length+1=b:=by simpa[blk]using f
   omega⟩
  ·exact xK x83 (oo i.good ua) (by
    unfold Zb;simp only[xp];refine jn ?_;obtain⟨a,n,c,rfl⟩:=r
    repeat (first|simp(disch:=omega)only[↓po]|refine ae (x:=false) rfl ?_|refine Gp (kb:=8) (h:=h++[.o (.cells [] 1 true)]) (m:=h.length) az (i.pre ⟨_,rfl⟩) j (by omega) (by omega) ?_)
    refine ac (by simp[aC,noLoc,aR,bh,aX,aJ,aA,qs]) ?_;refine⟨by simp,by simp⟩)
  ·exact xK x82 (oo (by simp[aC,noLoc,aR,bh,aX,aJ,aA,qs]) ua) (by
    unfold Za;simp only[xp];refine jn ?_;refine ae (x:=Int.ofNat l.length) rfl ?_;refine ae (x:=Int.ofNat l.length) rfl ?_;refine ae E3 ?_;refine ac (by simp[aC,noLoc,aR,bh,aX,aJ,aA,qs]) ?_;trivial)
  ·refine bW (enc:=kl) (e:=1) (λ_=>rfl) ?_ rfl;rw[show h.length+1=(h++[HO.o (.cells [] 1 true)]).length by simp];exact az
structure okE(N:Nat)(q:En):Prop where
 bd:bndE 1000 q
 np:q.ps=[]->q.vp = .slice none 0 0
 nl:q.ls=[]->q.vl = .slice none 0 0
 ne:q.es=[]->q.ve = .slice none 0 0
 ip:∀p∈q.ps,p.1<N/\p.2<N
 il:∀p∈q.ls,p.1<2/\p.2.1<N/\p.2.2<N
def zT{c:BC}{V h:HL}{U:Value}{Q:List En}{l:Ty}{G:TC}{r:Mv}{hg:Tz}(W:CtxB c V l G r hg)(f:Bld c V h U Q){i:Nat}{q:En}(hq:Q[i]?=some q)(a3:okE (4*c.w*c.v) q) :
  ∃(h':HL) (I J L:Value) (q':En),aD cc ab 31 [.v (te c.bm),.v (te q.id)] (ka aa h) (As q.a++As q.b++[.v I,.v J,.v L]) (ka aa h')/\Bld c V h' U (Q.set i q')/\
   q'.a=q.a/\q'.b=q.b/\q'.id=q.id/\q'.ps.Perm q.ps/\q'.ls.Perm q.ls/\q'.es.Perm q.es/\q'.ps.Pairwise (λa b=>¬hg b.1<hg a.1)/\q'.ls.Pairwise (λa b=>¬(b.1<a.1∨(b.1=a.1/\hg b.2.1<hg a.2.1)))/\q'.es.Pairwise (λa b=>a<=b)/\
   LsH h' I 2 fe q'.ps/\LsH h' J 3 fP q'.ls/\LsH h' L 1 kl q'.es/\(∀b,blk I=some b∨blk J=some b∨blk L=some b->h.length<=b)/\(∀(j:Nat) o,h[j]?=some o->¬CD q j->h'[j]?=some o)/\h.length<=h'.length:=by
 have h3:=W.h3;have hs:=h3.sh;obtain⟨b1,b2,b3,b4⟩:=h3.n;have hN:=Bw hs;have an:=Ap hq;have M:=f.en q an;obtain⟨aE,np,nl,ne,ip,il⟩:=a3;unfold bndE at aE;have a6:=x31 (ls:=[.v (te c.bm),.v (te q.id)]) (K:=λrs h'=>∃(I J L:Value) (q':En),rs=As q.a++As q.b++[.v I,.v J,.v L]/\Bld c V h' U (Q.set i q')/\
   q'.a=q.a/\q'.b=q.b/\q'.id=q.id/\q'.ps.Perm q.ps/\q'.ls.Perm q.ls/\q'.es.Perm q.es/\q'.ps.Pairwise (λa b=>¬hg b.1<hg a.1)/\q'.ls.Pairwise (λa b=>¬(b.1<a.1∨(b.1=a.1/\hg b.2.1<hg a.2.1)))/\q'.es.Pairwise (λa b=>a<=b)/\
   LsH h' I 2 fe q'.ps/\LsH h' J 3 fP q'.ls/\LsH h' L 1 kl q'.es/\(∀b,blk I=some b∨blk J=some b∨blk L=some b->h.length<=b)/\(∀(j:Nat) o,h[j]?=some o->¬CD q j->h'[j]?=some o)/\h.length<=h'.length) (H:=h) (oo (aS _) (oo (aS _) ua)) (by
  unfold f31;simp only[xp];refine jn ?_;have Z:Pre h (h++[HO.o (.cells [te c.bm] 1 true)]):=⟨_,rfl⟩;have N:=f.grow Z;have X:(h++[HO.o (.cells [te c.bm] 1 true)])[h.length]?=some (HO.o (.cells [te c.bm] 1 true)):=az;have a8:(h++[HO.o (.cells [te c.bm] 1 true)]).length=h.length+1:=by simp
  generalize h++[HO.o (.cells [te c.bm] 1 true)]=hA at *;have d:=N.en q an;have ax:RdH c hA U h.length hg:=⟨X,N.bl,N.ls W W.hg (by decide)⟩;have a1:∀j,CD q j->c.n1<=j/\j<h.length:=λj p=>M.lt p;have a7:=f.bn;refine dX (ds:=[q.vp]) d.bl (by simp[aH,bu]) rfl ?_;refine jn ?_;refine ac (d.op.good ff) ?_;refine pu ?_;refine ac rfl ?_;refine pu ?_;obtain⟨k,hB,cB,pB,sB,oB,F,lB⟩:=Qf ax d.op np hN.1 ip (by omega);refine ai cB ?_;refine jn ?_;have A:∀ {e:Nat} {α:Type} {ar:α->Tk} {l:List α} {v:Value} {g:HL} {b:Nat},OwnL c.n1 g v e ar l->(e≠9)->g[q.id]?=some (.o (.cells (aH q) 9 true))->blk v=some b->b≠q.id:=λho he hg f e=>by
   subst e;have:=cQ ho f;rw[eW hg]at this;exact he (AR this).symm
  have C:hB[q.id]?=some (.o (.cells (aH q) 9 true)):=F _ _ d.bl λe=>A d.op (by decide) d.bl e rfl;have O:Bld c V hB U (Q.set i ⟨q.a,q.b,q.id,q.vp,q.vl,q.ve,k,q.ls,q.es⟩):=N.upd hq rfl rfl ⟨M.idn,C,oB,d.ol.keep λj o p f=>F j o p λe=>aL d.op d.ol (by decide) e f,d.oe.keep λj o p f=>F j o p λe=>aL d.op d.oe (by decide) e f⟩ (λb=>⟨.inl,.inl,.inl⟩) (λj o p s=>F j o p λe=>s (.inr (.inl e))) (by omega);have a2:hB[h.length]?=some (HO.o (.cells [te c.bm] 1 true)):=F _ _ X λe=>by have:=(a1 _ (.inr (.inl e))).2;omega
  have ad:(Q.set i ⟨q.a,q.b,q.id,q.vp,q.vl,q.ve,k,q.ls,q.es⟩)[i]?=some ⟨q.a,q.b,q.id,q.vp,q.vl,q.ve,k,q.ls,q.es⟩:=C2 (al hq);have u:=O.en _ (Ap ad);have ay:RdH c hB U h.length hg:=⟨a2,O.bl,O.ls W W.hg (by decide)⟩;refine dX (ds:=[q.vl]) C (by simp[aH,bu]) rfl ?_;refine jn ?_;refine ac (d.ol.good cF) ?_;refine pu ?_;refine ac rfl ?_;refine pu ?_;obtain⟨t,hC,cC,pC,sC,oC,kC,lC⟩:=Qe ay u.ol nl hN.1 il (by show q.ls.length<=1000;omega);refine ai cC ?_;refine jn ?_;have D:hC[q.id]?=some (.o (.cells (aH q) 9 true)):=kC _ _ C λe=>A u.ol (by decide) C e rfl;have S:=O.upd ad (q':=⟨q.a,q.b,q.id,q.vp,q.vl,q.ve,k,t,q.es⟩) rfl rfl ⟨M.idn,D,u.op.keep λj o p f=>kC j o p λe=>aL u.ol u.op (by decide) e f,oC,u.oe.keep λj o p f=>kC j o p λe=>aL u.ol u.oe (by decide) e f⟩ (λb=>⟨.inl,.inl,.inl⟩) (λj o p s=>kC j o p λe=>s (.inr (.inr (.inl e)))) (by omega);rw[qd1]at S;have ag:(Q.set i ⟨q.a,q.b,q.id,q.vp,q.vl,q.ve,k,t,q.es⟩)[i]?=some ⟨q.a,q.b,q.id,q.vp,q.vl,q.ve,k,t,q.es⟩:=C2 (al hq);have y:=S.en _ (Ap ag);refine dX (ds:=[q.ve]) D (by simp[aH,bu]) rfl ?_;refine jn ?_
  refine ac (d.oe.good aU) ?_;refine pu ?_;obtain⟨E,hD,cD,pD,sD,oD,kD,lD⟩:=Qc y.oe ne (by show q.es.length<=1000;omega);refine ai cD ?_;refine jn ?_;have m:hD[q.id]?=some (.o (.cells (aH q) 9 true)):=kD _ _ D λe=>A y.oe (by decide) D e rfl;have T:=S.upd ag (q':=⟨q.a,q.b,q.id,q.vp,q.vl,q.ve,k,t,E⟩) rfl rfl ⟨M.idn,m,y.op.keep λj o p f=>kD j o p λe=>aL y.oe y.op (by decide) e f,y.ol.keep λj o p f=>kD j o p λe=>aL y.oe y.ol (by decide) e f,oD⟩ (λb=>⟨.inl,.inl,.inl⟩) (λj o p s=>kD j o p λe=>s (.inr (.inr (.inr e)))) (by omega);rw[qd1]at T;have a4:(Q.set i ⟨q.a,q.b,q.id,q.vp,q.vl,q.ve,k,t,E⟩)[i]?=some ⟨q.a,q.b,q.id,q.vp,q.vl,q.ve,k,t,E⟩:=C2 (al hq);have R:=T.en _ (Ap a4);have a0:∀(j:Nat) o,h[j]?=some o->¬CD q j->hD[j]?=some o:=λj o p s=>kD j o (kC j o (F j o (Z.get p) λe=>s (.inr (.inl e))) λe=>s (.inr (.inr (.inl e)))) λe=>s (.inr (.inr (.inr e)));have a9:hD.length=h.length+1:=by omega
  refine ae (x:=te q.id) rfl (ac (aS _) (ae (x:=.pointer (some ⟨q.id,0+0,none⟩)) rfl (ac (cP _ _) ?_)));refine cq (ej (o:=0) (n:=3) m (by simp[aH,bu])) rfl ?_;rw[show((aH q).drop 0).take 3=[.int .i64 q.a.1,.int .i64 q.a.2.1,.int .u8 (Int.ofNat q.a.2.2)]from rfl];refine jn ?_;refine ae (x:=te q.id) rfl (ac (aS _) (ae (x:=.pointer (some ⟨q.id,0+3,none⟩)) rfl (ac (cP _ _) ?_)));refine cq (ej (o:=3) (n:=3) m (by simp[aH,bu])) rfl ?_;rw[show((aH q).drop 3).take 3=[.int .i64 q.b.1,.int .i64 q.b.2.1,.int .u8 (Int.ofNat q.b.2.2)]from rfl];refine jn ?_;refine ae (x:=te q.id) rfl (ac (aS _) (ae (x:=.pointer (some ⟨q.id,0+6,none⟩)) rfl (ac (cP _ _) ?_)));refine cq (ej (o:=6) (n:=1) m (by simp[aH,bu])) rfl ?_;rw[show((aH q).drop 6).take 1=[q.vp]from rfl];refine jn ?_;refine ac (d.op.good ff) ?_;refine pu ?_;obtain⟨u1,I,h1,c1,d1,p1,l1,g1,n1⟩:=X0 (R.op.ls ff) (λe=>np (by have:k=[]:=e;rw[this]at pB;exact pB.symm.eq_nil)) (by show k.length<=1000;rw[pB.length_eq];omega);refine ai c1 ?_;refine jn ?_;refine ai (d1 h1) ?_;refine jn ?_;have z:=p1.get m;refine ae (x:=te q.id) rfl (ac (aS _) (ae (x:=.pointer (some ⟨q.id,0+7,none⟩)) rfl (ac (cP _ _) ?_)))
  refine cq (ej (o:=7) (n:=1) z (by simp[aH,bu])) rfl ?_;rw[show((aH q).drop 7).take 1=[q.vl]from rfl];refine jn ?_;refine ac (d.ol.good cF) ?_;refine pu ?_;obtain⟨u2,J,h2,c2,d2,p2,l2,g2,n2⟩:=XZ ((R.ol.ls cF).pre p1) (λe=>nl (by have:t=[]:=e;rw[this]at pC;exact pC.symm.eq_nil)) (by show t.length<=1000;rw[pC.length_eq];show q.ls.length<=1000;omega);refine ai c2 ?_;refine jn ?_;refine ai (d2 h2) ?_;refine jn ?_;have B:=p2.get z;refine ae (x:=te q.id) rfl (ac (aS _) (ae (x:=.pointer (some ⟨q.id,0+8,none⟩)) rfl (ac (cP _ _) ?_)));refine cq (ej (o:=8) (n:=1) B (by simp[aH,bu])) rfl ?_;rw[show((aH q).drop 8).take 1=[q.ve]from rfl];refine jn ?_;refine ac (d.oe.good aU) ?_;refine pu ?_;obtain⟨u3,L,h4,c3,d3,p3,l3,g3,n3⟩:=Rj ((R.oe.ls aU).pre (p1.trans p2)) (λe=>ne (by have:E=[]:=e;rw[this]at pD;exact pD.symm.eq_nil)) (by show E.length<=1000;rw[pD.length_eq];show q.es.length<=1000;omega);refine ai c3 ?_;refine jn ?_;refine ai (d3 h4) ?_;refine jn ?_;have P:=p3.get B;have a5:=jV (d.ol.ls cF);have ap:=jV (d.oe.ls aU);refine cq (ej (o:=0) (n:=3) z (by simp[aH,bu])) rfl ?_
  rw[show((aH q).drop 0).take 3=[.int .i64 q.a.1,.int .i64 q.a.2.1,.int .u8 (Int.ofNat q.a.2.2)]from rfl];refine jn ?_;refine ae (aV _) ?_;refine ae (aV _) ?_;refine ae (aV _) ?_;refine pu ?_;refine cq (ej (o:=3) (n:=3) z (by simp[aH,bu])) rfl ?_;rw[show((aH q).drop 3).take 3=[.int .i64 q.b.1,.int .i64 q.b.2.1,.int .u8 (Int.ofNat q.b.2.2)]from rfl];refine jn ?_;refine ae (aV _) ?_;refine ae (aV _) ?_;refine ae (aV _) ?_;refine pu ?_;refine cq (ej (o:=7) (n:=1) m (by simp[aH,bu])) rfl ?_;rw[show((aH q).drop 7).take 1=[q.vl]from rfl];refine jn ?_;refine ac (d.ol.good cF) ?_;refine pu ?_;refine ae (nZ a5) ?_;refine pu ?_;refine cq (ej (o:=0) (n:=3) B (by simp[aH,bu])) rfl ?_;rw[show((aH q).drop 0).take 3=[.int .i64 q.a.1,.int .i64 q.a.2.1,.int .u8 (Int.ofNat q.a.2.2)]from rfl];refine jn ?_;refine ae (aV _) ?_;refine ae (aV _) ?_;refine ae (aV _) ?_;refine pu ?_;refine cq (ej (o:=3) (n:=3) B (by simp[aH,bu])) rfl ?_;rw[show((aH q).drop 3).take 3=[.int .i64 q.b.1,.int .i64 q.b.2.1,.int .u8 (Int.ofNat q.b.2.2)]from rfl];refine jn ?_;refine ae (aV _) ?_;refine ae (aV _) ?_;refine ae (aV _) ?_;refine pu ?_;refine cq (ej (o:=8) (n:=1) m (by simp[aH,bu])) rfl ?_
  rw[show((aH q).drop 8).take 1=[q.ve]from rfl];refine jn ?_;refine ac (d.oe.good aU) ?_;refine pu ?_;refine ae (nZ ap) ?_;refine pu ?_;refine cq (ej (o:=8) (n:=1) z (by simp[aH,bu])) rfl ?_;rw[show((aH q).drop 8).take 1=[q.ve]from rfl];refine jn ?_;refine ac (d.oe.good aU) ?_;refine pu ?_;refine ae (nZ ap) ?_;refine pu ?_;refine cq (ej (o:=0) (n:=3) P (by simp[aH,bu])) rfl ?_;rw[show((aH q).drop 0).take 3=[.int .i64 q.a.1,.int .i64 q.a.2.1,.int .u8 (Int.ofNat q.a.2.2)]from rfl];refine jn ?_;refine ae (aV _) ?_;refine ae (aV _) ?_;refine ae (aV _) ?_;refine pu ?_;refine cq (ej (o:=3) (n:=3) P (by simp[aH,bu])) rfl ?_;rw[show((aH q).drop 3).take 3=[.int .i64 q.b.1,.int .i64 q.b.2.1,.int .u8 (Int.ofNat q.b.2.2)]from rfl];refine jn ?_;refine ae (aV _) ?_;refine ae (aV _) ?_;refine ae (aV _) ?_;refine pu ?_;have Y:=(p1.trans p2).trans p3;have:=p1.len;have:=p2.len;have:=p3.len;exact⟨I,J,L,⟨q.a,q.b,q.id,q.vp,q.vl,q.ve,k,t,E⟩,by first|rfl|trivial,T.grow Y,rfl,rfl,rfl,pB,pC,pD,sB,sC,sD,l1.pre (p2.trans p3),l2.pre p3,l3,λb f=>by
   rcases f with f|f|f
   ·have:=n1 b f;omega
   ·have:=n2 b f;omega
   ·have:=n3 b f;omega,λj o p s=>Y.get (a0 j o p s),by omega⟩)
 obtain⟨rs,h',h2,I,J,L,q',rfl,h4⟩:=a6;exact⟨h',I,J,L,q',h2,h4⟩
end Go.Am
namespace Go.Am
open Sx Go.Proofs Go.Shelf Go.Lib Go.Sort
def EI(a b:K6):Prop:=Bc a.1 b.1=true∨(a.1=b.1/\Bc a.2 b.2=true)
def EA(a b:K6):Int:=CN [Bs a.1 b.1,Bs a.2 b.2]
def io{a:Cl}:Bc a a=false:=by
 rw[zf];omega
def xm{a b c:Cl}(h:Bc a b=true)(h':Bc b c=true):Bc a c=true:=by
 rw[zg]at *;omega
def cmpC_0{a b:Cl}:Bs a b=0↔a=b:=by
 have d:=Jt a b;have f:=tR a b;constructor
 ·intro h;by_cases e:a=b
  ·exact e
  ·cases c:Bc a b with
   |true=>have:=d.2 c;omega
   |false=>have:=f.2 (ox c e);omega
 ·rintro rfl;have c:¬0<Bs a a:=λe=>by
   have:=d.1 e;rw[io]at this;cases this
  have g:¬Bs a a<0:=λe=>by
   have:=f.1 e;rw[io]at this;cases this
  omega
def Ju(a b:K6):EA a b<0↔EI b a:=by
 unfold EA EI;have d:∀n:Int,CN [n]=n:=λn=>by
  show(if n=0 then 0 else n)=n;split
  ·omega
  ·rfl
 show(if Bs a.1 b.1=0 then CN [Bs a.2 b.2]else Bs a.1 b.1)<0↔_;rw[d];by_cases h:Bs a.1 b.1=0
 ·rw[mc h,tR];have c:=cmpC_0.1 h;rw[c,io];simp
 ·rw[ra h,tR];have c:¬b.1=a.1:=λe=>h (cmpC_0.2 e.symm);simp[c]
def OQ{a:K6}:¬EI a a:=by
 unfold EI;rw[io,io];simp
def Kl{a b c:K6}(h:EI a b)(h':EI b c):EI a c:=by
 unfold EI at *;rcases h with h|⟨h,k⟩<;>rcases h' with h'|⟨h',d⟩
 ·exact .inl (xm h h')
 ·exact .inl (h'▸h)
 ·exact .inl (h▸h')
 ·exact .inr ⟨h.trans h',xm k d⟩
def FJ{a b:K6}(h:¬EI a b)(d:a≠b):EI b a:=by
 unfold EI at *;by_cases e:a.1=b.1
 ·refine .inr ⟨e.symm,ox ?_ λf=>d (Ed e f)⟩;cases c:Bc a.2 b.2 with
  |false=>rfl
  |true=>exact absurd (.inr ⟨e,c⟩) h
 ·refine .inl (ox ?_ e);cases c:Bc a.1 b.1 with
  |false=>rfl
  |true=>exact absurd (.inl c) h
def EU(k:K6):Prop:=k.1.2.2<4/\k.2.2.2<4
def Ky{a b:K6}(d:EU a)(f:EU b):Cc 28 (As a.1++As a.2++As b.1++As b.2) [.i (EA a b)]:=by
 refine q28 rfl ?_;unfold YS;simp only[xp];have c:=jE d.1 f.1;have c2:=jE d.2 f.2;simp only[As,AO,AG]at c c2 ⊢;refine jn ?_;refine ah c ?_;refine jn ?_;refine ah c2 ?_;refine jn ?_;refine ai (h':=[]++[HO.o (.cells [.int .i64 (Bs a.1 b.1),.int .i64 (Bs a.2 b.2)] 1 true)]) (or_c (l:=[Bs a.1 b.1,Bs a.2 b.2]) ?_ (by simp)) ?_
 ·exact vY (h:=[]) (e:=1) (enc:=Fp) (l:=[Bs a.1 b.1,Bs a.2 b.2]) (λ_=>rfl) (by rfl)
 ·simp(disch:=omega)only[↓po];rfl
abbrev X6:={k:K6 // EU k}
def Qd{h:HL}{F:Nat}{v:Value}{l:List K6}(Z:OwnL F h v 6 nV l)(f:l=[]->v = .slice none 0 0)(V:∀k∈l,EU k)(X:l.length<=1000) :
  ∃(l':List K6) (h':HL),aD cc ab 27 [.v v,.v (.func (.func 28) ⟨[]⟩ ⟨[]⟩)] (ka aa h) [] (ka aa h')/\l'.Perm l/\l'.Pairwise (λa b=>¬EI a b)/\OwnL F h' v 6 nV l'/\(∀(j:Nat) o,h[j]?=some o->blk v≠some j->h'[j]?=some o)/\h'.length=h.length:=by
 rcases Z with⟨rfl,rfl⟩|⟨id,cx,rfl,q1,G,q3⟩
 ·exact⟨[],h,UM (show aC (.func (.func 28) ⟨[]⟩ ⟨[]⟩)=true from rfl),M9 _,.nil,.inl ⟨rfl,rfl⟩,λj o A _=>A,rfl⟩
 have E:0<l.length:=qbl.2 λe=>by have:=f e;cases this
 obtain⟨J,U⟩ : ∃J:List X6,J.map Subtype.val=l:=jU λp Y=>⟨⟨p,V p Y⟩,rfl⟩;subst U;have D:∀L:List X6,(L.map Subtype.val).flatMap nV=L.flatMap λx=>nV x.val:=λL=>by rw[Vi]
 let _:Inhabited X6:=⟨⟨((0,0,0),(0,0,0)),by unfold EU;decide⟩⟩
 have n:SWO (ltOf λx y:X6=>EA x.val y.val):=wF (R:=λx y=>EI y.val x.val) (λx y=>Ju _ _) (λx h=>OQ h) (λx y z r m=>Kl m r) (λx y z r m s=>by
  by_cases e:x.val=y.val
  ·rw[e]at s;exact m s
  ·exact m (Kl s (FJ r λT=>e T.symm)))
 rw[A9]at E X;have c:=Mn layK (λw=>by kernel_rfl) (λw=>by kernel_rfl) (enc:=λx:X6=>nV x.val) (e:=6) (λ_=>rfl) (λx u q=>by
  obtain⟨⟨⟨I,K,M⟩,⟨O,P,Q⟩⟩,_⟩:=x;have q:u∈[Value.int .i64 I,.int .i64 K,.int .u8 (Int.ofNat M),.int .i64 O,.int .i64 P,.int .u8 (Int.ofNat Q)]:=q;simp only[qas,PX,or_false]at q;rcases q with rfl|rfl|rfl|rfl|rfl|rfl<;>rfl) n (g:=28) (λC w=>by kernel_rfl) (S:=λ_=>false) (H:=h) (caps:=[]) rfl (λx y=>by
  have W:=Ky x.2 y.2;refine⟨ka aa (Nb (λ_=>false) h),?_⟩;rw[←rh];exact fA (N:=Dd) Dj (Sg:=ab) (sg:=⟨[.agg [.i .i64,.i .i64,.i .u8,.i .i64,.i .i64,.i .u8],.agg [.i .i64,.i .i64,.i .u8,.i .i64,.i .i64,.i .u8]],[li]⟩) rfl (W (ka aa (Nb (λ_=>false) h)))
   (xs:=[.agg [.i .i64 x.val.1.1,.i .i64 x.val.1.2.1,.i .u8 (Int.ofNat x.val.1.2.2),.i .i64 x.val.2.1,.i .i64 x.val.2.2.1,.i .u8 (Int.ofNat x.val.2.2.2)],.agg [.i .i64 y.val.1.1,.i .i64 y.val.1.2.1,.i .u8 (Int.ofNat y.val.1.2.2),.i .i64 y.val.2.1,.i .i64 y.val.2.2.1,.i .u8 (Int.ofNat y.val.2.2.2)]]) rfl rfl
   (ys:=[.leaf (.i .i64 (EA x.val y.val))]) rfl rfl) (id:=id) (cx:=cx) (J:=J) (by rw[←D];exact G) rfl E (by omega) rfl (by kernel_rfl)
 refine⟨(srt (λx y:X6=>EA x.val y.val) J).map Subtype.val,_,(by rw[A9];exact c),(iT n J).map _,?_,?_,λj o A t=>aW A λe=>t (by rw[e];rfl),by rw[Bo]⟩
 ·rw[qbi];refine(ti n J).imp λ{x y} d=>?_;unfold ltOf at d;rw[decide_eq_false_iff_not]at d;intro B;exact d ((Ju _ _).2 B)
 ·have:=mN (l':=(srt (λx y:X6=>EA x.val y.val) J).map Subtype.val) G q1 q3 (by rw[A9,A9,(iT n J).length_eq]);rw[D]at this;exact this
end Go.Am
namespace Go.Am
open Sx Go.Proofs
def nK{h:HL}{y f:Value}{l:Tx}{p:Tt}(q:LsH h y 1 kl l)(E:l.length<=1000)(hg:aC f=true)(B:∀i∈l,tB cc f [.int .i64 (Int.ofNat i)] [.leaf .b] (ka aa h) [.b (p i)] (ka aa h)):aD cc ab 49 [.v y,.v f] (ka aa h) [.b (l.any p)] (ka aa h):=by
 have C:∃n:Int,aD cc ab 95 [.v y,.v f] (ka aa h) [.i n] (ka aa h)/\(l.any p=true/\0<=n∨l.any p=false/\n<0):=by
  have u:=x95 (ls:=[.v y,.v f]) (K:=λz w=>w=h/\∃n:Int,z=[.i n]/\(l.any p=true/\0<=n∨l.any p=false/\n<0)) (H:=h) (oo q.good (oo hg ua)) (by
   unfold f95;simp only[xp];refine jn ?_;refine bz q ?_;refine cG l.length (λj=>∀i,i<j->∀a,l[i]?=some a->p a=false) (j0:=0) rfl (AF _) (λi h=>by omega) ?_;intro j D x A g;refine jn ?_;by_cases d:j<l.length
   ·rw[au d];refine jn ?_;obtain⟨a,k⟩:=aG d;have m:=Ap k;refine aP q rfl k ?_;rw[show kl a=[.int .i64 (Int.ofNat a)]from rfl];refine jn ?_;refine ju (B a m) ?_;refine jn ?_;cases o:p a with
    |true=>
     refine jn ?_;exact⟨by trivial,_,by first|rfl|trivial,.inl ⟨qcn.2 ⟨a,m,o⟩,B8 _⟩⟩
    |false=>
     refine jn ?_;rw[aI (by omega)];exact g d λi c b s=>by
      by_cases e:i=j
      ·subst e;rw[k]at s;cases s;exact o
      ·exact x i (by omega) b s
   ·obtain rfl:j=l.length:=by omega
    rw[ao (Ah _)];refine jn ?_;refine⟨by trivial,-1,by first|rfl|trivial,.inr ⟨?_,by omega⟩⟩;rw[qdJ];intro a k;obtain⟨i,c⟩:=BK k;rw[x i (al c) a c];simp)
  obtain⟨z,w,r,rfl,n,rfl,c2⟩:=u;exact⟨n,r,c2⟩
 obtain⟨n,r,c2⟩:=C;exact xK x49 (oo q.good (oo hg ua)) (by
  unfold f49;simp only[xp];refine jn ?_;refine ai r ?_;refine jn ?_;rcases c2 with⟨e,t⟩|⟨e,t⟩
  ·rw[BI t,e];simp(disch:=omega)only[↓po];trivial
  ·rw[Bn t,e];simp(disch:=omega)only[↓po];trivial)
def Lg(N:Nat)(L:List Af):Prop:=∀s∈L,s.1.2.2<4/\(-4096<=s.1.1/\s.1.1<=4096/\-4096<=s.1.2.1/\s.1.2.1<=4096)/\s.2≠[]/\(∀c∈s.2,c<N)/\s.2.length<=200
def DL(L:List Af):Prop:=∀(i:Nat) a b,L[i]?=some a->L[i+1]?=some b->Bc b.1 a.1=true
abbrev bV(L:List Af):Tx:=L.flatMap Prod.snd
def ChkR(N:Nat)(L:List Af)(e:Int):Prop:=(e=1/\¬DL L)∨(DL L/\((e=8/\¬(bV L).Nodup)∨((bV L).Nodup/\((e=6/\(bV L).length<N)∨(e=0/\N<=(bV L).length)))))
def ChkR.eq{N:Nat}{L:List Af}{e e':Int}(h:ChkR N L e)(h':ChkR N L e'):e=e':=by
 unfold ChkR at h h';rcases h with⟨rfl,a⟩|⟨a,⟨rfl,b⟩|⟨b,⟨rfl,c⟩|⟨rfl,c⟩⟩⟩<;>rcases h' with⟨rfl,d⟩|⟨d,⟨rfl,f⟩|⟨f,⟨rfl,g⟩|⟨rfl,g⟩⟩⟩
 all_goals first
  |rfl
  |exact absurd ‹DL L› ‹¬DL L›
  |exact absurd ‹(bV L).Nodup› ‹¬(bV L).Nodup›
  |omega
def lM(N:Nat)(S:Tx):Tv:=(List.range N).map λc=>decide (c∈S)
def pv{N c:Nat}{S:Tx}(h:c<N):(lM N S)[c]?=some (decide (c∈S)):=by
 unfold lM;rw[AX,Ih h];rfl
def ft{N:Nat}{S:Tx}:(lM N S).length=N:=by simp[lM]
def Io{N c:Nat}{S:Tx}(h:c<N):(lM N S).set c true=lM N (S++[c]):=by
 refine Gm λi=>?_;by_cases a:i<N
 ·rw[Eb,ft,pv a,pv a];by_cases e:c=i
  ·subst e;rw[mc rfl,mc h];simp
  ·rw[ra e];have:i∈S++[c]↔i∈S:=by
    rw[qar,qav];exact⟨λh=>h.elim id λh=>absurd h.symm e,.inl⟩
   rw[decide_eq_decide.2 this]
 ·rw[Bp (by rw[Bo,ft];omega),Bp (by rw[ft];omega)]
def HZ{S T:Tx}(h:¬S.Nodup):¬(S++T).Nodup:=λe=>h (qb0.1 e).1
def ot{L:List Af}{i:Nat}{a:Af}(h:L[i]?=some a):bV (L.take (i+1))=bV (L.take i)++a.2:=by
 unfold bV;rw[Ec,h,M4];simp
def yZ{L:List Af}{i:Nat}:bV L=bV (L.take i)++bV (L.drop i):=by
 unfold bV;rw[←M4,LW]
def oq{L:List Af}{i k:Nat}{a:Af}(h:L[i]?=some a):bV L=(bV (L.take i)++a.2.take k)++(a.2.drop k++bV (L.drop (i+1))):=by
 rw[yZ (i:=i+1),ot h,A6,A6]
 congr 1
 rw[←A6,LW]
def zV{w v:Nat}(h3:S3 w v){H:HL}{x:Value}{L:List Af}(hx:StL H x L)(hL:L.length<=200)(Q:Lg (4*w*v) L)(a4:(bV L).length<=1000) :
  ∃e h',aD cc ab 48 [.v x,.i (.ofNat w),.i (.ofNat v)] (ka aa H) [.i e] (ka aa h')/\Pre H h'/\ChkR (4*w*v) L e:=by
 have hs:=h3.sh;obtain⟨b1,b2,b3,b4⟩:=h3.n;have hN:=Bw hs;obtain⟨M,hM,an,hm⟩:=hx;have a0:Cy (Int.ofNat w) (Int.ofNat v):=wz (Mg h3);have a1:=x48 (ls:=[.v x,.i (.ofNat w),.i (.ofNat v)]) (K:=λrs h'=>∃e,rs=[.i e]/\Pre H h'/\ChkR (4*w*v) L e) (H:=H) (oo hM.good (km (km ua))) (by
  unfold f48;simp only[xp];refine jn ?_;refine ah (lQ a0) ?_;refine jn ?_;refine ah (Jv hs) ?_;refine jn ?_;refine sS (b:=H.length) az rfl ?_;rw[ed];refine pu ?_;have N:(H++[HO.o (.cells [.int .i64 (Int.ofNat (4*w*v))] 1 true)])[H.length]?=some (HO.o (.cells [.int .i64 (Int.ofNat (4*w*v))] 1 true)):=az;have s:Pre H (H++[HO.o (.cells [.int .i64 (Int.ofNat (4*w*v))] 1 true)]):=⟨_,rfl⟩;generalize a5:H++[HO.o (.cells [.int .i64 (Int.ofNat (4*w*v))] 1 true)]=h1 at *;have C:=hM.pre s;refine bz C ?_;rw[an];refine pu ?_;refine cG L.length (λi=>∀(j:Nat) a b,j+1<i->L[j]?=some a->L[j+1]?=some b->Bc b.1 a.1=true) (j0:=0) rfl (AF _) (λj a b h=>by omega) ?_;intro i hi I ax g;refine jn ?_;by_cases A:i<L.length
  case pos=>
   rw[au A];refine jn ?_;obtain⟨⟨c,y⟩,hy⟩:=aG (l:=M) (i:=i) (by omega);obtain⟨m,d,t⟩:=hm i _ hy;simp only at d t;obtain⟨o1,U,o3,o4,o5⟩:=Q _ (Ap d);simp only at o1 U o3 o4 o5;have T:=t.good;have R:=t.pre s;refine aP C rfl hy ?_;rw[show AA (c,y)=[.int .i64 c.1,.int .i64 c.2.1,.int .u8 (Int.ofNat c.2.2),y]from rfl];refine jn ?_;refine ac T ?_;refine pu ?_;refine ac (show aC (.func (.func 93) ⟨[]⟩ ⟨[te H.length]⟩)=true from rfl) ?_;refine pu ?_;have k1:=nK (f:=.func (.func 93) ⟨[]⟩ ⟨[te H.length]⟩) (p:=λ_=>false) R (by omega) rfl λn hn=>jC (XW N (o4 n hn)) rfl [.leaf (.i .i64 (Int.ofNat n)),.leaf (.v (te H.length))] rfl rfl rfl;rw[show m.any (λ_=>false)=false by rw[qdJ];simp]at k1;refine ai k1 ?_;refine jn ?_;have W:=wQ (c:=c) ⟨U.1,U.2.1,U.2.2.1,U.2.2.2,o1⟩;simp only[As]at W;refine ah W ?_;refine jn ?_;have Z:m.length≠0:=λe=>o3 (qa6.1 e);by_cases h0:0<i
   ·rw[Au (show(0:Int)<Int.ofNat i by show(0:Int)<(i:Int);omega)];refine jn ?_;rw[jp (by omega) (by omega)];refine pu ?_;obtain⟨⟨V,y'⟩,ap⟩:=aG (l:=M) (i:=i - 1) (by omega);obtain⟨a7,u,_⟩:=hm (i - 1) _ ap;simp only at u;obtain⟨a2,a8,_⟩:=Q _ (Ap u);refine bN (cs:=[.int .i64 V.1,.int .i64 V.2.1,.int .u8 (Int.ofNat V.2.2)]) C rfl ap rfl (by omega) ?_;refine jn ?_;have c1:=jE (a:=V) (b:=c) a2 o1;simp only[As,AO,AG]at c1;refine ah c1 ?_;refine jn ?_;by_cases hg:Bs V c<0
    ·rw[Bn hg];refine jn ?_;refine bz R ?_;rw[Ai (show ¬Int.ofNat m.length=0 from λe=>Z (Du e))];refine jn ?_;rw[aI (by omega)];refine g A λj a b hj J D=>?_;by_cases e:j+1<i
     ·exact I j a b e J D
     ·obtain rfl:j=i - 1:=by omega
      rw[u]at J;rw[show i - 1+1=i by omega,d]at D;cases J;cases D;exact(tR _ _).1 hg
    ·rw[BI (by omega)];refine jn ?_;refine⟨1,rfl,s,.inl ⟨rfl,λhA=>hg ((tR _ _).2 (hA (i - 1) _ _ u (by rw[show i - 1+1=i by omega];exact d)))⟩⟩
   ·obtain rfl:i=0:=by omega
    rw[Ag (show Int.ofNat 0<=0 from Gn _)];refine jn ?_;refine bz R ?_;rw[Ai (show ¬Int.ofNat m.length=0 from λe=>Z (Du e))];refine jn ?_;rw[aI (by omega)];exact g A λj a b hj=>by omega
  obtain rfl:i=L.length:=by omega
  rw[ao (Ah _)];refine jn ?_;clear g;have r:DL L:=λj a b J D=>I j a b (by have:=al D;omega) J D;refine cq (cU N) rfl ?_;refine jn ?_;refine ae (eI (by omega)) ?_;refine jn ?_;rw[show(Int.ofNat (4*w*v)).toNat=4*w*v from rfl];have z1:HO.o (.cells (bk [.bool false] (4*w*v)) 1 true)=HO.o (.cells ((lM (4*w*v) []).flatMap Al) 1 true):=by
   have:lM (4*w*v) []=List.replicate (4*w*v) false:=by
    rw[List.eq_replicate_iff];refine⟨ft,λx hx=>?_⟩;obtain⟨i,_,rfl⟩:=qax.1 hx;exact Ch (by simp)
   rw[this,←dd (enc:=Al) (z:=false) (n:=4*w*v)];rfl
  rw[z1];have X:∀S:List Bool,LsH (h1++[HO.o (.cells (S.flatMap Al) 1 true)]) x 4 AA M:=λS=>C.pre ⟨_,rfl⟩;have ag:∀S:List Bool,S.length=4*w*v->LsH (h1++[HO.o (.cells (S.flatMap Al) 1 true)]) (.slice (some ⟨h1.length,0,qs 1⟩) (4*w*v) (4*w*v+1)) 1 Al S:=λS h=>bW eF az h.symm;have ay:∀S:List Bool,(h1++[HO.o (.cells (S.flatMap Al) 1 true)])[H.length]?=some (HO.o (.cells [.int .i64 (Int.ofNat (4*w*v))] 1 true)):=λS=>Pre.get ⟨_,rfl⟩ N;refine bz (X (lM (4*w*v) [])) ?_;rw[an];refine pu ?_;refine aO (σ:=Unit) L.length (λj _=>[.i (Int.ofNat (bV (L.take j)).length),.i (Int.ofNat j)]) (λj _=>h1++[HO.o (.cells ((lM (4*w*v) (bV (L.take j))).flatMap Al) 1 true)]) (λj _=>(bV (L.take j)).Nodup) (j0:=0) (s0:=()) rfl rfl (AF _) (by simp) ?_;intro i _ hi F ax g;refine jn ?_;by_cases A:i<L.length
  case neg=>
   obtain rfl:i=L.length:=by omega
   rw[ao (Ah _)];refine jn ?_;refine cq (cU (ay _)) rfl ?_;refine jn ?_;rw[IJ]at F ⊢;by_cases Y:(bV L).length<4*w*v
   ·rw[au Y];refine jn ?_;exact⟨6,rfl,s.app _,.inr ⟨r,.inr ⟨F,.inl ⟨rfl,Y⟩⟩⟩⟩
   ·rw[ao (by omega)];refine jn ?_;exact⟨0,rfl,s.app _,.inr ⟨r,.inr ⟨F,.inr ⟨rfl,by omega⟩⟩⟩⟩
  rw[au A];refine jn ?_;obtain⟨⟨c,y⟩,hy⟩:=aG (l:=M) (i:=i) (by omega);obtain⟨m,d,t⟩:=hm i _ hy;simp only at d t;obtain⟨o1,U,o3,o4,o5⟩:=Q _ (Ap d);simp only at o1 U o3 o4 o5;have T:=t.good;have ar:∀S:List Bool,LsH (h1++[HO.o (.cells (S.flatMap Al) 1 true)]) y 1 kl m:=λS=>(t.pre s).pre ⟨_,rfl⟩;have aE:∀k,(bV (L.take i)++m.take k).length<=1000:=λk=>by
   have:=congrArg List.length (oq (k:=k) d);simp only[Bv]at this ⊢;omega
  refine aP (X _) rfl hy ?_;rw[show AA (c,y)=[.int .i64 c.1,.int .i64 c.2.1,.int .u8 (Int.ofNat c.2.2),y]from rfl];refine jn ?_;refine ac T ?_;refine pu ?_;refine bz (ar (lM (4*w*v) (bV (L.take i)))) ?_;refine pu ?_;refine aO (σ:=Unit) m.length (λk _=>[.i (Int.ofNat (bV (L.take i)++m.take k).length),.i (Int.ofNat k)]) (λk _=>h1++[HO.o (.cells ((lM (4*w*v) (bV (L.take i)++m.take k)).flatMap Al) 1 true)]) (λk _=>(bV (L.take i)++m.take k).Nodup) (j0:=0) (s0:=()) (by simp) (by simp) (AF _) (by simpa using F) ?_;intro k _ hk B a3 G;have a6:=aE k;refine jn ?_;by_cases O:k<m.length
  case neg=>
   obtain rfl:k=m.length:=by omega
   rw[ao (Ah _)];refine jn ?_;rw[aI (by omega)];rw[IJ]at B ⊢;have:=g () A (by rw[ot d];exact B);rw[ot d]at this;exact this
  rw[au O];refine jn ?_;obtain⟨n,hn⟩:=aG O;have P:=o4 n (Ap hn);have q:m.take (k+1)=m.take k++[n]:=by rw[Ec,hn];rfl
  refine aP (ar _) rfl hn ?_;rw[show kl n=[.int .i64 (Int.ofNat n)]from rfl];refine jn ?_;refine aP (ag _ ft) rfl (pv P) ?_;rw[show ∀b:Bool,Al b=[.bool b]from λ_=>rfl];refine jn ?_;by_cases E:n∈bV (L.take i)++m.take k
  ·rw[BJ E];refine jn ?_;refine⟨8,rfl,s.app _,.inr ⟨r,.inl ⟨rfl,?_⟩⟩⟩;rw[oq (k:=k+1) d];refine HZ ?_;rw[show((c,m):Af).2=m from rfl,q,←A6];intro hd;exact(qb0.1 hd).2.2 n E n (by simp) rfl
  ·rw[Ch E];refine jn ?_;refine de (enc:=Al) (l:=lM (4*w*v) (bV (L.take i)++m.take k)) (i:=n) (a:=true) eF az rfl (by rw[ft];exact P) ft rfl ?_;rw[Io P];unfold td;rw[ed];refine pu ?_;rw[aI (by omega)];refine pu ?_;rw[aI (by omega)];have ad:(Int.ofNat (bV (L.take i)++m.take k).length)+1=Int.ofNat (bV (L.take i)++m.take (k+1)).length:=by
    rw[q,←A6,Bv (bs:=[n])];rfl
   rw[ad];have:=G () O (by
    rw[q,←A6,qb0];refine⟨B,by simp,λa J b D e=>?_⟩;rw[qav]at D;subst D e;exact E J)
   rw[q,←A6]at this;rw[q,←A6];exact this)
 obtain⟨rs,h',h2,e,rfl,h4,h5⟩:=a1;exact⟨e,h',h2,h4,h5⟩
def zy(a:Nat->Cl)(L:List Af):Prop:=∀s∈L,∀c∈s.2,a c=s.1
def vn{w v:Nat}(f:S3 w v){l:Ty}{G:TC}(a:ConsO w v l G){r:Mv}{k:Int}(d:AK k r)(n:k<=4000):allV w G r (4*w*v):=λc b=>by
 have m:=sa f a d b;have e:=dp (a.ok c b) d;obtain⟨_,g,h,i,j,_⟩:=e;constructor
 ·unfold ID;exact BJ (by omega)
 ·unfold Ek;exact BJ (by omega)
def Et(w v:Nat)(l:Ty)(r:Mv)(L:List Af)(e:Int):Prop:=
 (e=11/\¬ ∃G,nC w v l G/\G 0=AZ)∨∃G,ConsO w v l G/\((e≠0/\ChkR (4*w*v) L e)∨(ChkR (4*w*v) L 0/\((e=6/\¬zy (λc=>am (af (G c) r) (sd w c)) L)∨(e=0/\zy (λc=>am (af (G c) r) (sd w c)) L))))
def pU{w v:Nat}(h3:S3 w v){l:Ty}{H:HL}{V x:Value}(a4:(l.map bB).Nodup)(hl:LsH H V 3 Ac l)(a0:aD cc ab 99 [.i (.ofNat w),.i (.ofNat v),.v V] (ka aa H) [.i 0] (ka aa H))(I:l.length<=1000){r:Mv}{k:Int}(hr:AK k r)(hk:k<=4000){L:List Af}(hx:StL H x L)(hL:L.length<=200)(R:Lg (4*w*v) L)(a1:∀s∈L,-4000<=s.1.1/\s.1.1<=4000/\-4000<=s.1.2.1/\s.1.2.1<=4000)(ag:(bV L).length<=1000) :
  ∃e h',aD cc ab 16 ([.i (.ofNat w),.i (.ofNat v),.v V]++AB r++[.v x]) (ka aa H) [.i e] (ka aa h')/\Pre H h'/\Et w v l r L e:=by
 have hs:=h3.sh;obtain⟨b1,b2,b3,b4⟩:=h3.n;have hN:=Bw hs;obtain⟨M,hM,P,hm⟩:=hx;obtain⟨bd,q,c1,t,hB⟩:=Ev hs a4 I hl a0 (r:=r) (aN hr (by omega));have a6:=x16 (ls:=[.i (.ofNat w),.i (.ofNat v),.v V,.i (Int.ofNat r.1),.i r.2.1,.i r.2.2,.v x]) (K:=λrs h'=>∃e:Int,rs=[.i e]/\Pre H h'/\Et w v l r L e) (H:=H) (km (km (oo hl.good (km (km (km (oo hM.good ua))))))) (by
  unfold YO;simp only[xp];refine jn ?_;simp only[AB,AO,AG]at c1;rcases hB with⟨rfl,Q⟩|⟨G,hG,⟨rfl,Q⟩|⟨lx,ix,rfl,a8,a3,a2⟩⟩
  ·have hb:BothC [.i (.ofNat w),.i (.ofNat v),.v V,.i (Int.ofNat r.1),.i r.2.1,.i r.2.2] H jq jq 11 q:=⟨c1,t,rfl,rfl⟩;refine ai (rZ hl.good hb) ?_;refine jn ?_;refine sS (b:=q.length) az rfl ?_;rw[ed];refine pu ?_;exact⟨11,rfl,t.app _,.inl ⟨rfl,Q⟩⟩
  ·exact absurd (vn h3 hG hr hk) Q
  have ap:=a2.ls ee;have hb:BothC [.i (.ofNat w),.i (.ofNat v),.v V,.i (Int.ofNat r.1),.i r.2.1,.i r.2.2] H lx ix 0 q:=⟨c1,t,(a3.ls bR).good,ap.good⟩;refine ai (rZ hl.good hb) ?_;refine jn ?_;refine sS (b:=q.length) az rfl ?_;rw[ed];refine pu ?_;have ay:(q++[HO.o (.cells [ix] 1 true)])[q.length]?=some (HO.o (.cells [ix] 1 true)):=az;have T:Pre q (q++[HO.o (.cells [ix] 1 true)]):=⟨_,rfl⟩;generalize q++[HO.o (.cells [ix] 1 true)]=h2 at *;obtain⟨e,h4,c4,U,z⟩:=zV h3 (StL.pre ⟨M,hM,P,hm⟩ (t.trans T)) hL R ag;refine ai c4 ?_;refine jn ?_;have B:=(t.trans T).trans U;by_cases N:e=0
  case neg=>
   rw[AQ N];refine jn ?_;exact⟨e,rfl,B,.inr ⟨G,hG,.inl ⟨N,z⟩⟩⟩
  subst N;rw[AJ rfl];refine jn ?_;have J:=hM.pre B;have X:=U.get ay;have ar:=(ap.pre T).pre U;refine bz J ?_;rw[P];refine pu ?_;have a9:H.length<=q.length:=t.len;refine aO (σ:=HL) L.length (λj _=>[.i (Int.ofNat j)]) (λ_ s=>s) (λj s=>Pre h4 s/\∀(i:Nat) a,i<j->L[i]?=some a->∀c∈a.2,am (af (G c) r) (sd w c)=a.1) (j0:=0) (s0:=h4) rfl rfl (AF _) ⟨.refl _,λc a h=>by omega⟩ ?_;rintro i h hi ⟨D,C⟩ ax d;refine jn ?_;by_cases A:i<L.length
  case pos=>
   rw[au A];refine jn ?_;obtain⟨⟨c,y⟩,hy⟩:=aG (l:=M) (i:=i) (by omega);obtain⟨ly,m,u⟩:=hm i _ hy;simp only at m u;obtain⟨o1,o2,o3,o4,o5⟩:=R _ (Ap m);simp only at o1 o2 o3 o4 o5;have an:=u.good;refine aP (J.pre D) rfl hy ?_;rw[show AA (c,y)=[.int .i64 c.1,.int .i64 c.2.1,.int .u8 (Int.ofNat c.2.2),y]from rfl];refine jn ?_;refine ac an ?_;refine pu ?_;refine sS (b:=h.length) az rfl ?_;rw[ed];refine pu ?_;have Y:(h++[HO.o (.cells [.int .i64 c.1,.int .i64 c.2.1,.int .u8 (Int.ofNat c.2.2),y] 4 true)])[h.length]?=some (HO.o (.cells [.int .i64 c.1,.int .i64 c.2.1,.int .u8 (Int.ofNat c.2.2),y] 4 true)):=az;have a5:Pre h (h++[HO.o (.cells [.int .i64 c.1,.int .i64 c.2.1,.int .u8 (Int.ofNat c.2.2),y] 4 true)]):=⟨_,rfl⟩;generalize h++[HO.o (.cells [.int .i64 c.1,.int .i64 c.2.1,.int .u8 (Int.ofNat c.2.2),y] 4 true)]=h5 at *;have g:=D.trans a5;refine iC (ds:=[y]) (cU Y) (by simp) rfl ?_;refine jn ?_;refine ac an ?_;refine pu ?_;refine ac (show aC (.func (.func 50) ⟨[]⟩ ⟨[te q.length,te h.length]⟩)=true from rfl) ?_;refine pu ?_
   have k1:=nK (f:=.func (.func 50) ⟨[]⟩ ⟨[te q.length,te h.length]⟩) (p:=λn=>!decide (am (af (G n) r) (sd w n)=c)) (u.pre (B.trans g)) (by omega) rfl λn I=>jC (st1_c (g.get X) Y (ar.pre g) (rY (o4 n I))) rfl [.leaf (.i .i64 (Int.ofNat n)),.leaf (.v (te q.length)),.leaf (.v (te h.length))] rfl rfl rfl;refine ai k1 ?_;refine jn ?_;cases F:ly.any (λn=>!decide (am (af (G n) r) (sd w n)=c))with
   |true=>
    refine jn ?_;refine⟨6,rfl,B.trans g,.inr ⟨G,hG,.inr ⟨z,.inl ⟨rfl,λC=>?_⟩⟩⟩⟩;obtain⟨n,I,ad⟩:=qcn.1 F;have:=C _ (Ap m) n I;simp only at this;rw[BJ this]at ad;cases ad
   |false=>
    refine jn ?_;rw[aI (by omega)];exact d h5 A ⟨g,λj a hj ha n I=>by
     by_cases e:j=i
     ·subst e;rw[m]at ha;cases ha;have:=qdJ.1 F n I;simpa using this
     ·exact C j a (by omega) ha n I⟩
  obtain rfl:i=L.length:=by omega
  rw[ao (Ah _)];refine jn ?_;clear d;have S:zy (λc=>am (af (G c) r) (sd w c)) L:=λs hs c hc=>by
   obtain⟨i,hi⟩:=BK hs;exact C i s (al hi) hi c hc
  have W:=J.pre D;refine bz W ?_;rw[P];refine pu ?_;refine cG L.length (λ_=>True) (j0:=0) rfl (AF _) trivial ?_;intro i hi _ ax d;refine jn ?_;by_cases A:i<L.length
  case neg=>
   obtain rfl:i=L.length:=by omega
   rw[ao (Ah _)];refine jn ?_;exact⟨0,rfl,B.trans D,.inr ⟨G,hG,.inr ⟨z,.inr ⟨rfl,S⟩⟩⟩⟩
  rw[au A];refine jn ?_;obtain⟨⟨c,y⟩,hy⟩:=aG (l:=M) (i:=i) (by omega);obtain⟨ly,m,u⟩:=hm i _ hy;simp only at m u;have Z:=Ap m;obtain⟨o1,o2,o3,o4,o5⟩:=R _ Z;have aE:=a1 _ Z;simp only at o1 o2 o3 o4 o5 aE;refine aP W rfl hy ?_;rw[show AA (c,y)=[.int .i64 c.1,.int .i64 c.2.1,.int .u8 (Int.ofNat c.2.2),y]from rfl];refine jn ?_;refine ac u.good ?_;refine pu ?_;refine cG 3 (λ_=>True) (j0:=0) rfl (AF _) trivial ?_;intro k hk _ a7 E;refine jn ?_;by_cases O:k<3
  case neg=>
   obtain rfl:k=3:=by omega
   rw[tx (show(3:Int)<=Int.ofNat 3 from Gn _)];refine jn ?_;rw[aI (by omega)];exact d A trivial
  rw[us (show Int.ofNat k<3 by show(k:Int)<3;omega)];refine jn ?_;have c5:=ngA_c (c:=c) (e:=k) o1 O o2;have hq:=zu (c:=c) (e:=k) o1 O;rw[mc (show Ek (AP c k)=true by unfold Ek;exact BJ (by omega))]at c5;simp only[As,AO,AG]at c5;refine ah c5 ?_;refine jn ?_;rw[Dq (by show(0:Int)<=(k:Int)+1;omega) (by show(k:Int)+1<=255;omega)];exact E O trivial)
 obtain⟨rs,h',h2,e,rfl,h4,h5⟩:=a6;exact⟨e,h',h2,h4,h5⟩
def BE(id e:Nat):List (Nat×Nat):=(List.range id).flatMap (λi=>(List.range 3).map λk=>(i,k))++(List.range e).map λk=>(id,k)
def wm{id e:Nat}:BE id (e+1)=BE id e++[(id,e)]:=by
 unfold BE;rw[show List.range (e+1)=List.range e++[e]from Vd,CA,A6];rfl
def yg{id:Nat}:BE (id+1) 0=BE id 3:=by
 unfold BE;rw[show List.range (id+1)=List.range id++[id]from Vd,M4];simp
def PR{id e:Nat}{p:Nat×Nat}(c:e<=3):p∈BE id e->p.1<=id/\p.2<3/\(e=0->p.1<id):=by
 unfold BE;rw[qar];rintro(h|h)
 ·obtain⟨i,b,h⟩:=qa2.1 h;obtain⟨k,a,rfl⟩:=qax.1 h;have:=qad.1 b;have:=qad.1 a;exact⟨by show i<=id;omega,by assumption,λ_=>by show i<id;omega⟩
 ·obtain⟨k,a,rfl⟩:=qax.1 h;have:=qad.1 a;exact⟨Ah _,by show k<3;omega,λh=>by omega⟩
def B2(w v:Nat)(l:Ty)(P:TC)(hg:Tz)(E:List (Nat×Nat)):List Sm:=E.foldl (λQ p=>iy w v l P hg Q p.1 p.2) []
def Mj{w v:Nat}{l:Ty}{P:TC}{hg:Tz}{id e:Nat}:B2 w v l P hg (BE id (e+1))=iy w v l P hg (B2 w v l P hg (BE id e)) id e:=by
 unfold B2;rw[wm,qcM];rfl
def Em(N:Nat)(s:Sm):Prop:=(∀p∈s.ps,p.1<N/\p.2<N)/\(∀p∈s.ls,p.1<2/\p.2.1<N/\p.2.2<N)/\EU s.k
theorem P6{w:Nat}{P:TC}{k:K6}{id:Nat}:Bz w P k id<2:=by
 unfold Bz;split<;>omega
def OY{x y:Cl}(a:x.2.2<4)(b:y.2.2<4):EU (Bd x y):=by
 unfold Bd;split
 ·exact⟨b,a⟩
 ·exact⟨a,b⟩
def KW{w v:Nat}(y:Sh w v){l:Ty}{P:TC}{hg:Tz}{Q:List Sm}{id e:Nat}(hid:id<4*w*v)(u:e<3)(r:∀s∈Q,Em (4*w*v) s):∀s∈iy w v l P hg Q id e,Em (4*w*v) s:=by
 intro s m;obtain⟨t,c,rfl⟩:=qax.1 m;have h:Em (4*w*v) t:=by
  unfold fX at c;split at c
  ·exact r t c
  ·rcases qar.1 c with c|c
   ·exact r t c
   ·rw[qav]at c;subst c;exact⟨λp hp=>(by cases hp),λp hp=>(by cases hp),OY gL gL⟩
 split
 case isFalse=>exact h
 have g:=@P6 w P t.k id;have o:∀(L:List Pq) (a:Pq),(∀p∈L,p.1<4*w*v/\p.2<4*w*v)->a.1<4*w*v/\a.2<4*w*v->∀p∈L++[a],p.1<4*w*v/\p.2<4*w*v:=λL a i j p hp=>by
  rcases qar.1 hp with hp|hp
  ·exact i p hp
  ·rw[qav]at hp;subst hp;exact j
 have q:∀(L:List Lq) (a:Lq),(∀p∈L,p.1<2/\p.2.1<4*w*v/\p.2.2<4*w*v)->a.1<2/\a.2.1<4*w*v/\a.2.2<4*w*v->∀p∈L++[a],p.1<2/\p.2.1<4*w*v/\p.2.2<4*w*v:=λL a i j p hp=>by
  rcases qar.1 hp with hp|hp
  ·exact i p hp
  ·rw[qav]at hp;subst hp;exact j
 obtain⟨d,f,o3⟩:=h;unfold Cs;cases x:Aj w v id e with
 |none=>exact⟨d,f,o3⟩
 |some n=>
  have b:=(dJ y hid u x).1;simp only
  repeat' split
  ·exact⟨d,f,o3⟩
  ·exact⟨o _ _ d ⟨hid,b⟩,f,o3⟩
  ·exact⟨o _ _ d ⟨b,hid⟩,f,o3⟩
  ·exact⟨d,q _ _ f ⟨g,hid,b⟩,o3⟩
  ·exact⟨d,q _ _ f ⟨g,b,hid⟩,o3⟩
def P9{w v:Nat}(f:Sh w v){l:Ty}{P:TC}{hg:Tz}{E:List (Nat×Nat)}(b:∀p∈E,p.1<4*w*v/\p.2<3):∀s∈B2 w v l P hg E,Em (4*w*v) s:=by
 unfold B2;have c:∀(E:List (Nat×Nat)) (Q:List Sm),(∀p∈E,p.1<4*w*v/\p.2<3)->(∀s∈Q,Em (4*w*v) s)->∀s∈E.foldl (λQ p=>iy w v l P hg Q p.1 p.2) Q,Em (4*w*v) s:=by
  intro E
  induction E with
  |nil=>intro Q _ d;exact d
  |cons a E g=>
   intro Q b d;exact g _ (λp e=>b p (BF _ e)) (KW f (b a Cw).1 (b a Cw).2 d)
 exact c E [] b λs h=>by cases h
def LI(s:Af):List (Nat×Nat):=s.2.zipIdx
def fH(A:Tx)(P:List (Nat×Nat)):Tx:=P.foldl (λA p=>A.set p.1 p.2) A
def qR{A:Tx}{P:List (Nat×Nat)}:(fH A P).length=A.length:=by
 unfold fH
 induction P generalizing A with
 |nil=>rfl
 |cons a P b=>rw[IL,b,Bo]
def lO{A:Tx}{P a:List (Nat×Nat)}:fH A (P++a)=fH (fH A P) a:=qcM
def zO{A:Tx}{P:List (Nat×Nat)}{n:Nat}(h:n∉P.map Prod.fst):(fH A P)[n]?=A[n]?:=by
 unfold fH
 induction P generalizing A with
 |nil=>rfl
 |cons a P b=>
  rw[A5,qas,not_or]at h;rw[IL,b h.2,B5 (λe=>h.1 e.symm)]
def Is{A:Tx}{P:List (Nat×Nat)}{n i:Nat}(b:(P.map Prod.fst).Nodup)(d:(n,i)∈P)(c:n<A.length):(fH A P)[n]?=some i:=by
 induction P generalizing A with
 |nil=>cases d
 |cons a P e=>
  rw[A5,qbU]at b;show(fH (A.set a.1 a.2) P)[n]?=some i;rcases qas.1 d with h|h
  ·subst h;rw[zO b.1,C2 c]
  ·exact e b.2 h (by rw[Bo];exact c)
def EJ(N:Nat)(L:List Af):Tx:=fH (List.replicate N 0) (L.flatMap LI)
def Cm(N:Nat)(L:List Af)(n:Nat):Nat:=(EJ N L).getD n 0
def FL{N:Nat}{L:List Af}:EJ N L=(List.range N).map (Cm N L):=by
 have c:(EJ N L).length=N:=by unfold EJ;rw[qR,qcK]
 refine Gm λi=>?_;rw[AX];by_cases h:i<N
 ·rw[Ih h];obtain⟨a,b⟩:=aG (l:=EJ N L) (i:=i) (by omega);rw[b];simp[Cm,List.getD_eq_getElem?_getD,b]
 ·rw[Bp (by omega),Bp (by rw[qdM];omega)];rfl
def Ub{N:Nat}{L:List Af}(a:(bV L).Nodup){s:Af}(e:s∈L){i n:Nat}(c:s.2[i]?=some n)(d:n<N):Cm N L n=i:=by
 have b:(EJ N L)[n]?=some i:=by
  unfold EJ;refine Is ?_ ?_ (by rw[qcK];exact d)
  ·have:(L.flatMap LI).map Prod.fst=bV L:=by
    rw[List.map_flatMap]
    congr 1
    funext s
    unfold LI;rw[List.zipIdx_map_fst]
   rw[this];exact a
  ·refine qa2.2 ⟨s,e,?_⟩;unfold LI;exact List.mem_zipIdx_iff_getElem?.2 c
 unfold Cm;rw[List.getD_eq_getElem?_getD,b];rfl
abbrev S9:=K6×Value×Value×Value
def B6(s:S9):Tk:=bu s.1.1++bu s.1.2++[s.2.1,s.2.2.1,s.2.2.2]
def mY(s:S9):(B6 s).length=9:=rfl
def SmH(h:HL)(m:S9)(s:Sm):Prop:=m.1=s.k/\LsH h m.2.1 2 fe s.ps/\LsH h m.2.2.1 3 fP s.ls/\LsH h m.2.2.2 1 kl s.es
def SmH.keep{h h':HL}{m:S9}{s:Sm}(c:SmH h m s)(d:∀(j:Nat) o,h[j]?=some o->(blk m.2.1=some j∨blk m.2.2.1=some j∨blk m.2.2.2=some j)->h'[j]?=some o):SmH h' m s:=
 ⟨c.1,c.2.1.keep λj o b a=>d j o b (.inl a),c.2.2.1.keep λj o b a=>d j o b (.inr (.inl a)),c.2.2.2.keep λj o b a=>d j o b (.inr (.inr a))⟩
def SmL(h:HL)(x:Value)(S:List Sm):Prop:=∃M:List S9,Ful h x 9 B6 M/\M.length=S.length/\∀(i:Nat) m,M[i]?=some m->∃s,S[i]?=some s/\SmH h m s
def SmL.pre{h h':HL}{x:Value}{S:List Sm}(l:SmL h x S)(a:Pre h h'):SmL h' x S:=by
 obtain⟨M,b,c,d⟩:=l;refine⟨M,b.pre a,c,λi m k=>?_⟩;obtain⟨s,e,f⟩:=d i m k;exact⟨s,e,f.keep λj o g _=>a.get g⟩
structure OfR(hg:Tz)(Q S:List Sm):Prop where
 ks:(S.map (·.k)).Perm (Q.map (·.k))
 asc:(S.map (·.k)).Pairwise λa b=>EI b a
 el:∀s∈S,∃q∈Q,q.k=s.k/\s.ps.Perm q.ps/\s.ls.Perm q.ls/\s.es.Perm q.es
 op:∀s∈S,s.ps.Pairwise λa b=>¬hg b.1<hg a.1
 ol:∀s∈S,s.ls.Pairwise λa b=>¬(b.1<a.1∨(b.1=a.1/\hg b.2.1<hg a.2.1))
 oe:∀s∈S,s.es.Pairwise λa b=>a<=b
def Bld.store{c:BC}{n h:HL}{p:Value}{Q:List En}(a:Bld c n h p Q){m:Nat}{o:HO}(z:c.n1<=m)(b:DC h m=some 9)(hid:∀q∈Q,q.id≠m):Bld c n (h.set m o) p Q:=by
 have x:=a.bn;have y:=a.mn;refine⟨λj g r s t u=>aW (a.low j g r s t u) (by omega),aW a.bl (by omega),a.mp.elim λw f=>⟨w,f.1,f.2.keep _ λg v=>aW v (by omega)⟩,a.ky.keep λj g k d=>aW k λe=>?_,λq l=>(a.en q l).keep λj g k d=>aW k λe=>?_,a.ap,a.nd,a.bn,a.mn,a.ne,by rw[Bo];exact a.sz⟩
 ·have:=cQ a.ky d;rw[←e,b]at this;cases this
 ·have i:=a.en q l;subst e;rcases d with e|e|e|e
  ·exact hid q l e.symm
  ·have:=cQ i.op e;rw[b]at this;cases this
  ·have:=cQ i.ol e;rw[b]at this;cases this
  ·have:=cQ i.oe e;rw[b]at this;cases this
def Bld.srt{c:BC}{t h h':HL}{l:Value}{Q:List En}(b:Bld c t h l Q){l':List K6}(v:l'.Perm (Q.map Ab))(p:OwnL c.n1 h' l 6 nV l')(a:∀(j:Nat) o,h[j]?=some o->blk l≠some j->h'[j]?=some o)(A:h'.length=h.length):∃g,g.Perm Q/\g.map Ab=l'/\Bld c t h' l g:=by
 obtain⟨g,m,r⟩:=jv v;have d:∀j,j<c.n1->blk l≠some j:=λj u e=>by
  have:=(b.ky.blk e).1;omega
 refine⟨g,m,r,λj o s w x y=>a j o (b.low j o s w x y) (d j s),a _ _ b.bl (d _ b.bn),b.mp.elim λB k=>⟨B,k.1.trans (m.symm.map _),k.2.keep _ λo p=>a _ _ p (d _ b.mn)⟩,by rw[r];exact p,λq z=>?_,(m.pairwise_iff λh=>h.symm).2 b.ap,by rw[r];exact v.nodup_iff.2 b.nd,b.bn,b.mn,b.ne,by have:=b.sz;omega⟩;have i:=b.en q (m.mem_iff.1 z);refine i.keep λj o u n=>a j o u λe=>?_;have f:=cQ b.ky e;rcases n with rfl|e|e|e
 ·rw[eW i.bl]at f;cases f
 ·rw[cQ i.op e]at f;cases f
 ·rw[cQ i.ol e]at f;cases f
 ·rw[cQ i.oe e]at f;cases f
def KV{w v:Nat}{l:Ty}{P:TC}{hg:Tz}{Q:List Sm}{id e:Nat}:iy w v l P hg Q id e≠[]:=by
 unfold iy;intro h;have h:=qcV.1 h;unfold fX at h;split at h
 next a=>
  rw[h]at a;cases a
 ·simp at h
theorem P8{w v:Nat}{l:Ty}{P:TC}{hg:Tz}{N:Nat}(h:0<N):B2 w v l P hg (BE N 0)≠[]:=by
 obtain⟨n,rfl⟩ : ∃n,N=n+1:=⟨N - 1,by omega⟩;rw[yg,Mj];exact KV
def N5{a j o n c:Nat}{b:To}(h:a≠j):Sx.disjN (Sx.adr (.slice (some ⟨a,o,b⟩) n c)) (Sx.adrK 0 (.map (some j)))=true:=by
 have d:Sx.adr (.slice (some ⟨a,o,b⟩) n c)=[]∨Sx.adr (.slice (some ⟨a,o,b⟩) n c)=[a]:=by
  unfold Sx.adr;simp only;split
  ·exact .inl rfl
  ·exact .inr rfl
 rcases d with e|e<;>rw[e]
 ·rfl
 ·exact nQ h
def zN{w v:Nat}(h3:S3 w v){l:Ty}{H:HL}{R x:Value}(N:Pat w v l)(dC:(l.map bB).Nodup)(hl:LsH H R 3 Ac l){r:Mv}{k:Int}(hr:AK k r)(hk:k<=4000){L:List Af}(hx:StL H x L)(hL:L.length<=200)(eA:Lg (4*w*v) L)(f5:∀s∈L,-4000<=s.1.1/\s.1.1<=4000/\-4000<=s.1.2.1/\s.1.2.1<=4000)(eL:(bV L).length<=1000) :
  ∃y e h',aD cc ab 7 ([.i (.ofNat w),.i (.ofNat v),.v R]++AB r++[.v x]) (ka aa H) [.v y,.i e] (ka aa h')/\Pre H h'/\Et w v l r L e/\(e≠0->y=jq)/\
   (e=0->∃G S,ConsO w v l G/\SmL h' y S/\OfR (Cm (4*w*v) L) (B2 w v l (λn=>af (G n) r) (Cm (4*w*v) L) (BE (4*w*v) 0)) S):=by
 have C:=h3.sh;obtain⟨b1,b2,b3,b4⟩:=h3.n;have hN:=Bw C;obtain⟨e,d,c1,bs,hR⟩:=pU h3 dC hl (N.check hl) N.len hr hk hx hL eA f5 eL;have gb:aC x=true:=by
  obtain⟨M,hM,_⟩:=hx;exact hM.good
 have g7:=x7 (ls:=[.i (.ofNat w),.i (.ofNat v),.v R,.i (Int.ofNat r.1),.i r.2.1,.i r.2.2,.v x]) (K:=λrs h'=>∃y,rs=[.v y,.i e]/\Pre H h'/\(e≠0->y=jq)/\
   (e=0->∃G S,ConsO w v l G/\SmL h' y S/\OfR (Cm (4*w*v) L) (B2 w v l (λn=>af (G n) r) (Cm (4*w*v) L) (BE (4*w*v) 0)) S)) (H:=H) (km (km (oo hl.good (km (km (km (oo gb ua))))))) (by
  unfold f7;simp only[xp];refine jn ?_;simp only[AB,AO,AG]at c1;refine ai c1 ?_;refine jn ?_;by_cases dr:e=0
  case neg=>
   rw[AQ dr];refine jn ?_;exact⟨jq,rfl,bs,λ_=>rfl,λh=>absurd h dr⟩
  subst dr;rw[AJ rfl];refine jn ?_;rcases hR with⟨hw,_⟩|⟨G,hG,⟨h0,_⟩|⟨el,⟨h6,_⟩|⟨_,hD⟩⟩⟩
  ·omega
  ·exact absurd rfl h0
  ·omega
  have fa:(bV L).Nodup:=by
   rcases el with⟨h,_⟩|⟨_,⟨h,_⟩|⟨h,_⟩⟩
   ·omega
   ·omega
   ·exact h
  refine ah (Jv C) ?_;refine jn ?_;refine ae (eI (by omega)) ?_;refine jn ?_;rw[show(Int.ofNat (4*w*v)).toNat=4*w*v from rfl];refine ae (x:=()) (sZ (N5 (by simp)) lN) ?_;have z0:HO.o (.cells (bk [.int .i64 0] (4*w*v)) 1 true)=HO.o (.cells ((List.replicate (4*w*v) 0).flatMap kl) 1 true):=by
   rw[←dd (enc:=kl) (z:=0) (n:=4*w*v)];rfl
  rw[z0];obtain⟨Z,hZ⟩ : ∃Z,List.replicate (4*w*v) 0=Z:=⟨_,rfl⟩;have f1:Z.length=4*w*v:=by rw[←hZ,qcK]
  rw[hZ];have an:∀B:HO,(d++[HO.o (.cells (Z.flatMap kl) 1 true)]++[HO.o (.map [] 0)]++[B])[(d++[HO.o (.cells (Z.flatMap kl) 1 true)]++[HO.o (.map [] 0)]).length]?=some B:=λB=>az;have bP:∀B:HO,(d++[HO.o (.cells (Z.flatMap kl) 1 true)]++[HO.o (.map [] 0)]++[B])[(d++[HO.o (.cells (Z.flatMap kl) 1 true)]).length]?=some (HO.o (.map [] 0)):=λB=>ik az;have bI:∀B:HO,(d++[HO.o (.cells (Z.flatMap kl) 1 true)]++[HO.o (.map [] 0)]++[B])[d.length]?=some (HO.o (.cells (Z.flatMap kl) 1 true)):=λB=>ik (ik az);have dT:∀B:HO,Pre d (d++[HO.o (.cells (Z.flatMap kl) 1 true)]++[HO.o (.map [] 0)]++[B]):=λB=>(((Pre.refl d).app _).app _).app _;have hH:(d++[HO.o (.cells (Z.flatMap kl) 1 true)]).length=d.length+1:=by simp
  have hI:(d++[HO.o (.cells (Z.flatMap kl) 1 true)]++[HO.o (.map [] 0)]).length=d.length+2:=by simp
  have ha:H.length<=d.length:=bs.len;have an:=an (HO.o (.cells [.int .i64 (Int.ofNat w),.int .i64 (Int.ofNat v),R,.slice none 0 0,.slice none 0 0,.slice (some ⟨d.length,0,some 11⟩) (4*w*v) (4*w*v+1),.map (some (d++[HO.o (.cells (Z.flatMap kl) 1 true)]).length),.slice none 0 0] 8 true));have bP:=bP (HO.o (.cells [.int .i64 (Int.ofNat w),.int .i64 (Int.ofNat v),R,.slice none 0 0,.slice none 0 0,.slice (some ⟨d.length,0,some 11⟩) (4*w*v) (4*w*v+1),.map (some (d++[HO.o (.cells (Z.flatMap kl) 1 true)]).length),.slice none 0 0] 8 true));have bI:=bI (HO.o (.cells [.int .i64 (Int.ofNat w),.int .i64 (Int.ofNat v),R,.slice none 0 0,.slice none 0 0,.slice (some ⟨d.length,0,some 11⟩) (4*w*v) (4*w*v+1),.map (some (d++[HO.o (.cells (Z.flatMap kl) 1 true)]).length),.slice none 0 0] 8 true));have dT:=dT (HO.o (.cells [.int .i64 (Int.ofNat w),.int .i64 (Int.ofNat v),R,.slice none 0 0,.slice none 0 0,.slice (some ⟨d.length,0,some 11⟩) (4*w*v) (4*w*v+1),.map (some (d++[HO.o (.cells (Z.flatMap kl) 1 true)]).length),.slice none 0 0] 8 true))
  generalize d++[HO.o (.cells (Z.flatMap kl) 1 true)]++[HO.o (.map [] 0)]++[HO.o (.cells [.int .i64 (Int.ofNat w),.int .i64 (Int.ofNat v),R,.slice none 0 0,.slice none 0 0,.slice (some ⟨d.length,0,some 11⟩) (4*w*v) (4*w*v+1),.map (some (d++[HO.o (.cells (Z.flatMap kl) 1 true)]).length),.slice none 0 0] 8 true)]=g2 at *;generalize (d++[HO.o (.cells (Z.flatMap kl) 1 true)]++[HO.o (.map [] 0)]).length=m34 at *;generalize (d++[HO.o (.cells (Z.flatMap kl) 1 true)]).length=m32 at *;have bt:=bs.trans dT;obtain⟨hJ,g3,cA,D,hA⟩:=Ev C dC N.len (hl.pre bt) (N.check (hl.pre bt)) (r:=r) (aN hr (by omega));have eX:=vn h3 hG hr hk;have a2:∀ {rs:TB} {g:HL},IU w v l r rs g->∃W ix,rs=[.v W,.v ix,.i 0]/\Ful g W 3 ub (Bt w v G r)/\Ful g ix 3 bu (FO w v G r):=by
   rintro rs g (⟨rfl,dD⟩|⟨G',cD,⟨rfl,dD⟩|⟨W,ix,rfl,hh,ax,ar⟩⟩)
   ·exact absurd ⟨G,hG.g,hG.z⟩ dD
   ·exact absurd (vn h3 cD hr hk) dD
   ·have e1:Bt w v G' r=Bt w v G r:=Ea λc hc=>by rw[qP C cD hG (qad.1 hc)]
    have e2:FO w v G' r=FO w v G r:=Ea λc hc=>by rw[qP C cD hG (qad.1 hc)]
    rw[e1]at ax;rw[e2]at ar;exact⟨W,ix,rfl,ax,ar⟩
  obtain⟨W,hE,rfl,ax,cf⟩:=a2 hA;simp only[AB,AO,AG]at cA;have fn:=(ax.ls bR).good;refine ai (LH hl.good ⟨cA,D,fn,(cf.ls ee).good⟩) ?_;refine jn ?_;refine ki (b:=m34) (D.get an) (by simp) ?_;refine pu ?_;have ay:=fh (b:=HO.o (.cells [.int .i64 (Int.ofNat w),.int .i64 (Int.ofNat v),R,W,.slice none 0 0,.slice (some ⟨d.length,0,some 11⟩) (4*w*v) (4*w*v+1),.map (some m32),.slice none 0 0] 8 true)) (D.get an);have b0:∀(j:Nat) o,g3[j]?=some o->j≠m34->(g3.set m34 (HO.o (.cells [.int .i64 (Int.ofNat w),.int .i64 (Int.ofNat v),R,W,.slice none 0 0,.slice (some ⟨d.length,0,some 11⟩) (4*w*v) (4*w*v+1),.map (some m32),.slice none 0 0] 8 true)))[j]?=some o:=λj o J ag=>aW J (B9 ag);have bx:Pre H (g3.set m34 (HO.o (.cells [.int .i64 (Int.ofNat w),.int .i64 (Int.ofNat v),R,W,.slice none 0 0,.slice (some ⟨d.length,0,some 11⟩) (4*w*v) (4*w*v+1),.map (some m32),.slice none 0 0] 8 true))):=(bt.trans D).set (by omega) _;have ht:m34<g3.length:=al (D.get an)
  have go:(g3.set m34 (HO.o (.cells [.int .i64 (Int.ofNat w),.int .i64 (Int.ofNat v),R,W,.slice none 0 0,.slice (some ⟨d.length,0,some 11⟩) (4*w*v) (4*w*v+1),.map (some m32),.slice none 0 0] 8 true))).length=g3.length:=Bo ..;show P1.call _ _ (g3.set m34 (HO.o (.cells [.int .i64 (Int.ofNat w),.int .i64 (Int.ofNat v),R,W,.slice none 0 0,.slice (some ⟨d.length,0,some 11⟩) (4*w*v) (4*w*v+1),.map (some m32),.slice none 0 0] 8 true))) _;generalize g3.set m34 (HO.o (.cells [.int .i64 (Int.ofNat w),.int .i64 (Int.ofNat v),R,W,.slice none 0 0,.slice (some ⟨d.length,0,some 11⟩) (4*w*v) (4*w*v+1),.map (some m32),.slice none 0 0] 8 true))=g3' at *;have cb:=b0 _ _ (D.get bP) (by omega);have b9:=b0 _ _ (D.get bI) (by omega);have ct:∀j,blk W=some j->j≠m34:=λj J e=>by
   have d:=vP (ax.ls bR) J;subst e;rw[eW (D.get an)]at d;cases d
  have cr:=(ax.ls bR).keep λj o J X=>b0 j o J (ct j X);obtain⟨hP,g4,cB,F,hB⟩:=Ev C dC N.len (hl.pre bx) (N.check (hl.pre bx)) (r:=r) (aN hr (by omega));obtain⟨hF,ix,rfl,co,ar⟩:=a2 hB;simp only[AB,AO,AG]at cB;have fd:=(ar.ls ee).good;refine ai (rZ hl.good ⟨cB,F,(co.ls bR).good,fd⟩) ?_;refine jn ?_;refine ki (b:=m34) (F.get ay) (by simp) ?_;have d2:=fh (b:=HO.o (.cells [.int .i64 (Int.ofNat w),.int .i64 (Int.ofNat v),R,W,ix,.slice (some ⟨d.length,0,some 11⟩) (4*w*v) (4*w*v+1),.map (some m32),.slice none 0 0] 8 true)) (F.get ay);have a8:∀(j:Nat) o,g4[j]?=some o->j≠m34->(g4.set m34 (HO.o (.cells [.int .i64 (Int.ofNat w),.int .i64 (Int.ofNat v),R,W,ix,.slice (some ⟨d.length,0,some 11⟩) (4*w*v) (4*w*v+1),.map (some m32),.slice none 0 0] 8 true)))[j]?=some o:=λj o J ag=>aW J (B9 ag);have cx:Pre H (g4.set m34 (HO.o (.cells [.int .i64 (Int.ofNat w),.int .i64 (Int.ofNat v),R,W,ix,.slice (some ⟨d.length,0,some 11⟩) (4*w*v) (4*w*v+1),.map (some m32),.slice none 0 0] 8 true))):=(bx.trans F).set (by omega) _
  rw[show(g4.set m34 (HO.o (.cells (List.take 4 [.int .i64 (Int.ofNat w),.int .i64 (Int.ofNat v),R,W,.slice none 0 0,.slice (some ⟨d.length,0,some 11⟩) (4*w*v) (4*w*v+1),.map (some m32),.slice none 0 0]++[ix]++List.drop (4+[ix].length) [.int .i64 (Int.ofNat w),.int .i64 (Int.ofNat v),R,W,.slice none 0 0,.slice (some ⟨d.length,0,some 11⟩) (4*w*v) (4*w*v+1),.map (some m32),.slice none 0 0]) 8 true)))=g4.set m34 (HO.o (.cells [.int .i64 (Int.ofNat w),.int .i64 (Int.ofNat v),R,W,ix,.slice (some ⟨d.length,0,some 11⟩) (4*w*v) (4*w*v+1),.map (some m32),.slice none 0 0] 8 true))from rfl];generalize g4.set m34 (HO.o (.cells [.int .i64 (Int.ofNat w),.int .i64 (Int.ofNat v),R,W,ix,.slice (some ⟨d.length,0,some 11⟩) (4*w*v) (4*w*v+1),.map (some m32),.slice none 0 0] 8 true))=g4' at *;have d3:=a8 _ _ (F.get cb) (by omega);have a3:=a8 _ _ (F.get b9) (by omega);have ep:∀j,blk ix=some j->j≠m34:=λj J e=>by
   have d:=vP (ar.ls ee) J;subst e;rw[eW (F.get ay)]at d;cases d
  have cs:=(cr.pre F).keep λj o J X=>a8 j o J (ct j X);have ci:=(ar.ls ee).keep λj o J X=>a8 j o J (ep j X);clear a8 b0 ax co ar cf cr cb bP bI b9 an ay cA cB c1 hA hB;obtain⟨M,hM,gs,hm⟩:=hx;refine pu ?_;refine bz (hM.pre cx) ?_;rw[gs];refine pu ?_;generalize d.length=m30 at *;have cl:m30<g4'.length:=al a3;have f0:∀P,(fH Z P).length=4*w*v:=λP=>by rw[qR,f1]
  have b8:∀A:List Nat,(td g4' m30 1 kl A)[m34]?=some (HO.o (.cells [.int .i64 (Int.ofNat w),.int .i64 (Int.ofNat v),R,W,ix,.slice (some ⟨m30,0,some 11⟩) (4*w*v) (4*w*v+1),.map (some m32),.slice none 0 0] 8 true)):=λA=>by
   rw[cV (by omega)];exact d2
  have D:∀A:List Nat,Pre H (td g4' m30 1 kl A):=λA=>gt cx ha;refine aO (σ:=List Nat) L.length (λj _=>[.i (Int.ofNat j)]) (λ_ A=>td g4' m30 1 kl A) (λj A=>A=fH Z ((L.take j).flatMap LI)) (j0:=0) (s0:=Z) rfl (bq a3).symm (AF _) rfl ?_;rintro i A hi hA cy u;refine jn ?_;by_cases U:i<L.length
  case pos=>
   rw[au U];refine jn ?_;obtain⟨⟨c,y⟩,hy⟩:=aG (l:=M) (i:=i) (by omega);obtain⟨ly,dB,b7⟩:=hm i _ hy;simp only at dB b7;obtain⟨o1,o2,o3,o4,o5⟩:=eA _ (Ap dB);simp only at o1 o2 o3 o4 o5;refine aP (hM.pre (D A)) rfl hy ?_;rw[show AA (c,y)=[.int .i64 c.1,.int .i64 c.2.1,.int .u8 (Int.ofNat c.2.2),y]from rfl];refine jn ?_;refine ac b7.good ?_;refine pu ?_;refine bz (b7.pre (D A)) ?_;refine pu ?_;refine aO (σ:=List Nat) ly.length (λj _=>[.i (Int.ofNat j)]) (λ_ B=>td g4' m30 1 kl B) (λj B=>B=fH A (ly.zipIdx.take j)) (j0:=0) (s0:=A) rfl rfl (AF _) rfl ?_;rintro j B J hB d1 Y;have cC:B.length=4*w*v:=by rw[hB,hA,←lO,f0]
   refine jn ?_;by_cases bd:j<ly.length
   case pos=>
    rw[au bd];refine jn ?_;obtain⟨n,hn⟩:=aG (l:=ly) (i:=j) bd;have hC:=o4 n (Ap hn);refine aP (b7.pre (D B)) rfl hn ?_;rw[show kl n=[.int .i64 (Int.ofNat n)]from rfl];refine jn ?_;refine dX (ds:=[.slice (some ⟨m30,0,some 11⟩) (4*w*v) (4*w*v+1)]) (b8 B) (by simp) rfl ?_;refine jn ?_;refine ac (by simp[aC,noLoc,aR,bh,aX,aJ,aA]) ?_;refine pu ?_;refine de (enc:=kl) (l:=B) (i:=n) (a:=j) aU (bL cl) rfl (by omega) cC rfl ?_;refine pu ?_;rw[aI (by omega),eo];refine Y (B.set n j) bd ?_;rw[Ec,lO,←hB,List.getElem?_zipIdx,hn];simp[fH]
   obtain rfl:j=ly.length:=by omega
   rw[ao (Ah _)];refine jn ?_;rw[aI (by omega)];refine u B U ?_;rw[Ec,dB];simp only[VY,M4,Df,List.flatMap_nil,Cx];rw[lO,←hA,hB,CJ (by rw[List.length_zipIdx];exact Ah _)];rfl
  obtain rfl:i=L.length:=by omega
  rw[ao (Ah _)];refine jn ?_;clear u;rw[IJ]at hA;have fr:A=EJ (4*w*v) L:=by rw[hA,←hZ];rfl
  subst fr;clear hA;obtain⟨hS,fb⟩ : ∃g,td g4' m30 1 kl (EJ (4*w*v) L)=g:=⟨_,rfl⟩;have ad:=b8 (EJ (4*w*v) L);have b6:=D (EJ (4*w*v) L);have ca:(td g4' m30 1 kl (EJ (4*w*v) L))[m30]?=some (.o (.cells ((EJ (4*w*v) L).flatMap kl) 1 true)):=bL cl;have b5:∀(j:Nat) o,g4'[j]?=some o->j≠m30->(td g4' m30 1 kl (EJ (4*w*v) L))[j]?=some o:=λj o J ag=>by
   rw[cV ag];exact J
  rw[fb]at ad b6 ca b5 ⊢;have a4:=b5 _ _ d3 (by omega);have ga:(EJ (4*w*v) L).length=4*w*v:=by rw[FL];simp
  refine dX (ds:=[.slice (some ⟨m30,0,some 11⟩) (4*w*v) (4*w*v+1)]) ad (by simp) rfl ?_;refine jn ?_;refine ac (by simp[aC,noLoc,aR,bh,aX,aJ,aA]) ?_;refine pu ?_;have d0:DC g4' m30=some 1:=eW a3;have bm:∀ {α:Type} {e:Nat} {enc:α->Tk} {l:List α} {v:Value},LsH g4' v e enc l->e≠1->∀j,blk v=some j->j≠m30:=λhv he j J e=>by
   subst e;have:=vP hv J;rw[d0]at this;cases this;exact he rfl
  have ev:=cs.keep λj o J X=>b5 j o J (bm cs (by decide) j X);have em:=ci.keep λj o J X=>b5 j o J (bm ci (by decide) j X);have ex:m34<hS.length:=al ad
  let c:BC:=⟨w,v,R,W,ix,.slice (some ⟨m30,0,some 11⟩) (4*w*v) (4*w*v+1),m34,m32,hS.length⟩
  have hc:CtxB c hS l G r (Cm (4*w*v) L):=by
   refine⟨h3,rfl,eW ad,?_,ev,em,?_,hl.pre b6,N,hG,aN hr hk,eX,λid e hid he=>?_⟩
   ·unfold DC;rw[a4]
   ·show LsH hS (.slice (some ⟨m30,0,some 11⟩) (4*w*v) (4*w*v+1)) 1 kl ((List.range (4*w*v)).map (Cm (4*w*v) L));rw[←FL];exact bW aU ca ga.symm
   ·have V:=(di C hid).2.2.2.2;have d:=sa h3 hG hr hid;show Ek (am (af (G id) r) (AP (sd w id) e))=true;rw[gk fk V he];have h2:=zu (c:=am (af (G id) r) (sd w id)) (e:=eT (af (G id) r).1 e) gL (kR he);unfold Ek;exact BJ (by omega)
  have ec:Bld c hS hS (.slice none 0 0) []:=⟨λj o _ _ _ J=>J,ad,⟨[],M9 _,_,_,a4,rfl⟩,.nil _ _ _ _,λq V=>(by cases V),.nil,.nil,ex,al a4,by show m34≠m32;omega,Ah _⟩;refine ae (x:=Int.ofNat (4*w*v)) rfl ?_;refine pu ?_;refine aO (σ:=HL×Value×List En) (4*w*v) (λj _=>[.i (Int.ofNat j)]) (λ_ t=>t.1) (λj t=>Bld c hS t.1 t.2.1 t.2.2/\t.2.2.map AM=B2 w v l (λn=>af (G n) r) (Cm (4*w*v) L) (BE j 0)/\t.2.2.length<=3*j/\(∀q∈t.2.2,bndE (3*j) q)/\hS.length<=t.1.length) (j0:=0) (s0:=(hS,.slice none 0 0,[])) rfl rfl (AF _) ⟨ec,rfl,AF _,λq V=>(by cases V),Ah _⟩ ?_;rintro id ⟨h,kv,Q⟩ hid ⟨I,hQ,d7,c0,dA⟩ cy u;simp only at I hQ d7 c0 dA ⊢;refine jn ?_;by_cases U:id<4*w*v
  case pos=>
   rw[au U];refine jn ?_;refine aO (σ:=HL×Value×List En) 3 (λj _=>[.i (Int.ofNat j)]) (λ_ t=>t.1) (λj t=>Bld c hS t.1 t.2.1 t.2.2/\t.2.2.map AM=B2 w v l (λn=>af (G n) r) (Cm (4*w*v) L) (BE id j)/\t.2.2.length<=3*id+j/\(∀q∈t.2.2,bndE (3*id+j) q)/\hS.length<=t.1.length) (j0:=0) (s0:=(h,kv,Q)) rfl rfl (AF _) ⟨I,hQ,d7,c0,dA⟩ ?_;rintro e ⟨h',g8,Q'⟩ he ⟨dk,cX,d8,a6,cm⟩ d1 Y;simp only at dk cX d8 a6 cm ⊢;refine jn ?_;by_cases cn:e<3
   case pos=>
    rw[us (show Int.ofNat e<3 by show(e:Int)<3;omega)];refine jn ?_;obtain⟨h2,g9,Q2,c2,f2,fu,hf,d6,hu⟩:=Ut hc dk (by omega) (B:=3*id+e) (by omega) a6 U cn;refine ai c2 ?_;refine jn ?_;rw[Dq (by show(0:Int)<=(e:Int)+1;omega) (by show(e:Int)+1<=255;omega)];refine Y (h2,g9,Q2) cn ⟨f2,?_,by show Q2.length<=3*id+(e+1);omega,d6,by show hS.length<=h2.length;omega⟩;rw[Mj,←cX];exact fu
   obtain rfl:e=3:=by omega
   rw[tx (show(3:Int)<=Int.ofNat 3 from Gn _)];refine jn ?_;rw[aI (by omega)];refine u (h',g8,Q') U ⟨dk,?_,by show Q'.length<=3*(id+1);omega,λq V=>(a6 q V).mono (by omega),cm⟩;rw[yg];exact cX
  obtain rfl:id=4*w*v:=by omega
  rw[ao (Ah _)];refine jn ?_;clear u ec;have eg:=I.ky;have a9:=eg.good fO;refine dX (ds:=[kv]) I.bl (by simp[bC]) rfl ?_;refine jn ?_;refine ac a9 ?_;refine pu ?_;have ag:=@P8 w v l (λn=>af (G n) r) (Cm (4*w*v) L) (4*w*v) hN.1;have bn:=P9 C (l:=l) (P:=λn=>af (G n) r) (hg:=Cm (4*w*v) L) (E:=BE (4*w*v) 0) λp hp=>by
   have:=PR (by omega) hp;exact⟨this.2.2 rfl,this.2.1⟩
  rw[←hQ]at ag bn;have gd:(Q.map AM).map (·.k)=Q.map Ab:=by rw[Ep];rfl
  have eB:∀q∈Q,okE (4*w*v) q:=λq V=>by
   obtain⟨o1,o2,o3⟩:=bn (AM q) (qax.2 ⟨q,V,rfl⟩);have a0:=c0 q V;exact⟨a0.mono (by omega),a0.2.1,a0.2.2.1,a0.2.2.2,o1,o2⟩
  obtain⟨T,hK,cK,pK,sK,oK,kK,eK⟩:=Qd eg (λe=>absurd (by rw[qcV.1 e];rfl) ag) (λk hk=>by
   obtain⟨q,V,rfl⟩:=qax.1 hk;exact(bn (AM q) (qax.2 ⟨q,V,rfl⟩)).2.2) (by rw[A9];omega)
  obtain⟨Q1,e5,e0,bX⟩:=I.srt pK oK kK eK;refine ai cK ?_;refine jn ?_;refine dX (ds:=[kv]) bX.bl (by simp[bC]) rfl ?_;refine jn ?_;refine ac a9 ?_;refine pu ?_;have ho:T.length=Q.length:=by rw[pK.length_eq,A9]
  refine bz (oK.ls fO) ?_;refine pu ?_;refine ae (eI (by omega)) ?_;refine jn ?_;rw[show(Int.ofNat T.length).toNat=T.length from rfl];have z9:HO.o (.cells (bk [.int .i64 0,.int .i64 0,.int .u8 0,.int .i64 0,.int .i64 0,.int .u8 0,.slice none 0 0,.slice none 0 0,.slice none 0 0] T.length) 9 true)=HO.o (.cells ((List.replicate T.length ((((0,0,0),(0,0,0)),.slice none 0 0,.slice none 0 0,.slice none 0 0):S9)).flatMap B6) 9 true):=by
   rw[←dd (enc:=B6) (z:=((((0,0,0),(0,0,0)),.slice none 0 0,.slice none 0 0,.slice none 0 0):S9)) (n:=T.length)];rfl
  rw[z9];obtain⟨O0,d4⟩ : ∃O,List.replicate T.length ((((0,0,0),(0,0,0)),.slice none 0 0,.slice none 0 0,.slice none 0 0):S9)=O:=⟨_,rfl⟩;have d5:O0.length=T.length:=by rw[←d4,qcK]
  rw[d4];have eC:Pre hK (hK++[HO.o (.cells (O0.flatMap B6) 9 true)]):=(Pre.refl hK).app _;have gv:(hK++[HO.o (.cells (O0.flatMap B6) 9 true)])[hK.length]?=some (HO.o (.cells (O0.flatMap B6) 9 true)):=az;have hz:(hK++[HO.o (.cells (O0.flatMap B6) 9 true)]).length=hK.length+1:=by simp
  have ef:=bX.grow eC;have oO:=(oK.ls fO).pre eC;generalize hK++[HO.o (.cells (O0.flatMap B6) 9 true)]=hO at *;refine dX (ds:=[kv]) ef.bl (by simp[bC]) rfl ?_;refine jn ?_;refine ac a9 ?_;refine pu ?_;refine bz oO ?_;refine pu ?_;have a5:∀q∈Q1,∀b,CD q b->b<hK.length:=λq V b I=>((bX.en q V).lt I).2;have fs:hS.length<=hK.length:=bX.sz;have hd:Q1.length=T.length:=by rw[←e0,A9]
  have eu:T.Nodup:=pK.nodup_iff.2 I.nd;refine aO (σ:=HL×List En×List S9×List Sm) T.length (λj _=>[.i (Int.ofNat j)]) (λ_ t=>t.1)
   (λj t=>Bld c hS t.1 kv t.2.1/\t.2.1.map Ab=T/\t.2.1.map En.id=Q1.map En.id/\(∀(i:Nat) q,j<=i->t.2.1[i]?=some q->Q1[i]?=some q)/\t.1[hK.length]?=some (.o (.cells (t.2.2.1.flatMap B6) 9 true))/\t.2.2.1.length=T.length/\
    t.2.2.2.map (·.k)=T.take j/\(∀(i:Nat) m,i<j->t.2.2.1[i]?=some m->(∃s,t.2.2.2[i]?=some s/\SmH t.1 m s)/\∀b,(blk m.2.1=some b∨blk m.2.2.1=some b∨blk m.2.2.2=some b)->hO.length<=b)/\
    (∀s∈t.2.2.2,∃q∈Q1,Ab q=s.k/\s.ps.Perm q.ps/\s.ls.Perm q.ls/\s.es.Perm q.es)/\(∀s∈t.2.2.2,s.ps.Pairwise (λa b=>¬Cm (4*w*v) L b.1<Cm (4*w*v) L a.1)/\s.ls.Pairwise (λa b=>¬(b.1<a.1∨(b.1=a.1/\Cm (4*w*v) L b.2.1<Cm (4*w*v) L a.2.1)))/\s.es.Pairwise (λa b=>a<=b))/\hO.length<=t.1.length)
   (j0:=0) (s0:=(hO,Q1,O0,[])) rfl rfl (AF _) ⟨ef,e0,rfl,λi q _ h=>h,gv,d5,rfl,λi m h=>(by omega),λs h=>(by cases h),λs h=>(by cases h),Ah _⟩ ?_
  rintro j ⟨g,Qj,O,Sd⟩ J ⟨i1,i2,i3,i4,i5,i6,i7,i8,i9,Rv,g6⟩ cy u;simp only at i1 i2 i3 i4 i5 i6 i7 i8 i9 Rv g6 ⊢;refine jn ?_;by_cases U:j<T.length
  case pos=>
   rw[au U];refine jn ?_;obtain⟨q,V⟩:=aG (l:=Qj) (i:=j) (by rw[←A9 (f:=Ab),i2];exact U);have g0:=i4 j q (Ah _) V;have a1:=Ap g0;have et:T[j]?=some (Ab q):=by rw[←i2,AX,V];rfl
   have ck:=i1.ky.ls fO;rw[i2]at ck;refine aP ck rfl et ?_;rw[show nV (Ab q)=[.int .i64 q.a.1,.int .i64 q.a.2.1,.int .u8 (Int.ofNat q.a.2.2),.int .i64 q.b.1,.int .i64 q.b.2.1,.int .u8 (Int.ofNat q.b.2.2)]from rfl];refine jn ?_;refine dX (ds:=[.map (some m32)]) i1.bl (by simp[bC]) rfl ?_;refine jn ?_;refine ac rfl ?_;refine pu ?_;refine L1 i1 V (k:=Ab q) rfl rfl ?_;refine jn ?_;refine ac (aS _) ?_;refine pu ?_;obtain⟨g',v1,v2,v3,q',cS,bS,ea,eb,ei,pp,pl,pe,sp,sl,se,l1,l2,l3,nb,kp,le⟩:=zT hc i1 V (eB q (e5.mem_iff.1 a1));simp only[As,AO,AG]at cS;refine ai cS ?_;refine jn ?_;have gx:¬CD q hK.length:=λI=>by have:=a5 q a1 _ I;omega
   have be:=kp _ _ i5 gx;refine de (enc:=B6) (l:=O) (i:=j) (a:=((Ab q,v1,v2,v3):S9)) mY be rfl (by omega) i6 rfl ?_;refine pu ?_;rw[aI (by omega)];have gl:Ab q'=Ab q:=Ed ea eb;have cd:(Qj.set j q').map En.id=Q1.map En.id:=by
    rw[LZ,ei,←i3];exact bq (by rw[AX,V];rfl)
   have a7:Sd.length=j:=by
    have:=congrArg List.length i7;rw[A9,BX]at this;omega
   have aE:∀(b:Nat) o,g'[b]?=some o->hO.length<=b->(td g' hK.length 9 B6 (O.set j (Ab q,v1,v2,v3)))[b]?=some o:=λb o I dA=>by
    rw[cV (by omega)];exact I
   refine u (td g' hK.length 9 B6 (O.set j (Ab q,v1,v2,v3)),Qj.set j q',O.set j (Ab q,v1,v2,v3),Sd++[⟨Ab q,q'.ps,q'.ls,q'.es⟩]) U ⟨?_,?_,cd,λi p hi hp=>?_,bL (al be),by show(O.set j _).length=_;rw[Bo];exact i6,?_,λi m hi hm=>?_,λs C=>?_,λs C=>?_,?_⟩
   ·refine bS.store fs (eW be) λp hp e=>?_;have gy:p.id∈Q1.map En.id:=cd▸qax.2 ⟨p,hp,rfl⟩;obtain⟨p1,bs,e1⟩:=qax.1 gy;have:=a5 p1 bs _ (.inl rfl);omega
   ·show(Qj.set j q').map Ab=T;rw[LZ,gl,bq (by rw[AX,V];rfl)];exact i2
   ·have hp:(Qj.set j q')[i]?=some p:=hp;rw[B5 (by omega)]at hp;exact i4 i p (by omega) hp
   ·show(Sd++[(⟨Ab q,q'.ps,q'.ls,q'.es⟩ : Sm)]).map (·.k)=T.take (j+1);rw[Ec,et,CA,i7];rfl
   ·have hm:(O.set j (Ab q,v1,v2,v3))[i]?=some m:=hm;by_cases e:i=j
    ·subst e;rw[C2 (by omega)]at hm;cases hm;refine⟨⟨⟨Ab q,q'.ps,q'.ls,q'.es⟩,by show(Sd++_)[i]?=_;rw[Cv (by omega),a7,Ic];rfl,rfl,l1.keep λb o I ap=>aE b o I (by have:=nb b (.inl ap);omega),l2.keep λb o I ap=>aE b o I (by have:=nb b (.inr (.inl ap));omega),l3.keep λb o I ap=>aE b o I (by have:=nb b (.inr (.inr ap));omega)⟩,λb I=>?_⟩;have:=nb b I;omega
    ·rw[B5 (λe'=>e e'.symm)]at hm;obtain⟨⟨s,g1,g5⟩,I⟩:=i8 i m (by omega) hm;refine⟨⟨s,by show(Sd++_)[i]?=_;rw[BZ (by omega)];exact g1,g5.keep λb o dn ap=>?_⟩,I⟩;have f3:=I b ap;exact aE b o (kp b o dn λa0=>by have:=a5 q a1 _ a0;omega) f3
   ·rcases qar.1 C with C|C
    ·exact i9 s C
    ·rw[qav]at C;subst C;exact⟨q,a1,rfl,pp,pl,pe⟩
   ·rcases qar.1 C with C|C
    ·exact Rv s C
    ·rw[qav]at C;subst C;exact⟨sp,sl,se⟩
   ·show hO.length<=(td g' _ _ _ _).length;rw[sM];omega
  obtain rfl:j=T.length:=by omega
  rw[ao (Ah _)];refine jn ?_;have a7:Sd.length=T.length:=by
   have:=congrArg List.length i7;rw[A9,BX,Nat.min_self]at this;exact this
  rw[IJ]at i7;refine⟨.slice (some ⟨hK.length,0,some 19⟩) T.length (T.length+1),rfl,bE b6 λb o I dn=>i1.low b o (by show b<hS.length;exact qc4 I b6.len) (by show b≠m34;omega) (by show b≠m32;omega) dn,λh=>absurd rfl h,λ_=>⟨G,Sd,hG,⟨O,⟨hK.length,by rw[i6];rfl,i5⟩,by rw[i6,a7],λi m hm=>(i8 i m (by have:=al hm;omega) hm).1⟩,?_,?_,λs C=>?_,λs C=>(Rv s C).1,λs C=>(Rv s C).2.1,λs C=>(Rv s C).2.2⟩⟩
  ·rw[i7,←hQ,gd];exact pK
  ·rw[i7];refine(sK.and eu).imp λ{a b} d9=>FJ d9.1 d9.2
  ·obtain⟨q,a1,e1,e2,e3,e4⟩:=i9 s C;refine⟨AM q,?_,e1,e2,e3,e4⟩;rw[←hQ];exact qax.2 ⟨q,e5.mem_iff.1 a1,rfl⟩)
 obtain⟨rs,h',h2,y,rfl,h4,h5,h6⟩:=g7;exact⟨y,e,h',h2,h4,hR,h5,h6⟩
def Av(L:List (Cl×List Nat))(c:Cl):Tx:=match L.find? λs=>decide (s.1=c)with
 |some s=>s.2
 |none=>[]
def kX{L:List (Cl×List Nat)}{c:Cl}:∀ {i:Nat} {s:Cl×List Nat},L[i]?=some s->s.1=c->(∀j,j<i->∀t,L[j]?=some t->t.1≠c)->L.find? (λs=>decide (s.1=c))=some s:=by
 induction L with
 |nil=>intro i s h;simp at h
 |cons a L f=>
  intro i s h d b;rw[List.find?_cons];cases i with
  |zero=>
   simp at h;subst h;rw[BJ d]
  |succ i=>
   rw[Ch (b 0 (by omega) a rfl)];exact f (by simpa using h) d λj g t e=>b (j+1) (by omega) t (by simpa using e)
def ui{L:List (Cl×List Nat)}{c:Cl}(a:∀(j:Nat) t,L[j]?=some t->t.1≠c):L.find? (λs=>decide (s.1=c))=none:=by
 rw[qdD];intro s d;obtain⟨j,b⟩:=BK d;simpa using a j s b
def HN{H:HL}{x:Value}{L:List (Cl×List Nat)}(F:StL H x L)(I:L.length<=1000)(c:Cl) :
  ∃y,aD cc ab 37 ([.v x]++As c) (ka aa H) [.v y] (ka aa H)/\aC y=true/\LsH H y 1 kl (Av L c):=by
 obtain⟨M,o,q,D⟩:=F;have s:=x37 (ls:=[.v x,.i c.1,.i c.2.1,.i (Int.ofNat c.2.2)]) (K:=λw u=>∃y,w=[.v y]/\u=H/\aC y=true/\LsH H y 1 kl (Av L c)) (H:=H) (oo o.good (km (km (km ua)))) (by
  unfold f37;simp only[xp];refine jn ?_;refine cG L.length (λj=>∀n,n<j->∀t,L[n]?=some t->t.1≠c) (j0:=0) rfl (AF _) (λn h=>by omega) ?_;intro i G f z g;refine jn ?_;refine bz o ?_;rw[q];by_cases m:i<L.length
  case neg=>
   obtain rfl:i=L.length:=by omega
   rw[ao (Ah _)];refine jn ?_;refine⟨_,by first|rfl|trivial,by first|rfl|trivial,rfl,?_⟩;unfold Av;rw[ui λj t k=>f j (al k) t k];exact .nil _ _ _
  rw[au m];refine jn ?_;obtain⟨⟨a,y⟩,r⟩:=aG (l:=M) (i:=i) (by omega);obtain⟨J,d,b⟩:=D i _ r;simp only at d b;refine bN (cs:=[.int .i64 a.1,.int .i64 a.2.1,.int .u8 (Int.ofNat a.2.2)]) o rfl r rfl (by omega) ?_;refine jn ?_;rw[Ho];by_cases p:a=c
  ·rw[BJ p];refine jn ?_;refine bN (cs:=[y]) o rfl r rfl (by omega) ?_;refine jn ?_;refine ac b.good ?_;refine pu ?_;refine⟨y,by first|rfl|trivial,by first|rfl|trivial,b.good,?_⟩;unfold Av;rw[kX d p f];exact b
  ·rw[Ch p];refine jn ?_;rw[aI (by omega)];exact g m λn E t k=>by
    by_cases e:n=i
    ·subst e;rw[d]at k;cases k;exact p
    ·exact f n (by omega) t k)
 obtain⟨w,u,A,y,rfl,rfl,B,C⟩:=s;exact⟨y,A,B,C⟩
abbrev Wg:=Nat×Int×Int
def Dl(x:Wg):Tk:=[.int .i64 (Int.ofNat x.1),.int .i64 x.2.1,.int .u8 x.2.2]
def KZ(w v:Nat)(l:Ty)(P:TC)(d:Cl)(n k:Nat):Option Wg:=
 if am (P n) (AP (sd w n) (eK (n%4) k))=d then some (n,Dc w v n k,CV w v l n k)else none
def CW(w v:Nat)(l:Ty)(P:TC)(d:Cl)(n:Nat):List Wg:=(List.range 3).filterMap (KZ w v l P d n)
def Da(w v:Nat)(l:Ty)(P:TC)(L:List (Cl×List Nat))(c d:Cl):List Wg:=(Av L c).flatMap (CW w v l P d)
def xD{w v:Nat}{l:Ty}{P:TC}{d:Cl}{n k:Nat}:((List.range k).filterMap (KZ w v l P d n)).length<=k:=Es (qch _ _) (by simp)
def F6{w v:Nat}{l:Ty}{P:TC}{d:Cl}:∀ {Y:Tx},(Y.flatMap (CW w v l P d)).length<=3*Y.length
 | []=>by simp
 |n :: Y=>by
  rw[Df,Bv,C6];have a:=F6 (w:=w) (v:=v) (l:=l) (P:=P) (d:=d) (Y:=Y);have b:(CW w v l P d n).length<=3:=xD;omega
def F5{w v:Nat}(u:S3 w v){l:Ty}{H:HL}{x U T V:Value}{L:List (Cl×List Nat)}(hx:StL H x L)(D:L.length<=1000)(G:aC U=true)(hk:LsH H T 1 CE (Az w v l)){Pl:TI}(hp:LsH H V 3 ub Pl){P:TC}(hP:∀n,n<4*w*v->Pl[n]?=some (P n))(F:∀n,n<4*w*v->AK 30000 (P n))
  (c d:Cl) (hid:∀n∈Av L c,n<4*w*v) (ap:(Av L c).length<=1000) :
  ∃z h',aD cc ab 10 ([.i (.ofNat w),.i (.ofNat v),.v U,.v T,.v V,.v x]++As c++As d) (ka aa H) [.v z] (ka aa h')/\Pre H h'/\aC z=true/\LsH h' z 3 Dl (Da w v l P L c d):=by
 have hs:=u.sh;obtain⟨b1,b2,b3,b4⟩:=u.n;have hN:=Bw hs;obtain⟨y,hy,ax,X⟩:=HN hx D c;obtain⟨M,hM,_,_⟩:=hx;have Q:Da w v l P L c d=(Av L c).flatMap (CW w v l P d):=rfl;rw[Q];generalize Av L c=Y at *;have R:=x10 (ls:=[.i (.ofNat w),.i (.ofNat v),.v U,.v T,.v V,.v x,.i c.1,.i c.2.1,.i (Int.ofNat c.2.2),.i d.1,.i d.2.1,.i (Int.ofNat d.2.2)]) (K:=λrs h'=>∃z,rs=[.v z]/\Pre H h'/\aC z=true/\LsH h' z 3 Dl (Y.flatMap (CW w v l P d))) (H:=H) (km (km (oo G (oo hk.good (oo hp.good (oo hM.good (km (km (km (km (km (km ua)))))))))))) (by
  unfold f10;simp only[xp];refine jn ?_;simp only[As,AO,AG]at hy;refine ai hy ?_;refine jn ?_;refine aO (σ:=HL×Value) Y.length (λj s=>[.v s.2,.i (Int.ofNat j)]) (λ_ s=>s.1) (λj s=>Pre H s.1/\aC s.2=true/\MkL H.length s.1 s.2 3 Dl ((Y.take j).flatMap (CW w v l P d))) (j0:=0) (s0:=(H,.slice none 0 0)) rfl rfl (AF _) ⟨.refl _,rfl,.nil _ _ _ _⟩ ?_;rintro j ⟨h,z⟩ hj ⟨b,e,o⟩ ad t;simp only at b o e ⊢;refine jn ?_;refine bz (X.pre b) ?_;by_cases p:j<Y.length
  case neg=>
   rw[ao (by omega)];refine jn ?_;rw[CJ (by omega)]at o;exact⟨z,rfl,b,e,o.ls⟩
  rw[au p];refine jn ?_;obtain⟨n,r⟩:=aG p;have q:=hid n (Ap r);have O:(Y.take (j+1)).flatMap (CW w v l P d)=(Y.take j).flatMap (CW w v l P d)++CW w v l P d n:=by
   rw[Ec,r,M4];simp
  have J:=F6 (w:=w) (v:=v) (l:=l) (P:=P) (d:=d) (Y:=Y.take j);rw[BX]at J;refine aP (X.pre b) rfl r ?_;rw[show kl n=[.int .i64 (Int.ofNat n)]from rfl];refine jn ?_;have hr:=di hs q;have B:=F n q;refine aO (σ:=HL×Value) 3 (λk s=>[.v s.2,.i (Int.ofNat k)]) (λ_ s=>s.1) (λk s=>Pre H s.1/\aC s.2=true/\MkL H.length s.1 s.2 3 Dl ((Y.take j).flatMap (CW w v l P d)++(List.range k).filterMap (KZ w v l P d n))) (j0:=0) (s0:=(h,z)) rfl rfl (AF _) ⟨b,e,by simpa using o⟩ ?_;clear b o e;rintro k ⟨h,z⟩ ag ⟨b,e,o⟩ S f;simp only at b o e ⊢;refine jn ?_;by_cases g:k<3
  case neg=>
   obtain rfl:k=3:=by omega
   rw[tx (show(3:Int)<=Int.ofNat 3 from Gn _)];refine jn ?_;rw[aI (by omega)];exact t (h,z) p ⟨b,e,by rw[O];exact o⟩
  rw[us (show Int.ofNat k<3 by show(k:Int)<3;omega)];refine jn ?_;have I:=fy (n%4) k;have hq:=zu (c:=sd w n) hr.2.2.2.2 I;have W:=iK u q;have c2:=yM u q g;have c3:=jQ (m:=P n) (c:=AP (sd w n) (eK (n%4) k)) B.1 (by obtain⟨_,g1,g2,g3,g4,_⟩:=B;omega) hq.1 (by omega);have c4:=uH u q g;have A:KZ w v l P d n k=if am (P n) (AP (sd w n) (eK (n%4) k))=d then some (n,Dc w v n k,CV w v l n k)else none:=rfl
  generalize AP (sd w n) (eK (n%4) k)=be at *;generalize ar:am (P n) be=mb at *;simp only[As,AB,AO,AG]at W c2 c3;refine aP (hp.pre b) rfl (hP n q) ?_;rw[show ub (P n)=[.int .u8 (Int.ofNat (P n).1),.int .i64 (P n).2.1,.int .i64 (P n).2.2]from rfl];refine jn ?_;refine ah W ?_;refine jn ?_;refine ah c2 ?_;refine jn ?_;refine ah c3 ?_;refine jn ?_;rw[Ho];by_cases C:mb=d
  case neg=>
   rw[Ch C];simp(disch:=omega)only[↓po,CI];rw[aI (by omega)];exact f (h,z) g ⟨b,e,by rw[jK,A,ra C];simpa using o⟩
  rw[BJ C];simp(disch:=omega)only[↓po,BS];refine ah c4 ?_;refine jn ?_;rw[D1 (by omega)];refine pu ?_;rw[tG (by omega)];refine pu ?_;refine aP (hk.pre b) rfl (kJ q g) ?_;rw[show CE (CV w v l n k)=[.int .u8 (CV w v l n k)]from rfl];refine jn ?_;have an:=xD (w:=w) (v:=v) (l:=l) (P:=P) (d:=d) (n:=n) (k:=k);refine xS (h0:=H) (a:=((n,Dc w v n k,CV w v l n k):Wg)) b o rfl rfl rfl rfl (by
   unfold bb;rw[Bv,Bg (by omega),Bg (by omega)];rfl) ?_
  intro z' h' N E Z _ _;refine jn ?_;refine ac Z ?_;refine pu ?_;rw[aI (by omega)];exact f (h',z') g ⟨N,Z,by rw[jK,A,mc C,←A6];exact E⟩)
 obtain⟨rs,h',h2,z,rfl,h4,h5,h6⟩:=R;exact⟨z,h',h2,h4,h5,h6⟩
def FU{l:Ty}(i:(l.map bB).Nodup)(u e:Nat):jT l (.ofNat u) (.ofNat e)=Co l u e:=by
 have j:∀(l:Ty) (a:Int),(l.map bB).Nodup->l.foldl (λa c=>if bB c=((Int.ofNat u,Int.ofNat e):Ku)then c.2.2 else a) a=(match l.find? (Hn (.ofNat u) (.ofNat e))with|some c=>c.2.2|none=>a):=by
  intro l
  induction l with
  |nil=>intro a _;rfl
  |cons c l p=>
   intro a h;rw[A5,qbU]at h;rw[IL,p _ h.2,List.find?_cons];by_cases f:bB c=((Int.ofNat u,Int.ofNat e):Ku)
   ·have k:=congrArg Prod.fst f;have m:=congrArg Prod.snd f;simp only[bB]at k m;have g:Hn (.ofNat u) (.ofNat e) c=true:=by simp[Hn,k,m]
    have o:l.find? (Hn (.ofNat u) (.ofNat e))=none:=qdD.2 λd n b=>by
     simp only[Hn,wa,BQ]at b;refine h.1 (qax.2 ⟨d,n,?_⟩);rw[f];exact Ed b.1 b.2
    rw[g,o,mc f]
   ·have g:Hn (.ofNat u) (.ofNat e) c=false:=by
     rw[←CO];intro b;simp only[Hn,wa,BQ]at b;exact f (Ed b.1 b.2)
    rw[g,ra f]
 unfold jT Co;exact(j l 0 i).symm
def nb_ne{c:Cl}{e:Nat}(a:c.2.2<4)(b:e<3):AP c e≠c:=by
 obtain⟨x,y,q⟩:=c;simp only at a;intro h;rcases BR a with rfl|rfl|rfl|rfl
 all_goals obtain rfl|rfl|rfl:e=0∨e=1∨e=2:=by omega
 all_goals simp[AP]at h
def S6{t e f:Nat}(a:e<3)(b:f<3)(h:eT t e=eT t f):e=f:=by
 unfold eT at h
 repeat' split at h
 all_goals omega
structure Eds(w v:Nat)(l:Ty)(P:TC):Prop where
 ne:∀ {n e:Nat},n<4*w*v->e<3->AU w P n≠Bj w P n e
 inj:∀ {n e f:Nat},n<4*w*v->e<3->f<3->Bj w P n e=Bj w P n f->e=f
 nb:∀ {n e m:Nat},n<4*w*v->e<3->Aj w v n e=some m->m<4*w*v/\Aj w v m e=some n/\m≠n
 flat:∀ {n e m:Nat},n<4*w*v->e<3->Aj w v n e=some m->Co l (min n m) e=0->Bj w P n e=AU w P m/\Bj w P m e=AU w P n
 bent:∀ {n e m:Nat},n<4*w*v->e<3->Aj w v n e=some m->Co l (min n m) e≠0->AU w P m=AU w P n/\Bj w P m e=Bj w P n e
def S7{w v:Nat}(N:S3 w v){l:Ty}(q:∀c∈l,c.2.2≠0){G:TC}(y:ConsO w v l G){r:Mv}{k:Int}(P:AK k r):Eds w v l (λn=>af (G n) r):=by
 have o:=N.sh;have B:∀n,(sd w n).2.2<4:=λn=>Il _ (by omega);have z:∀n,(af (G n) r).1<8:=λn=>fk;have i:∀n e,e<3->Bj w (λn=>af (G n) r) n e=AP (AU w (λn=>af (G n) r) n) (eT (af (G n) r).1 e):=λn e a=>gk (z n) (B n) a;have d:∀ {n e m:Nat},n<4*w*v->e<3->Aj w v n e=some m->Co l (min n m) e≠0->af (G m) r=af (Bm (uc (sd w n) e)) (af (G n) r):=λ{n e m} b a j p=>by
  rw[y.g n e m b a j];unfold B4;rw[mc ((ma q).1 p),(sA o b a j).2];exact cv (by have:=FZ o b a;unfold Bm;repeat' split<;>omega) (y.ok n b).1 P.1
 refine⟨λ{n e} b a h=>?_,λ{n e f} b a A h=>?_,λ{n e m} b a j=>?_,λ{n e m} b a j p=>?_,λ{n e m} b a j p=>?_⟩
 ·rw[i n e a]at h;exact nb_ne (c:=AU w (λn=>af (G n) r) n) gL (kR a) h.symm
 ·rw[i n e a,i n f A]at h;exact S6 a A (vV (c:=AU w (λn=>af (G n) r) n) gL (kR a) (kR A) h)
 ·have:=dJ o b a j;exact⟨this.1,this.2.1,this.2.2.2.2⟩
 ·obtain⟨s,t,C,u,F⟩:=dJ o b a j;obtain⟨H,I,J,x,K⟩:=dJ o s a t;have O:G m=G n:=by
   rw[y.g n e m b a j];unfold B4;rw[ra λh=>(ma q).2 h p]
  unfold Bj AU;rw[←u,←x];show am (af (G n) r) (sd w m)=am (af (G m) r) (sd w m)/\am (af (G m) r) (sd w n)=am (af (G n) r) (sd w n);rw[O];exact⟨rfl,rfl⟩
 ·obtain⟨s,t,C,u,F⟩:=dJ o b a j;obtain⟨H,I,J,x,K⟩:=dJ o s a t;have L:=d b a j p;have M:=d s a t (by rw[Vg];exact p);have D:=gj (g:=af (G n) r) (c:=sd w n) (e:=e) (z n) (B n) a;have E:=gj (g:=af (G m) r) (c:=sd w n) (e:=e) (z m) (B n) a;rw[←u]at D E;constructor
  ·show am (af (G m) r) (sd w m)=am (af (G n) r) (sd w n);rw[←D,←L]
  ·show am (af (G m) r) (AP (sd w m) e)=am (af (G n) r) (AP (sd w n) e);rw[←u,←x,←E,C,←M]
structure Lys(N:Nat)(img:Nat->Cl)(L:List Af)(hg:Tz):Prop where
 mem:∀c n,n∈Av L c↔n<N/\img n=c
 hgt:∀c (i:Nat) n,(Av L c)[i]?=some n->hg n=i
def Lys.srt{N:Nat}{d:Nat->Cl}{L:List Af}{hg:Tz}(h:Lys N d L hg)(c:Cl):(Av L c).Pairwise λa b=>hg a<hg b:=by
 rw[qbz];intro i j e g f;have k:=h.hgt c i _ (Be e);have l:=h.hgt c j _ (Be g);omega
theorem Lys.inj{N:Nat}{a:Nat->Cl}{L:List Af}{hg:Tz}(h:Lys N a L hg){n m:Nat}(f:n<N)(e:m<N)(d:a n=a m)(l:hg n=hg m):n=m:=by
 obtain⟨i,c⟩:=BK ((h.mem (a m) n).2 ⟨f,d⟩);obtain⟨j,b⟩:=BK ((h.mem (a m) m).2 ⟨e,rfl⟩);have g:=h.hgt _ _ _ c;have k:=h.hgt _ _ _ b;have:i=j:=by omega
 subst this;rw[c]at b;cases b;rfl
def Sy{L:List Af}(h:DL L):L.Pairwise λa b=>Bc b.1 a.1=true:=by
 rw[qbz];intro i j g f e;obtain⟨d,rfl⟩ : ∃d,j=i+d+1:=⟨j - i - 1,by omega⟩;clear e
 induction d with
 |zero=>exact h i _ _ (Be g) (Be f)
 |succ d k=>
  have c:i+d+1<L.length:=by omega
  exact xm (h (i+d+1) _ _ (Be c) (Be f)) (k c)
def Ug{L:List Af}(h:DL L){s:Af}(f:s∈L):Av L s.1=s.2:=by
 obtain⟨i,a⟩:=BK f;unfold Av;rw[kX a rfl λj d t b e=>?_];have c:=qbz.1 (Sy h) j i (al b) (al a) d;rw[Be (al b)]at b;rw[Be (al a)]at a;rw[AR b,AR a,e,io]at c;cases c
def Up{N:Nat}{q:Nat->Cl}{L:List Af}(g:Lg N L)(z:ChkR N L 0)(w:zy q L):Lys N q L (Cm N L):=by
 obtain⟨m,o,v⟩ : DL L/\(bV L).Nodup/\N<=(bV L).length:=by
  rcases z with⟨h,_⟩|⟨h,⟨y,_⟩|⟨r,⟨y,_⟩|⟨_,k⟩⟩⟩
  ·omega
  ·omega
  ·omega
  ·exact⟨h,r,k⟩
 have l:∀n,n<N->n∈bV L:=λn a=>Classical.byContradiction λu=>by
  have r:(n :: bV L).Nodup:=qbU.2 ⟨u,o⟩;have k:∀x∈n :: bV L,x∈List.range N:=λx f=>by
   rw[qad];rcases qas.1 f with rfl|f
   ·exact a
   ·obtain⟨s,b,f⟩:=qa2.1 f;exact(g s b).2.2.2.1 x f
  have:=r.length_le_of_subset k;rw[C6,qdM]at this;omega
 have d:∀c n,n∈Av L c->∃s∈L,s.1=c/\Av L c=s.2:=λc n a=>by
  unfold Av at a ⊢;cases t:L.find? λs=>decide (s.1=c)with
  |none=>rw[t]at a;cases a
  |some s=>
   have k:=List.find?_some t;exact⟨s,qcR t,of_decide_eq_true (p:=s.1=c) k,rfl⟩
 refine⟨λc n=>⟨λa=>?_,λ⟨a,j⟩=>?_⟩,λc i n j=>?_⟩
 ·obtain⟨s,b,rfl,e⟩:=d c n a;rw[e]at a;exact⟨(g s b).2.2.2.1 n a,w s b n a⟩
 ·obtain⟨s,b,f⟩:=qa2.1 (l n a);have:=w s b n f;rw[←j,this,Ug m b];exact f
 ·obtain⟨s,b,rfl,e⟩:=d c n (Ap j);rw[e]at j;exact Ub o b j ((g s b).2.2.2.1 n (Ap j))
def VG(w:Nat)(P:TC)(d:Cl)(n k:Nat):Option (Nat×Nat):=if Bj w P n (eK (n%4) k)=d then some (n,eK (n%4) k)else none
def edA(w:Nat)(P:TC)(d:Cl)(n:Nat):List (Nat×Nat):=(List.range 3).filterMap (VG w P d n)
def Ba(w:Nat)(P:TC)(L:List Af)(c d:Cl):List (Nat×Nat):=(Av L c).flatMap (edA w P d)
def BU(w v:Nat)(l:Ty)(p:Nat×Nat):Wg:=(p.1,(match Aj w v p.1 p.2 with
 |some m=>Int.ofNat m
 |none=>-1),match Aj w v p.1 p.2 with
 |some m=>Co l (min p.1 m) p.2
 |none=>0)
def sy{w v:Nat}{l:Ty}{P:TC}{L:List Af}{c d:Cl}:Da w v l P L c d=(Ba w P L c d).map (BU w v l):=by
 unfold Da Ba;rw[List.map_flatMap]
 congr 1
 funext n
 unfold CW edA;rw[List.map_filterMap]
 congr 1
 funext k
 unfold KZ VG;by_cases h:am (P n) (AP (sd w n) (eK (n%4) k))=d
 ·rw[mc h,mc (show Bj w P n (eK (n%4) k)=d from h)];rfl
 ·rw[ra h,ra (show ¬Bj w P n (eK (n%4) k)=d from h)];rfl
section
variable {w v:Nat} {l:Ty} {P:TC} {L:List Af} {hg:Tz} (hE:Eds w v l P) (hL:Lys (4*w*v) (AU w P) L hg)
include hL in
theorem bG{c d:Cl}{p:Nat×Nat}:p∈Ba w P L c d↔p.1<4*w*v/\p.2<3/\AU w P p.1=c/\Bj w P p.1 p.2=d:=by
 unfold Ba;rw[qa2];constructor
 ·rintro⟨n,o,r⟩;obtain⟨k,f,h⟩:=qaH.1 r;unfold VG at h;split at h
  ·cases h;obtain⟨a,b⟩:=(hL.mem c n).1 o;exact⟨a,fy _ _,b,by assumption⟩
  ·cases h
 ·rintro⟨g,i,j,m⟩;refine⟨p.1,(hL.mem c p.1).2 ⟨g,j⟩,?_⟩;obtain⟨k,f,e⟩:=JF (q:=p.1%4) p.2 i;refine qaH.2 ⟨k,qad.2 f,?_⟩;unfold VG;rw[e,mc m]
include hE hL in
theorem lR{c d:Cl}:(Ba w P L c d).Pairwise λp q=>hg p.1<hg q.1:=by
 unfold Ba;rw[qdf];constructor
 ·intro n s;unfold edA;rw[RU];refine qcg ?_ (RX (n:=3));intro a b i r f p e q g;exfalso;unfold VG at e g;split at e<;>split at g
  next m o=>
   have:=hE.inj ((hL.mem c n).1 s).1 (fy _ _) (fy _ _) (m.trans o.symm);have j:=congrArg (eK (n%4)) this;rw[mt (qad.1 i),mt (qad.1 r)]at j;omega
  ·cases g
  ·cases e
  ·cases e
 ·refine(hL.srt c).imp ?_;intro a b f p e q g;have i:∀ {n:Nat} {p:Nat×Nat},p∈edA w P d n->p.1=n:=λ{n p} e=>by
   obtain⟨k,t,h⟩:=qaH.1 e;unfold VG at h;split at h
   ·cases h;rfl
   ·cases h
  rw[i e,i g];exact f
end
def Ay(w:Nat)(P:TC)(p:Nat×Nat):K6:=Bd (AU w P p.1) (Bj w P p.1 p.2)
def M3(w v:Nat)(l:Ty)(P:TC)(k:K6)(p:Nat×Nat):Option Pq:=if Ay w P p=k then(match Aj w v p.1 p.2 with
 |none=>none
 |some n=>if n<p.1 then none else if jT l (.ofNat (min p.1 n)) (.ofNat p.2)=0 then some (if Bz w P k p.1=0 then(p.1,n)else(n,p.1))else none)else none
def KL(w v:Nat)(l:Ty)(P:TC)(hg:Tz)(k:K6)(p:Nat×Nat):Option Lq:=if Ay w P p=k then(match Aj w v p.1 p.2 with
 |none=>none
 |some n=>if n<p.1 then none else if jT l (.ofNat (min p.1 n)) (.ofNat p.2)=0 then none else some (if hg p.1<hg n then(Bz w P k p.1,p.1,n)else(Bz w P k p.1,n,p.1)))else none
def MX(w v:Nat)(P:TC)(k:K6)(p:Nat×Nat):To:=if Ay w P p=k then(match Aj w v p.1 p.2 with
 |none=>some p.1
 |some _=>none)else none
def VB{w v:Nat}{l:Ty}{P:TC}{hg:Tz}{p:Nat×Nat}{s:Sm}(d:s.k=Ay w P p):Cs w v l P hg p.1 p.2 s=⟨s.k,s.ps++(M3 w v l P s.k p).toList,s.ls++(KL w v l P hg s.k p).toList,s.es++(MX w v P s.k p).toList⟩:=by
 unfold Cs M3 KL MX;simp only[←d,if_true];cases Aj w v p.1 p.2 with
 |none=>simp
 |some n=>
  simp only;by_cases b:n<p.1
  ·simp[b]
  ·simp only[b,if_false];by_cases c:jT l (.ofNat (min p.1 n)) (.ofNat p.2)=0
   ·simp only[c,if_true];by_cases a:Bz w P s.k p.1=0<;>simp[a]
   ·simp only[c,if_false];by_cases a:hg p.1<hg n<;>simp[a]
def SmsP(w v:Nat)(l:Ty)(P:TC)(hg:Tz)(E:List (Nat×Nat))(Q:List Sm):Prop:=
 (Q.map (·.k)).Nodup/\(∀k,k∈Q.map (·.k)↔∃p∈E,Ay w P p=k)/\∀s∈Q,s.ps=E.filterMap (M3 w v l P s.k)/\s.ls=E.filterMap (KL w v l P hg s.k)/\s.es=E.filterMap (MX w v P s.k)
def SmsP.step{w v:Nat}{l:Ty}{P:TC}{hg:Tz}{E:List (Nat×Nat)}{Q:List Sm}(h:SmsP w v l P hg E Q)(p:Nat×Nat):SmsP w v l P hg (E++[p]) (iy w v l P hg Q p.1 p.2):=by
 obtain⟨C,n,D⟩:=h;have o:Bd (AU w P p.1) (Bj w P p.1 p.2)=Ay w P p:=rfl;unfold iy;rw[o];have r:((fX (Ay w P p) Q).map (·.k)).Nodup/\(∀k,k∈(fX (Ay w P p) Q).map (·.k)↔∃q∈E++[p],Ay w P q=k)/\∀s∈fX (Ay w P p) Q,s.ps=E.filterMap (M3 w v l P s.k)/\s.ls=E.filterMap (KL w v l P hg s.k)/\s.es=E.filterMap (MX w v P s.k):=by
  unfold fX;by_cases c:Ay w P p∈Q.map (·.k)
  ·rw[mc c];refine⟨C,λk=>⟨λb=>?_,?_⟩,D⟩
   ·obtain⟨q,a,e⟩:=(n k).1 b;exact⟨q,qar.2 (.inl a),e⟩
   ·rintro⟨q,a,rfl⟩;rcases qar.1 a with a|a
    ·exact(n _).2 ⟨q,a,rfl⟩
    ·rw[qav]at a;subst a;exact c
  ·rw[ra c];refine⟨?_,λk=>?_,λs d=>?_⟩
   ·rw[CA,qb0];refine⟨C,by simp,λx G y u e=>?_⟩;have u:y=Ay w P p:=by simpa using u
    subst u e;exact c G
   ·rw[CA,qar];constructor
    ·rintro(b|b)
     ·obtain⟨q,a,e⟩:=(n k).1 b;exact⟨q,qar.2 (.inl a),e⟩
     ·have b:k=Ay w P p:=by simpa using b
      exact⟨p,by simp,b.symm⟩
    ·rintro⟨q,a,rfl⟩;rcases qar.1 a with a|a
     ·exact .inl ((n _).2 ⟨q,a,rfl⟩)
     ·rw[qav]at a;subst a;exact .inr (by simp)
   ·rcases qar.1 d with d|d
    ·exact D s d
    ·rw[qav]at d;subst d;have i:∀q∈E,Ay w P q≠Ay w P p:=λq a e=>c ((n _).2 ⟨q,a,e⟩);have j:∀ {α:Type} (f:Nat×Nat->Option α),(∀q∈E,f q=none)->([]:List α)=E.filterMap f:=λf F=>(List.filterMap_eq_nil_iff.2 F).symm;refine⟨j _ λq a=>?_,j _ λq a=>?_,j _ λq a=>?_⟩
     ·unfold M3;rw[ra (i q a)]
     ·unfold KL;rw[ra (i q a)]
     ·unfold MX;rw[ra (i q a)]
 obtain⟨K,L,M⟩:=r;have A8:((fX (Ay w P p) Q).map λs=>if s.k=Ay w P p then Cs w v l P hg p.1 p.2 s else s).map (·.k)=(fX (Ay w P p) Q).map (·.k):=by
  rw[Ep];refine Ea λs _=>?_;simp only[Function.comp];split
  ·rw[VA]
  ·rfl
 refine⟨by rw[A8];exact K,λk=>by rw[A8];exact L k,λs d=>?_⟩;obtain⟨t,r,rfl⟩:=qax.1 d;obtain⟨z,A,B⟩:=M t r;have m:∀ {α:Type} (f:Nat×Nat->Option α),(E++[p]).filterMap f=E.filterMap f++(f p).toList:=λf=>by
  rw[qde];cases h:f p<;>simp[h]
 by_cases b:t.k=Ay w P p
 ·rw[mc b,VB b];simp only;rw[m,m,m,←z,←A,←B];exact⟨rfl,rfl,rfl⟩
 ·rw[ra b,m,m,m];have g:¬Ay w P p=t.k:=λe=>b e.symm;have H:M3 w v l P t.k p=none:=by unfold M3;rw[ra g]
  have I:KL w v l P hg t.k p=none:=by unfold KL;rw[ra g]
  have J:MX w v P t.k p=none:=by unfold MX;rw[ra g]
  rw[H,I,J];simp only[Option.toList_none,Cx];exact⟨z,A,B⟩
def yv{w v:Nat}{l:Ty}{P:TC}{hg:Tz}(E:List (Nat×Nat)):SmsP w v l P hg E (B2 w v l P hg E):=by
 unfold B2;have b:∀(E a:List (Nat×Nat)) (Q:List Sm),SmsP w v l P hg a Q->SmsP w v l P hg (a++E) (E.foldl (λQ p=>iy w v l P hg Q p.1 p.2) Q):=by
  intro E
  induction E with
  |nil=>intro a Q h;rw[Cx];exact h
  |cons p E d=>
   intro a Q h;have:=d (a++[p]) _ (h.step p);rw[A6]at this;exact this
 exact b E [] [] ⟨by simp,λk=>by simp,λs c=>by cases c⟩
def pz{α:Type}{R:α->α->Prop}(c:∀a b,R a b->¬R b a):∀ {i j:List α},i.Pairwise R->j.Pairwise R->(∀x,x∈i↔x∈j)->i=j
 | [],[],_,_,_=>rfl
 | [],b :: j,_,_,h=>by have:=(h b).2 (by simp);cases this
 |a :: i,[],_,_,h=>by have:=(h a).1 (by simp);cases this
 |a :: i,b :: j,k,l,h=>by
  rw[qba]at k l;have n:a=b:=Classical.byContradiction λd=>by
   rcases qas.1 ((h a).1 (by simp))with e|e
   ·exact d e
   rcases qas.1 ((h b).2 (by simp))with m|m
   ·exact d m.symm
   exact c _ _ (k.1 b m) (l.1 a e)
  subst n
  congr 1
  refine pz c k.2 l.2 λx=>⟨λg=>?_,λg=>?_⟩
  ·rcases qas.1 ((h x).1 (BF _ g))with rfl|e
   ·exact absurd (k.1 x g) λf=>c _ _ f f
   ·exact e
  ·rcases qas.1 ((h x).2 (BF _ g))with rfl|e
   ·exact absurd (l.1 x g) λf=>c _ _ f f
   ·exact e
def dq{N:Nat}{p:Nat×Nat}:p∈BE N 0↔p.1<N/\p.2<3:=by
 unfold BE;rw[qdZ,Dk,Cx,qa2];constructor
 ·rintro⟨i,c,h⟩;obtain⟨k,d,rfl⟩:=qax.1 h;exact⟨qad.1 c,qad.1 d⟩
 ·rintro⟨a,b⟩;exact⟨p.1,qad.2 a,qax.2 ⟨p.2,qad.2 b,rfl⟩⟩
def K8{N:Nat}:(BE N 0).Nodup:=by
 unfold BE;rw[qdZ,Dk,Cx];unfold List.Nodup;rw[qdf];refine⟨λa _=>?_,(qcT (n:=N)).imp λ{a b} c x d y f e=>?_⟩
 ·rw[qbi];exact(qcT (n:=3)).imp λ{a b} c e=>c (congrArg Prod.snd e)
 ·obtain⟨_,_,rfl⟩:=qax.1 d;obtain⟨_,_,rfl⟩:=qax.1 f;exact c (congrArg Prod.fst e)
def LJ(w v:Nat)(l:Ty)(p:Nat×Nat):Option Pq:=match Aj w v p.1 p.2 with
 |some m=>if Co l (min p.1 m) p.2=0 then some (p.1,m)else none
 |none=>none
def F1(w v:Nat)(l:Ty)(hg:Tz)(a:Nat)(p:Nat×Nat):Option Lq:=match Aj w v p.1 p.2 with
 |some m=>if Co l (min p.1 m) p.2=0 then none else if hg p.1<hg m then some (a,p.1,m)else none
 |none=>none
def TU(w v:Nat)(p:Nat×Nat):To:=match Aj w v p.1 p.2 with
 |some _=>none
 |none=>some p.1
section
variable {w v:Nat} {l:Ty} {P:TC} {L:List Af} {hg:Tz} {A B:Cl} (hE:Eds w v l P) (hL:Lys (4*w*v) (AU w P) L hg) (hnd:(l.map bB).Nodup) (hAB:Bc B A=true)
include hAB in
theorem DK:A≠B:=λe=>by
 rw[e,io]at hAB;cases hAB
include hE in
theorem OZ{p:Nat×Nat}(h1:p.1<4*w*v)(a:p.2<3):Bc (Ay w P p).2 (Ay w P p).1=true:=by
 unfold Ay Bd;by_cases h:Bc (AU w P p.1) (Bj w P p.1 p.2)=true
 ·rw[mc h];exact h
 ·rw[ra h];exact ox (qcx.2 h) (hE.ne h1 a)
include hAB in
theorem dH{p:Nat×Nat}:Ay w P p=(A,B)↔(AU w P p.1=A/\Bj w P p.1 p.2=B)∨(AU w P p.1=B/\Bj w P p.1 p.2=A):=by
 unfold Ay Bd;constructor
 ·intro h;split at h
  ·exact .inr ⟨congrArg Prod.snd h,congrArg Prod.fst h⟩
  ·exact .inl ⟨congrArg Prod.fst h,congrArg Prod.snd h⟩
 ·rintro(⟨a,b⟩|⟨a,b⟩)
  ·rw[a,b,ra];intro h;have:=xm h hAB;rw[io]at this;cases this
  ·rw[a,b,mc hAB]
include hE hAB in
theorem FT{p q:Nat×Nat}(g:p.1<4*w*v)(h:p.2<3)(i:q.2<3)(j:Ay w P p=(A,B))(k:Ay w P q=(A,B))(e:p.1=q.1):p=q:=by
 have a:=DK hAB;refine Ed e (hE.inj g h i ?_);rcases(dH hAB).1 j with⟨d,f⟩|⟨d,f⟩<;>rcases(dH hAB).1 k with⟨b,c⟩|⟨b,c⟩<;>rw[←e]at b c
 ·exact f.trans c.symm
 ·exact absurd (d.symm.trans b) a
 ·exact absurd (b.symm.trans d) a
 ·exact f.trans c.symm
include hL hAB in
theorem qy{p:Nat×Nat}:p∈Ba w P L A B++Ba w P L B A↔p∈BE (4*w*v) 0/\Ay w P p=(A,B):=by
 rw[qar,bG hL,bG hL,dq,dH hAB];constructor
 ·rintro(⟨c,d,a,b⟩|⟨c,d,a,b⟩)
  ·exact⟨⟨c,d⟩,.inl ⟨a,b⟩⟩
  ·exact⟨⟨c,d⟩,.inr ⟨a,b⟩⟩
 ·rintro⟨⟨c,d⟩,⟨a,b⟩|⟨a,b⟩⟩
  ·exact .inl ⟨c,d,a,b⟩
  ·exact .inr ⟨c,d,a,b⟩
include hE hL hAB in
theorem RD:(Ba w P L A B++Ba w P L B A).Nodup:=by
 rw[qb0];refine⟨(lR hE hL).imp λ{a b} h e=>?_,(lR hE hL).imp λ{a b} h e=>?_,λp c q d e=>?_⟩
 ·rw[e]at h;omega
 ·rw[e]at h;omega
 ·subst e;exact DK hAB (((bG hL).1 c).2.2.1.symm.trans ((bG hL).1 d).2.2.1)
include hE hL hAB in
theorem Ul:(Ba w P L A B).length+(Ba w P L B A).length=((BE (4*w*v) 0).filter λp=>decide (Ay w P p=(A,B))).length:=by
 rw[←Bv];refine List.Perm.length_eq ((qdB (RD hE hL hAB) (qcP _ K8)).2 λp=>?_);rw[qy hL hAB,qaO,BQ]
include hE hAB in
theorem UF{α:Type}{f:Nat×Nat->Option α}{g:α->Nat}(c:∀p x,p∈BE (4*w*v) 0->f p=some x->Ay w P p=(A,B)/\g x=p.1):((BE (4*w*v) 0).filterMap f).Nodup:=by
 unfold List.Nodup;rw[RU];refine qcg ?_ (K8 (N:=4*w*v));intro p q a d b x m y n e;subst e;obtain⟨h,i⟩:=c p x a m;obtain⟨j,k⟩:=c q x d n;exact b (FT hE hAB (dq.1 a).1 (dq.1 a).2 (dq.1 d).2 h j (i.symm.trans k))
def GA{n:Nat}(h:AU w P n=A)(a:A≠B):Bz w P (A,B) n=0:=by
 unfold Bz;rw[ra];rw[h];exact a
def GB{n:Nat}(h:AU w P n=B):Bz w P (A,B) n=1:=by
 unfold Bz;rw[mc h]
include hnd in
theorem nu{p:Nat×Nat}{x:Pq}:M3 w v l P (A,B) p=some x↔Ay w P p=(A,B)/\∃n,Aj w v p.1 p.2=some n/\¬n<p.1/\Co l (min p.1 n) p.2=0/\x=if Bz w P (A,B) p.1=0 then(p.1,n)else(n,p.1):=by
 unfold M3;by_cases c:Ay w P p=(A,B)
 ·rw[mc c];cases d:Aj w v p.1 p.2 with
  |none=>simp
  |some n=>
   simp only;by_cases a:n<p.1
   ·rw[mc a];constructor
    ·intro h;cases h
    ·rintro⟨_,m,e,h,_⟩;cases e;exact absurd a h
   rw[ra a,FU hnd];by_cases b:Co l (min p.1 n) p.2=0
   ·rw[mc b];constructor
    ·intro h;cases h;exact⟨c,n,rfl,a,b,rfl⟩
    ·rintro⟨_,m,e,_,_,rfl⟩;cases e;rfl
   ·rw[ra b];constructor
    ·intro h;cases h
    ·rintro⟨_,m,e,_,h,_⟩;cases e;exact absurd h b
 ·rw[ra c];constructor
  ·intro h;cases h
  ·rintro⟨h,_⟩;exact absurd h c
include hnd in
theorem nm{p:Nat×Nat}{x:Lq}:KL w v l P hg (A,B) p=some x↔Ay w P p=(A,B)/\∃n,Aj w v p.1 p.2=some n/\¬n<p.1/\Co l (min p.1 n) p.2≠0/\x=if hg p.1<hg n then(Bz w P (A,B) p.1,p.1,n)else(Bz w P (A,B) p.1,n,p.1):=by
 unfold KL;by_cases c:Ay w P p=(A,B)
 ·rw[mc c];cases d:Aj w v p.1 p.2 with
  |none=>simp
  |some n=>
   simp only;by_cases a:n<p.1
   ·rw[mc a];constructor
    ·intro h;cases h
    ·rintro⟨_,m,e,h,_⟩;cases e;exact absurd a h
   rw[ra a,FU hnd];by_cases b:Co l (min p.1 n) p.2=0
   ·rw[mc b];constructor
    ·intro h;cases h
    ·rintro⟨_,m,e,_,h,_⟩;cases e;exact absurd b h
   ·rw[ra b];constructor
    ·intro h;cases h;exact⟨c,n,rfl,a,b,rfl⟩
    ·rintro⟨_,m,e,_,_,rfl⟩;cases e;rfl
 ·rw[ra c];constructor
  ·intro h;cases h
  ·rintro⟨h,_⟩;exact absurd h c
def rJ{p:Nat×Nat}{x:Nat}:MX w v P (A,B) p=some x↔Ay w P p=(A,B)/\Aj w v p.1 p.2=none/\x=p.1:=by
 unfold MX;by_cases a:Ay w P p=(A,B)
 ·rw[mc a];cases b:Aj w v p.1 p.2 with
  |none=>simp[a,eq_comm]
  |some n=>simp
 ·rw[ra a];simp[a]
def dL{p:Nat×Nat}{x:Pq}:LJ w v l p=some x↔Aj w v p.1 p.2=some x.2/\Co l (min p.1 x.2) p.2=0/\x.1=p.1:=by
 unfold LJ;cases c:Aj w v p.1 p.2 with
 |none=>simp
 |some m=>
  simp only;by_cases h:Co l (min p.1 m) p.2=0
  ·rw[mc h];constructor
   ·intro e;cases e;exact⟨rfl,h,rfl⟩
   ·rintro⟨e,_,a⟩;cases e;rw[←a]
  ·rw[ra h];constructor
   ·intro e;cases e
   ·rintro⟨e,b,_⟩;cases e;exact absurd b h
def cN{c:Nat}{p:Nat×Nat}{x:Lq}:F1 w v l hg c p=some x↔Aj w v p.1 p.2=some x.2.2/\Co l (min p.1 x.2.2) p.2≠0/\hg p.1<hg x.2.2/\x.1=c/\x.2.1=p.1:=by
 unfold F1;cases g:Aj w v p.1 p.2 with
 |none=>simp
 |some m=>
  simp only;by_cases h:Co l (min p.1 m) p.2=0
  ·rw[mc h];constructor
   ·intro e;cases e
   ·rintro⟨e,b,_⟩;cases e;exact absurd h b
  ·rw[ra h];by_cases a:hg p.1<hg m
   ·rw[mc a];constructor
    ·intro e;cases e;exact⟨rfl,h,a,rfl,rfl⟩
    ·rintro⟨e,_,_,d,f⟩;cases e;rw[←d,←f]
   ·rw[ra a];constructor
    ·intro e;cases e
    ·rintro⟨e,_,b,_⟩;cases e;exact absurd b a
include hE hL hnd hAB in
theorem Uv{x:Pq}:x∈(BE (4*w*v) 0).filterMap (M3 w v l P (A,B))↔x∈(Ba w P L A B).filterMap (LJ w v l):=by
 have i:=DK hAB;rw[qaH,qaH];constructor
 ·rintro⟨p,o,h⟩;obtain⟨f,b⟩:=dq.1 o;obtain⟨t,n,d,g,c,rfl⟩:=(nu hnd).1 h;obtain⟨q,r,u⟩:=hE.nb f b d;obtain⟨j,k⟩:=hE.flat f b d c;rcases(dH hAB).1 t with⟨a,e⟩|⟨a,e⟩
  ·rw[mc (GA a i)];exact⟨p,(bG hL).2 ⟨f,b,a,e⟩,dL.2 ⟨d,c,rfl⟩⟩
  ·rw[GB a,ra (by omega)];exact⟨(n,p.2),(bG hL).2 ⟨q,b,j.symm.trans e,k.trans a⟩,dL.2 ⟨r,by rw[Vg];exact c,rfl⟩⟩
 ·rintro⟨p,o,h⟩;obtain⟨f,b,a,e⟩:=(bG hL).1 o;obtain⟨d,c,s⟩:=dL.1 h;obtain⟨y,m⟩:=x;simp only at d c s;subst s;obtain⟨q,r,u⟩:=hE.nb f b d;obtain⟨j,k⟩:=hE.flat f b d c;by_cases g:m<p.1
  ·refine⟨(m,p.2),dq.2 ⟨q,b⟩,(nu hnd).2 ⟨(dH hAB).2 (.inr ⟨j.symm.trans e,k.trans a⟩),p.1,r,by show ¬p.1<m;omega,by rw[Vg];exact c,?_⟩⟩;rw[GB (j.symm.trans e),ra (by omega)]
  ·refine⟨p,dq.2 ⟨f,b⟩,(nu hnd).2 ⟨(dH hAB).2 (.inl ⟨a,e⟩),m,d,g,c,?_⟩⟩;rw[mc (GA a i)]
include hE hL hnd hAB in
theorem Uu{x:Lq}:x∈(BE (4*w*v) 0).filterMap (KL w v l P hg (A,B))↔x∈(Ba w P L A B).filterMap (F1 w v l hg 0)++(Ba w P L B A).filterMap (F1 w v l hg 1):=by
 have t:=DK hAB;rw[qar,qaH,qaH,qaH];constructor
 ·rintro⟨p,u,h⟩;obtain⟨c,b⟩:=dq.1 u;obtain⟨J,n,i,r,g,rfl⟩:=(nm hnd).1 h;obtain⟨E,G,N⟩:=hE.nb c b i;obtain⟨j,F⟩:=hE.bent c b i g;have q:¬hg p.1<hg n->hg n<hg p.1:=λh=>by
   have:hg n≠hg p.1:=λe=>N (hL.inj E c j e);omega
  have o:Co l (min n p.1) p.2≠0:=by rw[Vg];exact g
  rcases(dH hAB).1 J with⟨a,f⟩|⟨a,f⟩
  ·left;rw[GA a t];by_cases d:hg p.1<hg n
   ·rw[mc d];exact⟨p,(bG hL).2 ⟨c,b,a,f⟩,cN.2 ⟨i,g,d,rfl,rfl⟩⟩
   ·rw[ra d];exact⟨(n,p.2),(bG hL).2 ⟨E,b,j.trans a,F.trans f⟩,cN.2 ⟨G,o,q d,rfl,rfl⟩⟩
  ·right;rw[GB a];by_cases d:hg p.1<hg n
   ·rw[mc d];exact⟨p,(bG hL).2 ⟨c,b,a,f⟩,cN.2 ⟨i,g,d,rfl,rfl⟩⟩
   ·rw[ra d];exact⟨(n,p.2),(bG hL).2 ⟨E,b,j.trans a,F.trans f⟩,cN.2 ⟨G,o,q d,rfl,rfl⟩⟩
 ·have k:∀(M:Nat) (p:Nat×Nat),p.1<4*w*v->p.2<3->Ay w P p=(A,B)->(∀n,AU w P n=AU w P p.1->Bz w P (A,B) n=M)->F1 w v l hg M p=some x->(∀m,AU w P m=AU w P p.1->Bj w P m p.2=Bj w P p.1 p.2->Ay w P (m,p.2)=(A,B))->∃p∈BE (4*w*v) 0,KL w v l P hg (A,B) p=some x:=by
   intro M p c b J z h K;obtain⟨i,g,d,C,D⟩:=cN.1 h;obtain⟨s,y,m⟩:=x;simp only at i g d C D;subst C D;obtain⟨E,G,N⟩:=hE.nb c b i;obtain⟨j,F⟩:=hE.bent c b i g;by_cases r:m<p.1
   ·refine⟨(m,p.2),dq.2 ⟨E,b⟩,(nm hnd).2 ⟨K m j F,p.1,G,by show ¬p.1<m;omega,by rw[Vg];exact g,?_⟩⟩;rw[ra (by show ¬hg m<hg p.1;omega),z m j]
   ·refine⟨p,dq.2 ⟨c,b⟩,(nm hnd).2 ⟨J,m,i,r,g,?_⟩⟩;rw[mc d,z p.1 rfl]
  rintro(⟨p,u,h⟩|⟨p,u,h⟩)
  ·obtain⟨c,b,a,f⟩:=(bG hL).1 u;exact k 0 p c b ((dH hAB).2 (.inl ⟨a,f⟩)) (λn e=>GA (e.trans a) t) h λm H I=>(dH hAB).2 (.inl ⟨H.trans a,I.trans f⟩)
  ·obtain⟨c,b,a,f⟩:=(bG hL).1 u;exact k 1 p c b ((dH hAB).2 (.inr ⟨a,f⟩)) (λn e=>GB (e.trans a)) h λm H I=>(dH hAB).2 (.inr ⟨H.trans a,I.trans f⟩)
include hL hAB in
theorem KX{x:Nat}:x∈(BE (4*w*v) 0).filterMap (MX w v P (A,B))↔x∈(Ba w P L A B++Ba w P L B A).filterMap (TU w v):=by
 rw[qaH,qaH];have e:∀ {p:Nat×Nat},TU w v p=some x↔Aj w v p.1 p.2=none/\x=p.1:=λ{p}=>by
  unfold TU;cases Aj w v p.1 p.2 with
  |none=>simp[eq_comm]
  |some n=>simp
 constructor
 ·rintro⟨p,f,h⟩;obtain⟨a,b,c⟩:=rJ.1 h;exact⟨p,(qy hL hAB).2 ⟨f,a⟩,e.2 ⟨b,c⟩⟩
 ·rintro⟨p,f,h⟩;obtain⟨a,b⟩:=(qy hL hAB).1 f;obtain⟨c,d⟩:=e.1 h;exact⟨p,a,rJ.2 ⟨b,c,d⟩⟩
end
structure SmT(w v:Nat)(l:Ty)(P:TC)(L:List Af)(hg:Tz)(s:Sm):Prop where
 ord:Bc s.k.2 s.k.1=true
 ne:Ba w P L s.k.1 s.k.2++Ba w P L s.k.2 s.k.1≠[]
 ps:s.ps=(Ba w P L s.k.1 s.k.2).filterMap (LJ w v l)
 ls:s.ls=(Ba w P L s.k.1 s.k.2).filterMap (F1 w v l hg 0)++(Ba w P L s.k.2 s.k.1).filterMap (F1 w v l hg 1)
 es:s.es.Pairwise λa b=>a<b
 em:∀n,n∈s.es↔n∈(Ba w P L s.k.1 s.k.2++Ba w P L s.k.2 s.k.1).filterMap (TU w v)
 el:s.es.length=((Ba w P L s.k.1 s.k.2++Ba w P L s.k.2 s.k.1).filterMap (TU w v)).length
def Mh{w v:Nat}{l:Ty}{P:TC}{L:List Af}{hg:Tz}(t:Eds w v l P)(j:Lys (4*w*v) (AU w P) L hg)(J:(l.map bB).Nodup){S:List Sm}(hS:OfR hg (B2 w v l P hg (BE (4*w*v) 0)) S){s:Sm}(hs:s∈S):SmT w v l P L hg s:=by
 obtain⟨q,G,hk,pp,pl,T⟩:=hS.el s hs;obtain⟨_,N,V⟩:=yv (w:=w) (v:=v) (l:=l) (P:=P) (hg:=hg) (BE (4*w*v) 0);obtain⟨q1,q2,q3⟩:=V q G;obtain⟨p0,O,m⟩:=(N q.k).1 (qax.2 ⟨q,G,rfl⟩);rw[hk]at q1 q2 q3 m;rw[q1]at pp;rw[q2]at pl;rw[q3]at T;have Y:=hS.op s hs;have X:=hS.ol s hs;have W:=hS.oe s hs;obtain⟨⟨A,B⟩,ps,ls,es⟩:=s;simp only at m pp pl T Y X W ⊢;have c:Bc B A=true:=by
  have:=OZ t (dq.1 O).1 (dq.1 O).2;rw[m]at this;exact this
 have a0:=DK c;have n1:ps.Nodup:=pp.nodup_iff.2 (UF t c (g:=λx=>min x.1 x.2) λp x o h=>by
  obtain⟨a,n,hn,ax,_,rfl⟩:=(nu J).1 h;refine⟨a,?_⟩;split<;>simp only<;>omega)
 have n2:ls.Nodup:=pl.nodup_iff.2 (UF t c (g:=λx=>min x.2.1 x.2.2) λp x o h=>by
  obtain⟨a,n,hn,ax,_,rfl⟩:=(nm J).1 h;refine⟨a,?_⟩;split<;>simp only<;>omega)
 have n3:es.Nodup:=T.nodup_iff.2 (UF t c (g:=id) λp x o h=>by
  obtain⟨a,_,rfl⟩:=rJ.1 h;exact⟨a,rfl⟩)
 have an:∀ {p q:Nat×Nat} {C D:Cl},p∈Ba w P L C D->q∈Ba w P L C D->hg p.1=hg q.1->p=q:=λ{p q C D} o G e=>by
  obtain⟨H,U,a3,F⟩:=(bG j).1 o;obtain⟨b1,b2,b3,Q⟩:=(bG j).1 G;have e1:=j.inj H b1 (a3.trans b3.symm) e;refine Ed e1 (t.inj H U b2 ?_);rw[F,e1,Q]
 refine⟨c,?_,?_,?_,?_,?_,?_⟩
 ·exact List.ne_nil_of_mem ((qy j c).2 ⟨O,m⟩)
 ·have d:∀x,x∈ps↔x∈(Ba w P L A B).filterMap (LJ w v l):=λx=>pp.mem_iff.trans (Uv t j J c);refine pz (R:=λx y=>hg x.1<hg y.1) (λa b I M=>by omega) ?_ ?_ d
  ·refine qcg ?_ (Y.and n1);rintro x y i r ⟨I,M⟩;refine Nat.lt_of_le_of_ne (Nat.le_of_not_lt I) λe=>M ?_;obtain⟨p,o,f⟩:=qaH.1 ((d x).1 i);obtain⟨q,G,E⟩:=qaH.1 ((d y).1 r);have e1:=(dL.1 f).2.2;have e2:=(dL.1 E).2.2;rw[e1,e2]at e;have:=an o G e;subst this;rw[f]at E;exact AR E
  ·rw[RU];refine(lR t j).imp ?_;intro p q h x i y r;rw[(dL.1 i).2.2,(dL.1 r).2.2];exact h
 ·have d:∀x,x∈ls↔x∈(Ba w P L A B).filterMap (F1 w v l hg 0)++(Ba w P L B A).filterMap (F1 w v l hg 1):=λx=>pl.mem_iff.trans (Uu t j J c);have u:∀x,x∈ls->∃p C D,p∈Ba w P L C D/\(x.1=0/\C=A/\D=B∨x.1=1/\C=B/\D=A)/\x.2.1=p.1/\Aj w v p.1 p.2=some x.2.2:=λx i=>by
   rcases qar.1 ((d x).1 i)with h|h
   ·obtain⟨p,o,f⟩:=qaH.1 h;obtain⟨H,U,a3,F,K⟩:=cN.1 f;exact⟨p,A,B,o,.inl ⟨F,rfl,rfl⟩,K,H⟩
   ·obtain⟨p,o,f⟩:=qaH.1 h;obtain⟨H,U,a3,F,K⟩:=cN.1 f;exact⟨p,B,A,o,.inr ⟨F,rfl,rfl⟩,K,H⟩
  refine pz (R:=λx y=>x.1<y.1∨(x.1=y.1/\hg x.2.1<hg y.2.1)) (λa b I M=>by omega) ?_ ?_ d
  ·refine qcg ?_ (X.and n2);rintro x y i r ⟨I,M⟩;refine Classical.byContradiction λa6=>M ?_;have e0:x.1=y.1/\hg x.2.1=hg y.2.1:=by omega
   obtain⟨p,C,D,o,hc,Z,aE⟩:=u x i;obtain⟨q,C',D',G,ar,ad,ag⟩:=u y r;have ap:C=C'/\D=D':=by
    rcases hc with⟨z,rfl,rfl⟩|⟨z,rfl,rfl⟩<;>rcases ar with⟨z',rfl,rfl⟩|⟨z',rfl,rfl⟩
    ·exact⟨rfl,rfl⟩
    ·omega
    ·omega
    ·exact⟨rfl,rfl⟩
   obtain⟨rfl,rfl⟩:=ap;have:=an o G (by rw[←Z,←ad];exact e0.2);subst this;rw[aE]at ag;exact Ed e0.1 (Ed (Z.trans ad.symm) (AR ag))
  ·rw[U8];refine⟨?_,?_,?_⟩
   ·rw[RU];refine(lR t j).imp ?_;intro p q h x i y r;obtain⟨_,_,_,F,K⟩:=cN.1 i;obtain⟨_,_,_,Q,b5⟩:=cN.1 r;exact .inr ⟨F.trans Q.symm,by rw[K,b5];exact h⟩
   ·rw[RU];refine(lR t j).imp ?_;intro p q h x i y r;obtain⟨_,_,_,F,K⟩:=cN.1 i;obtain⟨_,_,_,Q,b5⟩:=cN.1 r;exact .inr ⟨F.trans Q.symm,by rw[K,b5];exact h⟩
   ·intro x i y r;obtain⟨p,_,f⟩:=qaH.1 i;obtain⟨q,_,E⟩:=qaH.1 r;obtain⟨_,_,_,F,K⟩:=cN.1 f;obtain⟨_,_,_,Q,b5⟩:=cN.1 E;left;omega
 ·refine(W.and n3).imp ?_;rintro a b ⟨I,M⟩;exact Nat.lt_of_le_of_ne I M
 ·exact λn=>T.mem_iff.trans (KX j c)
 ·rw[T.length_eq];refine List.Perm.length_eq ((qdB (T.nodup_iff.1 n3) ?_).2 λx=>KX j c);unfold List.Nodup;rw[RU];refine qcg ?_ (RD t j c);intro p q o G ay x i y r e;subst e;have I:∀ {p:Nat×Nat},TU w v p=some x->x=p.1:=λ{p} h=>by
   unfold TU at h;split at h
   ·cases h
   ·cases h;rfl
  obtain⟨H,U⟩:=(qy j c).1 o;obtain⟨b1,b2⟩:=(qy j c).1 G;exact ay (FT t c (dq.1 H).1 (dq.1 H).2 (dq.1 b1).2 U b2 ((I i).symm.trans (I r)))
def vf{α β:Type} [DecidableEq β]{f:α->β}{K:List β}(a:K.Nodup):∀ {E:List α},(∀p∈E,f p∈K)->(K.map λk=>(E.filter λp=>decide (f p=k)).length).sum=E.length
 | [],_=>by
  simp only[qdw,Vj]
  induction K with
  |nil=>rfl
  |cons k K b=>rw[A5,qd7,b (qbU.1 a).2 λp h=>by cases h]
 |p :: E,h=>by
  have b:=vf a (E:=E) λq i=>h q (BF _ i);rw[C6,←b];have d:=h p (by simp);clear b h
  induction K with
  |nil=>cases d
  |cons k K c=>
   rw[qbU]at a;rw[A5,qd7,A5,qd7,M5];by_cases e:f p=k
   ·subst e;rw[BJ rfl,mc rfl,C6];have:(K.map λk=>((p :: E).filter λp=>decide (f p=k)).length)=K.map λk=>(E.filter λp=>decide (f p=k)).length:=Ea λk g=>by
     rw[M5,Ch (λe=>a.1 (by rw[e];exact g)),ra (by simp)]
    rw[this];omega
   ·rw[Ch e,ra (by simp),c a.2 ((qas.1 d).resolve_left e)];omega
def Mi{w v:Nat}{l:Ty}{P:TC}{L:List Af}{hg:Tz}(g:Eds w v l P)(h:Lys (4*w*v) (AU w P) L hg)(d:(l.map bB).Nodup){S:List Sm}(c:OfR hg (B2 w v l P hg (BE (4*w*v) 0)) S) :
  (S.map λs=>(Ba w P L s.k.1 s.k.2).length+(Ba w P L s.k.2 s.k.1).length).sum=3*(4*w*v):=by
 obtain⟨f,a,_⟩:=yv (w:=w) (v:=v) (l:=l) (P:=P) (hg:=hg) (BE (4*w*v) 0);have i:S.map (λs=>(Ba w P L s.k.1 s.k.2).length+(Ba w P L s.k.2 s.k.1).length)=(S.map (·.k)).map λk=>((BE (4*w*v) 0).filter λp=>decide (Ay w P p=k)).length:=by
  rw[Ep];exact Ea λs m=>Ul g h (Mh g h d c m).ord
 rw[i,vf (c.ks.nodup_iff.2 f) λp j=>c.ks.mem_iff.2 ((a _).2 ⟨p,j,rfl⟩)];have b:∀n,(BE n 0).length=3*n:=by
  intro n
  induction n with
  |zero=>rfl
  |succ n o=>
   rw[yg];have e:BE n 3=BE n 0++[(n,0),(n,1),(n,2)]:=by
    rw[wm,wm,wm];simp
   rw[e,Bv,o];simp;omega
 exact b _
def Bf(l:List Wg)(id:Int):Int:=match l.findIdx? λa=>decide (Int.ofNat a.1=id)with
 |some i=>Int.ofNat i
 |none=>-1
def wI{H:HL}{x:Value}{l:List Wg}(p:LsH H x 3 Dl l)(o:l.length<=1000000)(id:Int):aD cc ab 42 [.v x,.i id] (ka aa H) [.i (Bf l id)] (ka aa H):=by
 exact xK x42 (oo p.good (km ua)) (by
  unfold f42;simp only[xp];refine jn ?_;refine cG l.length (λj=>∀n,n<j->∀a,l[n]?=some a->Int.ofNat a.1≠id) (j0:=0) rfl (AF _) (λn h=>by omega) ?_;intro i t d q f;refine jn ?_;refine bz p ?_;by_cases c:i<l.length
  case neg=>
   rw[ao (by omega)];refine jn ?_;have:l.findIdx? (λa=>decide (Int.ofNat a.1=id))=none:=by
    rw[List.findIdx?_eq_none_iff];intro a g;obtain⟨n,o⟩:=BK g;have:=d n (by have:=al o;omega) a o;exact Ch this
   unfold Bf;rw[this];trivial
  rw[au c];refine jn ?_;obtain⟨a,g⟩:=aG c;refine bN (cs:=[.int .i64 (Int.ofNat a.1)]) p rfl g rfl (by omega) ?_;refine jn ?_;by_cases k:Int.ofNat a.1=id
  ·rw[Aq k];refine jn ?_;have:l.findIdx? (λa=>decide (Int.ofNat a.1=id))=some i:=by
    rw[qcs];refine⟨c,?_,λj r=>?_⟩
    ·rw[Be c]at g;cases g;exact BJ k
    ·have:=d j r _ (Be (by omega));simpa using this
   unfold Bf;rw[this];trivial
  ·rw[Ai k];refine jn ?_;rw[aI (by omega)];exact f c λn s b m=>by
    by_cases e:n=i
    ·subst e;rw[g]at m;cases m;exact k
    ·exact d n (by omega) b m)
def oV{H:HL}{x:Value}{l:List Wg}(b:LsH H x 3 Dl l)(d:l.length<=1000000){i:Nat}{a:Wg}(c:l[i]?=some a):aD cc ab 41 [.v x,.i (Int.ofNat i)] (ka aa H) [.i (Bf l a.2.1)] (ka aa H):=by
 exact xK x41 (oo b.good (km ua)) (by
  unfold f41;simp only[xp];refine jn ?_;refine bN (cs:=[.int .i64 a.2.1]) b rfl c rfl (by omega) ?_;refine jn ?_;refine ai (wI b d a.2.1) ?_;simp(disch:=omega)only[↓po];trivial)
theorem Kf{α β:Type}{f:α->Option β}{N:List α}:(N.filterMap f).length<=N.length:=qch _ _
theorem Qt{l:List Wg}{id:Int}:Bf l id<Int.ofNat l.length/\-1<=Bf l id:=by
 unfold Bf;split
 next i h=>
  obtain⟨a,_⟩:=qcs.1 h;exact⟨qbh.2 a,by have:=B8 i;show -1<=(i:Int);omega⟩
 ·exact⟨by have:=B8 l.length;show -1<(l.length:Int);omega,Gn _⟩
def md(l:List Wg)(i:Nat)(x y:Wg):Prop:=(0<=y.2.1/\y.2.2=0)∨(y.2.2≠0/\(Bf l y.2.1<Int.ofNat i∨Bf l x.2.1<Bf l y.2.1))
def KC(l:List Wg):Prop:=∃(i k:Nat) (x y:Wg),l[i]?=some x/\l[k]?=some y/\x.2.2≠0/\i<k/\Int.ofNat k<Bf l x.2.1/\md l i x y
def psP(b:List Wg)(x y:Wg):Prop:=x.2.2=0/\y.2.2=0/\0<=x.2.1/\0<=y.2.1/\Bf b y.2.1<Bf b x.2.1
def psX(a b:List Wg):Prop:=∃(i k:Nat) (x y:Wg),a[i]?=some x/\a[k]?=some y/\i<k/\psP b x y
def Nf(a b:List Wg):Prop:=KC a∨KC b∨psX a b
def He{H:HL}{x y:Value}{A B:List Wg}(O:LsH H x 3 Dl A)(hy:LsH H y 3 Dl B)(hA:A.length<=100000)(hB:B.length<=100000) :
  ∃e,aD cc ab 14 [.v x,.v y] (ka aa H) [.i e] (ka aa H)/\((e=1/\Nf A B)∨(e=0/\¬Nf A B)):=by
 have a4:=x14 (ls:=[.v x,.v y]) (K:=λrs h'=>∃e:Int,rs=[.i e]/\h'=H/\((e=1/\Nf A B)∨(e=0/\¬Nf A B))) (H:=H) (oo O.good (oo hy.good ua)) (by
  unfold f14;simp only[xp];refine jn ?_;refine cG 2 (λj=>(0<j->¬KC A)/\(1<j->¬KC B)) (j0:=0) rfl (AF _) ⟨λh=>by omega,λh=>by omega⟩ ?_;rintro s hs ⟨X,an⟩ ad C;refine jn ?_;by_cases a7:s<2
  case neg=>
   obtain rfl:s=2:=by omega
   rw[tx (show(2:Int)<=Int.ofNat 2 from Gn _)];refine jn ?_;have ax:=X (by omega);have ay:=an (by omega);refine cG A.length (λi=>∀(g k:Nat) u w,g<i->A[g]?=some u->A[k]?=some w->g<k->¬psP B u w) (j0:=0) rfl (AF _) (λg k u w h=>by omega) ?_;intro i hi M ad C;refine jn ?_;refine bz O ?_;by_cases q:i<A.length
   case neg=>
    rw[ao (by omega)];refine jn ?_;refine⟨0,rfl,by trivial,.inr ⟨rfl,?_⟩⟩;rintro(h|h|⟨g,k,u,w,F,c,f,p⟩)
    ·exact ax h
    ·exact ay h
    ·exact M g k u w (by have:=al F;omega) F c f p
   rw[au q];refine jn ?_;rw[aI (by omega)];refine cG A.length (λk=>i<k/\∀(d:Nat) u w,d<k->A[i]?=some u->A[d]?=some w->i<d->¬psP B u w) (j0:=i+1) rfl (by omega) ⟨by omega,λd u w F c f p=>by omega⟩ ?_;rintro k hk ⟨T,n⟩ D m;refine jn ?_;refine bz O ?_;by_cases L:k<A.length
   case neg=>
    rw[ao (by omega)];refine jn ?_;rw[aI (by omega)];exact C q λg d u w F c f p=>by
     by_cases e:g=i
     ·subst e;exact n d u w (by have:=al f;omega) c f p
     ·exact M g d u w (by omega) c f p
   rw[au L];refine jn ?_;obtain⟨u,N⟩:=aG q;obtain⟨t,G⟩:=aG L;have a:¬psP B u t->D [.i (Int.ofNat k+1)] H:=λY=>m L ⟨by omega,λd u' W F c f p=>by
    by_cases e:d=k
    ·subst e;rw[N]at c;rw[G]at f;cases c;cases f;exact Y
    ·exact n d u' W (by omega) c f p⟩
   refine bN (cs:=[.int .u8 u.2.2]) O rfl N rfl (by omega) ?_;refine jn ?_;by_cases k1:u.2.2=0
   case neg=>
    rw[AQ k1];refine jn ?_;rw[aI (by omega)];exact a λh=>k1 h.1
   rw[AJ k1];refine jn ?_;refine bN (cs:=[.int .u8 t.2.2]) O rfl G rfl (by omega) ?_;refine jn ?_;by_cases o:t.2.2=0
   case neg=>
    rw[AQ o];refine jn ?_;rw[aI (by omega)];exact a λh=>o h.2.1
   rw[AJ o];refine jn ?_;refine bN (cs:=[.int .i64 u.2.1]) O rfl N rfl (by omega) ?_;refine jn ?_;by_cases k3:u.2.1<0
   case pos=>
    rw[us k3];refine jn ?_;rw[aI (by omega)];exact a λh=>by have:=h.2.2.1;omega
   rw[tx (by omega)];refine jn ?_;refine bN (cs:=[.int .i64 t.2.1]) O rfl G rfl (by omega) ?_;refine jn ?_;by_cases k4:t.2.1<0
   case pos=>
    rw[us k4];refine jn ?_;rw[aI (by omega)];exact a λh=>by have:=h.2.2.2.1;omega
   rw[tx (by omega)];refine jn ?_;refine bN (cs:=[.int .i64 u.2.1]) O rfl N rfl (by omega) ?_;refine jn ?_;refine ai (wI hy (by omega) u.2.1) ?_;refine jn ?_;refine bN (cs:=[.int .i64 t.2.1]) O rfl G rfl (by omega) ?_;refine jn ?_;refine ai (wI hy (by omega) t.2.1) ?_;refine jn ?_;by_cases k5:Bf B t.2.1<Bf B u.2.1
   case pos=>
    rw[Au k5];refine jn ?_;exact⟨1,rfl,by trivial,.inl ⟨rfl,.inr (.inr ⟨i,k,u,t,N,G,T,k1,o,by omega,by omega,k5⟩)⟩⟩
   rw[Ag (by omega)];refine jn ?_;rw[aI (by omega)];exact a λh=>k5 h.2.2.2.2
  obtain⟨z,Z,ap,a0,Q,hZ,ag,a3⟩ : ∃z Z,Cf 2 (Int.ofNat s)=some ()/\mG [.v x,.v y] 0 [(Int.ofNat s,1)] 1=some [.v z]/\LsH H z 3 Dl Z/\Z.length<=100000/\(KC Z->Nf A B)/\(¬KC Z->(0<s+1->¬KC A)/\(1<s+1->¬KC B)):=by
   obtain rfl|rfl:s=0∨s=1:=by omega
   ·exact⟨x,A,rfl,rfl,O,hA,.inl,λh=>⟨λ_=>h,λh=>by omega⟩⟩
   ·exact⟨y,B,rfl,rfl,hy,hB,λh=>.inr (.inl h),λh=>⟨λ_=>X (by omega),λ_=>h⟩⟩
  rw[us (show Int.ofNat s<2 by show(s:Int)<2;omega)];refine jn ?_;refine ae ap ?_;refine ae a0 ?_;refine jn ?_;refine cG Z.length (λi=>∀(g k:Nat) u w,g<i->Z[g]?=some u->Z[k]?=some w->u.2.2≠0->g<k->Int.ofNat k<Bf Z u.2.1->¬md Z g u w) (j0:=0) rfl (AF _) (λg k u w h=>by omega) ?_;intro i hi M U P;refine jn ?_;refine bz Q ?_;by_cases q:i<Z.length
  case neg=>
   rw[ao (by omega)];refine jn ?_;rw[aI (by omega)];have aE:¬KC Z:=λ⟨g,k,u,w,F,c,f,p,V,h6⟩=>M g k u w (by have:=al F;omega) F c f p V h6;exact C (by omega) (a3 aE)
  rw[au q];refine jn ?_;obtain⟨u,N⟩:=aG q;have r:(∀(k:Nat) w,Z[k]?=some w->u.2.2≠0->i<k->Int.ofNat k<Bf Z u.2.1->¬md Z i u w)->U [.i (Int.ofNat i+1)] H:=λY=>P q λg d u' W F c f p V h6=>by
   by_cases e:g=i
   ·subst e;rw[N]at c;cases c;exact Y d W f p V h6
   ·exact M g d u' W (by omega) c f p V h6
  refine bN (cs:=[.int .u8 u.2.2]) Q rfl N rfl (by omega) ?_;refine jn ?_;by_cases k0:u.2.2=0
  case pos=>
   rw[Aq k0];refine jn ?_;rw[aI (by omega)];exact r λk w F c=>absurd k0 c
  rw[Ai k0];refine jn ?_;refine ai (oV Q (by omega) N) ?_;refine jn ?_;rw[aI (by omega)];have hE:=@Qt Z u.2.1;obtain⟨E,I⟩ : ∃E,Bf Z u.2.1=E:=⟨_,rfl⟩;rw[I]at hE r ⊢;refine cG (max (i+1) E.toNat) (λk=>i<k/\∀(d:Nat) w,d<k->Z[d]?=some w->i<d->¬md Z i u w) (j0:=i+1) rfl (VV _ _) ⟨by omega,λd w F c f=>by omega⟩ ?_;rintro k hk ⟨T,n⟩ D m;refine jn ?_;by_cases J:Int.ofNat k<E
  case neg=>
   rw[tx (by omega)];refine jn ?_;rw[aI (by omega)];refine r λd w F c f p=>n d w ?_ F f;have p:(d:Int)<E:=p;have J:¬(k:Int)<E:=J;omega
  rw[us J];refine jn ?_;have a5:(k:Int)<E:=J;have a6:E<(Z.length:Int):=hE.1;have ar:k<max (i+1) E.toNat:=by omega
  obtain⟨t,G⟩:=aG (l:=Z) (i:=k) (by omega);have a:¬md Z i u t->D [.i (Int.ofNat k+1)] H:=λY=>m ar ⟨by omega,λd W F c f=>by
   by_cases e:d=k
   ·subst e;rw[G]at c;cases c;exact Y
   ·exact n d W (by omega) c f⟩
  have b:md Z i u t->Nf A B:=λh=>ag ⟨i,k,u,t,N,G,k0,T,by rw[I];exact J,h⟩;refine bN (cs:=[.int .i64 t.2.1]) Q rfl G rfl (by omega) ?_;refine jn ?_;by_cases kT:0<=t.2.1
  case pos=>
   rw[BI kT];refine jn ?_;refine bN (cs:=[.int .u8 t.2.2]) Q rfl G rfl (by omega) ?_;refine jn ?_;by_cases o:t.2.2=0
   case pos=>
    rw[Aq o];refine jn ?_;exact⟨1,rfl,by trivial,.inl ⟨rfl,b (.inl ⟨kT,o⟩)⟩⟩
   rw[Ai o];refine jn ?_;refine bN (cs:=[.int .u8 t.2.2]) Q rfl G rfl (by omega) ?_;refine jn ?_;refine ai (oV Q (by omega) G) ?_;refine jn ?_;by_cases R:Bf Z t.2.1<Int.ofNat i
   case pos=>
    rw[us R];refine jn ?_;exact⟨1,rfl,by trivial,.inl ⟨rfl,b (.inr ⟨o,.inl R⟩)⟩⟩
   rw[tx (by omega)];refine jn ?_;by_cases S:E<Bf Z t.2.1
   case pos=>
    rw[Au S];refine jn ?_;exact⟨1,rfl,by trivial,.inl ⟨rfl,b (.inr ⟨o,.inr (by rw[I];exact S)⟩)⟩⟩
   rw[Ag (by omega)];refine jn ?_;rw[aI (by omega)];exact a λh=>h.elim (λh=>o h.2) λh=>h.2.elim R λh=>S (by rw[I]at h;exact h)
  rw[Bn (by omega)];refine jn ?_;refine bN (cs:=[.int .u8 t.2.2]) Q rfl G rfl (by omega) ?_;refine jn ?_;by_cases o:t.2.2=0
  case pos=>
   rw[AJ o];refine jn ?_;rw[aI (by omega)];exact a λh=>h.elim (λh=>kT h.1) λh=>h.1 o
  rw[AQ o];refine jn ?_;refine ai (oV Q (by omega) G) ?_;refine jn ?_;by_cases R:Bf Z t.2.1<Int.ofNat i
  case pos=>
   rw[us R];refine jn ?_;exact⟨1,rfl,by trivial,.inl ⟨rfl,b (.inr ⟨o,.inl R⟩)⟩⟩
  rw[tx (by omega)];refine jn ?_;by_cases S:E<Bf Z t.2.1
  case pos=>
   rw[Au S];refine jn ?_;exact⟨1,rfl,by trivial,.inl ⟨rfl,b (.inr ⟨o,.inr (by rw[I];exact S)⟩)⟩⟩
  rw[Ag (by omega)];refine jn ?_;rw[aI (by omega)];exact a λh=>h.elim (λh=>kT h.1) λh=>h.2.elim R λh=>S (by rw[I]at h;exact h))
 obtain⟨rs,h',c,e,rfl,rfl,V⟩:=a4;exact⟨e,c,V⟩
def oG{N:Nat}{L:List Af}(a:Lg N L){c:Cl}:(∀n∈Av L c,n<N)/\(Av L c).length<=200:=by
 unfold Av;split
 next s d=>
  have b:=qcR d;exact⟨(a s b).2.2.2.1,(a s b).2.2.2.2⟩
 ·exact⟨λn h=>(by cases h),AF _⟩
def ChkR.val{N:Nat}{L:List Af}{e:Int}(h:ChkR N L e):e=0∨e=1∨e=8∨e=6:=by
 rcases h with⟨rfl,_⟩|⟨_,⟨rfl,_⟩|⟨_,⟨rfl,_⟩|⟨rfl,_⟩⟩⟩<;>simp
def sH{w v:Nat}(i:Sh w v){l:Ty}{G e:TC}(g:ConsO w v l G)(b:ConsO w v l e){r:Mv}{L:List Af}(d:Lg (4*w*v) L)(h:zy (λc=>am (af (G c) r) (sd w c)) L):zy (λc=>am (af (e c) r) (sd w c)) L:=λs a c f=>by
 have:=h s a c f;simp only at this ⊢;rw[←qP i g b ((d s a).2.2.2.1 c f)];exact this
def My{w v:Nat}(m:Sh w v){l:Ty}{r:Mv}{L:List Af}(f:Lg (4*w*v) L){e e':Int}(h:Et w v l r L e)(h':Et w v l r L e'):e=e':=by
 rcases h with⟨rfl,d⟩|⟨G,i,h⟩
 ·rcases h' with⟨rfl,_⟩|⟨k,a,_⟩
  ·rfl
  ·exact absurd ⟨k,a.g,a.z⟩ d
 rcases h' with⟨rfl,d⟩|⟨k,a,h'⟩
 ·exact absurd ⟨G,i.g,i.z⟩ d
 rcases h with⟨n,j⟩|⟨j,h⟩<;>rcases h' with⟨c,b⟩|⟨b,h'⟩
 ·exact j.eq b
 ·have:=j.eq b;omega
 ·have:=j.eq b;omega
 ·rcases h with⟨rfl,h⟩|⟨rfl,h⟩<;>rcases h' with⟨c,h'⟩|⟨c,h'⟩
  ·exact c.symm
  ·exact absurd (sH m a i f h') h
  ·exact absurd (sH m i a f h) h'
  ·exact c.symm
section
variable {w v:Nat} {H:HL} {xl:Value} {r:Mv}
end
def O5:∀H,aD cc ab 13 [] H [.b true] H:=ir (n:=60) rfl (by kernel_rfl) rfl (by kernel_rfl)
theorem Ml{w v:Nat}{l:Ty}{P:TC}{hg:Tz}{E:List (Nat×Nat)}:(B2 w v l P hg E).length<=E.length:=by
 unfold B2;have b:∀(E:List (Nat×Nat)) (Q:List Sm),(E.foldl (λQ p=>iy w v l P hg Q p.1 p.2) Q).length<=Q.length+E.length:=by
  intro E
  induction E with
  |nil=>intro Q;exact Ah _
  |cons a E c=>
   intro Q;rw[IL];refine Es (c _) ?_;have:(iy w v l P hg Q a.1 a.2).length<=Q.length+1:=by
    unfold iy fX;rw[A9];split
    ·omega
    ·simp
   rw[C6];omega
 have:=b E [];simpa using this
def PQ{n:Nat}:(BE n 0).length=3*n:=by
 induction n with
 |zero=>rfl
 |succ n b=>
  rw[yg];have a:BE n 3=BE n 0++[(n,0),(n,1),(n,2)]:=by
   rw[wm,wm,wm];simp
  rw[a,Bv,b];simp;omega
structure SpR(w v:Nat)(l:Ty)(h:HL)(xl x:Value)(L:List Af):Prop where
 cr:LsH h xl 3 Ac l
 st:StL h x L
 len:L.length<=200
 ok:Lg (4*w*v) L
 cl:∀s∈L,-4000<=s.1.1/\s.1.1<=4000/\-4000<=s.1.2.1/\s.1.2.1<=4000
 tot:(bV L).length<=1000
def SpR.pre{w v:Nat}{l:Ty}{h h':HL}{c x:Value}{L:List Af}(a:SpR w v l h c x L)(b:Pre h h'):SpR w v l h' c x L:=⟨a.cr.pre b,a.st.pre b,a.len,a.ok,a.cl,a.tot⟩
def EvR(w v:Nat)(l:Ty)(r:Mv)(L:List Af)(e:Int):Prop:=(AK 1280 r/\Et w v l r L e)∨(Qs (Int.ofNat r.1) r.2.1 r.2.2=false/\e=1)
def Gb{k:Int}{r:Mv}(h:AK k r)(g:k<=16384):Qs (Int.ofNat r.1) r.2.1 r.2.2=true:=by
 obtain⟨b,c,d,e,f,a⟩:=h;unfold Qs;refine BJ ⟨?_,by omega,by omega,a⟩;show(r.1:Int)<8;omega
def EvR.eq{w v:Nat}(g:Sh w v){l:Ty}{r:Mv}{L:List Af}(d:Lg (4*w*v) L){e e':Int}(h:EvR w v l r L e)(h':EvR w v l r L e'):e=e':=by
 rcases h with⟨b,f⟩|⟨b,rfl⟩<;>rcases h' with⟨a,c⟩|⟨a,rfl⟩
 ·exact My g d f c
 ·rw[Gb b (by omega)]at a;cases a
 ·rw[Gb a (by omega)]at b;cases b
 ·rfl
section
variable {w v:Nat} (h3:S3 w v) {l:Ty} (hv:∀c∈l,VK w v c) (hlt:l.Pairwise λa b=>Do a b=true) (hn:l.length<=1000)
include h3 hv hlt hn
theorem U2:Pat w v l:=by
 obtain⟨a,b,c,d⟩:=h3;have k:=Bw (S3.sh ⟨a,b,c,d⟩);exact⟨by omega,λc f=>by
  obtain⟨⟨u,e,n,g,h,o,m,_,_,i,j⟩,_⟩:=hv c f;unfold EZ;rw[g,h];refine⟨?_,?_,?_,?_,i,j⟩
  ·show(0:Int)<=(u:Int);omega
  ·show(u:Int)<=1000;omega
  ·show(0:Int)<=(e:Int);omega
  ·show(e:Int)<=255;omega,hn,NT hv hlt⟩
end
def FSt.spr{w v n0:Nat}(e:S3 w v){h:HL}{z k:Value}{r:Mv}{l:Ty}{G:TC}{d:List Sk}(f:StH w v n0 h 1280 z r k l G d){x:Value}(j:LsH h x 4 Ar d):SpR w v l h z x (d.map CP):=by
 obtain⟨m,o,p,q⟩:=e.n;have b:=f.st;refine⟨f.cr,Mz j f.pc,?_,λs a=>?_,λs a=>?_,?_⟩
 ·have:=b.lenL;omega
 ·have g:=b.cell e a;have t:=b.lenP a;exact⟨g.1,by omega,b.st.ne s a,λc i=>b.idlt a i,by omega⟩
 ·have g:=b.cell e a;omega
 ·have:=b.tot;unfold bV;omega
def Ke{L:List Af}{k:Nat}{a a':Af}(b:L[k]?=some a):(bV (L.set k a')).length+a.2.length=(bV L).length+a'.2.length:=by
 have f:=dN (a:=a') b;have c:=dN (a:=a) b;rw[bq b]at c;have d:=(f.flatMap_right Prod.snd).length_eq;have e:=(c.flatMap_right Prod.snd).length_eq;rw[Df,Bv]at d e;unfold bV;omega
def SpR.set{w v:Nat}{l:Ty}{h h':HL}{e x:Value}{L:List Af}(d:SpR w v l h e x L)(n:LsH h' e 3 Ac l){k:Nat}{a a':Af}(g:L[k]?=some a)(o:StL h' x (L.set k a'))(h1:a'.1.2.2<4)(t:a'.1.1=a.1.1/\a'.1.2.1=a.1.2.1)(i:a'.2≠[])(j:∀c∈a'.2,c∈a.2)(u:a'.2.length<=a.2.length+1)(y:(bV L).length<=100/\a.2.length<=100):SpR w v l h' e x (L.set k a'):=by
 have f:=Ap g;obtain⟨z,A,o3,p,B⟩:=d.ok a f;have q:=d.cl a f;have r:=Ke (a':=a') g;refine⟨n,o,by rw[Bo];exact d.len,λs b=>?_,λs b=>?_,by omega⟩
 ·rcases R0 b with b|rfl
  ·exact d.ok s b
  ·exact⟨h1,by omega,i,λc m=>p c (j c m),by omega⟩
 ·rcases R0 b with b|rfl
  ·exact d.cl s b
  ·omega
def FSt.chk{w v:Nat}{k:Int}{l:Ty}{r:Mv}{G:TC}{L:List Af}(h:FSt w v k l r G L):ChkR (4*w*v) L 0:=by
 refine .inr ⟨λi a b c d=>?_,.inr ⟨h.st.pm.nodup_iff.2 qcT,.inr ⟨rfl,Nat.le_of_eq h.tot.symm⟩⟩⟩;have e:=qbz.1 h.ss i (i+1) (al c) (al d) (by omega);rw[Be (al c)]at c;rw[Be (al d)]at d;rw[←AR c,←AR d];exact e
def FSt.stk{w v:Nat}(c:Sh w v){k:Int}{l:Ty}{r:Mv}{G:TC}{L:List Af}(h:FSt w v k l r G L)(a:Lg (4*w*v) L){e:Int}(b:Et w v l r L e):e=0:=
 My c a b (.inr ⟨G,h.co,.inr ⟨h.chk,.inr ⟨rfl,h.st.at'⟩⟩⟩)
structure OfT(w v:Nat)(l:Ty)(G:TC)(r:Mv)(L:List Af)(S:List Sm):Prop where
 hE:Eds w v l (λn=>af (G n) r)
 hL:Lys (4*w*v) (AU w (λn=>af (G n) r)) L (Cm (4*w*v) L)
 t:∀s∈S,SmT w v l (λn=>af (G n) r) L (Cm (4*w*v) L) s
 asc:(S.map (·.k)).Pairwise λa b=>EI b a
 len:S.length<=3*(4*w*v)
 tot:(S.map λs=>(Ba w (λn=>af (G n) r) L s.k.1 s.k.2).length+(Ba w (λn=>af (G n) r) L s.k.2 s.k.1).length).sum=3*(4*w*v)
def UP{w v:Nat}(g:S3 w v){k:Int}{l:Ty}{r:Mv}{G j:TC}{L:List Af}(h:FSt w v k l r j L)(b:Lg (4*w*v) L)(i:ConsO w v l G){S:List Sm}(d:OfR (Cm (4*w*v) L) (B2 w v l (λn=>af (G n) r) (Cm (4*w*v) L) (BE (4*w*v) 0)) S):OfT w v l G r L S:=by
 have e:=S7 g (λc p=>(h.vk c p).k0) i h.rk;have f:Lys (4*w*v) (AU w (λn=>af (G n) r)) L (Cm (4*w*v) L):=Up b h.chk (sH g.sh h.co i b h.st.at');have a:=lh h.so;refine⟨e,f,λs q=>Mh e f a d q,d.asc,?_,Mi e f a d⟩;have m:=d.ks.length_eq;rw[A9,A9]at m;have o:=@Ml w v l (λn=>af (G n) r) (Cm (4*w*v) L) (BE (4*w*v) 0);rw[PQ]at o;omega
def ME{α:Type}{f:α->Nat}{S:List α}{j:Nat}{s:α}(a:S[j]?=some s):((S.take (j+1)).map f).sum=((S.take j).map f).sum+f s/\((S.take (j+1)).map f).sum<=(S.map f).sum:=by
 constructor
 ·rw[Ec,a,CA,List.sum_append];simp
 ·have:(S.map f).sum=((S.take (j+1)).map f).sum+((S.drop (j+1)).map f).sum:=by
   rw[←List.sum_append,←CA,LW]
  omega
def Ud{H:HL}{x:Value}{l:Tx}(d:LsH H x 1 kl l)(p:l.length<=1000000){i n:Nat}(f:l[i]?=some n)(k:∀j,l[j]?=some n->j=i):aD cc ab 90 [.v x,.i (Int.ofNat n)] (ka aa H) [.i (Int.ofNat i)] (ka aa H):=by
 exact xK x90 (oo d.good (km ua)) (by
  unfold f90;simp only[xp];refine jn ?_;refine bz d ?_;have m:=al f;refine cG i (λ_=>True) (j0:=0) rfl (AF _) trivial ?_;intro j o _ g b;refine jn ?_;rw[au (by omega)];refine jn ?_;obtain⟨a,c⟩:=aG (l:=l) (i:=j) (by omega);refine aP d rfl c ?_;rw[show kl a=[.int .i64 (Int.ofNat a)]from rfl];refine jn ?_;by_cases e:a=n
  ·subst e;rw[Aq rfl];refine jn ?_;rw[k j c];trivial
  ·rw[Ai (λh=>e (Du h).symm)];refine jn ?_;rw[aI (by omega)];refine b ?_ trivial;rcases Bu j i with h|h
   ·exact h
   ·have:j=i:=by omega
    subst this;rw[f]at c;cases c;exact absurd rfl e)
def sp1_c{h:HL}{b c:Nat}{y:Value}{Y:Tx}(d:h[b]?=some (.o (.cells [y] 1 true)))(a:h[c]?=some (.o (.cells [.bool true] 1 true)))(e:LsH h y 1 kl Y)(k:Y.length<=1000000){i n:Nat}(g:Y[i]?=some n)(f:∀j,Y[j]?=some n->j=i) :
  aD cc ab 89 [.i (Int.ofNat n),.v (te b),.v (te c)] (ka aa h) [.i (Int.ofNat i)] (ka aa h):=by
 exact xK x89 (km (oo (aS _) (oo (aS _) ua))) (by
  unfold f89;simp only[xp];refine jn ?_;refine cq (cU d) rfl ?_;refine jn ?_;refine ac e.good ?_;refine pu ?_;refine ai (Ud e k g f) ?_;refine jn ?_;refine cq (cU a) rfl ?_;refine jn ?_;rw[BI (show(0:Int)<=Int.ofNat i from B8 i)];refine sS a rfl ?_;rw[bq a]
  try simp(disch:=omega)only[↓po]
  trivial)
def C4(hg:Tz)(a:Nat)(x:Lq):Option (Nat×Nat):=if x.1=a then some (min (hg x.2.1) (hg x.2.2),max (hg x.2.1) (hg x.2.2))else none
def BG(hg:Tz)(a:Nat)(x:Pq):Nat:=hg (if a=0 then x.1 else x.2)
def Qg{H:HL}{y:Value}{Y:Tx}(hY:LsH H y 1 kl Y)(hn:Y.length<=1000000){hg:Tz}(Q:∀(i:Nat) n,Y[i]?=some n->hg n=i){k:K6}{v1 v2 v3:Value}{C:List Pq}{ls:List Lq}(h1:LsH H v1 2 fe C)(X:LsH H v2 3 fP ls)(h3:aC v3=true)(n1:C.length<=1000)(n2:ls.length<=1000){l:Nat}(a4:l<2)
  (m1:∀p∈C,(if l=0 then p.1 else p.2)∈Y) (m2:∀x∈ls,x.1=l->x.2.1∈Y/\x.2.2∈Y) :
  ∃M N h',aD cc ab 44 (As k.1++As k.2++[.v v1,.v v2,.v v3,.i (Int.ofNat l),.v y]) (ka aa H) [.v M,.v N,.b true] (ka aa h')/\Pre H h'/\LsH h' M 2 fe (ls.filterMap (C4 hg l))/\LsH h' N 1 kl (C.map (BG hg l)):=by
 have aE:=x44 (ls:=[.i k.1.1,.i k.1.2.1,.i (Int.ofNat k.1.2.2),.i k.2.1,.i k.2.2.1,.i (Int.ofNat k.2.2.2),.v v1,.v v2,.v v3,.i (Int.ofNat l),.v y]) (K:=λrs h'=>∃M N,rs=[.v M,.v N,.b true]/\Pre H h'/\LsH h' M 2 fe (ls.filterMap (C4 hg l))/\LsH h' N 1 kl (C.map (BG hg l))) (H:=H) (km (km (km (km (km (km (oo h1.good (oo X.good (oo h3 (km (oo hY.good ua))))))))))) (by
  unfold f44;simp only[xp];refine jn ?_;have e30:(H++[HO.o (.cells [y] 1 true)]++[HO.o (.cells [.bool false] 1 true)])[(H++[HO.o (.cells [y] 1 true)]).length]?=some (.o (.cells [.bool false] 1 true)):=az;refine sS e30 rfl ?_;rw[ed];refine pu ?_;have D:(H++[HO.o (.cells [y] 1 true)]++[HO.o (.cells [.bool true] 1 true)])[(H++[HO.o (.cells [y] 1 true)]).length]?=some (.o (.cells [.bool true] 1 true)):=az;have e28:(H++[HO.o (.cells [y] 1 true)]++[HO.o (.cells [.bool true] 1 true)])[H.length]?=some (.o (.cells [y] 1 true)):=ik az;have A:Pre H (H++[HO.o (.cells [y] 1 true)]++[HO.o (.cells [.bool true] 1 true)]):=((Pre.refl H).app _).app _;generalize H++[HO.o (.cells [y] 1 true)]++[HO.o (.cells [.bool true] 1 true)]=g0 at *;generalize (H++[HO.o (.cells [y] 1 true)]).length=m30 at *;generalize H.length=m28 at *;have u:∀ {g:HL},Pre g0 g->∀n,n∈Y->∀ {K:Td},K [.i (Int.ofNat (hg n))] g->P1.callv (.func (.func 89) ⟨[]⟩ ⟨[te m28,te m30]⟩) [.int .i64 (Int.ofNat n)] [.leaf (.i .i64)] g (@hid _ ⟨K⟩):=λ{g} w n ag K V=>by
   obtain⟨i,hi⟩:=BK ag;have e:=Q i n hi;rw[e]at V;exact ju (jC (sp1_c (w.get e28) (w.get D) ((hY.pre A).pre w) hn hi λj hj=>(Q j n hj).symm.trans e) rfl [.leaf (.i .i64 (Int.ofNat n)),.leaf (.v (te m28)),.leaf (.v (te m30))] rfl rfl rfl) V
  refine ac (show aC (.func (.func 89) ⟨[]⟩ ⟨[te m28,te m30]⟩)=true from rfl) ?_;refine pu ?_;refine bz (h1.pre A) ?_;refine aO (σ:=HL×Value) C.length (λj s=>[.v s.2,.i (Int.ofNat j)]) (λ_ s=>s.1) (λj s=>Pre g0 s.1/\aC s.2=true/\MkL g0.length s.1 s.2 1 kl ((C.take j).map (BG hg l))) (j0:=0) (s0:=(g0,.slice none 0 0)) rfl rfl (AF _) ⟨.refl _,rfl,.nil _ _ _ _⟩ ?_;rintro j ⟨g,z⟩ hj ⟨w,ay,P⟩ F q;simp only at w ay P ⊢;refine jn ?_;by_cases t:j<C.length
  case pos=>
   rw[au t];refine jn ?_;obtain⟨p,L⟩:=aG t;have ar:=m1 p (Ap L);refine aP ((h1.pre A).pre w) rfl L ?_;rw[show fe p=[.int .i64 (Int.ofNat p.1),.int .i64 (Int.ofNat p.2)]from rfl];refine jn ?_;have ad:Cf 2 (Int.ofNat l)=some ():=by
    obtain rfl|rfl:l=0∨l=1:=by omega
    ·rfl
    ·rfl
   have an:mG [.i (Int.ofNat p.1),.i (Int.ofNat p.2)] 0 [(Int.ofNat l,1)] 1=some [.i (Int.ofNat (if l=0 then p.1 else p.2))]:=by
    obtain rfl|rfl:l=0∨l=1:=by omega
    ·rfl
    ·rfl
   refine ae ad ?_;refine ae an ?_;refine jn ?_;refine u w _ ar ?_;refine jn ?_;refine xS (h0:=g0) (a:=BG hg l p) w P rfl rfl rfl rfl (by
    unfold bb;rw[A9,BX,Bg (by omega),Bg (by omega)];rfl) ?_
   intro B h' J I m _ _;refine jn ?_;refine ac m ?_;refine pu ?_;rw[aI (by omega)];refine q (h',B) t ⟨J,m,?_⟩;rw[Ec,L,CA];exact I
  obtain rfl:j=C.length:=by omega
  rw[ao (Ah _)];refine jn ?_;rw[IJ]at P;have Z:=P.ls;clear q P;refine bz ((X.pre A).pre w) ?_;refine aO (σ:=HL×Value) ls.length (λj s=>[.v s.2,.i (Int.ofNat j)]) (λ_ s=>s.1) (λj s=>Pre g s.1/\aC s.2=true/\MkL g.length s.1 s.2 2 fe ((ls.take j).filterMap (C4 hg l))) (j0:=0) (s0:=(g,.slice none 0 0)) rfl rfl (AF _) ⟨.refl _,rfl,.nil _ _ _ _⟩ ?_;rintro j ⟨f,zl⟩ hj ⟨r,E,O⟩ F q;simp only at r E O ⊢;refine jn ?_;by_cases t:j<ls.length
  case neg=>
   obtain rfl:j=ls.length:=by omega
   rw[ao (Ah _)];refine jn ?_;rw[IJ]at O;have e:=(w.trans r).get D;refine cq (cU e) rfl ?_;refine jn ?_;refine sS e rfl ?_;rw[bq e];refine pu ?_;refine fG (Ptr.ld (cU e) rfl) ?_;refine jn ?_;exact⟨zl,z,rfl,A.trans (w.trans r),O.ls,Z.pre r⟩
  rw[au t];refine jn ?_;obtain⟨x,hx⟩:=aG t;have ax:=m2 x (Ap hx);have U:(ls.take (j+1)).filterMap (C4 hg l)=(ls.take j).filterMap (C4 hg l)++(C4 hg l x).toList:=by
   rw[Ec,hx,qde];cases h:C4 hg l x<;>simp[h]
  refine aP (((X.pre A).pre w).pre r) rfl hx ?_;rw[show fP x=[.int .u8 (Int.ofNat x.1),.int .i64 (Int.ofNat x.2.1),.int .i64 (Int.ofNat x.2.2)]from rfl];refine jn ?_;by_cases T:x.1=l
  case neg=>
   rw[Ai (λe=>T (Du e))];refine jn ?_;rw[aI (by omega)];refine q (f,zl) t ⟨r,E,?_⟩;have W:C4 hg l x=none:=by unfold C4;rw[ra T]
   rw[U,W];simpa using O
  rw[Aq (by rw[T])];refine jn ?_;obtain⟨y1,y2⟩:=ax T;refine u (w.trans r) _ y1 ?_;refine jn ?_;refine u (w.trans r) _ y2 ?_;refine jn ?_;have a0:((ls.take j).filterMap (C4 hg l)).length<=1000:=by
   have h1:=qch (C4 hg l) (ls.take j);rw[BX]at h1;omega
  have G:∀ {a b:Nat},a=min (hg x.2.1) (hg x.2.2)->b=max (hg x.2.1) (hg x.2.2)->∀ {K:Ta},(∀B h',aC B=true->F [.v B,.i (Int.ofNat j+1)] h'->K [B] h')->P1.heap (.ap cc 2 16 zl (.slice (some ⟨f.length,0,some 12⟩) 1 2)) (f++[.o (.cells [.int .i64 (Int.ofNat a),.int .i64 (Int.ofNat b)] 2 true)]) (@hid _ ⟨K⟩):=λ{a b} ea eb K V=>by
   refine xS (h0:=g) (a:=((a,b):Pq)) r O rfl rfl rfl rfl (by
    unfold bb;rw[Bg (by omega),Bg (by omega)];rfl) ?_
   intro B h' J I m _ _;refine V B h' m (q (h',B) t ⟨J,m,?_⟩);have W:C4 hg l x=some (a,b):=by unfold C4;rw[mc T,←ea,←eb]
   rw[U,W];exact I
  by_cases R:hg x.2.2<hg x.2.1
  ·rw[au R];refine jn ?_;rw[ao (by omega)];refine jn ?_;refine G (by omega) (by omega) λB h' m d=>?_;refine jn ?_;refine ac m ?_;refine pu ?_;rw[aI (by omega)];exact d
  ·rw[ao (by omega)];refine jn ?_;by_cases S:hg x.2.1<hg x.2.2
   ·rw[au S];refine jn ?_;refine G (by omega) (by omega) λB h' m d=>?_;refine jn ?_;refine ac m ?_;refine pu ?_;rw[aI (by omega)];exact d
   ·rw[ao (by omega)];refine jn ?_;refine G (by omega) (by omega) λB h' m d=>?_;refine jn ?_;refine ac m ?_;refine pu ?_;rw[aI (by omega)];exact d)
 obtain⟨rs,h',c,M,N,rfl,a1,a2,a3⟩:=aE;exact⟨M,N,h',c,a1,a2,a3⟩
def Vs{H:HL}{x:Value}{L:List Af}(J:StL H x L)(T:L.length<=1000)(r:∀s∈L,s.2≠[]/\s.2.length<=1000)(c:Cl) :
  ∃y h',aD cc ab 43 ([.v x]++As c) (ka aa H) [.v y] (ka aa h')/\Pre H h'/\LsH h' y 1 kl (Av L c):=by
 obtain⟨M,q,u,G⟩:=J;have z:=x43 (ls:=[.v x,.i c.1,.i c.2.1,.i (Int.ofNat c.2.2)]) (K:=λB h'=>∃y,B=[.v y]/\Pre H h'/\LsH h' y 1 kl (Av L c)) (H:=H) (oo q.good (km (km (km ua)))) (by
  unfold f43;simp only[xp];refine jn ?_;refine bz q ?_;rw[u];refine cG L.length (λj=>∀n,n<j->∀t,L[n]?=some t->t.1≠c) (j0:=0) rfl (AF _) (λn h=>by omega) ?_;intro i S d C f;refine jn ?_;by_cases o:i<L.length
  case neg=>
   obtain rfl:i=L.length:=by omega
   rw[ao (Ah _)];refine jn ?_;refine⟨_,by first|rfl|trivial,.refl _,?_⟩;unfold Av;rw[ui λj t k=>d j (al k) t k];exact .nil _ _ _
  rw[au o];refine jn ?_;obtain⟨⟨a,y⟩,A⟩:=aG (l:=M) (i:=i) (by omega);obtain⟨V,b,g⟩:=G i _ A;simp only at b g;obtain⟨w,m⟩:=r _ (Ap b);refine aP q rfl A ?_;rw[show AA (a,y)=[.int .i64 a.1,.int .i64 a.2.1,.int .u8 (Int.ofNat a.2.2),y]from rfl];refine jn ?_;refine ac g.good ?_;refine pu ?_;rw[Ho];by_cases p:a=c
  ·rw[BJ p];refine jn ?_;obtain⟨W,R,h',N,O,P,Q,U,_⟩:=Rj g (λe=>absurd e w) m;refine ai N ?_;refine jn ?_;refine ai (O _) ?_;refine jn ?_;refine⟨R,by first|rfl|trivial,P,?_⟩;unfold Av;rw[kX b p d];exact Q
  ·rw[Ch p];refine jn ?_;rw[aI (by omega)];exact f o λn I t k=>by
    by_cases e:n=i
    ·subst e;rw[b]at k;cases k;exact p
    ·exact d n (by omega) t k)
 obtain⟨B,h',D,y,rfl,E,F⟩:=z;exact⟨y,h',D,E,F⟩
def XQ{H:HL}{x:Value}{l:List Lq}(e:LsH H x 3 fP l)(o:l.length<=1000)(h:∀a∈l,a.1<2):aD cc ab 45 [.v x,.v (.func (.func 46) ⟨[]⟩ ⟨[]⟩)] (ka aa H) [.b false] (ka aa H):=by
 have k:∀(a:Lq),a.1<2->Cc 46 [.i (Int.ofNat a.1),.i (Int.ofNat a.2.1),.i (Int.ofNat a.2.2)] [.b false]:=λa f=>by
  refine q46 rfl ?_;unfold YX;simp only[xp];refine jn ?_;rw[Ag (show Int.ofNat a.1<=1 by show(a.1:Int)<=1;omega)]
  try rfl
 have m:aD cc ab 91 [.v x,.v (.func (.func 46) ⟨[]⟩ ⟨[]⟩)] (ka aa H) [.i (-1)] (ka aa H):=by
  exact xK x91 (oo e.good (oo rfl ua)) (by
   unfold f91;simp only[xp];refine jn ?_;refine bz e ?_;refine cG l.length (λ_=>True) (j0:=0) rfl (AF _) trivial ?_;intro j n _ g d;refine jn ?_;by_cases c:j<l.length
   ·rw[au c];refine jn ?_;obtain⟨a,f⟩:=aG c;refine aP e rfl f ?_;rw[show fP a=[.int .u8 (Int.ofNat a.1),.int .i64 (Int.ofNat a.2.1),.int .i64 (Int.ofNat a.2.2)]from rfl];refine jn ?_;refine ju (mV (k a (h a (Ap f)) _) rfl [.agg [.i .u8 (Int.ofNat a.1),.i .i64 (Int.ofNat a.2.1),.i .i64 (Int.ofNat a.2.2)]] rfl rfl) ?_;refine jn ?_;rw[aI (by omega)];exact d c trivial
   ·obtain rfl:j=l.length:=by omega
    rw[ao (Ah _)];simp(disch:=omega)only[↓po];trivial)
 exact xK x45 (oo e.good (oo rfl ua)) (by
  unfold f45;simp only[xp];refine jn ?_;refine ai m ?_;simp(disch:=omega)only[↓po]
  try rw[Bn (by decide)]
  try simp(disch:=omega)only[↓po]
  trivial)
def Rm(x y:Pq):Prop:=(x.1<y.1/\y.1<x.2/\x.2<y.2)∨(y.1<x.1/\x.1<y.2/\y.2<x.2)
def crA(a:List Pq)(b:Tx)(i:Nat):Prop:=∃x,a[i]?=some x/\((∃h∈b,x.1<h/\h<x.2)∨∃(j:Nat) (y:Pq),j<i/\a[j]?=some y/\Rm x y)
def VF(a:List Pq)(b:Tx):Prop:=∃i,crA a b i
def X4(p q:Tx)(i k:Nat):Prop:=∃a b c d:Nat,p[i]?=some a/\p[k]?=some b/\q[i]?=some c/\q[k]?=some d/\Ad (Int.ofNat a) (Int.ofNat b)*Ad (Int.ofNat c) (Int.ofNat d)<0
def Rl(p q:Tx):Prop:=∃i k,k<i/\X4 p q i k
def Pm{a b:Int}(c:a = -1∨a=0∨a=1)(d:b = -1∨b=0∨b=1):-1<=a*b/\a*b<=1:=by
 rcases c with rfl|rfl|rfl<;>rcases d with rfl|rfl|rfl<;>decide
def DG(hg:Tz)(b:List Pq)(ls:List Lq)(a:Nat):Prop:=VF (ls.filterMap (C4 hg a)) (b.map (BG hg a))
def Hf{H:HL}{x:Value}{L:List Af}(J:StL H x L)(hn:L.length<=1000)(b3:∀s∈L,s.2≠[]/\s.2.length<=1000){hg:Tz}(b0:∀c (i:Nat) n,(Av L c)[i]?=some n->hg n=i)(bm:∀c,(Av L c).length<=1000){k:K6}{v1 v2 v3:Value}{f:List Pq}{ls:List Lq}(h1:LsH H v1 2 fe f)(C:LsH H v2 3 fP ls)(P:aC v3=true)(n1:f.length<=1000)(n2:ls.length<=1000)
  (m1:∀p∈f,p.1∈Av L k.1/\p.2∈Av L k.2) (m2:∀x∈ls,(x.1=0/\x.2.1∈Av L k.1/\x.2.2∈Av L k.1)∨(x.1=1/\x.2.1∈Av L k.2/\x.2.2∈Av L k.2)) :
  ∃e h',aD cc ab 15 (As k.1++As k.2++[.v v1,.v v2,.v v3,.v x]) (ka aa H) [.i e] (ka aa h')/\Pre H h'/\((e=12/\(DG hg f ls 0∨DG hg f ls 1∨Rl (f.map (BG hg 0)) (f.map (BG hg 1))))∨(e=0/\¬(DG hg f ls 0∨DG hg f ls 1∨Rl (f.map (BG hg 0)) (f.map (BG hg 1))))):=by
 have b1:aC x=true:=by
  obtain⟨M,hM,_⟩:=J;exact hM.good
 have b8:=x15 (ls:=[.i k.1.1,.i k.1.2.1,.i (Int.ofNat k.1.2.2),.i k.2.1,.i k.2.2.1,.i (Int.ofNat k.2.2.2),.v v1,.v v2,.v v3,.v x]) (K:=λrs h'=>∃e:Int,rs=[.i e]/\Pre H h'/\((e=12/\(DG hg f ls 0∨DG hg f ls 1∨Rl (f.map (BG hg 0)) (f.map (BG hg 1))))∨(e=0/\¬(DG hg f ls 0∨DG hg f ls 1∨Rl (f.map (BG hg 0)) (f.map (BG hg 1)))))) (H:=H) (km (km (km (km (km (km (oo h1.good (oo C.good (oo P (oo b1 ua)))))))))) (by
  unfold f15;simp only[xp];refine jn ?_;refine ae (x:=2) rfl ?_;refine pu ?_;have hA:LsH (H++[HO.o (.cells [.int .i64 k.1.1,.int .i64 k.1.2.1,.int .u8 (Int.ofNat k.1.2.2),.int .i64 k.2.1,.int .i64 k.2.2.1,.int .u8 (Int.ofNat k.2.2.2)] 3 true)]) (.slice (some ⟨H.length,0,some 13⟩) 2 3) 3 bu [k.1,k.2]:=bW (L:=[k.1,k.2]) ee az rfl;have ag:Pre H (H++[HO.o (.cells [.int .i64 k.1.1,.int .i64 k.1.2.1,.int .u8 (Int.ofNat k.1.2.2),.int .i64 k.2.1,.int .i64 k.2.2.1,.int .u8 (Int.ofNat k.2.2.2)] 3 true)]):=⟨_,rfl⟩;generalize H++[HO.o (.cells [.int .i64 k.1.1,.int .i64 k.1.2.1,.int .u8 (Int.ofNat k.1.2.2),.int .i64 k.2.1,.int .i64 k.2.2.1,.int .u8 (Int.ofNat k.2.2.2)] 3 true)]=g0 at *;generalize H.length=m26 at *;refine aO (σ:=HL×Bool×Value×Value) 2 (λj s=>[.b s.2.1,.i (Int.ofNat j),.v s.2.2.1,.v s.2.2.2]) (λ_ s=>s.1) (λj s=>Pre g0 s.1/\(0<j->LsH s.1 s.2.2.1 1 kl (f.map (BG hg 0)))/\(1<j->LsH s.1 s.2.2.2 1 kl (f.map (BG hg 1)))/\(s.2.1=true↔(0<j/\DG hg f ls 0)∨(1<j/\DG hg f ls 1))) (j0:=0) (s0:=(g0,false,.slice none 0 0,.slice none 0 0)) rfl rfl (AF _) ⟨.refl _,λh=>by omega,λh=>by omega,⟨λh=>(by cases h),λh=>by omega⟩⟩ ?_;rintro w ⟨g,t,p0,p1⟩ cm ⟨S,i0,i1,ad⟩ V r
  simp only at S i0 i1 ad ⊢;refine jn ?_;by_cases bt:w<2
  case neg=>
   obtain rfl:w=2:=by omega
   rw[tx (show(2:Int)<=Int.ofNat 2 from Gn _)];refine jn ?_;have q0:=i0 (by omega);have q1:=i1 (by omega);clear r;refine bz q0 ?_;rw[A9];refine aO (σ:=Bool) f.length (λj s=>[.b s,.i (Int.ofNat j)]) (λ_ _=>g) (λj s=>s=true↔t=true∨∃i D,i<j/\D<i/\X4 (f.map (BG hg 0)) (f.map (BG hg 1)) i D) (j0:=0) (s0:=t) rfl rfl (AF _) ⟨.inl,λh=>h.elim id λ⟨_,_,h,_⟩=>by omega⟩ ?_;rintro i t1 hi bI V r;refine jn ?_;by_cases E:i<f.length
   case neg=>
    obtain rfl:i=f.length:=by omega
    rw[ao (Ah _)];refine jn ?_;have ap:t1=true↔(DG hg f ls 0∨DG hg f ls 1∨Rl (f.map (BG hg 0)) (f.map (BG hg 1))):=by
     rw[bI,ad];constructor
     ·rintro((⟨_,h⟩|⟨_,h⟩)|⟨i,D,_,C,P⟩)
      ·exact .inl h
      ·exact .inr (.inl h)
      ·exact .inr (.inr ⟨i,D,C,P⟩)
     ·rintro(h|h|⟨i,D,C,P⟩)
      ·exact .inl (.inl ⟨by omega,h⟩)
      ·exact .inl (.inr ⟨by omega,h⟩)
      ·refine .inr ⟨i,D,?_,C,P⟩;obtain⟨a,b,c,d,e1,_⟩:=P;have:=al e1
       rwa [A9]at this
    cases t1 with
    |true=>
     refine jn ?_;exact⟨12,rfl,ag.trans S,.inl ⟨rfl,ap.1 rfl⟩⟩
    |false=>
     refine jn ?_;exact⟨0,rfl,ag.trans S,.inr ⟨rfl,λh=>by have:=ap.2 h;cases this⟩⟩
   rw[au E];refine jn ?_;refine aO (σ:=Bool) i (λj s=>[.b s,.i (Int.ofNat j)]) (λ_ _=>g) (λj s=>s=true↔t1=true∨∃D,D<j/\X4 (f.map (BG hg 0)) (f.map (BG hg 1)) i D) (j0:=0) (s0:=t1) rfl rfl (AF _) ⟨.inl,λh=>h.elim id λ⟨_,h,_⟩=>by omega⟩ ?_;rintro D t2 cl bP W B;refine jn ?_;by_cases Q:D<i
   case neg=>
    obtain rfl:D=i:=by omega
    rw[ao (Ah _)];refine jn ?_;rw[aI (by omega)];refine r t2 E ?_;rw[bP,bI];constructor
    ·rintro((h|⟨i,D,h1,C,P⟩)|⟨j,h1,C⟩)
     ·exact .inl h
     ·exact .inr ⟨i,D,by omega,C,P⟩
     ·exact .inr ⟨D,j,by omega,h1,C⟩
    ·rintro(h|⟨i,j,h1,C,P⟩)
     ·exact .inl (.inl h)
     ·by_cases e:i=D
      ·subst e;exact .inr ⟨j,C,P⟩
      ·exact .inl (.inr ⟨i,j,by omega,C,P⟩)
   rw[au Q];refine jn ?_;obtain⟨a,ha⟩:=aG (l:=f.map (BG hg 0)) (i:=i) (by rw[A9];exact E);obtain⟨b,hb⟩:=aG (l:=f.map (BG hg 0)) (i:=D) (by rw[A9];omega);obtain⟨c,hc⟩:=aG (l:=f.map (BG hg 1)) (i:=i) (by rw[A9];exact E);obtain⟨d,hd⟩:=aG (l:=f.map (BG hg 1)) (i:=D) (by rw[A9];omega);refine aP q0 rfl ha ?_;rw[show kl a=[.int .i64 (Int.ofNat a)]from rfl];refine jn ?_;refine aP q0 rfl hb ?_;rw[show kl b=[.int .i64 (Int.ofNat b)]from rfl];refine jn ?_;refine ah (DN _ _) ?_;refine jn ?_;refine aP q1 rfl hc ?_;rw[show kl c=[.int .i64 (Int.ofNat c)]from rfl];refine jn ?_;refine aP q1 rfl hd ?_;rw[show kl d=[.int .i64 (Int.ofNat d)]from rfl];refine jn ?_;refine ah (DN _ _) ?_;refine jn ?_;have hm:=Pm (wS (Int.ofNat a) (Int.ofNat b)) (wS (Int.ofNat c) (Int.ofNat d));rw[Lu (by omega) (by omega)];have be:X4 (f.map (BG hg 0)) (f.map (BG hg 1)) i D↔Ad (Int.ofNat a) (Int.ofNat b)*Ad (Int.ofNat c) (Int.ofNat d)<0:=by
    constructor
    ·rintro⟨a',b',c',d',e1,e2,e3,e4,h⟩;rw[ha]at e1;rw[hb]at e2;rw[hc]at e3;rw[hd]at e4;cases e1;cases e2;cases e3;cases e4;exact h
    ·exact λh=>⟨a,b,c,d,ha,hb,hc,hd,h⟩
   generalize Ad (Int.ofNat a) (Int.ofNat b)*Ad (Int.ofNat c) (Int.ofNat d)=z at *;by_cases hz:z<0
   ·rw[us hz];refine jn ?_;rw[aI (by omega)];exact B true Q ⟨λ_=>.inr ⟨D,by omega,be.2 hz⟩,λ_=>rfl⟩
   ·rw[tx (by omega)];refine jn ?_;rw[aI (by omega)];refine B t2 Q (bP.trans ?_);constructor
    ·rintro(h|⟨j,h1,C⟩)
     ·exact .inl h
     ·exact .inr ⟨j,by omega,C⟩
    ·rintro(h|⟨j,h1,C⟩)
     ·exact .inl h
     ·by_cases e:j=D
      ·subst e;exact absurd (be.1 C) hz
      ·exact .inr ⟨j,by omega,C⟩
  obtain⟨c,hc,b2,b9,cd,ay⟩ : ∃c,[k.1,k.2][w]?=some c/\Cf 2 (Int.ofNat w)=some ()/\(∀p∈f,(if w=0 then p.1 else p.2)∈Av L c)/\(∀x∈ls,x.1=w->x.2.1∈Av L c/\x.2.2∈Av L c)/\∀z,∃u v,LN [.v p0,.v p1] 0 [(Int.ofNat w,1)] [.v z]=some [.v u,.v v]/\(w=0->u=z)/\(w=1->u=p0/\v=z):=by
   obtain rfl|rfl:w=0∨w=1:=by omega
   ·exact⟨k.1,rfl,rfl,λp S=>(m1 p S).1,λx J e=>(m2 x J).elim (λh=>h.2) λh=>by omega,λz=>⟨z,p1,rfl,λ_=>rfl,λh=>by omega⟩⟩
   ·exact⟨k.2,rfl,rfl,λp S=>(m1 p S).2,λx J e=>(m2 x J).elim (λh=>by omega) λh=>h.2,λz=>⟨p0,z,rfl,λh=>by omega,λ_=>⟨rfl,rfl⟩⟩⟩
  rw[us (show Int.ofNat w<2 by show(w:Int)<2;omega)];refine jn ?_;refine aP (hA.pre S) rfl hc ?_;rw[show bu c=[.int .i64 c.1,.int .i64 c.2.1,.int .u8 (Int.ofNat c.2.2)]from rfl];refine jn ?_;obtain⟨y,g1,ca,a6,hY⟩:=Vs (J.pre (ag.trans S)) hn b3 c;simp only[As,AO,AG]at ca;refine ai ca ?_;simp(disch:=omega)only[↓po]
  try rw[Gf (show(0:Int)<=Int.ofNat w from B8 w) (by show(w:Int)<=255;omega)]
  refine pu ?_;have a5:=(ag.trans S).trans a6;obtain⟨z1,z2,X,cb,a7,a9,an⟩:=Qg hY (by have:=bm c;omega) (b0 c) (k:=k) (h1.pre a5) (C.pre a5) P n1 n2 bt b9 cd;simp only[As,AO,AG]at cb;refine ai cb ?_;simp(disch:=omega)only[↓po,BS];refine ai (XQ (C.pre (a5.trans a7)) n2 λa ha=>by rcases m2 a ha with h|h<;>omega) ?_;refine jn ?_;obtain⟨u,v,b4,b5,bS⟩:=ay z2;refine ae b2 ?_;refine ae b4 ?_;refine jn ?_;refine bz a9 ?_;have bs:=(S.trans a6).trans a7;have bx:DG hg f ls w=VF (ls.filterMap (C4 hg w)) (f.map (BG hg w)):=rfl;have cf:(ls.filterMap (C4 hg w)).length<=1000:=Es (qch _ _) n2;have ci:(f.map (BG hg w)).length<=1000:=by rw[A9];exact n1
  have R:∀t':Bool,(t'=true↔t=true∨DG hg f ls w)->V [.b t',.i (Int.ofNat w+1),.v u,.v v] X:=λt' a8=>by
   refine r (X,t',u,v) bt ⟨bs,λ_=>?_,λh=>?_,a8.trans ?_⟩
   ·obtain rfl|rfl:w=0∨w=1:=by omega
    ·rw[b5 rfl];exact an
    ·rw[(bS rfl).1];exact(i0 (by omega)).pre (a6.trans a7)
   ·obtain rfl:w=1:=by omega
    rw[(bS rfl).2];exact an
   ·rw[ad];obtain rfl|rfl:w=0∨w=1:=by omega
    ·constructor
     ·rintro((⟨h,_⟩|⟨h,_⟩)|h)
      ·omega
      ·omega
      ·exact .inl ⟨by omega,h⟩
     ·rintro(⟨_,h⟩|⟨h,_⟩)
      ·exact .inr h
      ·omega
    ·constructor
     ·rintro((⟨_,h⟩|⟨h,_⟩)|h)
      ·exact .inl ⟨by omega,h⟩
      ·omega
      ·exact .inr ⟨by omega,h⟩
     ·rintro(⟨_,h⟩|⟨_,h⟩)
      ·exact .inl (.inl ⟨by omega,h⟩)
      ·exact .inr h
  rw[bx]at R;generalize ls.filterMap (C4 hg w)=lp at *;generalize f.map (BG hg w)=th at *;clear r ad i0 i1 ay;refine kg (λbX h'=>h'=X/\∃t',bX=[.b t']/\(t'=true↔t=true∨VF lp th)) ?_ ?_
  ·rintro bX h' ⟨rfl,t',rfl,a8⟩;refine jn ?_;rw[aI (by omega)];exact R t' a8
  intro jj bl;have F:VF lp th->jj [.b true] X:=λh=>bl _ _ ⟨rfl,true,rfl,⟨λ_=>.inr h,λ_=>rfl⟩⟩;refine aO (σ:=Unit) lp.length (λj _=>[.b t,.i (Int.ofNat j)]) (λ_ _=>X) (λj _=>∀i,i<j->¬crA lp th i) (j0:=0) (s0:=()) rfl rfl (AF _) (λi h=>by omega) ?_;rintro i _ hi bn V r;refine jn ?_;by_cases E:i<lp.length
  case neg=>
   obtain rfl:i=lp.length:=by omega
   rw[ao (Ah _)];refine jn ?_;refine bl _ _ ⟨rfl,t,rfl,⟨.inl,λh=>h.elim id λ⟨i,h⟩=>?_⟩⟩;obtain⟨x,J,_⟩:=id h;exact absurd h (bn i (al J))
  rw[au E];refine jn ?_;obtain⟨q,hq⟩:=aG E;refine aP a9 rfl hq ?_;rw[show fe q=[.int .i64 (Int.ofNat q.1),.int .i64 (Int.ofNat q.2)]from rfl];refine jn ?_;refine bz an ?_;refine aO (σ:=Unit) th.length (λj _=>[.b t,.i (Int.ofNat j)]) (λ_ _=>X) (λj _=>∀(N:Nat) h,N<j->th[N]?=some h->¬(q.1<h/\h<q.2)) (j0:=0) (s0:=()) rfl rfl (AF _) (λj h hj=>by omega) ?_;rintro j _ hj ar bd G;refine jn ?_;by_cases A:j<th.length
  case pos=>
   rw[au A];refine jn ?_;obtain⟨h,hh⟩:=aG A;refine aP an rfl hh ?_;rw[show kl h=[.int .i64 (Int.ofNat h)]from rfl];refine jn ?_;have m:¬(q.1<h/\h<q.2)->bd [.b t,.i (Int.ofNat j+1)] X:=λa0=>G () A λN h' aE he=>by
    by_cases e:N=j
    ·subst e;rw[hh]at he;cases he;exact a0
    ·exact ar N h' (by omega) he
   by_cases c1:q.1<h
   case neg=>
    rw[Ag (show Int.ofNat h<=Int.ofNat q.1 from qdc.2 (by omega))];refine jn ?_;rw[aI (by omega)];exact m λh=>c1 h.1
   rw[Au (show Int.ofNat q.1<Int.ofNat h from qbh.2 c1)];refine jn ?_;by_cases c2:h<q.2
   case neg=>
    rw[ao (by omega)];refine jn ?_;rw[aI (by omega)];exact m λh=>c2 h.2
   rw[au c2];refine jn ?_;exact F ⟨i,q,hq,.inl ⟨h,Ap hh,c1,c2⟩⟩
  obtain rfl:j=th.length:=by omega
  rw[ao (Ah _)];refine jn ?_;clear G;obtain⟨z3,b7,U,_⟩:=vQ a9 (k:=i) (by omega);refine ae b7 ?_;refine ac U.good ?_;refine pu ?_;refine bz U ?_;rw[show(lp.take i).length=i by rw[BX];omega];refine aO (σ:=Unit) i (λj _=>[.b t,.i (Int.ofNat j)]) (λ_ _=>X) (λj _=>∀(N:Nat) y,N<j->lp[N]?=some y->¬Rm q y) (j0:=0) (s0:=()) rfl rfl (AF _) (λj h hj=>by omega) ?_;rintro j _ hj ax W B;refine jn ?_;by_cases A:j<i
  case neg=>
   obtain rfl:j=i:=by omega
   rw[ao (Ah _)];refine jn ?_;rw[aI (by omega)];refine r () E λi' ck=>?_;by_cases e:i'=j
   ·subst e;rintro⟨x,J,⟨h,hh,hb⟩|⟨N,y,aE,hy,hc⟩⟩
    ·rw[hq]at J;cases J;obtain⟨n,hn⟩:=BK hh;exact ar n h (al hn) hn hb
    ·rw[hq]at J;cases J;exact ax N y aE hy hc
   ·exact bn i' (by omega)
  rw[au A];refine jn ?_;obtain⟨O,hy⟩:=aG (l:=lp) (i:=j) (by omega);have b6:(lp.take i)[j]?=some O:=by rw[Ij,mc A];exact hy
  refine aP U rfl b6 ?_;rw[show fe O=[.int .i64 (Int.ofNat O.1),.int .i64 (Int.ofNat O.2)]from rfl];refine jn ?_;have m:¬Rm q O->W [.b t,.i (Int.ofNat j+1)] X:=λa0=>B () A λN y aE he=>by
   by_cases e:N=j
   ·subst e;rw[hy]at he;cases he;exact a0
   ·exact ax N y (by omega) he
  have T:Rm q O->jj [.b true] X:=λh=>F ⟨i,q,hq,.inr ⟨j,O,A,hy,h⟩⟩;unfold Rm at m T;have I:∀a b:Nat,a<b∨b<=a:=λa b=>by omega
  rcases I q.1 O.1 with a1|a1
  ·rw[au a1];refine jn ?_;rcases I O.1 q.2 with Y|Y
   ·rw[au Y];refine jn ?_;rcases I q.2 O.2 with Z|Z
    ·rw[au Z];refine jn ?_;exact T (.inl ⟨a1,Y,Z⟩)
    ·rw[ao Z];refine jn ?_;rw[ao (by omega)];refine jn ?_;rw[aI (by omega)];exact m (by omega)
   ·rw[ao Y];refine jn ?_;rw[ao (by omega)];refine jn ?_;rw[aI (by omega)];exact m (by omega)
  ·rw[ao a1];refine jn ?_;rcases I O.1 q.1 with Y|Y
   ·rw[au Y];refine jn ?_;rcases I q.1 O.2 with Z|Z
    ·rw[au Z];refine jn ?_;rcases I O.2 q.2 with a4|a4
     ·rw[au a4];refine jn ?_;exact T (.inr ⟨Y,Z,a4⟩)
     ·rw[ao a4];refine jn ?_;rw[aI (by omega)];exact m (by omega)
    ·rw[ao Z];refine jn ?_;rw[aI (by omega)];exact m (by omega)
   ·rw[ao Y];refine jn ?_;rw[aI (by omega)];exact m (by omega))
 obtain⟨rs,h',C,e,rfl,h4,h5⟩:=b8;exact⟨e,h',C,h4,h5⟩
def pM(w v:Nat)(l:Ty)(p:Nat×Nat)(m:Nat):Prop:=Aj w v p.1 p.2=some m/\Co l (min p.1 m) p.2≠0
def mw(w v:Nat)(l:Ty)(p:Nat×Nat)(m:Nat):Prop:=Aj w v p.1 p.2=some m/\Co l (min p.1 m) p.2=0
structure Sid(w v:Nat)(l:Ty)(hg:Tz)(N:List (Nat×Nat)):Prop where
 srt:N.Pairwise λp q=>hg p.1<hg q.1
 cl:∀ {p m},p∈N->pM w v l p m->(m,p.2)∈N/\pM w v l (m,p.2) p.1/\hg p.1≠hg m
section
variable {w v:Nat} {l:Ty} {hg:Tz} {N:List (Nat×Nat)} (hN:Sid w v l hg N)
include hN
theorem Sid.lt{i j:Nat}{p q:Nat×Nat}(b:N[i]?=some p)(a:N[j]?=some q):i<j↔hg p.1<hg q.1:=by
 have c:∀ {i j:Nat} {p q:Nat×Nat},N[i]?=some p->N[j]?=some q->i<j->hg p.1<hg q.1:=λ{i j p q} b a h=>by
  have:=qbz.1 hN.srt i j (al b) (al a) h;rw[Be (al b)]at b;rw[Be (al a)]at a;rw[←AR b,←AR a];exact this
 refine⟨c b a,λh=>?_⟩;rcases qc7 i j with e|e|e
 ·exact e
 ·subst e;rw[b]at a;cases a;omega
 ·have:=c a b e;omega
theorem Sid.whe{i:Nat}{p:Nat×Nat}(c:N[i]?=some p):Bf (N.map (BU w v l)) (Int.ofNat p.1)=Int.ofNat i:=by
 unfold Bf;have:(N.map (BU w v l)).findIdx? (λa=>decide (Int.ofNat a.1=Int.ofNat p.1))=some i:=by
  rw[qcs];have b:=al c;refine⟨by rw[A9];exact b,?_,λj f=>?_⟩
  ·rw[List.getElem_map];rw[Be b]at c;rw[AR c];exact BJ rfl
  ·rw[List.getElem_map];have d:=(hN.lt (Be (show j<N.length by omega)) c).1 f;simp only[BQ];intro e;have e:(N[j]'(by omega)).1=p.1:=Du e;rw[e]at d;omega
 rw[this]
end
def ent_k{w v:Nat}{l:Ty}{p:Nat×Nat}:(BU w v l p).2.2≠0↔∃m,pM w v l p m:=by
 unfold BU pM;cases h:Aj w v p.1 p.2 with
 |none=>simp
 |some m=>simp
def yW{w v:Nat}{l:Ty}{p:Nat×Nat}:(0<=(BU w v l p).2.1/\(BU w v l p).2.2=0)↔∃m,mw w v l p m:=by
 unfold BU mw;cases h:Aj w v p.1 p.2 with
 |none=>simp
 |some m=>
  simp only[B7];constructor
  ·rintro⟨_,h⟩;exact⟨m,rfl,h⟩
  ·rintro⟨n,rfl,h⟩;exact⟨B8 _,h⟩
def jI{w v:Nat}{l:Ty}{p:Nat×Nat}{m:Nat}(h:Aj w v p.1 p.2=some m):(BU w v l p).2.1=Int.ofNat m:=by
 unfold BU;simp only[h]
def ldE(w v:Nat)(l:Ty)(hg:Tz)(N:List (Nat×Nat)):Prop:=∃p m q,p∈N/\pM w v l p m/\q∈N/\hg p.1<hg q.1/\hg q.1<hg m/\((∃n,mw w v l q n)∨∃n,pM w v l q n/\(hg n<hg p.1∨hg m<hg n))
def FV{w v:Nat}{l:Ty}{hg:Tz}{N:List (Nat×Nat)}(a:Sid w v l hg N):KC (N.map (BU w v l))↔ldE w v l hg N:=by
 unfold KC ldE md;constructor
 ·rintro⟨i,k,x,y,t,u,o,C,r,e⟩;rw[AX]at t u;cases j:N[i]? with
  |none=>rw[j]at t;cases t
  |some p=>
  cases f:N[k]? with
  |none=>rw[f]at u;cases u
  |some q=>
  rw[j]at t;rw[f]at u;cases t;cases u;obtain⟨m,g⟩:=ent_k.1 o;have s:=Ap j;obtain⟨z,c2,c3⟩:=a.cl s g;obtain⟨I,b⟩:=BK z;rw[jI g.1,show Int.ofNat m=Int.ofNat ((m,p.2):Nat×Nat).1 from rfl,a.whe b]at r e;refine⟨p,m,q,s,g,Ap f,(a.lt j f).1 C,(a.lt f b).1 (qbh.1 r),?_⟩;rcases e with e|⟨D,e⟩
  ·exact .inl (yW.1 e)
  ·obtain⟨n,c⟩:=ent_k.1 D;obtain⟨A,E,F⟩:=a.cl (Ap f) c;obtain⟨J,d⟩:=BK A;rw[jI c.1,show Int.ofNat n=Int.ofNat ((n,q.2):Nat×Nat).1 from rfl,a.whe d]at e;refine .inr ⟨n,c,e.imp (λh=>(a.lt d j).1 (qbh.1 h)) λh=>(a.lt b d).1 (qbh.1 h)⟩
 ·rintro⟨p,m,q,j,g,f,G,H,e⟩;obtain⟨i,B⟩:=BK j;obtain⟨k,o⟩:=BK f;obtain⟨z,c2,c3⟩:=a.cl j g;obtain⟨I,b⟩:=BK z;refine⟨i,k,BU w v l p,BU w v l q,by rw[AX,B];rfl,by rw[AX,o];rfl,ent_k.2 ⟨m,g⟩,(a.lt B o).2 G,?_,?_⟩
  ·rw[jI g.1,show Int.ofNat m=Int.ofNat ((m,p.2):Nat×Nat).1 from rfl,a.whe b];exact qbh.2 ((a.lt o b).2 H)
  ·rw[jI g.1,show Int.ofNat m=Int.ofNat ((m,p.2):Nat×Nat).1 from rfl,a.whe b];rcases e with e|⟨n,c,e⟩
   ·exact .inl (yW.2 e)
   ·obtain⟨A,E,F⟩:=a.cl f c;obtain⟨J,d⟩:=BK A;rw[jI c.1,show Int.ofNat n=Int.ofNat ((n,q.2):Nat×Nat).1 from rfl,a.whe d];exact .inr ⟨ent_k.2 ⟨n,c⟩,e.imp (λh=>qbh.2 ((a.lt d B).2 h)) λh=>qbh.2 ((a.lt b d).2 h)⟩
def N0{f:List Pq}{k:Tx}:VF f k↔(∃x∈f,∃h∈k,x.1<h/\h<x.2)∨∃x∈f,∃y∈f,Rm x y:=by
 constructor
 ·rintro⟨i,x,a,h|⟨j,y,d,g,b⟩⟩
  ·exact .inl ⟨x,Ap a,h⟩
  ·exact .inr ⟨x,Ap a,y,Ap g,b⟩
 ·rintro(⟨x,a,h⟩|⟨x,a,y,g,b⟩)
  ·obtain⟨i,c⟩:=BK a;exact⟨i,x,c,.inl h⟩
  ·obtain⟨i,c⟩:=BK a;obtain⟨j,d⟩:=BK g;rcases qc7 i j with e|e|e
   ·exact⟨j,y,d,.inr ⟨i,x,e,c,by unfold Rm at b ⊢;omega⟩⟩
   ·subst e;rw[c]at d;cases d;unfold Rm at b;omega
   ·exact⟨i,x,c,.inr ⟨j,y,e,d,b⟩⟩
def yo{w v:Nat}{l:Ty}{hg:Tz}{N:List (Nat×Nat)}(r:Sid w v l hg N){s:List Pq}{t:Tx}(h1:∀x,x∈s↔∃p m,p∈N/\pM w v l p m/\hg p.1<hg m/\x=(hg p.1,hg m))(o:∀h,h∈t↔∃q n,q∈N/\mw w v l q n/\h=hg q.1):VF s t↔ldE w v l hg N:=by
 rw[N0];unfold ldE;constructor
 ·rintro(⟨x,k,h,D,u,z⟩|⟨x,k,y,E,C⟩)
  ·obtain⟨p,m,a,b,A,rfl⟩:=(h1 x).1 k;obtain⟨q,n,c,c2,rfl⟩:=(o h).1 D;exact⟨p,m,q,a,b,c,u,z,.inl ⟨n,c2⟩⟩
  ·obtain⟨p,m,a,b,A,rfl⟩:=(h1 x).1 k;obtain⟨q,n,c,c2,c3,rfl⟩:=(h1 y).1 E;rcases C with⟨d,e,j⟩|⟨d,e,j⟩
   ·exact⟨p,m,q,a,b,c,d,e,.inr ⟨n,c2,.inr j⟩⟩
   ·obtain⟨g,i,B⟩:=r.cl c c2;exact⟨p,m,(n,q.2),a,b,g,e,j,.inr ⟨q.1,i,.inl d⟩⟩
 ·rintro⟨p,m,q,a,b,c,d,e,⟨n,f⟩|⟨n,f,h⟩⟩
  ·exact .inl ⟨(hg p.1,hg m),(h1 _).2 ⟨p,m,a,b,by omega,rfl⟩,hg q.1,(o _).2 ⟨q,n,c,f,rfl⟩,d,e⟩
  ·obtain⟨g,i,B⟩:=r.cl c f;rcases h with h|h
   ·exact .inr ⟨(hg p.1,hg m),(h1 _).2 ⟨p,m,a,b,by omega,rfl⟩,(hg n,hg q.1),(h1 _).2 ⟨(n,q.2),q.1,g,i,by show hg n<hg q.1;omega,rfl⟩,.inr ⟨h,d,e⟩⟩
   ·exact .inr ⟨(hg p.1,hg m),(h1 _).2 ⟨p,m,a,b,by omega,rfl⟩,(hg q.1,hg n),(h1 _).2 ⟨q,n,c,f,by omega,rfl⟩,.inl ⟨d,e,h⟩⟩
def psE(w v:Nat)(l:Ty)(hg:Tz)(N:List (Nat×Nat)):Prop:=∃p m q n,p∈N/\mw w v l p m/\q∈N/\mw w v l q n/\hg p.1<hg q.1/\hg n<hg m
def PT{w v:Nat}{l:Ty}{hg:Tz}{M r:List (Nat×Nat)}(z:Sid w v l hg M)(a:Sid w v l hg r)(o:∀ {p m},p∈M->mw w v l p m->(m,p.2)∈r):psX (M.map (BU w v l)) (r.map (BU w v l))↔psE w v l hg M:=by
 unfold psX psE psP;constructor
 ·rintro⟨i,k,x,y,h,j,s,H,I,J,K,C⟩;rw[AX]at h j;cases d:M[i]? with
  |none=>rw[d]at h;cases h
  |some p=>
  cases e:M[k]? with
  |none=>rw[e]at j;cases j
  |some q=>
  rw[d]at h;rw[e]at j;cases h;cases j;obtain⟨m,f⟩:=yW.1 ⟨J,H⟩;obtain⟨n,g⟩:=yW.1 ⟨K,I⟩;obtain⟨F,b⟩:=BK (o (Ap d) f);obtain⟨G,c⟩:=BK (o (Ap e) g);rw[jI f.1,jI g.1,show Int.ofNat m=Int.ofNat ((m,p.2):Nat×Nat).1 from rfl,show Int.ofNat n=Int.ofNat ((n,q.2):Nat×Nat).1 from rfl,a.whe b,a.whe c]at C;exact⟨p,m,q,n,Ap d,f,Ap e,g,(z.lt d e).1 s,(a.lt c b).1 (qbh.1 C)⟩
 ·rintro⟨p,m,q,n,d,f,e,g,D,E⟩;obtain⟨i,A⟩:=BK d;obtain⟨k,B⟩:=BK e;obtain⟨F,b⟩:=BK (o d f);obtain⟨G,c⟩:=BK (o e g);have t:=yW.2 ⟨m,f⟩;have u:=yW.2 ⟨n,g⟩;refine⟨i,k,BU w v l p,BU w v l q,by rw[AX,A];rfl,by rw[AX,B];rfl,(z.lt A B).2 D,t.2,u.2,t.1,u.1,?_⟩;rw[jI f.1,jI g.1,show Int.ofNat m=Int.ofNat ((m,p.2):Nat×Nat).1 from rfl,show Int.ofNat n=Int.ofNat ((n,q.2):Nat×Nat).1 from rfl,a.whe b,a.whe c];exact qbh.2 ((a.lt c b).2 E)
theorem psW_mem{w v:Nat}{l:Ty}{N:List (Nat×Nat)}{x:Pq}:x∈N.filterMap (LJ w v l)↔∃p∈N,mw w v l p x.2/\x.1=p.1:=by
 rw[qaH];constructor
 ·rintro⟨p,d,h⟩;obtain⟨a,b,c⟩:=dL.1 h;exact⟨p,d,⟨a,b⟩,c⟩
 ·rintro⟨p,d,⟨a,b⟩,c⟩;exact⟨p,d,dL.2 ⟨a,b,c⟩⟩
def N1{w v:Nat}{l:Ty}{hg:Tz}{N:List (Nat×Nat)}(R:Sid w v l hg N):Rl ((N.filterMap (LJ w v l)).map (BG hg 0)) ((N.filterMap (LJ w v l)).map (BG hg 1))↔psE w v l hg N:=by
 have K:(N.filterMap (LJ w v l)).Pairwise λx y=>hg x.1<hg y.1:=by
  rw[RU];refine R.srt.imp ?_;intro p q h x u y z;rw[(dL.1 u).2.2,(dL.1 z).2.2];exact h
 have f:=@psW_mem w v l N;generalize N.filterMap (LJ w v l)=ps at *;have E:∀ {i j:Nat} {x y:Pq},ps[i]?=some x->ps[j]?=some y->i<j->hg x.1<hg y.1:=λ{i j x y} o F h=>by
  have:=qbz.1 K i j (al o) (al F) h;rw[Be (al o)]at o;rw[Be (al F)]at F;rw[←AR o,←AR F];exact this
 unfold Rl X4 psE;constructor
 ·rintro⟨i,k,t,a,b,c,d,C,D,H,I,g⟩;rw[AX]at C D H I;cases u:ps[i]? with
  |none=>rw[u]at C;cases C
  |some x=>
  cases z:ps[k]? with
  |none=>rw[z]at D;cases D
  |some y=>
  rw[u]at C H;rw[z]at D I;cases C;cases D;cases H;cases I;obtain⟨q,L,s,eq⟩:=f.1 (Ap u);obtain⟨p,J,r,P⟩:=f.1 (Ap z);have B:=E z u t;refine⟨p,y.2,q,x.2,J,r,L,s,by rw[←P,←eq];exact B,?_⟩;have A:Ad (Int.ofNat (hg x.1)) (Int.ofNat (hg y.1))=1:=by
   unfold Ad;rw[ra (λh=>by have:=qbh.1 h;omega),mc (show Int.ofNat _<Int.ofNat _ from qbh.2 B)]
  rw[show BG hg 0 x=hg x.1 from rfl,show BG hg 0 y=hg y.1 from rfl,show BG hg 1 x=hg x.2 from rfl,show BG hg 1 y=hg y.2 from rfl,A,Int.one_mul]at g;unfold Ad at g;split at g
  ·exact qbh.1 (by assumption)
  ·split at g<;>omega
 ·rintro⟨p,m,q,n,J,r,L,s,B,Q⟩;obtain⟨k,G⟩:=BK (f.2 ⟨p,J,r,rfl⟩ : ((p.1,m):Pq)∈ps);obtain⟨i,o⟩:=BK (f.2 ⟨q,L,s,rfl⟩ : ((q.1,n):Pq)∈ps);have t:k<i:=by
   rcases qc7 k i with e|e|e
   ·exact e
   ·subst e;rw[G]at o;have M:p.1=q.1:=by
     injection o with o
     have A:=congrArg Prod.fst o;exact A
    rw[M]at B;omega
   ·have:=E o G e;simp only at this;omega
  refine⟨i,k,t,hg q.1,hg p.1,hg n,hg m,by rw[AX,o];rfl,by rw[AX,G];rfl,by rw[AX,o];rfl,by rw[AX,G];rfl,?_⟩;have A:Ad (Int.ofNat (hg q.1)) (Int.ofNat (hg p.1))=1:=by
   unfold Ad;rw[ra (λh=>by have:=qbh.1 h;omega),mc (show Int.ofNat _<Int.ofNat _ from qbh.2 B)]
  have O:Ad (Int.ofNat (hg n)) (Int.ofNat (hg m)) = -1:=by
   unfold Ad;rw[mc (show Int.ofNat _<Int.ofNat _ from qbh.2 Q)]
  rw[A,O];decide
def iu{w v:Nat}{l:Ty}{hg:Tz}{g:Nat}{N:List (Nat×Nat)}{x:Lq}:x∈N.filterMap (F1 w v l hg g)↔∃p∈N,pM w v l p x.2.2/\hg p.1<hg x.2.2/\x.1=g/\x.2.1=p.1:=by
 rw[qaH];constructor
 ·rintro⟨p,f,h⟩;obtain⟨a,b,c,d,e⟩:=cN.1 h;exact⟨p,f,⟨a,b⟩,c,d,e⟩
 ·rintro⟨p,f,⟨a,b⟩,c,d,e⟩;exact⟨p,f,cN.2 ⟨a,b,c,d,e⟩⟩
section
variable {w v:Nat} {l:Ty} {P:TC} {L:List Af} {hg:Tz} (hE:Eds w v l P) (hL:Lys (4*w*v) (AU w P) L hg)
include hE hL
theorem yn(c d:Cl):Sid w v l hg (Ba w P L c d):=by
 refine⟨lR hE hL,λ{p m} n a=>?_⟩;obtain⟨b,f,j,k⟩:=(bG hL).1 n;obtain⟨h,o,q⟩:=hE.nb b f a.1;obtain⟨g,i⟩:=hE.bent b f a.1 a.2;refine⟨(bG hL).2 ⟨h,f,g.trans j,i.trans k⟩,⟨o,by rw[Vg];exact a.2⟩,λe=>q (hL.inj h b g e.symm)⟩
theorem rU{c d:Cl}{p:Nat×Nat}{m:Nat}(j:p∈Ba w P L c d)(a:mw w v l p m):(m,p.2)∈Ba w P L d c/\mw w v l (m,p.2) p.1:=by
 obtain⟨e,b,h,i⟩:=(bG hL).1 j;obtain⟨k,n,o⟩:=hE.nb e b a.1;obtain⟨f,g⟩:=hE.flat e b a.1 a.2;exact⟨(bG hL).2 ⟨k,b,f.symm.trans i,g.trans h⟩,n,by rw[Vg];exact a.2⟩
theorem Hd{s:Sm}(f:SmT w v l P L hg s):Nf (Da w v l P L s.k.1 s.k.2) (Da w v l P L s.k.2 s.k.1)↔(DG hg s.ps s.ls 0∨DG hg s.ps s.ls 1∨Rl (s.ps.map (BG hg 0)) (s.ps.map (BG hg 1))):=by
 have hA:=yn hE hL s.k.1 s.k.2;have o:=yn hE hL s.k.2 s.k.1;have r:∀(x:Pq),x∈s.ls.filterMap (C4 hg 0)↔∃p m,p∈Ba w P L s.k.1 s.k.2/\pM w v l p m/\hg p.1<hg m/\x=(hg p.1,hg m):=λx=>by
  rw[f.ls,qaH];constructor
  ·rintro⟨y,c,h⟩;unfold C4 at h;split at h
   next z=>
    cases h;rcases qar.1 c with c|c
    ·obtain⟨p,a,b,d,g,e⟩:=iu.1 c;exact⟨p,y.2.2,a,b,d,by rw[e,CL (by omega),qdn (by omega)]⟩
    ·obtain⟨p,a,b,d,g,e⟩:=iu.1 c;omega
   ·cases h
  ·rintro⟨p,m,a,b,d,rfl⟩;refine⟨(0,p.1,m),qar.2 (.inl (iu.2 ⟨p,a,b,d,rfl,rfl⟩)),?_⟩;unfold C4;simp only[if_true];rw[CL (by omega),qdn (by omega)]
 have t:∀(x:Pq),x∈s.ls.filterMap (C4 hg 1)↔∃p m,p∈Ba w P L s.k.2 s.k.1/\pM w v l p m/\hg p.1<hg m/\x=(hg p.1,hg m):=λx=>by
  rw[f.ls,qaH];constructor
  ·rintro⟨y,c,h⟩;unfold C4 at h;split at h
   next z=>
    cases h;rcases qar.1 c with c|c
    ·obtain⟨p,a,b,d,g,e⟩:=iu.1 c;omega
    ·obtain⟨p,a,b,d,g,e⟩:=iu.1 c;exact⟨p,y.2.2,a,b,d,by rw[e,CL (by omega),qdn (by omega)]⟩
   ·cases h
  ·rintro⟨p,m,a,b,d,rfl⟩;refine⟨(1,p.1,m),qar.2 (.inr (iu.2 ⟨p,a,b,d,rfl,rfl⟩)),?_⟩;unfold C4;simp only[if_true];rw[CL (by omega),qdn (by omega)]
 have u:∀h:Nat,h∈s.ps.map (BG hg 0)↔∃q n,q∈Ba w P L s.k.1 s.k.2/\mw w v l q n/\h=hg q.1:=λh=>by
  rw[f.ps,qax];constructor
  ·rintro⟨y,c,rfl⟩;obtain⟨p,a,b,d⟩:=psW_mem.1 c;exact⟨p,y.2,a,b,by show hg y.1=_;rw[d]⟩
  ·rintro⟨q,n,a,b,rfl⟩;exact⟨(q.1,n),psW_mem.2 ⟨q,a,b,rfl⟩,rfl⟩
 have e4:∀h:Nat,h∈s.ps.map (BG hg 1)↔∃q n,q∈Ba w P L s.k.2 s.k.1/\mw w v l q n/\h=hg q.1:=λh=>by
  rw[f.ps,qax];constructor
  ·rintro⟨y,c,rfl⟩;obtain⟨p,a,b,d⟩:=psW_mem.1 c;obtain⟨i,j⟩:=rU hE hL a b;exact⟨(y.2,p.2),p.1,i,j,rfl⟩
  ·rintro⟨q,n,a,b,rfl⟩;obtain⟨i,j⟩:=rU hE hL a b;exact⟨(n,q.1),psW_mem.2 ⟨(n,q.2),i,j,rfl⟩,rfl⟩
 unfold Nf;rw[sy,sy,FV hA,FV o,PT hA o λB A=>(rU hE hL B A).1];unfold DG;rw[yo hA r u,yo o t e4,f.ps,N1 hA]
end
def mL{w8 v8:Int}(cn:0<=w8/\w8<=255)(cm:0<=v8/\v8<=255){H:HL}{xf xw:Value}{Fl Sw:List Qx}(hF:LsH H xf 3 pP Fl)(bX:∀a∈Fl,EV a)(hS:LsH H xw 3 pP Sw)(b8:∀a∈Sw,EV a) :
  ∃h',aD cc ab 4 [.i w8,.i v8,.v xf,.v xw] (ka aa H) [.b true] (ka aa h'):=by
 obtain⟨w,v,rs,Z,D,c1,hR⟩:=Qa cn cm hF bX hS b8;obtain⟨z,r,zs,l,G0,Ms,rfl,dn,dk,t⟩:=hR;obtain⟨J,N,b3,b4⟩:=D.n;have hs:=D.sh;have hN:=Bw hs;have C:=t.st;have d:=FSt.spr D t t.ss;have bm:=U2 D C.vk C.so (by omega);obtain⟨y,e,h2,c2,W,ap,_,h0⟩:=zN D bm (lh C.so) t.cr C.rk (by omega) d.st d.len d.ok d.cl d.tot;have he:=C.stk hs d.ok ap;subst he;obtain⟨G,S,hG,b9,hO⟩:=h0 rfl;have hT:=UP D C d.ok hG hO;clear h0 ap hO;generalize Ms.map CP=L at *;obtain⟨hE,o,cd,cK,c0,bt⟩:=hT;obtain⟨cD,h5,c3,ck,be⟩:=lF D (t.cr.pre W) (λc hc=>(C.vk c hc).1) (λc hc=>(C.vk c hc).k0) (by omega) (r:=r) (aN C.rk (by omega));obtain⟨a7,bn⟩ : ∃bI,LsH h5 bI 3 ub (Bt w v G r)/\cD=[.v bI,.i 1]:=by
  rcases ck with⟨rfl,cf⟩|⟨G',T,b0,rfl,B,rfl⟩
  ·exact absurd ⟨G,hG.g,hG.z⟩ cf
  ·refine⟨_,?_,rfl⟩;rw[show Bt w v G r=Bt w v G' r from Ea λc hc=>by rw[qP hs hG b0 (qad.1 hc)]];exact bW bR Le (by simp[Bt])
 obtain⟨a7,rfl⟩:=bn;have c4:=pF D (t.cr.pre (W.trans be)) (λc hc=>(C.vk c hc).1) (by omega);have bl:Pre h5 (h5++[Bk (Az w v l)]):=⟨_,rfl⟩;have a8:LsH (h5++[Bk (Az w v l)]) (.slice (some ⟨h5.length,0,qs 1⟩) (12*w*v) (12*w*v+1)) 1 CE (Az w v l):=bW jH az gC.symm;generalize h5++[Bk (Az w v l)]=h6 at *;generalize (Value.slice (some ⟨h5.length,0,qs 1⟩) (12*w*v) (12*w*v+1))=xk at *;have F:=be.trans bl;have an:=a7.pre bl;have a6:=b9.pre F;have ay:=d.st.pre (W.trans F);have ad:=t.cr.pre (W.trans F);obtain⟨M,hM,b5,b6⟩:=a6;have b7:=hM.ls mY;have R:∀(n:Nat) s,S[n]?=some s->_:=λn s V=>ME (f:=λs=>(Ba w (λn=>af (G n) r) L s.k.1 s.k.2).length+(Ba w (λn=>af (G n) r) L s.k.2 s.k.1).length) V;have cA:=x4 (ls:=[.i w8,.i v8,.v xf,.v xw]) (K:=λrs h'=>rs=[.b true]) (H:=H) (km (km (oo hF.good (oo hS.good ua)))) (by
  unfold f4;simp only[xp]
  try simp (disch:=omega) only[↓Vl,↓R5,↓R4]
  refine ai c1 ?_;refine jn ?_;simp only[AB,AO,AG]at c2 c3;refine ai c2 ?_;refine jn ?_;refine ai c3 ?_;refine jn ?_;refine ai c4 ?_;refine jn ?_;refine aO (σ:=HL) S.length (λj _=>[.i (Int.ofNat j)]) (λ_ s=>s) (λj s=>Pre h6 s) (j0:=0) (s0:=h6) rfl rfl (AF _) (.refl _) ?_;rintro j g hj I cS ax;refine jn ?_;have E:=b7.pre I;refine bz E ?_;rw[b5];by_cases a9:j<S.length
  case neg=>
   obtain rfl:j=S.length:=by omega
   rw[ao (Ah _)];refine jn ?_;refine ah O5 ?_;simp(disch:=omega)only[↓po]
  rw[au a9];refine jn ?_;obtain⟨m,hm⟩:=aG (l:=M) (i:=j) (by omega);obtain⟨s,bs,bd,k1,k2,k3⟩:=b6 j m hm;have T:=cd s (Ap bs);obtain⟨t1,t2⟩:=R j s bs;obtain⟨mk,v1,v2,v3⟩:=m;obtain⟨k,ps,ls,es⟩:=s;simp only at bd k1 k2 k3 t1 t2;subst bd;rw[bt,t1]at t2;obtain⟨za,g1,ca,X,_,cx⟩:=F5 D (ay.pre I) (by have:=d.len;omega) ad.good (a8.pre I) (an.pre I) (P:=λn=>af (G n) r) (λn V=>iD V) (λn V=>aN (dp (hG.ok n V) C.rk) (by omega)) mk.1 mk.2 (oG d.ok).1 (by have:=(oG d.ok (c:=mk.1)).2;omega);have u:=I.trans X;obtain⟨zb,g2,cb,ar,_,cy⟩:=F5 D (ay.pre u) (by have:=d.len;omega) ad.good (a8.pre u) (an.pre u) (P:=λn=>af (G n) r) (λn V=>iD V) (λn V=>aN (dp (hG.ok n V) C.rk) (by omega)) mk.2 mk.1 (oG d.ok).1 (by have:=(oG d.ok (c:=mk.2)).2;omega);have A:=u.trans ar;have bx:=cx.pre ar;have eA:(Da w v l (λn=>af (G n) r) L mk.1 mk.2).length=(Ba w (λn=>af (G n) r) L mk.1 mk.2).length:=by rw[sy,A9]
  have eB:(Da w v l (λn=>af (G n) r) L mk.2 mk.1).length=(Ba w (λn=>af (G n) r) L mk.2 mk.1).length:=by rw[sy,A9]
  have n1:ps.length<=1000:=by
   have Z:ps=_:=T.ps;have h2:=@Kf _ _ (LJ w v l) (Ba w (λn=>af (G n) r) L mk.1 mk.2);rw[←Z]at h2;omega
  have n2:ls.length<=1000:=by
   have Z:ls=(Ba w (λn=>af (G n) r) L mk.1 mk.2).filterMap (F1 w v l (Cm (4*w*v) L) 0)++(Ba w (λn=>af (G n) r) L mk.2 mk.1).filterMap (F1 w v l (Cm (4*w*v) L) 1):=T.ls;have h2:=@Kf _ _ (F1 w v l (Cm (4*w*v) L) 0) (Ba w (λn=>af (G n) r) L mk.1 mk.2);have D:=@Kf _ _ (F1 w v l (Cm (4*w*v) L) 1) (Ba w (λn=>af (G n) r) L mk.2 mk.1);have h4:=congrArg List.length Z;rw[Bv]at h4;omega
  have m1:∀p∈ps,p.1∈Av L mk.1/\p.2∈Av L mk.2:=λp hp=>by
   have Z:ps=_:=T.ps;rw[Z]at hp;obtain⟨q,Y,a2,a3⟩:=psW_mem.1 hp;have J:=(bG o).1 Y;have N:=(bG o).1 (rU hE o Y a2).1;exact⟨(o.mem _ _).2 ⟨by rw[a3];exact J.1,by rw[a3];exact J.2.2.1⟩,(o.mem _ _).2 ⟨N.1,N.2.2.1⟩⟩
  have m2:∀x∈ls,(x.1=0/\x.2.1∈Av L mk.1/\x.2.2∈Av L mk.1)∨(x.1=1/\x.2.1∈Av L mk.2/\x.2.2∈Av L mk.2):=λx hx=>by
   have Z:ls=_:=T.ls;rw[Z]at hx;rcases qar.1 hx with hx|hx
   ·obtain⟨q,Y,a2,a3,a4,a5⟩:=iu.1 hx;have J:=(bG o).1 Y;have N:=(bG o).1 ((yn hE o _ _).cl Y a2).1;exact .inl ⟨a4,(o.mem _ _).2 ⟨by rw[a5];exact J.1,by rw[a5];exact J.2.2.1⟩,(o.mem _ _).2 ⟨N.1,N.2.2.1⟩⟩
   ·obtain⟨q,Y,a2,a3,a4,a5⟩:=iu.1 hx;have J:=(bG o).1 Y;have N:=(bG o).1 ((yn hE o _ _).cl Y a2).1;exact .inr ⟨a4,(o.mem _ _).2 ⟨by rw[a5];exact J.1,by rw[a5];exact J.2.2.1⟩,(o.mem _ _).2 ⟨N.1,N.2.2.1⟩⟩
  obtain⟨eX,cX,hX⟩:=He bx cy (by omega) (by omega);obtain⟨eC,g3,cC,ci,hC⟩:=Hf (ay.pre A) (by have:=d.len;omega) (λs hs=>⟨(d.ok s hs).2.2.1,by have:=(d.ok s hs).2.2.2.2;omega⟩) o.hgt (λc=>by have:=(oG d.ok (c:=c)).2;omega) (k:=mk) (k1.pre A) (k2.pre A) k3.good n1 n2 m1 m2;have ag:Nf (Da w v l (λn=>af (G n) r) L mk.1 mk.2) (Da w v l (λn=>af (G n) r) L mk.2 mk.1)↔_:=Hd hE o T;simp only[As,AB,AO,AG]at ca cb cC;have aE:=E.pre X;have a0:=aE.pre ar;obtain⟨pq,i1,i2⟩:=E.at hm;obtain⟨qa,bP,O⟩:=i2.fd 0 3 (by rw[mY];omega);obtain⟨qb,bS,Q⟩:=i2.fd 3 3 (by rw[mY];omega);have lA:((B6 (mk,v1,v2,v3)).drop 0).take 3=[.int .i64 mk.1.1,.int .i64 mk.1.2.1,.int .u8 (Int.ofNat mk.1.2.2)]:=rfl;have lB:((B6 (mk,v1,v2,v3)).drop 3).take 3=[.int .i64 mk.2.1,.int .i64 mk.2.2.1,.int .u8 (Int.ofNat mk.2.2.2)]:=rfl;rw[lA]at O;rw[lB]at Q;refine bN (cs:=[.int .i64 mk.1.1,.int .i64 mk.1.2.1,.int .u8 (Int.ofNat mk.1.2.2)]) E rfl hm rfl (by omega) ?_;refine jn ?_;refine bN (cs:=[.int .i64 mk.2.1,.int .i64 mk.2.2.1,.int .u8 (Int.ofNat mk.2.2.2)]) E rfl hm rfl (by omega) ?_;refine jn ?_;refine ai ca ?_;refine jn ?_
  refine ae i1 (ae bS (ac Q.good (cq (Q.keep λ_ _ hj=>X.get hj) rfl ?_)));refine jn ?_;refine ae i1 (ae bP (ac O.good (cq (O.keep λ_ _ hj=>X.get hj) rfl ?_)));refine jn ?_;refine ai cb ?_;refine jn ?_;refine ai cX ?_;refine jn ?_;have U:(eX=1/\eC=12)∨(eX=0/\eC=0):=by
   rcases hX with⟨e1,ct⟩|⟨e1,co⟩
   ·rcases hC with⟨h,_⟩|⟨_,h⟩
    ·exact .inl ⟨e1,h⟩
    ·exact absurd (ag.1 ct) h
   ·rcases hC with⟨_,h⟩|⟨h,_⟩
    ·exact absurd (ag.2 h) co
    ·exact .inr ⟨e1,h⟩
  rcases U with⟨rfl,U⟩|⟨rfl,U⟩
  case' inl=>rw[Aq rfl]
  case' inr=>rw[Ai (by decide)]
  all_goals
   subst U;refine pu ?_;refine cq Q rfl ?_;refine jn ?_;refine ae (aV _) ?_;refine ae (aV _) ?_;refine ae (aV _) ?_;refine pu ?_;refine cq O rfl ?_;refine jn ?_;refine ae (aV _) ?_;refine ae (aV _) ?_;refine ae (aV _) ?_;refine pu ?_;refine aP a0 rfl hm ?_;rw[show B6 (mk,v1,v2,v3)=[.int .i64 mk.1.1,.int .i64 mk.1.2.1,.int .u8 (Int.ofNat mk.1.2.2),.int .i64 mk.2.1,.int .i64 mk.2.2.1,.int .u8 (Int.ofNat mk.2.2.2),v1,v2,v3]from rfl];refine jn ?_;refine ac k1.good ?_;refine pu ?_;refine ac k2.good ?_;refine pu ?_;refine ac k3.good ?_;refine pu ?_;refine ai cC ?_;simp(disch:=omega)only[↓po]
   try rw[AJ rfl]
   refine pu ?_;rw[aI (by omega)];exact ax g3 a9 (A.trans ci))
 obtain⟨rs,h',h2,rfl⟩:=cA;exact⟨h',h2⟩
def jy(ls:TB)(h:HL)(a:br h [.i .u8,.i .u8,.s [.i .u8,.i .u8,.i .u8],.s [.i .u8,.i .u8,.i .u8]] ls):∃h',aD cc ab 4 ls (ka aa h) [.b true] (ka aa h'):=by
 obtain⟨w,ls,rfl,r,a⟩:=a.i;obtain⟨v,ls,rfl,q,a⟩:=a.i;obtain⟨s,ls,n,d,rfl,k,_,m,a⟩:=a.s;obtain⟨x,ls,u,c,rfl,e,_,f,a⟩:=a.s;obtain rfl:=a.nil;obtain⟨l,p,_,o⟩:=RA (enc:=pP) (ok:=EV) (λ_=>rfl) X5 k m;obtain⟨t,j,_,g⟩:=RA (enc:=pP) (ok:=EV) (λ_=>rfl) X5 e f;exact mL (El r) (El q) p o j g
end Go.Am
namespace Go.Proofs.YtiimabnndpeioaaGreatDoor
open Go Go.Am Go.Am.Sx
open Go.ChangeShapes Go.WideShapes Go.ChangeAt Go.WideMaps Go.WideElems Go.RowKit
abbrev DW:List (String×DataW Unit):= [("crimp/moves.turns",Rows.laid_crimp_moves_turns), ("crimp/cells.quarters",Rows.laid_crimp_cells_quarters)]
def name1 : Tryz.prog.globalNamed "crimp/moves.turns" = some 1:=by kernel_rfl
def name0 : Tryz.prog.globalNamed "crimp/cells.quarters" = some 0:=by kernel_rfl
def Pv{W:World}(h:laidMetH Tryz.prog DW W):∃_:Unit,∀(g:Nat) (vs:Tk),cc.G g=some vs->
  BV g<W.heap.size/\vs.all bg=true/\∃c e fr,W.heap[BV g]?=some (.cells c e fr)/\cz (λ_=>none) vs c (CF g):=by
 rw[MakeChecks.laidMetH_plain _ _ _ (by kernel_rfl)]at h;obtain⟨d,h,_,_⟩:=h;refine⟨(),λg vs b=>?_⟩;have a:=OO g vs b;unfold cc at b;simp only at b;split at b
 ·cases b;exact um (by kernel_rfl) a (by kernel_rfl) (qt h "crimp/moves.turns" Rows.laid_crimp_moves_turns Cw 1 225 8 T2 name1 (by kernel_rfl) (by kernel_rfl))
 ·cases b;exact um (by kernel_rfl) a (by kernel_rfl) (qt h "crimp/cells.quarters" Rows.laid_crimp_cells_quarters (BF _ Cw) 0 179 8 T0 name0 (by kernel_rfl) (by kernel_rfl))
 ·cases b
def own:ownKnob Tryz.prog.godebug=none:=by kernel_rfl
def JE(os:Os)(args:Tj):laidMetH Tryz.prog DW ((World.doorLaid Tryz.prog 400 os).forCall (λ_ _=>0) ⟨#[],args,[]⟩).memory:=
 laidMetH_of_parts3 (fuel:=8) (laidMet_of_run' 8 (by kernel_rfl) (by kernel_rfl)) (by kernel_rfl) (by kernel_rfl)
end Go.Proofs.YtiimabnndpeioaaGreatDoor
end

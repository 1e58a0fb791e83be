import Derived.Test.YtekebdoegplamaaGreatDoorOF6
set_option linter.all false
noncomputable section
set_option maxRecDepth 100000
set_option maxHeartbeats 16000000
open Option renaming some->O,none->Q
open Bool renaming true->J,false->U
open List renaming length->W,range->EW,replicate->FJ
open Int renaming ofNat->DO
open Go.Value renaming int->EO,slice->DW,pointer->EQ,agg->EU
open Go.IntKind renaming i64->DQ,u8->DU
open Go renaming Value->FO
open Go.Am.wa renaming cells->EJ
namespace Go.Am
open Sx Go.Proofs
def vF{j7:Type}{h:HL}{v:TV}{e:Nat}{enc:j7->Tn}{l:List j7}(q:q_ h v e enc l){n:Nat}(y:n<=W l):∃v',GV e v Q (O (DO n)) Q=O v'/\q_ h v' e enc (l.take n)/\aH v'=J/\i_ v'=i_ v:=by
 have C:=aT (l:=l) q.1;have m:=aT (l:=l.take n) λa i=>q.1 a (Xj i);have c:W (l.take n)=n:=k_;obtain⟨w,B,⟨rfl,g⟩|⟨id,b,d,A,r,rfl,g,x⟩⟩:=q
 .have p:n=0:=a_;have j:l=[]:=VM.1 g;subst p j;exact⟨DW Q 0 0,rfl,q_.nil _ _ _,rfl,rfl⟩
 .have z:GV e (DW (O ⟨id,b,le e⟩) (W l) d) Q (O (DO n)) Q=O (DW (O ⟨id,b,le e⟩) n d):=by
   unfold GV;have s:¬(le e≠O 1/\le e≠le e):=d_;simp only[ts s];have u:(0:Int)<=(Q:Tt).getD 0/\(Q:Tt).getD 0<=(O (DO n)).getD ((W l:Nat):Int)/\bW (W l) d (O (DO n)) Q:=by
    refine⟨d_,d_,?_⟩;unfold bW
    simp_all
   rw[rv u,eW,eW,eW];simp[bM]
  have f:q_ h (DW (O ⟨id,b,le e⟩) n d) e enc (l.take n):=by
   refine⟨λa i=>w a (Xj i),by rw[m],.inr ⟨id,b,d,A,r,by rw[c],g,?_⟩⟩;have t:=mX x (o:=0) (k:=n*e) (by rw[Hd];exact p9 e y)
   rw[qdh,an]at t;rw[c,t]
   congr 1
   have s:l.flatMap enc=(l.take n).flatMap enc++(l.drop n).flatMap enc:=by rw[←nC,Xi]
   simp_all
  exact⟨_,z,f,f.g_,rfl⟩
structure Pi(h:HL)(b:Nat)(c:XC)(n:Bool)(rN:List Lit)(DJ:TE)(pn:Ti)(F:List DZ):Prop where
 hb:h[b]?=O (.o (.cells (aj c n) 15 J))
 up:i' 0 h c.up 2 Fb rN
 va:i' 0 h c.va 1 En DJ
 fo:i' 0 h c.fo 8 MZ F
 pr:Xg h c.pr pn
 fr:∃r,Lg rN r
 ok:IF rN DJ
def S1(h:HL)(b:Nat)(c:XC)(N:Nat)(DJ:TE)(pn:Ti)(F:List DZ)(C:(Nat->Bool)->Prop)(g:HL):Prop:=
 ∃n rN,Pi g b c n rN DJ pn F/\rN.length=N/\(∀V,(n=U/\Rs rN DJ V)↔C V)/\(∀(j:Nat) o,h[j]?=O o->j≠b->i_ c.up≠O j->g[j]?=O o)/\g.length=W h
def S1.congr{h g:HL}{b:Nat}{c:XC}{N:Nat}{DJ:TE}{pn:Ti}{F:List DZ}{C a:(Nat->Bool)->Prop}(k:S1 h b c N DJ pn F C g)(e:∀V,C V↔a V):S1 h b c N DJ pn F a g:=by obtain⟨n,rN,d,f,i,j⟩:=k;exact⟨n,rN,d,f,λV=>(i V).trans (e V),j⟩
def Ik(pn:Ti)(V:Tx)(x y x' y':Nat):Prop:=A4 V (Em pn x y)=A4 V (Em pn x' y')
def sR{g:HL}{b e:Nat}{id:Nat}{pn:Ti}{cs:Tn}(d:Xg g id pn)(i:g[b]?=O (.o (.cells cs e J))):id≠b:=λc=>by
 subst c;obtain⟨k,a,_⟩:=d;obtain⟨f,j,h,_⟩:=a
 simp_all
section
variable {h g:HL} {b:Nat} {c:XC} {N:Nat} {DJ:TE} {pn:Ti} {F:List DZ} {C:(Nat->Bool)->Prop} (hs:S1 h b c N DJ pn F C g)
include hs
theorem S1.below(x y:Nat):aD cc ac 83 [.v (lM b),.i (DO x),.i (DO y)] (h_ aa g) [.i (DO (Em pn x y).1),.b (Em pn x y).2] (h_ aa g):=by obtain⟨n,rN,a,_⟩:=hs;exact kS a.hb a.pr x y
theorem S1.equal{x y x' y':Nat}(h1:(Em pn x y).1<N)(k:(Em pn x' y').1<N):∃m,aD cc ac 82 [.v (lM b),.i (DO (Em pn x y).1),.b (Em pn x y).2,.i (DO (Em pn x' y').1),.b (Em pn x' y').2] (h_ aa g) [] (h_ aa m)/\S1 h b c N DJ pn F (λV=>C V/\Ik pn V x y x' y') m:=by
 obtain⟨n,rN,a,S,B,E,G⟩:=hs;obtain⟨r,u⟩:=a.fr;obtain⟨T,lb,m,P,R,w,K,L,s,M⟩:=ei a.hb a.up u a.ok a.va (p:=Em pn x y) (q:=Em pn x' y') a_ a_;obtain⟨z,A,e3⟩:=eq_sem u a.ok n P R;have I:∀j e d,i_ c.up=O j->g[j]?=O (.o (.cells d e J))->e=2:=λj e d l f=>by
  obtain⟨t,k⟩:=a.up.wid l
  simp_all
 have D:∀j e d,j=b->g[j]?=O (.o (.cells d e J))->e=15:=λj e d l f=>by subst l;rw[a.hb]at f;exact(gg f).symm
 refine⟨m,w,_,_,⟨K,L,a.va.D6 λj d _ f=>s j _ f (λe=>jw) (λe=>jw),a.fo.D6 λj d _ f=>s j _ f (λe=>jw) (λe=>jw),a.pr.ke λo H=>s _ o H (sR a.pr a.hb) (λe=>?_),z,A⟩,?_,λV=>?_,λj o l h1 k=>s j o (E j o l h1 k) h1 k,by rw[M,G]⟩
 .obtain⟨t,k⟩:=a.up.wid e;exact sR a.pr k rfl
 .unfold Gi
  grind
 .rw[e3 V];show _↔C V/\_;rw[←B V,and_assoc];rfl
end
def T3(a:Option Addr):M1 a a=J:=by
 rcases a with _|⟨b,o,s⟩
 .rfl
 .unfold M1;simp only[qdJ];rcases s with _|s
  .rfl
  .exact qdJ s
def T6{v:TV}(h:∃a n c,v = .slice a n c):YK v v=O ():=by
 obtain⟨a,n,c,rfl⟩:=h;show(match M1 a a,Nat.beq n n,Nat.beq c c with
  |true,J,J=>O ()
  |_,_,_=>Q)=_
 rw[T3,qdJ,qdJ]
def wZ{j7:Type}{h:HL}{v:TV}{e:Nat}{enc:j7->Tn}{l:List j7}(d:q_ h v e enc l){j:Nat}(b:i_ v=O j):∃cs a,h[j]?=O (.o (.cells cs e a)):=by
 rcases d.2.2 with⟨rfl,_⟩|⟨id,f,g,i,a,rfl,c,_⟩
 .cases b
 .cases b;exact⟨_,_,c⟩
def I8(pn:Ti)(a b c:List K2)(V:Tx)(i:Nat):Prop:=∀p,a[i]?=O p->(∀(j:Nat) q,j<i->a[j]?=O q->Ik pn V p.1 q.1 p.2 q.2)/\(∀o∈b,Ik pn V p.1 o.1 p.1 o.2)/\(∀o∈c,Ik pn V p.2 o.1 p.2 o.2)
def four(pn:Ti)(o u:K2):DZ:=(Em pn o.1 u.1,Em pn o.2 u.1,Em pn o.1 u.2,Em pn o.2 u.2)
def m'(pn:Ti)(L:List K2)(i:Nat):List DZ:=match L[i]? with
 |O o=>(L.take i).map (four pn o)
 |Q=>[]
def HE(pn:Ti)(L:List K2)(n:Nat):List DZ:=(EW n).flatMap (m' pn L)
def ux{pn:Ti}{L:List K2}{n:Nat}:HE pn L (n+1)=HE pn L n++m' pn L n:=by unfold HE;rw[RL,nC];simp
def yF{pn:Ti}{L:List K2}(a:W L<=1000):∀n,n<=1000->W (HE pn L n)<=n*1000
 |0,_=>by simp[HE]
 |n+1,h=>by
  have b:=yF (pn:=pn) a n a_;rw[ux,IL];have:W (m' pn L n)<=1000:=by
   unfold m'
   grind
  omega
def S2(h:HL)(b:Nat)(c:XC)(N:Nat)(DJ:TE)(pn:Ti)(F:List DZ)(C:(Nat->Bool)->Prop)(g:HL):Prop:=
 ∃fo n rN,Pi g b { c with fo:=fo } n rN DJ pn F/\rN.length=N/\(∀V,(n=U/\Rs rN DJ V)↔C V)/\(i_ fo=i_ c.fo∨∃j,i_ fo=O j/\h.length<=j)/\(∀(j:Nat) o,h[j]?=O o->j≠b->i_ c.up≠O j->i_ c.fo≠O j->g[j]?=O o)/\h.length<=W g
def S1.two{h g:HL}{b:Nat}{c:XC}{N:Nat}{DJ:TE}{pn:Ti}{F:List DZ}{C:(Nat->Bool)->Prop}(l:S1 h b c N DJ pn F C g):S2 h b c N DJ pn F C g:=by obtain⟨n,rN,d,e,f,i,m⟩:=l;exact⟨c.fo,n,rN,d,e,f,.inl rfl,λj o k a b _=>i j o k a b,a_⟩
def nc{x y:TV}{s:Nat}(a:s<2):jz [(.v x:Lf),.v y] 0 [(DO s,1)] 1=O [.v (if s=0 then x else y)]:=by
 obtain rfl|rfl:s=0∨s=1:=a_
 .rfl
 .rfl
def uc{x y:Int}{s:Nat}(a:s<2):jz [(.i x:Lf),.i y] 0 [(DO s,1)] 1=O [.i (if s=0 then x else y)]:=by
 obtain rfl|rfl:s=0∨s=1:=a_
 .rfl
 .rfl
def t1{s:Nat}(a:s<2):G4 2 (DO s)=O ():=by
 obtain rfl|rfl:s=0∨s=1:=a_
 .rfl
 .rfl
def S2.four{h g:HL}{b:Nat}{c:XC}{N:Nat}{DJ:TE}{pn:Ti}{F:List DZ}{C:(Nat->Bool)->Prop}{fo:TV}{n:Bool}{rN:List Lit}(a:Pi g b { c with fo:=fo } n rN DJ pn F)(y:W rN=N)(x:∀V,(n=U/\Rs rN DJ V)↔C V)(I:i_ fo=i_ c.fo∨∃j,i_ fo=O j/\h.length<=j)(B:∀(j:Nat) o,h[j]?=O o->j≠b->i_ c.up≠O j->i_ c.fo≠O j->g[j]?=O o)(K:W h<=W g)
  {f:DZ} {v':TV} {m:HL} (z:i' 0 m v' 8 MZ (F++[f])) (l:∀(j:Nat) o,g[j]?=O o->i_ fo≠O j->m[j]?=O o) (D:W g<=W m) (A:i_ v'=i_ fo∨∃j,i_ v'=O j/\g.length<=j) :
  S2 h b c N DJ pn (F++[f]) C (m.set b (.o (EJ (aj { c with fo:=v' } n) 15 J))):=by
 have q:∀j e d,i_ fo=O j->g[j]?=O (.o (.cells d e J))->e=8:=λj e d s i=>by
  obtain⟨p,u⟩:=a.fo.wid s
  simp_all
 have r:m[b]?=O (.o (EJ (aj { c with fo:=fo } n) 15 J)):=l b _ a.hb λe=>by have:=q b _ _ e a.hb;omega
 have k:∀(j:Nat) d e,e≠15->e≠8->g[j]?=O (.o (.cells d e J))->(m.set b (.o (EJ (aj { c with fo:=v' } n) 15 J)))[j]?=O (.o (.cells d e J)):=λj d e G H i=>by grind
 refine⟨v',n,rN,⟨ew r,a.up.D6 λj d _ i=>k j d 2 q7 q7 i,a.va.D6 λj d _ i=>k j d 1 q7 q7 i,z.D6 λj d _ i=>cV i λe=>?_,a.pr.ke λo E=>cV (l _ o E λe=>?_) (EC (sR a.pr a.hb)),a.fr,a.ok⟩,y,x,?_,λj o s t v w=>cV (l j o (B j o s t v w) λe=>?_) (EC t),jw⟩
 .simp_all
 .obtain⟨p,u⟩:=a.fo.wid e;exact sR a.pr u rfl
 .grind
 grind
def eA{h:HL}{b:Nat}{c:XC}{N:Nat}{DJ:TE}{pn:Ti}{F:List DZ}{C:(Nat->Bool)->Prop}(hs:S1 h b c N DJ pn F C h){sb:Nat}{xp x0 x1:TV}{r t z:List K2}(Y:h[sb]?=O (.o (EJ [xp,x0,x1] 3 J)))(X:q_ h xp 2 Gf r)(bk:q_ h x0 2 Gf t)(bl:q_ h x1 2 Gf z)
  (bs:∀j,i_ c.up=O j->i_ xp≠O j/\i_ x0≠O j/\i_ x1≠O j) (av:W r<=1000/\t.length<=1000/\z.length<=1000) (cr:W F<=1000000000) (ad:2<=W r+W t+W z->∀x y,(Em pn x y).1<N) :
  ∃g,aD cc ac 48 [.v (lM b),.v (lM sb)] (h_ aa h) [] (h_ aa g)/\S2 h b c N DJ pn (F++HE pn t (W t)++HE pn z (W z)) (λV=>C V/\∀i,i<W r->I8 pn r t z V i) g:=by
 have b0:∀ {j e cs G},h[j]?=O (.o (.cells cs e G))->e≠15->j≠b:=λ{j e cs G} Z he e2=>by
  obtain⟨n,rN,w,_⟩:=hs;subst e2;rw[w.hb]at Z
  simp_all
 have cf:∀ {j e cs G},h[j]?=O (.o (.cells cs e G))->e≠2->i_ c.up≠O j:=λ{j e cs G} Z he e2=>by
  obtain⟨n,rN,w,_⟩:=hs;obtain⟨bb,h2⟩:=w.up.wid e2
  simp_all
 have b7:∀ {j e cs G},h[j]?=O (.o (.cells cs e G))->e≠8->i_ c.fo≠O j:=λ{j e cs G} Z he e2=>by
  obtain⟨n,rN,w,_⟩:=hs;obtain⟨bb,h2⟩:=w.fo.wid e2
  simp_all
 have L:∀ {g:HL} {v:TV} {l:List K2},q_ h v 2 Gf l->(∀j,i_ c.up=O j->i_ v≠O j)->(∀(j:Nat) o,h[j]?=O o->j≠b->i_ c.up≠O j->i_ c.fo≠O j->g[j]?=O o)->q_ g v 2 Gf l:=λ{g v l} hl hv M=>hl.ke λj o Z hb=>by
  obtain⟨cs,G,h2⟩:=wZ hl hb
  grind
 have aE:∀ {g:HL},(∀(j:Nat) o,h[j]?=O o->j≠b->i_ c.up≠O j->i_ c.fo≠O j->g[j]?=O o)->g[sb]?=O (.o (EJ [xp,x0,x1] 3 J)):=λ{g} M=>M sb _ Y (b0 Y q7) (cf Y q7) (b7 Y q7);have f1:∀ {C:(Nat->Bool)->Prop} {g:HL},S1 h b c N DJ pn F C g->∀(j:Nat) o,h[j]?=O o->j≠b->i_ c.up≠O j->i_ c.fo≠O j->g[j]?=O o:=λ{C g} q j o Z b1 b2 _=>by obtain⟨_,_,_,_,_,M,_⟩:=q;exact M j o Z b1 b2
 have cw:=x48 (ls:=[.v (lM b),.v (lM sb)]) (K:=λrs g=>rs=[]/\S2 h b c N DJ pn (F++HE pn t (W t)++HE pn z (W z)) (λV=>C V/\∀i,i<W r->I8 pn r t z V i) g) (H:=h) (o_ (az _) (o_ (az _) vc)) (by
  unfold f48;simp only[w7];refine c_ ?_;refine bA (ds:=[xp]) Y d_ rfl ?_;refine c_ ?_;refine ab X.g_ ?_;refine m9 ?_;refine aO X ?_;refine aN (m:=W r) (λm ls g=>∃i,ls=[.i (DO i)]/\m=W r-i/\i<=W r/\S1 h b c N DJ pn F (λV=>C V/\∀k,k<i->I8 pn r t z V k) g) ⟨0,rfl,rfl,Eg _,hs.congr λV=>⟨λq=>⟨q,λk M=>a_⟩,λq=>q.1⟩⟩ ?_;rintro m ls g ⟨i,rfl,rfl,hi,hg⟩ cq a6;refine Fc ?_;refine c_ ?_;by_cases a0:i<W r
  case pos=>
   rw[aB a0];refine c_ ?_;obtain⟨p,w⟩:=ak a0;refine aJ (L X (λj e=>(bs j e).1) (f1 hg)) rfl w ?_;rw[show Gf p=[EO DQ (DO p.1),EO DQ (DO p.2)]from rfl];refine c_ ?_;refine bA (ds:=[xp]) (aE (f1 hg)) d_ rfl ?_;refine c_ ?_;have bx:=L X (λj e=>(bs j e).1) (f1 hg);refine ab bx.g_ ?_;refine m9 ?_;obtain⟨xt,et,lt,gt,bt⟩:=vF X hi;refine af et (ab gt ?_);refine m9 ?_;have a7:W (r.take i)=i:=k_;refine aO lt ?_;rw[a7];refine aN (m:=i) (λm ls g=>∃j,ls=[.i (DO j)]/\m=i-j/\j<=i/\S1 h b c N DJ pn F (λV=>(C V/\∀k,k<i->I8 pn r t z V k)/\∀(k:Nat) q,k<j->r[k]?=O q->Ik pn V p.1 q.1 p.2 q.2) g) ⟨0,rfl,rfl,Eg _,hg.congr λV=>⟨λq=>⟨q,λk _ M=>a_⟩,λq=>q.1⟩⟩ ?_;rintro m2 cx g2 ⟨j,rfl,rfl,Z,R⟩ cl al;refine Fc ?_;refine c_ ?_;by_cases ax:j<i
   case pos=>
    rw[aB ax];refine c_ ?_;obtain⟨q,hq⟩:=ak (l:=r) (i:=j) a_;have cb:(r.take i)[j]?=O q:=jw;refine aJ (L lt (λj e=>jw) (f1 R)) rfl cb ?_;rw[show Gf q=[EO DQ (DO q.1),EO DQ (DO q.2)]from rfl];refine c_ ?_;refine ai (R.below p.1 q.1) ?_;refine c_ ?_;refine ai (R.below p.2 q.2) ?_;refine c_ ?_;obtain⟨g3,ce,B⟩:=R.equal (x:=p.1) (y:=q.1) (x':=p.2) (y':=q.2) (ad a_ _ _) (ad a_ _ _);refine ai ce ?_;refine c_ ?_;rw[aI a_];refine al _ _ _ a_ ⟨j+1,rfl,rfl,ax,B.congr λV=>?_⟩
    grind
   obtain rfl:j=i:=a_;rw[aw (B7 _)];refine c_ ?_;refine bA (ds:=[x0,x1]) (aE (f1 R)) d_ rfl ?_;refine c_ ?_;refine ab bk.g_ ?_;refine m9 ?_;refine ab bl.g_ ?_;refine m9 ?_;refine aN (m:=2) (λm ls g=>∃s,ls=[.i (DO s)]/\m=2-s/\s<=2/\S1 h b c N DJ pn F (λV=>((C V/\∀k,k<j->I8 pn r t z V k)/\∀(k:Nat) q,k<j->r[k]?=O q->Ik pn V p.1 q.1 p.2 q.2)/\(1<=s->∀o∈t,Ik pn V p.1 o.1 p.1 o.2)/\(2<=s->∀o∈z,Ik pn V p.2 o.1 p.2 o.2)) g) ⟨0,rfl,rfl,q7,R.congr λV=>⟨λq=>⟨q,λM=>a_,λM=>a_⟩,λq=>q.1⟩⟩ ?_;rintro m3 ci g3 ⟨s,rfl,rfl,cd,B⟩ a8 D;refine Fc ?_;refine c_ ?_;by_cases d:s<2
   case pos=>
    rw[r_ jw];refine c_ ?_;refine af (t1 d) ?_;refine af (nc d) ?_;refine m9 ?_;obtain⟨f,eL⟩ : ∃f,f=if s=0 then t else z:=⟨_,rfl⟩
    obtain⟨xs,eX⟩ : ∃xs,xs=if s=0 then x0 else x1:=⟨_,rfl⟩
    obtain⟨T,eP⟩ : ∃T,T=if s=0 then p.1 else p.2:=⟨_,rfl⟩
    rw[←eX];have P:q_ h xs 2 Gf f:=by grind
    have S:∀j,i_ c.up=O j->i_ xs≠O j:=λj e=>by grind
    have bn:W f<=1000:=by grind
    refine aO (L P S (f1 B)) ?_;refine aN (m:=W f) (λm ls g=>∃k,ls=[.i (DO k)]/\m=W f-k/\k<=W f/\S1 h b c N DJ pn F (λV=>(((C V/\∀k,k<j->I8 pn r t z V k)/\∀(k:Nat) q,k<j->r[k]?=O q->Ik pn V p.1 q.1 p.2 q.2)/\(1<=s->∀o∈t,Ik pn V p.1 o.1 p.1 o.2)/\(2<=s->∀o∈z,Ik pn V p.2 o.1 p.2 o.2))/\∀(i:Nat) o,i<k->f[i]?=O o->Ik pn V T o.1 T o.2) g) ⟨0,rfl,rfl,Eg _,B.congr λV=>⟨λq=>⟨q,λk _ M=>a_⟩,λq=>q.1⟩⟩ ?_;rintro m4 ck g4 ⟨k,rfl,rfl,M,I⟩ a9 E;refine Fc ?_;refine c_ ?_;by_cases A:k<W f
    case pos=>
     rw[aB A];refine c_ ?_;obtain⟨o,ho⟩:=ak A;refine aJ (L P S (f1 I)) rfl ho ?_;rw[show Gf o=[EO DQ (DO o.1),EO DQ (DO o.2)]from rfl];refine c_ ?_;have bd:(if s=0 then(DO p.1:Int)else DO p.2)=DO T:=by grind
     refine af (t1 d) ?_;refine af (uc d) ?_;rw[bd];refine m9 ?_;have bm:2<=W r+W t+W z:=by grind
     refine ai (I.below T o.1) ?_;refine c_ ?_;refine af (t1 d) ?_;refine af (uc d) ?_;rw[bd];refine m9 ?_;refine ai (I.below T o.2) ?_;refine c_ ?_;obtain⟨g5,ce,ag⟩:=I.equal (x:=T) (y:=o.1) (x':=T) (y':=o.2) (ad bm _ _) (ad bm _ _);refine ai ce ?_;refine c_ ?_;rw[aI a_];refine E _ _ _ a_ ⟨k+1,rfl,rfl,A,ag.congr λV=>?_⟩
     grind
    obtain rfl:k=W f:=a_;rw[aw (B7 _)];refine c_ ?_;rw[aI a_];refine D _ _ _ a_ ⟨s+1,rfl,rfl,d,I.congr λV=>?_⟩;have cp:(∀(i:Nat) o,i<W f->f[i]?=O o->Ik pn V T o.1 T o.2)↔∀o∈f,Ik pn V T o.1 T o.2:=by
     constructor
     .intro q o ho;obtain⟨i,hi⟩:=E4 ho
      grind
     grind
    grind
   obtain rfl:s=2:=a_;rw[s_ q7];refine c_ ?_;rw[aI a_];refine a6 _ _ _ a_ ⟨j+1,rfl,rfl,a0,B.congr λV=>?_⟩;constructor
   .rintro⟨⟨⟨a1,a2⟩,a3⟩,a4,a5⟩;refine⟨a1,λk M=>?_⟩;by_cases e:k=j
    .subst e;intro p' ct
     grind
    grind
   .rintro⟨a1,a2⟩;obtain⟨b1,b2,b3⟩:=a2 j a_ p w
    grind
  obtain rfl:i=W r:=a_;rw[aw (B7 _)];refine c_ ?_;refine bA (ds:=[x0,x1]) (aE (f1 hg)) d_ rfl ?_;refine c_ ?_;refine ab bk.g_ ?_;refine m9 ?_;refine ab bl.g_ ?_;refine m9 ?_;have f2:∀ {F':List DZ} {C:(Nat->Bool)->Prop} {g:HL},S2 h b c N DJ pn F' C g->∀(j:Nat) o,h[j]?=O o->j≠b->i_ c.up≠O j->i_ c.fo≠O j->g[j]?=O o:=λ{F' C g} q=>by obtain⟨_,_,_,_,_,_,_,M,_⟩:=q;exact M
  refine aN (m:=2) (λm ls g=>∃s,ls=[.i (DO s)]/\m=2-s/\s<=2/\S2 h b c N DJ pn (F++(if 1<=s then HE pn t (W t) else [])++(if 2<=s then HE pn z (W z) else [])) (λV=>C V/\∀i,i<W r->I8 pn r t z V i) g) ⟨0,rfl,rfl,q7,by simpa using hg.two⟩ ?_;rintro m3 ci g3 ⟨s,rfl,rfl,cd,B⟩ a8 D;refine Fc ?_;refine c_ ?_;by_cases d:s<2
  case neg=>
   obtain rfl:s=2:=a_;rw[s_ q7];refine c_ ?_
   grind
  rw[r_ jw];refine c_ ?_;refine af (t1 d) ?_;refine af (nc d) ?_;refine m9 ?_;obtain⟨f,eL⟩ : ∃f,f=if s=0 then t else z:=⟨_,rfl⟩
  obtain⟨xs,eX⟩ : ∃xs,xs=if s=0 then x0 else x1:=⟨_,rfl⟩
  obtain⟨FF,eF⟩ : ∃FF,FF=F++(if 1<=s then HE pn t (W t) else [])++(if 2<=s then HE pn z (W z) else []):=⟨_,rfl⟩;rw[←eX];rw[←eF]at B;have cn:W FF<=1001000000:=by
   have q0:=yF (pn:=pn) av.2.1 (W t) av.2.1
   grind
  have P:q_ h xs 2 Gf f:=by grind
  have S:∀j,i_ c.up=O j->i_ xs≠O j:=λj e=>by grind
  have bn:W f<=1000:=by grind
  refine aO (L P S (f2 B)) ?_;refine aN (m:=W f) (λm ls g=>∃k,ls=[.i (DO k)]/\m=W f-k/\k<=W f/\S2 h b c N DJ pn (FF++HE pn f k) (λV=>C V/\∀i,i<W r->I8 pn r t z V i) g) ⟨0,rfl,rfl,Eg _,by simpa[HE]using B⟩ ?_;rintro m4 ck g4 ⟨k,rfl,rfl,M,I⟩ a9 E;refine Fc ?_;refine c_ ?_;by_cases A:k<W f
  case neg=>
   obtain rfl:k=W f:=a_;rw[aw (B7 _)];refine c_ ?_;rw[aI a_];refine D _ _ _ a_ ⟨s+1,rfl,rfl,d,?_⟩
   grind
  rw[aB A];refine c_ ?_;obtain⟨o,ho⟩:=ak A;refine aJ (L P S (f2 I)) rfl ho ?_;rw[show Gf o=[EO DQ (DO o.1),EO DQ (DO o.2)]from rfl];refine c_ ?_;obtain⟨xt,et,lt,gt,bt⟩:=vF P M;refine af et (ab gt ?_);refine m9 ?_;have a7:W (f.take k)=k:=jw;refine aO lt ?_;rw[a7];refine aN (m:=k) (λm ls g=>∃j,ls=[.i (DO j)]/\m=k-j/\j<=k/\S2 h b c N DJ pn (FF++HE pn f k++((f.take k).take j).map (four pn o)) (λV=>C V/\∀i,i<W r->I8 pn r t z V i) g) ⟨0,rfl,rfl,Eg _,by simpa using I⟩ ?_;rintro m5 cy g5 ⟨j,rfl,rfl,Z,ag⟩ cm an;refine Fc ?_;refine c_ ?_;by_cases ay:j<k
  case neg=>
   obtain rfl:j=k:=a_;rw[aw (B7 _)];refine c_ ?_;rw[aI a_];refine E _ _ _ a_ ⟨j+1,rfl,rfl,A,?_⟩;rw[ux,←Gu];have:m' pn f j=((f.take j).take j).map (four pn o):=by
    unfold m'
    grind
   grind
  rw[aB ay];refine c_ ?_;obtain⟨u,hu⟩:=ak (l:=f.take k) (i:=j) a_;refine aJ (L lt (λj e=>by rw[bt];exact S j e) (f2 ag)) rfl hu ?_;rw[show Gf u=[EO DQ (DO u.1),EO DQ (DO u.2)]from rfl];refine c_ ?_;obtain⟨fo,n,rN,w,hN,hC,b4,b5,b6⟩:=ag;refine kK (ds:=[fo]) w.hb (by simp[aj]) rfl ?_;refine c_ ?_;have be:=w.fo.g_ tZ;refine ab be ?_;refine m9 ?_;refine ai (kS w.hb w.pr o.1 u.1) ?_;refine c_ ?_;refine ai (kS w.hb w.pr o.2 u.1) ?_;refine c_ ?_;refine ai (kS w.hb w.pr o.1 u.2) ?_;refine c_ ?_;refine ai (kS w.hb w.pr o.2 u.2) ?_;refine c_ ?_;have co:W (FF++HE pn f k++((f.take k).take j).map (four pn o))<=1100000000:=by
   have q1:=yF (pn:=pn) bn k a_
   grind
  refine w.fo.KG (a:=four pn o u) tZ (Eg _) rfl rfl rfl (by unfold aY;rw[FE a_,FE a_];rfl) ?_;intro v' g6 hO gv b9 ca bP;have ap:∀(j:Nat) o,g5[j]?=O o->i_ fo≠O j->g6[j]?=O o:=λj o Z hb=>b9 j o Z hb;refine c_ ?_;refine ab gv ?_;refine m9 ?_;have b8:g6[b]?=O (.o (EJ (aj { c with fo:=fo } n) 15 J)):=ap b _ w.hb λe=>by
   obtain⟨bb,h2⟩:=w.fo.wid e;rw[w.hb]at h2
   grind
  refine gz (b:=b) b8 (by simp[aj]) ?_;refine m9 ?_;have bC:I7 (g5++[HO.o (EJ (MZ (four pn o u)) 8 J)]) (EQ (O ⟨b,13,Q⟩)) [fo]:=⟨b,13,_,15,J,rfl,dI w.hb,gq.2 ⟨by simp[aj],rfl⟩⟩;refine cI (bC.lg rfl) ?_;refine c_ ?_;refine ab be ?_;refine m9 ?_;refine af (T6 (kJ (w.fo.ls tZ))) ?_;refine m9 ?_;rw[aI a_];refine an _ _ _ a_ ⟨j+1,rfl,rfl,ay,?_⟩;rw[Kx,hu,ME,←Gu];exact S2.four w hN hC b4 b5 b6 hO ap ca bP)
 grind
structure Sm(n1:Nat)(h:HL)(mm:Nat)(kv:FO)(ks:List K6)(is:TC)(vs:Tn)(ls:List (List K2)):Prop where
 mp:E8 N9 h mm (ks.zip (is.map lM))
 kl:i' n1 h kv 1 ER (is.map lM)
 nd:ks.Nodup
 il:is.length=ks.length
 idn:is.Nodup
 vl:vs.length=3*ks.length
 ll:ls.length=vs.length
 bl:∀(i:Nat) id,is[i]?=O id->n1<=id/\∃x y z,vs[3*i]?=O x/\vs[3*i+1]?=O y/\vs[3*i+2]?=O z/\h[id]?=O (.o (.cells [x,y,z] 3 J))
 ow:∀(j:Nat) v l,vs[j]?=O v->ls[j]?=O l->i' n1 h v 2 Gf l
 dj:∀(i j:Nat) v w x,vs[i]?=O v->vs[j]?=O w->i_ v=O x->i_ w=O x->i=j
def Sm.ke{f:Nat}{h h':HL}{e:Nat}{kv:TV}{ks:List K6}{is:TC}{vs:Tn}{ls:List (List K2)}(a:Sm f h e kv ks is vs ls)(d:∀(j:Nat) o,f<=j∨j=e->h[j]?=O o->h'[j]?=O o):Sm f h' e kv ks is vs ls:=
 ⟨a.mp.ke _ λo n=>d _ o (.inr rfl) n,a.kl.ke λj o m b=>d j o (.inl (a.kl.i_ b).1) m,a.nd,a.il,a.idn,a.vl,a.ll,λi id c=>by
  obtain⟨p,x,y,z,q,r,s,t⟩:=a.bl i id c
  simp_all,λj v l g k=>(a.ow j v l g k).ke λi o c b=>d i o (.inl ((a.ow j v l g k).i_ b).1) c,a.dj⟩
def gE{d:Nat}{h:HL}{b:Nat}(h0:h[b]?=O (.o (.map [] 0))):Sm d h b (DW Q 0 0) [] [] [] []:=
 ⟨⟨[],0,h0,rfl⟩,.inl ⟨rfl,rfl⟩,qcp,rfl,qcp,rfl,rfl,λi id c=>(by cases c),λj v l a=>(by cases a),λi j v w x a=>(by cases a)⟩
section
variable {n1:Nat} {h h':HL} {mm:Nat} {kv:FO} {ks:List K6} {is:TC} {vs:Tn} {ls:List (List K2)} (hs:Sm n1 h mm kv ks is vs ls)
include hs
theorem Sm.Kf{j e:Nat}{cs:Tn}{a:Bool}(f:h[j]?=O (.o (.cells cs e a))):j≠mm:=λb=>by
 subst b;obtain⟨c,g,d,_⟩:=hs.mp
 simp_all
theorem Sm.new{k:K6}(Z:k∉ks){id:Nat}{kv':TV}(j_:W h<=id)(P:n1<=W h)(hn:h'[id]?=O (.o (EJ [DW Q 0 0,DW Q 0 0,DW Q 0 0] 3 J)))(N:E8 N9 h' mm (ks.zip (is.map lM)++[(k,lM id)]))(D:i' n1 h' kv' 1 ER ((is++[id]).map lM))
  (d:∀(j:Nat) o,h[j]?=O o->n1<=j->j≠mm->i_ kv≠O j->h'[j]?=O o):Sm n1 h' mm kv' (ks++[k]) (is++[id]) (vs++[DW Q 0 0,DW Q 0 0,DW Q 0 0]) (ls++[[],[],[]]):=by
 have q:∀ {j e:Nat} {s:Tn} {r:Bool},h[j]?=O (.o (.cells s e r))->e≠1->i_ kv≠O j:=λ{j e s r} G Y L=>by
  obtain⟨K,m⟩:=hs.kl.wid L
  simp_all
 have B:∀x∈is,x<W h:=λx R=>by obtain⟨i,c⟩:=E4 R;obtain⟨_,_,_,_,_,_,_,p⟩:=hs.bl i x c;exact ah p
 have H:∀(j:Nat) v,([DW Q 0 0,DW Q 0 0,DW Q 0 0]:Tn)[j]?=O v->v=DW Q 0 0:=λj v G=>by grind
 have g:∀(j:Nat) v,(vs++[DW Q 0 0,DW Q 0 0,DW Q 0 0])[j]?=O v->(j<W vs/\vs[j]?=O v)∨(W vs<=j/\v=DW Q 0 0):=λj v G=>by grind
 refine⟨?_,D,?_,by simp[hs.il],?_,by simp[hs.vl];omega,by simp[hs.ll],λi x c=>?_,λj v l n m=>?_,λi j v w x n m t F=>?_⟩
 .rw[ME,List.zip_append (by rw[IR,hs.il])];exact N
 .rw[qb5];exact⟨hs.nd,d_,λa M b u e=>by simp_all⟩
 .rw[qb5];exact⟨hs.idn,d_,λa M b u e=>by grind⟩
 .rw[qbX]at c;split at c
  next f=>
   obtain⟨E,S,y,z,T,V,X,p⟩:=hs.bl i x c;refine⟨E,S,y,z,?_,?_,?_,d x _ p E (hs.Kf p) (q p q7)⟩
   .grind
   .grind
   grind
  next f=>
   have A:=ah c;simp only[qcV]at A;have C:i=W is:=a_;subst C;rw[v2]at c;cases c;have t:3*W is=W vs:=by rw[hs.vl,hs.il]
   grind
 .rcases g j v n with⟨f,n⟩|⟨f,rfl⟩
  .rw[Kh (by rw[hs.ll];exact f)]at m;have I:=hs.ow j v l n m;exact I.D6 λi s u c=>d i _ c (I.i_ u).1 (hs.Kf c) (q c q7)
  .rw[K0 (by rw[hs.ll];exact f)]at m;have:l=[]:=by grind
   rw[this];exact .inl ⟨rfl,rfl⟩
 .rcases g i v n with⟨_,n⟩|⟨_,rfl⟩
  .rcases g j w m with⟨_,m⟩|⟨_,rfl⟩
   .exact hs.dj i j v w x n m t F
   .cases F
  .cases t
theorem Sm.put{i s id:Nat}{v:TV}{l l':List K2}(hi:is[i]?=O id)(al:s<3)(F:vs[3*i+s]?=O v)(hl:ls[3*i+s]?=O l){g:HL}{v':TV}(X:i' n1 g v' 2 Gf l')(P:∀(j:Nat) o,h[j]?=O o->i_ v≠O j->g[j]?=O o)(hb:i_ v'=i_ v∨∃j,i_ v'=O j/\h.length<=j)
  {cs p:Tn} (A:h[id]?=O (.o (.cells cs 3 J))) (Z:p=cs.set s v'):Sm n1 (g.set id (.o (.cells p 3 J))) mm kv ks is (vs.set (3*i+s) v') (ls.set (3*i+s) l'):=by
 have R:=hs.ow _ v l F hl;have G:∀ {j e:Nat} {cs:Tn} {d:Bool},h[j]?=O (.o (.cells cs e d))->e≠2->i_ v≠O j:=λ{j e cs d} b he k=>by
  obtain⟨a,f⟩:=R.wid k
  simp_all
 have N:g[id]?=O (.o (.cells cs 3 J)):=P id _ A (G A q7);have hw:∀ {j e:Nat} {a:Tn} {d:Bool},g[j]?=O (.o (.cells a e d))->e≠3->j≠id:=λ{j e a d} b he k=>by simp_all
 have C:3*i+s<W vs:=ah F;have c:∀(j:Nat) w,(vs.set (3*i+s) v')[j]?=O w->(j=3*i+s/\w=v')∨(j≠3*i+s/\vs[j]?=O w):=λj w b=>by grind
 have T:∀j w,j≠3*i+s->vs[j]?=O w->(vs.set (3*i+s) v')[j]?=O w:=λj w e b=>jw;have S:∀(j:Nat) w x,j≠3*i+s->vs[j]?=O w->i_ w=O x->x<W h/\i_ v≠O x:=λj w x e b H=>by obtain⟨I,B⟩:=ak (l:=ls) (i:=j) (by rw[hs.ll];exact ah b);exact⟨((hs.ow j w I b B).i_ H).2,λk=>e (hs.dj j _ w v x b F H k)⟩
 refine⟨hs.mp.ke _ λo D=>cV (P mm o D λe=>?_) (EC (hs.Kf A).symm),hs.kl.D6 λj a Y b=>?_,hs.nd,hs.il,hs.idn,by rw[HP];exact hs.vl,by rw[HP,HP];exact hs.ll,λr t m=>?_,λj w I q f=>?_,λr n u w x q f L M=>?_⟩
 .obtain⟨a,f⟩:=R.wid e;exact hs.Kf f rfl
 .grind
 .obtain⟨V,x,y,z,a2,a3,a4,K⟩:=hs.bl r t m;by_cases e:r=i
  .subst e;rw[hi]at m;cases m;rw[A]at K;cases K;refine⟨V,?_⟩;obtain rfl|rfl|rfl:s=0∨s=1∨s=2:=a_
   .grind
   .grind
   grind
  .have ag:t≠id:=λk=>by
    subst k;have hn:=hs.idn;rw[j2,Ki]at hn
    grind
   grind
 .rcases c j w q with⟨rfl,rfl⟩|⟨e,q⟩
  .rw[Kw (by rw[hs.ll];exact C)]at f;cases f;exact X.D6 λj a _ b=>cV b (EC (hw b q7))
  .rw[K7 (EC e)]at f;have E:=hs.ow j w I q f;refine E.D6 λx a H b=>?_
   grind
 .have ad:∀n w x,n≠3*i+s->vs[n]?=O w->i_ w=O x->i_ v'≠O x:=λn w x e f M L=>by grind
  rcases c r u q with⟨rfl,rfl⟩|⟨e1,p1⟩
  .grind
  .rcases c n w f with⟨rfl,rfl⟩|⟨k,p2⟩
   .grind
   .exact hs.dj r n u w x p1 p2 L M
end
abbrev _root_.TH:=Nat->Mv
def rL(w v:Nat)(l:TD)(G:TH):Prop:=∀c e n,c<4*w*v->e<3->D_ w v c e=O n->G n=Gt w l (G c) c n e
def FN:Ty->Nat
 | []=>0
 |b::l=>(if b then 1 else 0)+FN l
def jc:∀l:List Bool,FN l<=W l
 | []=>B7 _
 |b::l=>by have:=jc l;simp only[FN,j1];split<;>omega
def ij:∀ {l:Ty} {n:Nat},l[n]?=O U->FN (l.set n J)=FN l+1
 | [],n,h=>by simp at h
 |b::l,0,h=>by simp only[qci,Ih]at h;subst h;simp[FN];omega
 |b::l,n+1,h=>by simp only[qb0]at h;have:=ij h;simp only[qcL,FN,this];omega
structure JS(w v:Nat)(l:TD)(A:TR)(B:Ty)(q:TC)(D:Nat->Nat->Prop):Prop where
 a0:A[0]?=O ET
 b0:B[0]?=O J
 q1:∀c∈q,B[c]?=O J
 dn:∀c e n,D c e->c<4*w*v->e<3->D_ w v c e=O n->B[c]?=O J->c∉q->B[n]?=O J/\∃a,A[c]?=O a/\A[n]?=O (Gt w l a c n e)
 bd:∀(c:Nat) a,B[c]?=O J->A[c]?=O a->Ew (20*(FN B:Int)) a
 un:∀G,rL w v l G->G 0=ET->∀(c:Nat) a,B[c]?=O J->A[c]?=O a->a=G c
structure Il(w v:Nat)(l:TD)(A:TR):Prop where
 len:A.length=4*w*v
 a0:A[0]?=O ET
 ok:∀a∈A,Ew 2000 a
 cons:∀c e n a,c<4*w*v->e<3->D_ w v c e=O n->A[c]?=O a->A[n]?=O (Gt w l a c n e)
section
variable {w v:Nat} {l:TD} {A:TR} {B:Ty} {q:TC}
def JS.start(f:Sh w v):JS w v l (FJ (4*w*v) ET) ((FJ (4*w*v) U).set 0 J) [0] λ_ _=>True:=by
 have i:0<4*w*v:=by
  have g:=f.1;have h:=f.2.2.1;have:0<w*v:=qdN g h
  grind
 have j:∀c,((FJ (4*w*v) U).set 0 J)[c]?=O J->c=0:=by grind
 refine⟨k_,k_,λc o=>?_,λc e n _ _ _ _ d p=>?_,λc a d b=>?_,λG m k c a d b=>?_⟩
 .simp_all
 .simp_all
 .have:=j c d;subst this;rw[ay,rv i]at b;cases b;exact Bn a_
 simp_all
def JS.pop{c0:Nat}(h:JS w v l A B (c0::q) λ_ _=>True):JS w v l A B q λc e=>c=c0->e<0:=by
 refine⟨h.a0,h.b0,λc a=>h.q1 c (G_ _ a),λc e n i a f g b k=>?_,h.bd,h.un⟩;by_cases d:c=c0
 .omega
 .exact h.dn c e n trivial a f g b λj=>by simp_all
def JS.skip{c0 j:Nat}(h:JS w v l A B q λc e=>c=c0->e<j)(m:D_ w v c0 j=Q):JS w v l A B q λc e=>c=c0->e<j+1:=by
 refine⟨h.a0,h.b0,h.q1,λc e n k d g a b i=>?_,h.bd,h.un⟩;refine h.dn c e n (λf=>?_) d g a b i
 grind
def JS.seen{c0 j n:Nat}{a:Mv}(h:JS w v l A B q λc e=>c=c0->e<j)(u:D_ w v c0 j=O n)(r:B[n]?=O J)(p:A[c0]?=O a)(t:A[n]?=O (Gt w l a c0 n j)):JS w v l A B q λc e=>c=c0->e<j+1:=by
 refine⟨h.a0,h.b0,h.q1,λc e o s f k d b m=>?_,h.bd,h.un⟩;by_cases i:c=c0/\e=j
 .simp_all
 .exact h.dn c e o (λg=>a_) f k d b m
def JS.fresh(F:Sh w v){c0 j n:Nat}{a:Mv}(h:JS w v l A B q λc e=>c=c0->e<j)(N:W A=4*w*v)(P:W B=4*w*v)(i:c0<4*w*v)(x:j<3)(y:D_ w v c0 j=O n)(p:B[c0]?=O J)(I:B[n]?=O U)(D:A[c0]?=O a) :
  JS w v l (A.set n (Gt w l a c0 n j)) (B.set n J) (q++[n]) λc e=>c=c0->e<j+1:=by
 obtain⟨Z,_,_,_,g5⟩:=de F i x y;have H:(B.set n J)[n]?=O J:=Kw a_;have m:(A.set n (Gt w l a c0 n j))[n]?=O (Gt w l a c0 n j):=Kw a_;have r:∀c,c≠n->(B.set n J)[c]?=B[c]?:=λc g=>K7 (EC g);have hA:∀c,c≠n->(A.set n (Gt w l a c0 n j))[c]?=A[c]?:=λc g=>K7 (EC g);have k:(0:Nat)≠n:=λe=>by have:=h.b0;simp_all
 have C:Ew (20*(FN B:Int)) a:=h.bd c0 a p D;refine⟨by rw[hA 0 k];exact h.a0,by rw[r 0 k];exact h.b0,λc g=>?_,λc e S hd g M z f E=>?_,λc s f d=>?_,λG t o c s f d=>?_⟩
 .rcases F_.1 g with g|g
  .have:=h.q1 c g
   grind
  simp_all
 .have b:c≠n:=λe=>E (by rw[e];simp);have u:c∉q:=λR=>E (Nn _ R);rw[r c b]at f;by_cases L:c=c0/\e=j
  .simp_all
  .obtain⟨V,T,X,Y⟩:=h.dn c e S (λK=>a_) g M z f u
   grind
 .rw[ij I];by_cases b:c=n
  .rw[b,m]at d;cases d;exact aU (Ag F i x y C a_) a_
  .rw[r c b]at f;rw[hA c b]at d;exact aU (h.bd c s f d) a_
 .by_cases b:c=n
  .rw[b,m]at d;cases d;rw[b,t c0 j n i x y,←h.un G t o c0 a p D]
  .rw[r c b]at f;rw[hA c b]at d;exact h.un G t o c s f d
def JS.done{c0:Nat}(h:JS w v l A B q λc e=>c=c0->e<3):JS w v l A B q λ_ _=>True:=
 ⟨h.a0,h.b0,h.q1,λc e n _ d a f b g=>h.dn c e n (λ_=>a) d a f b g,h.bd,h.un⟩
def GK(a:Sh w v):0<4*w*v/\4*w*v<=100:=by
 have b:1*1<=w*v:=qcq a.1 a.2.2.1;have c:w*v<=5*5:=qcq a.2.1 a.2.2.2
 grind
def JS.g_(o:Sh w v)(h:JS w v l A B [] λ_ _=>True)(g:W A=4*w*v)(r:W B=4*w*v):Il w v l A:=by
 have b:∀n,n<4*w*v->B[n]?=O J:=zd o h.b0 λc e n d f j p=>(h.dn c e n trivial d f j p d_).1;have y:=GK o;have k:=jc B;refine⟨g,h.a0,λa s=>?_,λc e n a d f j z=>?_⟩
 .obtain⟨i,m⟩:=E4 s;have:=ah m;exact aU (h.bd i a (b i a_) m) a_
 .obtain⟨_,t,u,x⟩:=h.dn c e n trivial d f j (b c d) d_
  simp_all
def JS.tear(r:Sh w v){c0 j n:Nat}{a b:Mv}{D:Nat->Nat->Prop}(h:JS w v l A B q D)(g:c0<4*w*v)(o:j<3)(p:D_ w v c0 j=O n)(e:B[c0]?=O J)(m:B[n]?=O J)(k:A[c0]?=O a)(f:A[n]?=O b)(i:b≠Gt w l a c0 n j):¬ ∃G,rL w v l G/\G 0=ET:=by rintro⟨G,d,c⟩;refine i ?_;rw[h.un G d c n b m f,d c0 j n g o p,←h.un G d c c0 a e k]
end
def left(B:Ty)(q:TC):Nat:=W q+(W B-FN B)
def tabCnt:Bool:=(EW 5).all λw=>(EW 5).all λv=>mP 124 [.i (.ofNat (w+1)),.i (.ofNat (v+1))] [.i (.ofNat (4*(w+1)*(v+1)))]
def nx:tabCnt=J:=e_
def cnt_c{w v:Nat}(h:Sh w v):Cc 124 [.i (.ofNat w),.i (.ofNat v)] [.i (.ofNat (4*w*v))]:=by have b:=D7.1 nx (w-1) (D2.2 (by have:=h.2.1;omega));have a:=D7.1 b (v-1) (D2.2 (by have:=h.2.2.1;have:=h.2.2.2;omega));rw[show w-1+1=w by have:=h.1;omega,show v-1+1=v by have:=h.2.2.1;omega]at a;exact fm a rfl e_ rfl
def eqsM{a b:Mv}{K:Tp}:P1.eqs [(.i (DO a.1),.i (DO b.1)),(.i a.2.1,.i b.2.1),(.i a.2.2,.i b.2.2)] (@j_ _ ⟨K⟩)=K (decide (a=b)):=by
 show K (cz _)=_;have e:cz [(.i (DO a.1),.i (DO b.1)),(.i a.2.1,.i b.2.1),(.i a.2.2,.i b.2.2)]=decide (a=b):=by rw[h9];simp[cz,iP,qdj];omega
 rw[e]
def l2(w v:Nat)(l:TD)(H:HL)(a:TG)(h':HL):Prop:=
 xk H h'/\((∃A id,a=[.v (DW (O ⟨id,0,le 3⟩) (4*w*v) (4*w*v+1)),.i 0]/\H.length<=id/\h'[id]?=O (.o (EJ (A.flatMap u9) 3 J))/\Il w v l A)∨
  (a=[.v (DW Q 0 0),.i 11]/\¬ ∃G,rL w v l G/\G 0=ET))
def Df{w v:Nat}(F:Sh w v){l:TD}(hk:(l.map bD).Nodup)(bk:W l<=1000){H:HL}{x:TV}(hl:q_ H x 3 q9 l) :
  ∃rs h',aD cc ac 95 [.i (.ofNat w),.i (.ofNat v),.v x] (h_ aa H) rs (h_ aa h')/\l2 w v l H rs h':=by
 have hN:=GK F;obtain⟨rs,h',h1,Y⟩:=x95 (K:=λrs h'=>l2 w v l H rs h') (H:=H) (mc (mc (o_ hl.g_ vc))) (by
  unfold f95;simp only[w7]
  repeat (first|simp(disch:=omega)only[↓qb]|refine cY (bp aG) rfl ?_|refine ab hl.g_ ?_)
  obtain⟨M,ad,Z⟩:=S8 (w:=.ofNat w) (v:=.ofNat v) (hl.pre (h':=H++[HO.o (EJ [EO DQ (.ofNat w),EO DQ (.ofNat v),x] 3 J)]) ⟨_,rfl⟩) hk bk;rw[show(H++[HO.o (EJ [EO DQ (.ofNat w),EO DQ (.ofNat v),x] 3 J)]).length=W H+1 by simp]at ad Z;have k0:W (H++[HO.o (EJ [EO DQ (.ofNat w),EO DQ (.ofNat v),x] 3 J)]++[M])=W H+2:=d_;have kp:(H++[HO.o (EJ [EO DQ (.ofNat w),EO DQ (.ofNat v),x] 3 J)]++[M])[W H]?=O (HO.o (EJ [EO DQ (.ofNat w),EO DQ (.ofNat v),x] 3 J)):=d_;have kH:xk H (H++[HO.o (EJ [EO DQ (.ofNat w),EO DQ (.ofNat v),x] 3 J)]++[M]):=⟨_,Gu ..⟩;refine ai ad ?_;clear ad;generalize H++[HO.o (EJ [EO DQ (.ofNat w),EO DQ (.ofNat v),x] 3 J)]++[M]=Y at *;refine c_ ?_;refine oZ aG rfl ?_;rw[mJ];have m0:W (Y++[HO.o (EJ [.map (O (W H+1))] 1 J)])=W H+3:=by simp[k0]
  have mp:=kp |> (xk.get (b:=Y++[HO.o (EJ [.map (O (W H+1))] 1 J)]) ⟨_,rfl⟩)
  have mv:(Y++[HO.o (EJ [.map (O (W H+1))] 1 J)])[W H+2]?=O (HO.o (EJ [.map (O (W H+1))] 1 J)):=k_;have mH:xk H (Y++[HO.o (EJ [.map (O (W H+1))] 1 J)]):=kH.Hu _;have mS:Lt (Y++[HO.o (EJ [.map (O (W H+1))] 1 J)]) (W H+1) l:=by obtain⟨X,c,I,L⟩:=Z;exact⟨X,c,xk.get ⟨_,rfl⟩ I,L⟩
  rw[k0];generalize Y++[HO.o (EJ [.map (O (W H+1))] 1 J)]=h3 at *;clear kp kH Z k0
  repeat (first|simp(disch:=omega)only[↓qb]|refine tb (p:=lM (W H)) (cs:=[EO DQ (.ofNat w),EO DQ (.ofNat v),x]) (ds:=[EO DQ (.ofNat w),EO DQ (.ofNat v)]) (bp mp) d_ rfl ?_|refine am (cnt_c F) ?_|refine af (dG a_) ?_)
  rw[show(DO (4*w*v)).toNat=4*w*v from rfl];have z0:HO.o (EJ (aQ [EO DU 0,EO DQ 0,EO DQ 0] (4*w*v)) 3 J)=HO.o (EJ ((FJ (4*w*v) ET).flatMap u9) 3 J):=by rw[←cP (enc:=u9) (z:=ET) (n:=4*w*v)];rfl
  rw[z0,m0];have n0:W (h3++[HO.o (EJ ((FJ (4*w*v) ET).flatMap u9) 3 J)])=W H+4:=by simp[m0]
  have np:=mp |> (xk.get (b:=h3++[HO.o (EJ ((FJ (4*w*v) ET).flatMap u9) 3 J)]) ⟨_,rfl⟩)
  have nv:=mv |> (xk.get (b:=h3++[HO.o (EJ ((FJ (4*w*v) ET).flatMap u9) 3 J)]) ⟨_,rfl⟩)
  have na:(h3++[HO.o (EJ ((FJ (4*w*v) ET).flatMap u9) 3 J)])[W H+3]?=O (HO.o (EJ ((FJ (4*w*v) ET).flatMap u9) 3 J)):=k_;have nH:xk H (h3++[HO.o (EJ ((FJ (4*w*v) ET).flatMap u9) 3 J)]):=mH.Hu _;have nS:Lt (h3++[HO.o (EJ ((FJ (4*w*v) ET).flatMap u9) 3 J)]) (W H+1) l:=by obtain⟨X,c,I,L⟩:=mS;exact⟨X,c,xk.get ⟨_,rfl⟩ I,L⟩
  generalize h3++[HO.o (EJ ((FJ (4*w*v) ET).flatMap u9) 3 J)]=h4 at *;clear mp mv mH mS m0;refine oZ aG rfl ?_;rw[mJ];refine m9 ?_;refine cY (bp aG) rfl ?_;refine c_ ?_;refine ab (by simp[aH,q8,aW,bG,bu,aR,aL]) ?_;refine c_ ?_;refine af (x:=DO (4*w*v)) rfl ?_;refine af (dG a_) ?_;refine c_ ?_;rw[n0,show(DO (4*w*v)).toNat=4*w*v from rfl];refine ab (by simp[aH,q8,aW,bG,bu,aR,aL]) ?_;have o0:W (h4++[HO.o (EJ [DW (O ⟨W H+3,0,O 13⟩) (4*w*v) (4*w*v+1)] 1 J)])=W H+5:=by simp[n0]
  have op:=np |> (xk.get (b:=h4++[HO.o (EJ [DW (O ⟨W H+3,0,O 13⟩) (4*w*v) (4*w*v+1)] 1 J)]) ⟨_,rfl⟩)
  have om:=nv |> (xk.get (b:=h4++[HO.o (EJ [DW (O ⟨W H+3,0,O 13⟩) (4*w*v) (4*w*v+1)] 1 J)]) ⟨_,rfl⟩)
  have oa:=na |> (xk.get (b:=h4++[HO.o (EJ [DW (O ⟨W H+3,0,O 13⟩) (4*w*v) (4*w*v+1)] 1 J)]) ⟨_,rfl⟩)
  have ov:(h4++[HO.o (EJ [DW (O ⟨W H+3,0,O 13⟩) (4*w*v) (4*w*v+1)] 1 J)])[W H+4]?=O (HO.o (EJ [DW (O ⟨W H+3,0,O 13⟩) (4*w*v) (4*w*v+1)] 1 J)):=k_;have oH:xk H (h4++[HO.o (EJ [DW (O ⟨W H+3,0,O 13⟩) (4*w*v) (4*w*v+1)] 1 J)]):=nH.Hu _;have oS:Lt (h4++[HO.o (EJ [DW (O ⟨W H+3,0,O 13⟩) (4*w*v) (4*w*v+1)] 1 J)]) (W H+1) l:=by obtain⟨X,c,I,L⟩:=nS;exact⟨X,c,xk.get ⟨_,rfl⟩ I,L⟩
  generalize h4++[HO.o (EJ [DW (O ⟨W H+3,0,O 13⟩) (4*w*v) (4*w*v+1)] 1 J)]=h5 at *;clear np nv na nH nS n0;have z1:HO.o (EJ (aQ [.bool U] (4*w*v)) 1 J)=HO.o (EJ ((FJ (4*w*v) U).flatMap D0) 1 J):=by rw[←cP (enc:=D0) (z:=U) (n:=4*w*v)];rfl
  rw[z1,o0];have r0:RS H (h5++[HO.o (EJ ((FJ (4*w*v) U).flatMap D0) 1 J)]) w v x l (FJ (4*w*v) ET) (FJ (4*w*v) U):=by obtain⟨X,c,I,L⟩:=oS;exact⟨oH.Hu _,by simp[o0],xk.get ⟨_,rfl⟩ op,⟨X,c,xk.get ⟨_,rfl⟩ I,L⟩,xk.get ⟨_,rfl⟩ om,xk.get ⟨_,rfl⟩ oa,xk.get ⟨_,rfl⟩ ov,k_,d_,d_⟩
  generalize h5++[HO.o (EJ ((FJ (4*w*v) U).flatMap D0) 1 J)]=h6 at *;clear op om oa ov oH oS o0;refine du (enc:=D0) (l:=FJ (4*w*v) U) (i:=0) (a:=J) cS r0.kn rfl (by simpa using hN.1) d_ rfl ?_;have r1:=r0.putB (B':=(FJ (4*w*v) U).set 0 J) d_;generalize sd h6 (W H+5) 1 D0 ((FJ (4*w*v) U).set 0 J)=h7 at *;refine m9 ?_;have r2:RS H (h7++[HO.o (EJ [EO DQ 0] 1 J)]) w v x l (FJ (4*w*v) ET) ((FJ (4*w*v) U).set 0 J):=r1.ke (λj o _ ho=>xk.get ⟨_,rfl⟩ ho) d_;have a7:WQ (W H+6) (h7++[HO.o (EJ [EO DQ 0] 1 J)]) (DW (O ⟨W h7,0,O 11⟩) 1 2) [0]:=⟨W h7,0,2,_,rfl,r1.len,aG,Sx.A2 rfl,.inr rfl⟩;have ax:=JS.start (l:=l) F;have av:W [0]<=FN ((FJ (4*w*v) U).set 0 J):=by rw[ij k_];simp
  generalize h7++[HO.o (EJ [EO DQ 0] 1 J)]=h8 at *;generalize Value.slice (O ⟨W h7,0,O 11⟩) 1 2=v8 at *;generalize FJ (4*w*v) ET=A0 at *;generalize (FJ (4*w*v) U).set 0 J=B0 at *;clear r0 r1;refine aN (m:=left B0 [0]) (λm ls h'=>∃A B q vv,ls=[.v vv]/\RS H h' w v x l A B/\WQ (W H+6) h' vv q/\JS w v l A B q (λ_ _=>True)/\q.length<=FN B/\m=left B q) ⟨A0,B0,[0],v8,rfl,r2,a7,ax,av,rfl⟩ ?_;clear r2 a7 ax av;rintro m ls h' ⟨A,B,q,vv,rfl,d,G,D,b5,rfl⟩ b0 al;refine Fc ?_;refine c_ ?_;refine aO G.ls ?_;cases q with
  |nil=>
   rw[A6 k_]
   repeat (first|simp(disch:=omega)only[↓qb]|refine cY (bp d.ov) rfl ?_|refine ab d.lsA.g_ ?_)
   exact⟨d.pre,.inl ⟨A,W H+3,rfl,a_,d.ol,D.g_ F d.la d.lb⟩⟩
  |cons C q=>
   rw[DY k_];refine c_ ?_;refine aJ G.ls (i:=0) rfl rfl ?_;unfold l_;refine c_ ?_;refine r_tail G ?_;intro v1 a8 a0;refine ab a0 ?_;have g:B[C]?=O J:=D.q1 C MA;have r:C<4*w*v:=by have:=ah g;have:=d.lb;omega
   have b2:=jc B;refine bo (g9:=FO×HL×List Mv×List Bool×List Nat) 3 (λj s=>[.v s.1,.i (DO j)]) (λ_ s=>s.2.1) (λj s=>RS H s.2.1 w v x l s.2.2.1 s.2.2.2.1/\WQ (W H+6) s.2.1 s.1 s.2.2.2.2/\JS w v l s.2.2.1 s.2.2.2.1 s.2.2.2.2 (λc e=>c=C->e<j)/\s.2.2.2.2.length<=FN s.2.2.2.1/\left s.2.2.2.1 s.2.2.2.2=left B q/\s.2.2.2.1[C]?=O J) (j0:=0) (s0:=(v1,h',A,B,q)) rfl rfl a_ ⟨d,a8,D.pop,jw,rfl,g⟩ ?_;clear d G D a8 a0 g;rintro j ⟨v2,ap,T,S,q2⟩ b3 ⟨d,G,D,P,f,g⟩ an y;simp only at d G D P f g y;refine c_ ?_;by_cases u:j<3
   case neg=>
    obtain rfl:j=3:=a_;rw[s_ k_];refine c_ ?_;refine al (left B q) _ _ ?_ ⟨T,S,q2,v2,rfl,d,G,D.done,P,f.symm⟩;unfold left
    simp_all
   rw[r_ jw];refine c_ ?_;have next:∀(v3:TV) (k:HL) (A3:TR) (V:Ty) (q3:TC),RS H k w v x l A3 V->WQ (W H+6) k v3 q3->JS w v l A3 V q3 (λc e=>c=C->e<j+1)->W q3<=FN V->left V q3=left B q->V[C]?=O J->an [.v v3,.i (DO j+1)] k:=λv3 k A3 V q3 I L a3 a4 a5 a6=>y (v3,k,A3,V,q3) u ⟨I,L,a3,a4,a5,a6⟩
   have E:∀K:Int->Prop,P1.C5 .add DU (DO j) 1 (@j_ _ ⟨K⟩)=K (DO j+1):=λK=>Nj jw jw;refine tb (p:=lM (W H)) (cs:=[EO DQ (.ofNat w),EO DQ (.ofNat v),x]) (ds:=[EO DQ (.ofNat w),EO DQ (.ofNat v)]) (bp d.p) d_ rfl ?_;refine c_ ?_;refine am (nb_c F r u) ?_;have bC:=jc S;have bP:=d.lb;cases h:D_ w v C j with
   |none=>unfold xn;rw[h];refine c_ ?_;rw[E];exact next _ _ _ _ _ d G (D.skip h) P f g
   |some n=>
    unfold xn;rw[h];refine c_ ?_;obtain⟨a,ha⟩:=ak (l:=T) (i:=C) (by rw[d.la];exact r);have bm:=D.bd C a g ha;have a9:=XE F (bp d.p) (bp d.mv) d.mp (bp d.ov) d.lsA r u h ha bm a_;refine gK (iV (args:=[EO DQ (DO C),EO DU (DO j)]) a9 rfl [.leaf (.i DQ (DO C)),.leaf (.i DU (DO j)),.leaf (.v (lM (W H))),.leaf (.v (lM (W H+2))),.leaf (.v (lM (W H+4)))] rfl rfl rfl) ?_;have ag:=(de F r u h).1;have b4:=(de F r u h).2.2.2.2;generalize hm:Gt w l a C n j=m at *;simp only[EG];refine c_ ?_;obtain⟨t,ht⟩:=ak (l:=S) (i:=n) a_;refine aJ d.lsB rfl ht ?_;unfold D0;refine c_ ?_;cases t with
    |true=>
     repeat (first|simp(disch:=omega)only[↓qb,Fv]|refine cY (bp d.ov) rfl ?_|refine ab d.lsA.g_ ?_)
     obtain⟨b,hb⟩:=ak (l:=T) (i:=n) (by rw[d.la];exact ag);refine aJ d.lsA rfl hb ?_;unfold u9;refine c_ ?_;rw[eqsM];by_cases N:b=m
     .rw[FX N];simp(disch:=omega)only[↓qb,Fv];rw[E];exact next _ _ _ _ _ d G (D.seen h ht ha (by rw[hb,N,hm])) P f g
     .rw[Ga N];simp(disch:=omega)only[↓qb,GG];exact⟨d.pre,.inr ⟨rfl,D.tear F r u h g ht ha hb (by rw[hm];exact N)⟩⟩
    |false=>
     repeat (first|simp(disch:=omega)only[↓qb,GG]|refine cY (bp d.ov) rfl ?_|refine ab d.lsA.g_ ?_)
     refine du (enc:=u9) (l:=T) (i:=n) (a:=m) cZ d.ol rfl (by rw[d.la];exact ag) d.la rfl ?_;have ay:=d.HH (A':=T.set n m) d_;have bt:=G.ke (h':=sd ap (W H+3) 3 u9 (T.set n m)) (λj o bb ho=>by rw[cA a_];exact ho);generalize sd ap (W H+3) 3 u9 (T.set n m)=k at *;refine m9 ?_;refine du (enc:=D0) (l:=S) (i:=n) (a:=J) cS ay.kn rfl a_ d.lb rfl ?_;have aE:=ay.putB (B':=S.set n J) d_;have bx:=bt.ke (h':=sd k (W H+5) 1 D0 (S.set n J)) (λj o bb ho=>by rw[cA a_];exact ho);generalize sd k (W H+5) 1 D0 (S.set n J)=h4' at *;refine m9 ?_;refine r_apQ (n:=n) bx aE.len rfl rfl a_ ?_;intro v5 b1 bs bn be bl;have R:=aE.ke be bl
     repeat (first|simp(disch:=omega)only[↓qb]|refine ab bn ?_|refine cY (bp R.ov) rfl ?_|refine ab R.lsA.g_ ?_)
     refine aJ R.lsA (a:=m) rfl (Kw (by rw[d.la];exact ag)) ?_;unfold u9;simp(disch:=omega)only[↓qb]
     try rw[eqsM,FX rfl]
     simp(disch:=omega)only[↓qb,Fv];rw[E];refine next _ _ _ _ _ R bs ?_ ?_ ?_ ?_
     .rw[←hm];exact D.fresh F d.la d.lb r u h g ht ha
     .rw[ij ht];simp;omega
     .rw[←f];have:=jc (S.set n J);unfold left;rw[ij ht]at this ⊢
      grind
     simp_all)
 grind
def bX(c:Cl):Tn:=[EO DQ c.1,EO DQ c.2.1,EO DU (DO c.2.2)]
def cK(c:Cl):W (bX c)=3:=rfl
def xj{m:Mv}{n:Int}(a:Ew n m){c:Cl}{k:Int}(b:-k<=c.1/\c.1<=k/\-k<=c.2.1/\c.2.1<=k):-(n+k+1)<=(aq m c).1/\(aq m c).1<=n+k+1/\-(n+k+1)<=(aq m c).2.1/\(aq m c).2.1<=n+k+1/\(aq m c).2.2<4:=by have d:=P3 a.1 b;have e:=a.2;unfold aq;simp only;refine⟨?_,?_,?_,?_,fi⟩<;>split<;>omega
def Xc(m:Mv):Bool:=decide (-16384<=m.2.1/\m.2.1<=16384/\-16384<=m.2.2/\m.2.2<=16384)
def NL(c:Cl):Bool:=decide (-4096<=c.1/\c.1<=4096/\-4096<=c.2.1/\c.2.1<=4096)
def vMv_ok{n:Int}{m:Mv}(h:Ew n m)(a:Xc m=J):Ew 16384 m:=by unfold Xc at a;rw[Gp]at a;exact⟨h.1,a.1,a.2.1,a.2.2.1,a.2.2.2,h.2.2.2.2.2⟩
def vMI(t x y:Int):Bool:=decide (t<8/\(-16384<=x/\x<=16384)/\(-16384<=y/\y<=16384)/\(x+y)%2=0)
def sf{n:Int}:Cc 122 [.i n] [.b (!decide (-16384<=n/\n<=16384))]:=by
 refine q122 rfl ?_;unfold f122;simp only[w7];refine c_ ?_;by_cases a:n < -16384
 .rw[r_ (show n < -16384 by omega)];refine c_ ?_
  simp_all
 .rw[s_ (show(-16384:Int)<=n by omega)];refine c_ ?_;by_cases c:n<=16384
  .rw[A6 a_];refine c_ ?_
   simp_all
  .rw[DY a_];refine c_ ?_
   simp_all
def Bb{t x y:Int}(g:0<=t/\t<=255):Cc 94 [.i t,.i x,.i y] [.i (if vMI t x y then 0 else 1)]:=by
 by_cases a:vMI t x y=J
 .rw[rv a];unfold vMI at a;rw[Gp]at a;exact ZV ⟨g.1,a.1⟩ a.2.1 a.2.2.1 a.2.2.2
 .rw[ts a];unfold vMI at a;rw[Gp]at a;refine q94 rfl ?_;unfold f94;simp only[w7];refine c_ ?_;by_cases f:8<=t
  .rw[Ho f];simp(disch:=omega)only[↓qb]
   try rfl
  rw[FL a_]
  repeat (first|simp(disch:=omega)only[↓qb]|refine am sf ?_)
  by_cases b:-16384<=x/\x<=16384
  case neg=>
   rw[Ga b];simp(disch:=omega)only[↓qb,GG]
   try rfl
  rw[FX b]
  repeat (first|simp(disch:=omega)only[↓qb,Fv]|refine am sf ?_)
  by_cases c:-16384<=y/\y<=16384
  case neg=>
   rw[Ga c];simp(disch:=omega)only[↓qb,GG]
   try rfl
  rw[FX c];simp(disch:=omega)only[↓qb,Fv];have j:(x+y)%2≠0:=λe=>a ⟨a_,b,c,e⟩;rcases Int.le_total 0 (x+y)with d|d
  .repeat (first|simp(disch:=omega)only[↓qb]|rw[Hq d a_])
   try rfl
  .have h:-(-(x+y)%2)≠0:=a_
   repeat (first|simp(disch:=omega)only[↓qb]|rw[II d a_])
   try rfl
def Vr{m:Mv}{n:Int}(h:Ew n m)(c:n<=100000):Cc 129 (EG m) (if Xc m then EG m++[.i 0]else [.i 0,.i 0,.i 0,.i 3]):=by
 refine q129 rfl ?_;unfold f129;simp only[w7]
 repeat (first|simp(disch:=omega)only[↓qb]|refine am (Bb (by have:=h.1;grind)) ?_)
 have e:vMI (DO m.1) m.2.1 m.2.2=Xc m:=by
  have a:=h.1;have b:=h.2.2.2.2.2;unfold vMI Xc
  grind
 rw[e];cases Xc m with
 |true=>
  simp only[if_true];simp(disch:=omega)only[↓qb]
  try rfl
 |false=>
  simp only[FG,if_false];simp(disch:=omega)only[↓qb]
  try rfl
def then_w{a b:Mv}(c:Ew 2000 a)(d:Ew 16384 b):Cc 96 (EG a++EG b) (if Xc (ae a b)then EG (ae a b)++[.i 0]else [.i 0,.i 0,.i 0,.i 3]):=by
 have e:=dX c d;refine q96 rfl ?_;unfold f96;simp only[w7];simp only[EG,Fe,E7]
 repeat (first|simp(disch:=omega)only[↓qb]|refine am (xh c a_) ?_|refine am (xh d a_) ?_|refine af (CM d.1) ?_|refine af (xE d.1) ?_|refine am (ZZ d.1 ⟨by have:=c.2;omega,by have:=c.2;omega,by have:=c.2;omega,by have:=c.2;omega⟩) ?_|refine af (CM c.1) ?_|refine af (xE c.1) ?_|refine am (So c.1 d.1) ?_|refine am (Z8 eH) ?_)
 have k:=e;obtain⟨_,f,g,h,j,_⟩:=k;unfold ae at f g h j;simp only at f g h j;rw[Hn a_ a_,Hn a_ a_];refine am (Vr (m:=ae a b) e a_) ?_;cases Xc (ae a b)with
 |true=>
  simp only[if_true];simp only[EG,Fe,E7];simp(disch:=omega)only[↓qb]
  try rfl
 |false=>
  simp only[FG,if_false];simp(disch:=omega)only[↓qb]
  try rfl
def Ya{c:Cl}(b:c.2.2<4):Cc 110 (EB c) [.i (if NL c then 0 else 1)]:=by
 by_cases a:NL c=J
 .rw[rv a];unfold NL at a;rw[Gp]at a;exact Yb ⟨a.1,a.2.1,a.2.2.1,a.2.2.2,b⟩
 .rw[ts a];unfold NL at a;rw[Gp]at a;refine q110 rfl ?_;unfold f110;simp only[w7];simp only[EB];refine c_ ?_;by_cases d:c.1 < -4096
  .repeat (first|simp(disch:=omega)only[↓qb])
   try rfl
  by_cases e:4096<c.1
  .repeat (first|simp(disch:=omega)only[↓qb])
   try rfl
  by_cases f:c.2.1 < -4096
  .repeat (first|simp(disch:=omega)only[↓qb])
   try rfl
  .have g:4096<c.2.1:=a_
   repeat (first|simp(disch:=omega)only[↓qb])
   try rfl
def Z0{m:Mv}(b:Ew 16384 m){c:Cl}(a:-1000<=c.1/\c.1<=1000/\-1000<=c.2.1/\c.2.1<=1000/\c.2.2<4):Cc 77 (EG m++EB c) (if NL (aq m c)then EB (aq m c)++[.i 0]else [.i 0,.i 0,.i 0,.i 3]):=by
 have d:=xj b (k:=1000) ⟨a.1,a.2.1,a.2.2.1,a.2.2.2.1⟩;refine q77 rfl ?_;unfold f77;simp only[w7];simp only[EG,EB,Fe,E7]
 repeat (first|simp(disch:=omega)only[↓qb]|refine am (xh b a_) ?_|refine am (Yb (c:=c) ⟨a_,a_,a_,a_,a.2.2.2.2⟩) ?_)
 refine am (eP b a) ?_;simp only[EB];refine c_ ?_;refine am (Ya (c:=aq m c) d.2.2.2.2) ?_;cases NL (aq m c)with
 |true=>
  simp only[if_true];simp(disch:=omega)only[↓qb]
  try rfl
 |false=>
  simp only[FG,if_false];simp(disch:=omega)only[↓qb]
  try rfl
def Il.eq{w v:Nat}{l:TD}{A:TR}(g:Sh w v)(hA:Il w v l A){G:TH}(f:rL w v l G)(h0:G 0=ET):∀c,c<4*w*v->A[c]?=O (G c):=
 zd g (by rw[h0];exact hA.a0) λc e n a b d h=>by rw[f c e n a b d];exact hA.cons c e n _ a b d h
def Fi(w v:Nat)(G:TH)(r:Mv):TR:=(EW (4*w*v)).map λc=>ae (G c) r
abbrev _root_.TL:=List Cl
def C6(w v:Nat)(G:TH)(r:Mv):TL:=(EW (4*w*v)).map λc=>aq (ae (G c) r) (ra w c)
def iA{w v:Nat}{G:TH}{r:Mv}{c:Nat}(h:c<4*w*v):(Fi w v G r)[c]?=O (ae (G c) r):=by
 unfold Fi
 simp_all
def dv{w v:Nat}{G:TH}{r:Mv}{c:Nat}(h:c<4*w*v):(C6 w v G r)[c]?=O (aq (ae (G c) r) (ra w c)):=by
 unfold C6
 simp_all
def take_set{j7:Type}{L A:List j7}{j:Nat}{a:j7}(b:L[j]?=O a)(c:W L=W A):(L.take j++A.drop j).set j a=L.take (j+1)++A.drop (j+1):=by have e:=ah b;have d:W (L.take j)=j:=jw;rw[qcW _ _ a_,d,v2,RK a_,List.set_cons_zero,Kx,b];simp
def hJ{j7:Type}{L A:List j7}{j:Nat}{a:j7}(hA:A[j]?=O a)(b:W L=W A):(L.take j++A.drop j)[j]?=O a:=by grind
def yV{j7:Type}{L A:List j7}{j:Nat}(a:W L=W A)(b:j<=W L):W (L.take j++A.drop j)=W A:=by simp_all
def dd{j7:Type}{e cx n:Nat}{enc:j7->Tn}(b:∀a,W (enc a)=e){h:HL}{id:Nat}{L:List j7}(d:h[id]?=O (.o (EJ (L.flatMap enc) e J)))(f:n=W L):q_ h (DW (O ⟨id,0,le e⟩) n cx) e enc L:=by subst f;have c:=aT (e:=e) (enc:=enc) (l:=L) λa _=>b a;exact⟨λa _=>b a,c,.inr ⟨id,0,cx,_,J,rfl,d,Sx.A2 c⟩⟩
def Ful{j7:Type}(h:HL)(x:FO)(e:Nat)(enc:j7->Tn)(l:List j7):Prop:=∃id,x=DW (O ⟨id,0,le e⟩) (W l) (W l+1)/\h[id]?=O (.o (EJ (l.flatMap enc) e J))
def Ful.ls{j7:Type}{h:HL}{x:TV}{e:Nat}{enc:j7->Tn}{l:List j7}(b:∀a,W (enc a)=e)(d:Ful h x e enc l):q_ h x e enc l:=by obtain⟨id,rfl,c⟩:=d;exact dd b c rfl
abbrev rW:FO:=DW Q 0 0
def KF(w:Nat)(G:TH)(r:Mv)(n:Nat):Prop:=∀c,c<n->Xc (ae (G c) r)=J/\NL (aq (ae (G c) r) (ra w c))=J
def KF.succ{w:Nat}{G:TH}{r:Mv}{n:Nat}(h:KF w G r n)(h1:Xc (ae (G n) r)=J)(a:NL (aq (ae (G n) r) (ra w n))=J):KF w G r (n+1):=λc b=>by
 by_cases e:c=n
 .simp_all
 .exact h c a_
structure C'(w v:Nat)(l:TD)(G:TH):Prop where
 g:rL w v l G
 z:G 0=ET
 ok:∀c,c<4*w*v->Ew 2000 (G c)
def Il.consO{w v:Nat}(k:Sh w v){l:TD}{A:TR}(h:Il w v l A):C' w v l (λc=>A.getD c ET):=by
 have m:=GK k;have d:∀c,c<4*w*v->A[c]?=O (A.getD c ET):=λc b=>by
  obtain⟨a,o⟩:=ak (l:=A) (i:=c) (by rw[h.len];exact b)
  simp_all
 refine⟨λc e n b g j=>?_,?_,λc b=>h.ok _ (A9 (d c b))⟩
 .have f:=h.cons c e n _ b g j (d c b)
  grind
 .have f:=h.a0
  grind
def cg{w v:Nat}(a:Sh w v){j:Nat}(e:j<4*w*v):-1000<=(ra w j).1/\(ra w j).1<=1000/\-1000<=(ra w j).2.1/\(ra w j).2.1<=1000/\(ra w j).2.2<4:=by
 have d:=GK a;have b:j / 4%w<=j / 4:=qdP _ _;have c:j / 4 / w<=j / 4:=qc8 _ _;refine⟨?_,?_,?_,?_,VN _ a_⟩
 .exact Int.le_trans (show(-1000:Int)<=0 by decide) (IK _)
 .exact qdB.2 (show j / 4%w<=1000 by omega)
 .exact Int.le_trans (show(-1000:Int)<=0 by decide) (IK _)
 .exact qdB.2 (show j / 4 / w<=1000 by omega)
def b7(w v:Nat)(l:TD)(r:Mv)(a:TG)(h':HL):Prop:=
 (a=[.v rW,.v rW,.i 11]/\¬ ∃G,rL w v l G/\G 0=ET)∨
 ∃G,C' w v l G/\((a=[.v rW,.v rW,.i 3]/\¬KF w G r (4*w*v))∨
  (∃b ix,a=[.v b,.v ix,.i 0]/\KF w G r (4*w*v)/\Ful h' b 3 u9 (Fi w v G r)/\Ful h' ix 3 bX (C6 w v G r)))
def both_c{w v:Nat}(f:Sh w v){l:TD}(hk:(l.map bD).Nodup)(av:W l<=1000){H:HL}{x:TV}(hl:q_ H x 3 q9 l)(ap:aD cc ac 93 [.i (.ofNat w),.i (.ofNat v),.v x] (h_ aa H) [.i 0] (h_ aa H))
  {r:Mv} (hr:Ew 16384 r) :
  ∃rs h',aD cc ac 71 ([.i (.ofNat w),.i (.ofNat v),.v x]++EG r) (h_ aa H) rs (h_ aa h')/\xk H h'/\b7 w v l r rs h':=by
 have hN:=GK f;obtain⟨a6,p,c1,d,S⟩:=Df f hk av hl;have a5:=x71 (ls:=[.i (.ofNat w),.i (.ofNat v),.v x,.i (DO r.1),.i r.2.1,.i r.2.2]) (K:=λrs h'=>xk H h'/\b7 w v l r rs h') (H:=H) (mc (mc (o_ hl.g_ (mc (mc (mc vc)))))) (by
  unfold f71;simp only[w7]
  repeat (first|simp(disch:=omega)only[↓qb]|refine ai ap ?_|refine am (xh hr a_) ?_)
  refine ai c1 ?_;rcases S with⟨A,id,rfl,j_,R,hA⟩|⟨rfl,ax⟩
  case inr=>refine c_ ?_;exact⟨d,.inl ⟨Ei,ax⟩⟩
  refine c_ ?_;have I:=hA.consO f;generalize a4:(λc=>A.getD c ET)=G at I;have ad:=hA.eq f I.g I.z;have t:W (Fi w v G r)=W A:=by rw[hA.len];simp[Fi]
  have hI:W (C6 w v G r)=4*w*v:=by simp[C6]
  have a1:=ah R;refine af (x:=DO (4*w*v)) rfl ?_;refine af (dG a_) ?_;refine c_ ?_;rw[show(DO (4*w*v)).toNat=4*w*v from rfl];have z0:HO.o (EJ (aQ [EO DQ 0,EO DQ 0,EO DU 0] (4*w*v)) 3 J)=HO.o (EJ ((FJ (4*w*v) ((0,0,0):Cl)).flatMap bX) 3 J):=by rw[←cP (enc:=bX) (z:=((0,0,0):Cl)) (n:=4*w*v)];rfl
  rw[z0];refine af (x:=DO (4*w*v)) rfl ?_;have hZ:W (C6 w v G r)=W (FJ (4*w*v) ((0,0,0):Cl)):=by rw[hI];simp
  have k:(p++[HO.o (EJ ((FJ (4*w*v) ((0,0,0):Cl)).flatMap bX) 3 J)])[id]?=O (.o (EJ (A.flatMap u9) 3 J)):=xk.get ⟨_,rfl⟩ R;have L:(p++[HO.o (EJ ((FJ (4*w*v) ((0,0,0):Cl)).flatMap bX) 3 J)])[W p]?=O (HO.o (EJ ((FJ (4*w*v) ((0,0,0):Cl)).flatMap bX) 3 J)):=aG;have M:xk H (p++[HO.o (EJ ((FJ (4*w*v) ((0,0,0):Cl)).flatMap bX) 3 J)]):=d.Hu _;have P:W p≠id:=a_;have N:W H<=W p:=d.len;generalize FJ (4*w*v) ((0,0,0):Cl)=Z at *;generalize p++[HO.o (EJ (Z.flatMap bX) 3 J)]=h2 at *;generalize (W p)=iX at *;refine bo (g9:=HL) (4*w*v) (λj _=>[.i (DO j)]) (λ_ s=>s) (λj s=>xk H s/\s[id]?=O (.o (EJ (((Fi w v G r).take j++A.drop j).flatMap u9) 3 J))/\s[iX]?=O (.o (EJ (((C6 w v G r).take j++Z.drop j).flatMap bX) 3 J))/\KF w G r j) (j0:=0) (s0:=h2) rfl rfl (Eg _) ⟨M,by simpa using k,by simpa using L,λc hc=>a_⟩ ?_;clear k L M;rintro j h hj ⟨M,k,L,u⟩ a3 C;refine c_ ?_;by_cases b:j<4*w*v
  .rw[aB b];refine c_ ?_;have ha:=ad j b;have al:=iA (G:=G) (r:=r) b;have ag:=dv (G:=G) (r:=r) b;have e:=yV (j:=j) t (by rw[t,hA.len];omega);have a2:=yV (j:=j) hZ a_;refine aJ (dd cZ k (by rw[e,hA.len])) rfl (hJ ha t) ?_;unfold u9;refine c_ ?_;refine am (MM (tE w v f.1 f.2.1 f.2.2.1 f.2.2.2) b) ?_;unfold Lw;refine c_ ?_;have T:Ew 2000 (G j):=hA.ok _ (A9 ha);have a0:=dX T hr;refine am (then_w T hr) ?_;cases D:Xc (ae (G j) r)with
   |false=>
    simp only[FG,if_false]
    repeat (first|simp(disch:=omega)only[↓qb]|refine du (enc:=u9) (l:=(Fi w v G r).take j++A.drop j) (i:=j) (a:=ET) cZ k rfl jw (by rw[e,hA.len]) rfl ?_)
    exact⟨lr M j_,.inr ⟨G,I,.inl ⟨Ei,λq=>by rw[(q j b).1]at D;cases D⟩⟩⟩
   |true=>
   simp only[if_true];have y:Xc (ae (G j) r)=J:=D;have V:=vMv_ok a0 y;have B:=cg f b;have ay:=y;generalize hm:ae (G j) r=m at *;simp only[EG,Fe,E7];refine c_ ?_;refine du (enc:=u9) (l:=(Fi w v G r).take j++A.drop j) (i:=j) (a:=m) cZ k rfl jw (by rw[e,hA.len]) rfl ?_;rw[take_set al t];have X:(sd h id 3 u9 ((Fi w v G r).take (j+1)++A.drop (j+1)))[id]?=O (.o (EJ (((Fi w v G r).take (j+1)++A.drop (j+1)).flatMap u9) 3 J)):=bS (ah k);have F:(sd h id 3 u9 ((Fi w v G r).take (j+1)++A.drop (j+1)))[iX]?=O (.o (EJ (((C6 w v G r).take j++Z.drop j).flatMap bX) 3 J)):=by rw[cA P];exact L
   have Y:xk H (sd h id 3 u9 ((Fi w v G r).take (j+1)++A.drop (j+1))):=lr M j_;generalize sd h id 3 u9 ((Fi w v G r).take (j+1)++A.drop (j+1))=h3 at *;refine c_ ?_;have E:=yV (j:=j+1) t (by rw[t,hA.len];omega);refine aJ (a:=m) (dd cZ X (by rw[E,hA.len])) rfl ?_ ?_
   .grind
   unfold u9;refine c_ ?_;refine am (Z0 (c:=ra w j) V B) ?_;cases aE:NL (aq m (ra w j))with
   |false=>
    simp only[FG,if_false]
    repeat (first|simp(disch:=omega)only[↓qb]|refine du (enc:=bX) (l:=(C6 w v G r).take j++Z.drop j) (i:=j) (a:=((0,0,0):Cl)) cK F rfl a_ a_ rfl ?_)
    exact⟨lr Y N,.inr ⟨G,I,.inl ⟨Ei,λq=>by
     have:=(q j b).2
     simp_all⟩⟩⟩
   |true=>
   simp only[if_true];generalize an:aq m (ra w j)=ci at *;simp only[EB,Fe,E7];refine c_ ?_;refine du (enc:=bX) (l:=(C6 w v G r).take j++Z.drop j) (i:=j) (a:=ci) cK F rfl a_ a_ rfl ?_;rw[take_set ag hZ];refine c_ ?_;rw[aI a_];refine C _ b ⟨lr Y N,by rw[cA (EC P)];exact X,bS (ah F),u.succ (by rw[hm];exact ay) (by rw[hm,an];exact aE)⟩
  .obtain rfl:j=4*w*v:=a_;rw[aw (B7 _)];refine c_ ?_;rw[K5 (by rw[t,hA.len];omega),u1 (by rw[hA.len];omega),Kv]at k;rw[K5 a_,u1 a_,Kv]at L;have e1:W (Fi w v G r)=4*w*v:=by rw[t,hA.len]
   refine⟨M,.inr ⟨G,I,.inr ⟨_,_,rfl,u,⟨id,?_,k⟩,⟨iX,?_,L⟩⟩⟩⟩
   .rw[e1]
   .rw[hI];rfl)
 grind
structure BothC(ls:TG)(H:HL)(lx ix:FO)(e:Int)(h1:HL):Prop where
 c:aD cc ac 71 ls (h_ aa H) [.v lx,.v ix,.i e] (h_ aa h1)
 p:xk H h1
 g1:aH lx=J
 g2:aH ix=J
section
variable {w v t a b e:Int} {x lx ix:FO} {H h1:HL} (hx:aH x=J) (hb:BothC [.i w,.i v,.v x,.i t,.i a,.i b] H lx ix e h1)
include hx hb
theorem hQ:aD cc ac 74 [.i w,.i v,.v x,.i t,.i a,.i b] (h_ aa H) [.v lx,.i e] (h_ aa h1):=by
 exact xK x74 (mc (mc (o_ hx (mc (mc (mc vc)))))) (by
  unfold f74;simp only[w7]
  repeat (first|simp(disch:=omega)only[↓qb]|refine ai hb.c ?_)
  simp_all)
theorem Zb:aD cc ac 45 [.i w,.i v,.v x,.i t,.i a,.i b] (h_ aa H) [.v ix,.i e] (h_ aa h1):=by
 exact xK x45 (mc (mc (o_ hx (mc (mc (mc vc)))))) (by
  unfold f45;simp only[w7]
  repeat (first|simp(disch:=omega)only[↓qb]|refine ai hb.c ?_)
  simp_all)
end
section
variable {w v:Nat} {l:TD} {A:TR} {B:Ty} {q:TC}
def JS.begin{c0:Nat}(h:JS w v l A B q λ_ _=>True):JS w v l A B (q.filter λc=>!Nat.beq c c0) λc e=>c=c0->False:=by
 refine⟨h.a0,h.b0,λc a=>h.q1 c (Hs.1 a).1,λc e n i a d f b g=>?_,h.bd,h.un⟩;refine h.dn c e n trivial a d f b λj=>g ?_
 simp_all
def JS.skipP{c0 j:Nat}{P:Tz}(h:JS w v l A B q λc e=>c=c0->P e)(m:D_ w v c0 j=Q):JS w v l A B q λc e=>c=c0->P e∨e=j:=by
 refine⟨h.a0,h.b0,h.q1,λc e n k d g a b i=>?_,h.bd,h.un⟩;refine h.dn c e n (λf=>?_) d g a b i
 grind
def JS.seenP{c0 j n:Nat}{a:Mv}{P:Tz}(h:JS w v l A B q λc e=>c=c0->P e)(x:D_ w v c0 j=O n)(t:B[n]?=O J)(s:A[c0]?=O a)(u:A[n]?=O (Gt w l a c0 n j)):JS w v l A B q λc e=>c=c0->P e∨e=j:=by
 refine⟨h.a0,h.b0,h.q1,λc e r m k o i d p=>?_,h.bd,h.un⟩;by_cases f:c=c0/\e=j
 .simp_all
 .exact h.dn c e r (λb=>(m b).resolve_right λg=>f ⟨b,g⟩) k o i d p
def JS.freshP(K:Sh w v){c0 j n:Nat}{a:Mv}{P:Tz}(h:JS w v l A B q λc e=>c=c0->P e)(S:W A=4*w*v)(T:W B=4*w*v)(i:c0<4*w*v)(C:j<3)(D:D_ w v c0 j=O n)(p:B[c0]?=O J)(M:B[n]?=O U)(H:A[c0]?=O a) :
  JS w v l (A.set n (Gt w l a c0 n j)) (B.set n J) (q++[n]) λc e=>c=c0->P e∨e=j:=by
 obtain⟨g1,_,_,_,g5⟩:=de K i C D;have L:(B.set n J)[n]?=O J:=Kw a_;have m:(A.set n (Gt w l a c0 n j))[n]?=O (Gt w l a c0 n j):=Kw a_;have s:∀c,c≠n->(B.set n J)[c]?=B[c]?:=λc g=>K7 (EC g);have hA:∀c,c≠n->(A.set n (Gt w l a c0 n j))[c]?=A[c]?:=λc g=>K7 (EC g);have k:(0:Nat)≠n:=λe=>by have:=h.b0;simp_all
 have F:Ew (20*(FN B:Int)) a:=h.bd c0 a p H;refine⟨by rw[hA 0 k];exact h.a0,by rw[s 0 k];exact h.b0,λc g=>?_,λc e X N g R E f I=>?_,λc t f d=>?_,λG u o c t f d=>?_⟩
 .rcases F_.1 g with g|g
  .have:=h.q1 c g
   grind
  simp_all
 .have b:c≠n:=λe=>I (by rw[e];simp);have y:c∉q:=λV=>I (Nn _ V);rw[s c b]at f;by_cases x:c=c0/\e=j
  .simp_all
  .obtain⟨Z,Y,d2,d3⟩:=h.dn c e X (λr=>(N r).resolve_right λz=>x ⟨r,z⟩) g R E f y
   grind
 .rw[ij M];by_cases b:c=n
  .rw[b,m]at d;cases d;exact aU (Ag K i C D F a_) a_
  .rw[s c b]at f;rw[hA c b]at d;exact aU (h.bd c t f d) a_
 .by_cases b:c=n
  .rw[b,m]at d;cases d;rw[b,u c0 j n i C D,←h.un G u o c0 a p H]
  .rw[s c b]at f;rw[hA c b]at d;exact h.un G u o c t f d
def JS.doneP{c0:Nat}{P:Tz}(h:JS w v l A B q λc e=>c=c0->P e)(g:∀e,e<3->P e):JS w v l A B q λ_ _=>True:=
 ⟨h.a0,h.b0,h.q1,λc e n _ d a f b i=>h.dn c e n (λ_=>g e a) d a f b i,h.bd,h.un⟩
def JS.Rf{c0:Nat}{P li:Tz}(h:JS w v l A B q λc e=>c=c0->P e)(i:∀e,li e->P e):JS w v l A B q λc e=>c=c0->li e:=
 ⟨h.a0,h.b0,h.q1,λc e n d a f g b j=>h.dn c e n (λa=>i e (d a)) a f g b j,h.bd,h.un⟩
end
def eK(q k:Nat):Nat:=if k=0 then 0 else if decide (q%2=0)=decide (k=1)then 1 else 2
def gm(q k:Nat):eK q k<3:=by
 unfold eK
 grind
def MX{q:Nat}(e:Nat)(c:e<3):∃k,k<3/\eK q k=e:=by
 have a:q%2=0∨q%2=1:=a_;have b:e=0∨e=1∨e=2:=a_;rcases a with a|a<;>rcases b with rfl|rfl|rfl
 .exact⟨0,a_,rfl⟩
 .exact⟨1,a_,by simp[eK,a]⟩
 .exact⟨2,a_,by simp[eK,a]⟩
 .exact⟨0,a_,rfl⟩
 .exact⟨2,a_,by simp[eK,a]⟩
 .exact⟨1,a_,by simp[eK,a]⟩
def FK(m:Mv)(p:Int×Int):Int×Int:=(mA m.1*p.1+mB m.1*p.2+6*m.2.1,mC m.1*p.1+mD m.1*p.2+6*m.2.2)
def inX(q:Nat):Int:=match q with
 |0=>3
 |1=>5
 |2=>3
 |_=>1
def inY(q:Nat):Int:=match q with
 |0=>1
 |1=>3
 |2=>5
 |_=>3
def EK(c:Cl):Int×Int:=(6*c.1+inX c.2.2,6*c.2.1+inY c.2.2)
def atQ(x y:Int):Nat:=if y<x/\x+y<6 then 0 else if y<x then 1 else if 6<x+y then 2 else 3
def atP(p:Int×Int):Cl:=(p.1 / 6,p.2 / 6,atQ (p.1-6*(p.1 / 6)) (p.2-6*(p.2 / 6)))
def Gq{q:Nat}(h:q<4):q=0∨q=1∨q=2∨q=3:=a_
def at_go{m:Mv}{c:Cl}(a:m.1<8)(b:c.2.2<4):atP (FK m (EK c))=aq m c:=by
 obtain⟨t,X,Y⟩:=m;obtain⟨x,y,q⟩:=c;simp only at a b;rcases t8 a with rfl|rfl|rfl|rfl|rfl|rfl|rfl|rfl<;>rcases Gq b with rfl|rfl|rfl|rfl
 all_goals
  simp only[atP,FK,EK,inX,inY,mA,mB,mC,mD,aq,qT];refine Xl ?_ (Xl ?_ ?_)
  .simp;omega
  .simp;omega
  .simp only[atQ]
   grind
end Go.Am
namespace Go.Am
open Sx
def l6{a b:Mv}(c:a.1<8)(d:b.1<8)(p:Int×Int):FK b (FK a p)=FK (ae a b) p:=by
 obtain⟨s,X,Y⟩:=a;obtain⟨t,rN,V⟩:=b;obtain⟨x,y⟩:=p;simp only at c d;rcases t8 c with rfl|rfl|rfl|rfl|rfl|rfl|rfl|rfl<;>rcases t8 d with rfl|rfl|rfl|rfl|rfl|rfl|rfl|rfl
 all_goals
  simp[FK,ae,EL,mA,mB,mC,mD];omega
def d7{s t:Nat}(d:s<8)(e:t<8)(h1:mA s=mA t)(a:mC s=mC t)(b:mB s=mB t)(c:mD s=mD t):s=t:=by
 rcases t8 d with rfl|rfl|rfl|rfl|rfl|rfl|rfl|rfl<;>rcases t8 e with rfl|rfl|rfl|rfl|rfl|rfl|rfl|rfl
 all_goals first
  |rfl
  |(exfalso;simp[mA,mB,mC,mD]at h1 a b c)
end Go.Am
namespace Go.Am
open Sx Go.Proofs
def Ke(w v c k:Nat):Int:=match D_ w v c (eK (c%4) k)with
 |O n=>DO n
 |Q=>-1
def mirT(w v c k:Nat):Bool:=match D_ w v c (eK (c%4) k)with
 |O n=>mP 55 (EB (ra w c)++EB (ra w n)) (EG (wd (u_ (ra w c) (eK (c%4) k))))
 |Q=>J
def Dt(w v c k:Nat):Bool:=mP 54 [.i (.ofNat w),.i (.ofNat v),.i (.ofNat c),.i (.ofNat k)] [.i (Ke w v c k)]&&(mP 25 (EB (ra w c)++[.i (.ofNat k)]) (EB (E5 (ra w c) (eK (c%4) k)))&&(mP 60 [.i (.ofNat w),.i (.ofNat v),.i (.ofNat c),.i (.ofNat k)] [.i (.ofNat (eK (c%4) k))]&&mirT w v c k))
def tab4(w v:Nat):Bool:=(EW (4*w*v)).all λc=>mP 23 [.i (.ofNat w),.i (.ofNat v),.i (.ofNat c)] (EB (ra w c))&&(EW 3).all λk=>Dt w v c k
def all4:∀w v:Nat,1<=w->w<=3->1<=v->v<=3->tab4 w v=J:=by
 have a:((EW 3).all λw=>(EW 3).all λv=>tab4 (w+1) (v+1))=J:=e_;intro w v c d e f;have b:=D7.1 a (w-1) (D2.2 a_);have g:=D7.1 b (v-1) (D2.2 a_)
 simp_all
def S3(w v:Nat):Prop:=1<=w/\w<=3/\1<=v/\v<=3
def S3.sh{w v:Nat}(h:S3 w v):Sh w v:=⟨h.1,by have:=h.2.1;omega,h.2.2.1,by have:=h.2.2.2;omega⟩
section
variable {w v c k:Nat}
def rF(h:S3 w v)(a:c<4*w*v):mP 23 [.i (.ofNat w),.i (.ofNat v),.i (.ofNat c)] (EB (ra w c))=J/\∀k,k<3->Dt w v c k=J:=by
 have:=D7.1 (all4 w v h.1 h.2.1 h.2.2.1 h.2.2.2) c (D2.2 a)
 simp_all
def ii(h:S3 w v)(a:c<4*w*v):Cc 23 [.i (.ofNat w),.i (.ofNat v),.i (.ofNat c)] (EB (ra w c)):=fm (rF h a).1 rfl e_ rfl
def xm(h:S3 w v)(a:c<4*w*v)(b:k<3):Cc 54 [.i (.ofNat w),.i (.ofNat v),.i (.ofNat c),.i (.ofNat k)] [.i (Ke w v c k)]:=by have:=(rF h a).2 k b;unfold Dt at this;rw[y_]at this;exact fm this.1 rfl e_ rfl
def Cs(h:S3 w v)(a:c<4*w*v)(b:k<3):Cc 25 (EB (ra w c)++[.i (.ofNat k)]) (EB (E5 (ra w c) (eK (c%4) k))):=by have:=(rF h a).2 k b;unfold Dt at this;rw[y_,y_]at this;exact fm this.2.1 rfl e_ rfl
def Yz(h:S3 w v)(a:c<4*w*v)(b:k<3):Cc 60 [.i (.ofNat w),.i (.ofNat v),.i (.ofNat c),.i (.ofNat k)] [.i (.ofNat (eK (c%4) k))]:=by have:=(rF h a).2 k b;unfold Dt at this;rw[y_,y_,y_]at this;exact fm this.2.2.1 rfl e_ rfl
def dD(h:S3 w v)(a:c<4*w*v)(b:k<3){n:Nat}(d:D_ w v c (eK (c%4) k)=O n):Cc 55 (EB (ra w c)++EB (ra w n)) (EG (wd (u_ (ra w c) (eK (c%4) k)))):=by have:=(rF h a).2 k b;unfold Dt mirT at this;rw[y_,y_,y_,d]at this;exact fm this.2.2.2 rfl e_ rfl
end
def of0:DO 0=0:=rfl
def of1:DO 1=1:=rfl
def of2:DO 2=2:=rfl
def of3:DO 3=3:=rfl
def of4:DO 4=4:=rfl
def of5:DO 5=5:=rfl
def of6:DO 6=6:=rfl
def of7:DO 7=7:=rfl
def wG{m:Mv}{x y:Int}(a:m.1<8)(b:-100000<=m.2.1/\m.2.1<=100000/\-100000<=m.2.2/\m.2.2<=100000)(c:-10000000<=x/\x<=10000000/\-10000000<=y/\y<=10000000):Cc 58 (EG m++[.i x,.i y]) [.i (FK m (x,y)).1,.i (FK m (x,y)).2]:=by
 obtain⟨t,X,Y⟩:=m;simp only at a b;refine q58 rfl ?_;unfold f58;simp only[w7];simp only[EG,Fe,E7];rcases t8 a with rfl|rfl|rfl|rfl|rfl|rfl|rfl|rfl
 all_goals
  simp only[of0,of1,of2,of3,of4,of5,of6,of7]
  repeat (first|simp(disch:=omega)only[↓qb]|refine By 5 ?_)
  simp only[FK,mA,mB,mC,mD,Li,Lf.i.injEq,and_true];omega
def sJ{c:Cl}(a:c.2.2<4)(b:-100000<=c.1/\c.1<=100000/\-100000<=c.2.1/\c.2.1<=100000):Cc 59 (EB c) [.i (EK c).1,.i (EK c).2]:=by
 obtain⟨x,y,q⟩:=c;simp only at a b;refine q59 rfl ?_;unfold f59;simp only[w7];simp only[EB];have d:Cc 91 [.i x,.i y,.i (DO q)] (match q with
  |0=>[.i (6*x+3),.i (6*y+3),.i (6*x),.i (6*y),.i (6*x+6),.i (6*y)]
  |1=>[.i (6*x+3),.i (6*y+3),.i (6*x+6),.i (6*y),.i (6*x+6),.i (6*y+6)]
  |2=>[.i (6*x+3),.i (6*y+3),.i (6*x+6),.i (6*y+6),.i (6*x),.i (6*y+6)]
  |_=>[.i (6*x+3),.i (6*y+3),.i (6*x),.i (6*y+6),.i (6*x),.i (6*y)]):=by
  refine q91 rfl ?_;unfold f91;simp only[w7];rcases Gq a with rfl|rfl|rfl|rfl
  all_goals
   simp only[of0,of1,of2,of3,of4,of5,of6,of7]
   repeat (first|simp(disch:=omega)only[↓qb] )
 rcases Gq a with rfl|rfl|rfl|rfl
 all_goals
  repeat (first|simp(disch:=omega)only[↓qb]|refine am d ?_)
  simp only[EK,inX,inY,Li,Lf.i.injEq,and_true];omega
def tY{a:Int}(h:-100000000<=a/\a<=100000000):Cc 69 [.i a,.i 6] [.i (a / 6)]:=by
 refine q69 rfl ?_;unfold f69;simp only[w7];by_cases b:a<0
 .repeat (first|simp(disch:=omega)only[↓qb]|rw[IH a_ a_ a_])
  simp only[Li,Lf.i.injEq,and_true];omega
 .repeat (first|simp(disch:=omega)only[↓qb]|rw[IH a_ a_ a_])
def at25_c{x y:Int}(h:-100000000<=x/\x<=100000000/\-100000000<=y/\y<=100000000):Cc 57 [.i x,.i y] (EB (atP (x,y))):=by
 refine q57 rfl ?_;unfold f57;simp only[w7]
 repeat (first|simp(disch:=omega)only[↓qb]|refine am (tY a_) ?_)
 have e:EB (atP (x,y))=[.i (x / 6),.i (y / 6),.i (DO (atQ (x-6*(x / 6)) (y-6*(y / 6))))]:=rfl;rw[e];have g:0<=x-6*(x / 6)/\x-6*(x / 6)<=5:=a_;have j:0<=y-6*(y / 6)/\y-6*(y / 6)<=5:=a_;generalize x / 6=a at *;generalize y / 6=b at *;by_cases c:y-6*b<x-6*a<;>by_cases d:x-6*a+(y-6*b)<6<;>by_cases f:6<x-6*a+(y-6*b)
 all_goals
  first|(exfalso;omega)|skip
  repeat (first|simp(disch:=omega)only[↓qb])
  try simp only[atQ,c,d,f,and_true,and_false,true_and,false_and,if_true,if_false]
  try rfl
def jr{m:Mv}{c:Cl}(a:m.1<8)(f:-100000<=m.2.1/\m.2.1<=100000/\-100000<=m.2.2/\m.2.2<=100000)(b:c.2.2<4)(g:-100000<=c.1/\c.1<=100000/\-100000<=c.2.1/\c.2.1<=100000):Cc 22 (EG m++EB c) (EB (aq m c)):=by
 refine q22 rfl ?_;unfold f22;simp only[w7];have e:=at_go a b;have l:-1000000<=(EK c).1/\(EK c).1<=1000000/\-1000000<=(EK c).2/\(EK c).2<=1000000:=by obtain⟨x,y,q⟩:=c;simp only at b g;rcases Gq b with rfl|rfl|rfl|rfl<;>simp only[EK,inX,inY]<;>omega
 have k:-100000000<=(FK m (EK c)).1/\(FK m (EK c)).1<=100000000/\-100000000<=(FK m (EK c)).2/\(FK m (EK c)).2<=100000000:=by generalize EK c=p at *;obtain⟨t,X,Y⟩:=m;obtain⟨x,y⟩:=p;simp only at a f l;rcases t8 a with rfl|rfl|rfl|rfl|rfl|rfl|rfl|rfl<;>simp only[FK,mA,mB,mC,mD]<;>omega
 have h:=sJ b g;have i:=wG (m:=m) (x:=(EK c).1) (y:=(EK c).2) a f a_;have d:=at25_c (x:=(FK m (EK c)).1) (y:=(FK m (EK c)).2) k;have j:atP ((FK m (EK c)).1,(FK m (EK c)).2)=aq m c:=e;rw[j]at d;simp only[EG,EB,Fe,E7]at h i d ⊢
 repeat (first|simp(disch:=omega)only[↓qb]|refine am h ?_|refine am i ?_|refine am d ?_)
def bP{a b c d:Int}{K:Tp}:P1.eqs [(.i a,.i b),(.i c,.i d)] (@j_ _ ⟨K⟩)=K (decide (a=b/\c=d)):=by
 show K (cz _)=_;have e:cz [(.i a,.i b),(.i c,.i d)]=decide (a=b/\c=d):=by rw[h9];simp[cz,iP]
 rw[e]
def Cd{a b:Mv}(ha:Ew 30000 a)(hb:Ew 30000 b):Cc 41 (EG a++EG b) (EG (ae a b)):=by
 obtain⟨d,B,C,D,E,V⟩:=ha;obtain⟨o,Z,b3,b4,b5,b6⟩:=hb;have p:=dX (n:=30000) (k:=30000) ⟨d,B,C,D,E,V⟩ ⟨o,Z,b3,b4,b5,b6⟩;obtain⟨P,g2,g3,g4,g5,_⟩:=p;refine q41 rfl ?_;unfold f41;simp only[w7];have F:∀(x y:Int),(0<=x/\x<=6/\0<=y/\y<=6)->-1000000<=(FK a (x,y)).1/\(FK a (x,y)).1<=1000000/\-1000000<=(FK a (x,y)).2/\(FK a (x,y)).2<=1000000:=by intro x y h;obtain⟨t,X,Y⟩:=a;simp only at d B C D E;rcases t8 d with rfl|rfl|rfl|rfl|rfl|rfl|rfl|rfl<;>simp only[FK,mA,mB,mC,mD]<;>omega
 have g:∀(x y:Int),(0<=x/\x<=6/\0<=y/\y<=6)->Cc 58 (EG a++[.i x,.i y]) [.i (FK a (x,y)).1,.i (FK a (x,y)).2]:=λx y h=>wG d a_ a_;have l:∀(x y:Int),(0<=x/\x<=6/\0<=y/\y<=6)->Cc 58 (EG b++[.i (FK a (x,y)).1,.i (FK a (x,y)).2]) [.i (FK (ae a b) (x,y)).1,.i (FK (ae a b) (x,y)).2]:=λx y h=>by have:=wG (m:=b) (x:=(FK a (x,y)).1) (y:=(FK a (x,y)).2) o a_ (by have:=F x y h;omega);rw[show FK b ((FK a (x,y)).1,(FK a (x,y)).2)=FK (ae a b) (x,y)from l6 d o (x,y)]at this;exact this
 generalize ae a b=G at *;have L:FK G (0,0)=(6*G.2.1,6*G.2.2):=by simp[FK]
 have M:∀t X Y,FK (t,X,Y) (6,0)=(mA t*6+6*X,mC t*6+6*Y):=λt X Y=>by simp[FK]
 have N:∀t X Y,FK (t,X,Y) (0,6)=(mB t*6+6*X,mD t*6+6*Y):=λt X Y=>by simp[FK]
 have R:=g 0 0 a_;have S:=g 6 0 a_;have T:=g 0 6 a_;have u:=l 0 0 a_;have v:=l 6 0 a_;have w:=l 0 6 a_;obtain⟨t,X,Y⟩:=G;simp only at P g2 g3 g4 g5 L;rw[L]at u;rw[M t X Y]at v;rw[N t X Y]at w;simp only[EG,Fe,E7]at R S T u v w ⊢;clear F g l;generalize FK a (0,0)=q0 at *;generalize FK a (6,0)=q1 at *;generalize FK a (0,6)=q2 at *
 repeat (first|simp(disch:=omega)only[↓qb]|refine am R ?_|refine am S ?_|refine am T ?_|refine am u ?_|refine am v ?_|refine am w ?_)
 refine bo (g9:=Unit) 8 (λj _=>[.i (DO j)]) (λ_ _=>_) (λj _=>j<=t) (j0:=0) (s0:=()) rfl rfl (Eg _) (Eg _) ?_;intro j _ ad ag e c;have q:j<8:=a_;have z:=wG (m:=(j,X,Y)) (x:=6) (y:=0) q jw a_;have A:=wG (m:=(j,X,Y)) (x:=0) (y:=6) q jw a_;rw[M]at z;rw[N]at A;have H:=tY (a:=6*X) a_;have I:=tY (a:=6*Y) a_;rw[show 6*X / 6=X by omega]at H;rw[show 6*Y / 6=Y by omega]at I;simp only[EG,Fe,E7]at z A;have hn:(0:Int)<=DO j/\DO j<=7:=⟨IK _,jw⟩;have go:j≠t->e [.i (DO j+1)] []:=λh=>c () a_ a_;have r:=λh1 h2 h3 h4=>d7 (s:=j) (t:=t) q P h1 h2 h3 h4
 repeat (first|simp(disch:=omega)only[↓qb]|refine am H ?_|refine am I ?_|refine am z ?_)
 by_cases f:mA j=mA t/\mC j=mC t
 .obtain⟨f,K⟩:=f;rw[←f,←K]
  repeat (first|simp(disch:=omega)only[↓qb]|refine am A ?_)
  by_cases e3:mB j=mB t/\mD j=mD t
  .obtain⟨e3,e4⟩:=e3;obtain rfl:=r f K e3 e4
   repeat (first|simp(disch:=omega)only[↓qb])
  .rw[bP,Ga a_]
   repeat (first|simp(disch:=omega)only[↓qb])
   grind
 .rw[bP,Ga a_]
  repeat (first|simp(disch:=omega)only[↓qb])
  grind
def oU{q k:Nat}(h:k<3):eK q (eK q k)=k:=by have b:k=0∨k=1∨k=2:=a_;have a:q%2=0∨q%2=1:=a_;rcases a with a|a<;>rcases b with rfl|rfl|rfl<;>simp[eK,a]
def yZ{c:Cl}{e f:Nat}(a:c.2.2<4)(g:e<3)(i:f<3)(h:E5 c e=E5 c f):e=f:=by
 obtain⟨x,y,q⟩:=c;simp only at a;have b:e=0∨e=1∨e=2:=a_;have d:f=0∨f=1∨f=2:=a_;rcases Gq a with rfl|rfl|rfl|rfl<;>rcases b with rfl|rfl|rfl<;>rcases d with rfl|rfl|rfl
 all_goals first
  |rfl
  |(exfalso;simp[E5]at h;done)
  |(exfalso;simp[E5]at h;omega)
def eg{w v:Nat}(i:Sh w v){c e f n:Nat}(d:c<4*w*v)(g:e<3)(h:f<3)(h1:D_ w v c e=O n)(j:D_ w v c f=O n):e=f:=by obtain⟨_,_,_,a,_⟩:=de i d g h1;obtain⟨_,_,_,b,_⟩:=de i d h j;exact yZ (c:=ra w c) (VN _ a_) g h (a.symm.trans b)
def Lh(l:TD)(u e:Nat):Int:=l.foldl (λa c=>if bD c=((DO u,DO e):Ku)then c.2.2 else a) 0
def yM{l:TD}{c:Gs}{u e:Nat}:Lh (l++[c]) u e=if bD c=((DO u,DO e):Ku)then c.2.2 else Lh l u e:=by
 unfold Lh
 simp_all
def sL{l:TD}(d:∀c∈l,c.2.2≠0){u e:Nat}:Lh l u e≠0↔Es l u e=J:=by
 have b:∀(l:TD) (a:Int),(∀c∈l,c.2.2≠0)->(l.foldl (λa c=>if bD c=((DO u,DO e):Ku)then c.2.2 else a) a≠0↔a≠0∨((DO u,DO e):Ku)∈l.map bD):=by
  intro l
  induction l with
  |nil=>intro a _;simp
  |cons c l f=>grind
 unfold Es Lh;rw[Gp,b l 0 d];simp
def Ka(w v:Nat)(l:TD)(c k:Nat):Int:=match D_ w v c (eK (c%4) k)with
 |O n=>Lh l (min c n) (eK (c%4) k)
 |Q=>0
def Eu(w v:Nat)(l:TD):TE:=(EW (12*w*v)).map λi=>Ka w v l (i / 3) (i%3)
def jU{w v:Nat}{l:TD}:W (Eu w v l)=12*w*v:=by simp[Eu]
def mO{w v:Nat}{l:TD}{c k:Nat}(a:c<4*w*v)(b:k<3):(Eu w v l)[3*c+k]?=O (Ka w v l c k):=by
 have:12*w*v=3*(4*w*v):=jw;unfold Eu
 grind
def n7{w v:Nat}:Eu w v []=FJ (12*w*v) 0:=by unfold Eu;rw[List.eq_replicate_iff];refine⟨d_,λx a=>?_⟩;obtain⟨i,_,rfl⟩:=Ed.1 a;unfold Ka;split<;>rfl
def U8{w v:Nat}(s:Sh w v){l:TD}{u e n:Nat}{kd:Int}(E:u<4*w*v)(g:e<3)(r:D_ w v u e=O n)(C:u<n) :
  Eu w v (l++[(DO u,DO e,kd)])=((Eu w v l).set (3*u+eK (u%4) e) kd).set (3*n+eK (n%4) e) kd:=by
 obtain⟨G,y,_,_,H⟩:=de s E g r;have M:=gm (u%4) e;have N:=gm (n%4) e;have K:=oU (q:=u%4) g;have L:=oU (q:=n%4) g;have z:12*w*v=3*(4*w*v):=jw;refine Kj λi=>?_;by_cases I:i<12*w*v
 case neg=>rw[Ig (by rw[jU];omega),Ig (by rw[HP,HP,jU];omega)]
 obtain⟨c,k,h,j,rfl⟩ : ∃c k,c<4*w*v/\k<3/\i=3*c+k:=⟨i / 3,i%3,a_,a_,a_⟩;rw[mO h j,Kk,Kk,HP,jU,mO h j,rv (show 3*n+eK (n%4) e<12*w*v by omega),rv (show 3*u+eK (u%4) e<12*w*v by omega)];have b:∀a f:Nat,bD (DO u,DO e,kd)=((DO a,DO f):Ku)↔u=a/\e=f:=by
  intro a f;unfold bD
  grind
 have d:=oU (q:=c%4) j;have B:=gm (c%4) k;unfold Ka;by_cases o:3*n+eK (n%4) e=3*c+k
 .obtain rfl:c=n:=a_;have:eK (c%4) k=e:=k_;rw[rv o,this,y];simp only;rw[yM,rv ((b _ _).2 ⟨a_,rfl⟩)]
 .rw[ts o];by_cases p:3*u+eK (u%4) e=3*c+k
  .obtain rfl:c=u:=a_;have:eK (c%4) k=e:=k_;rw[rv p,this,r];simp only;rw[yM,rv ((b _ _).2 ⟨a_,rfl⟩)]
  .rw[ts p];cases t:D_ w v c (eK (c%4) k)with
   |none=>rfl
   |some m=>
    simp only;rw[yM,ts ?_];rw[b];rintro⟨P,x⟩;rw[←x]at t;have d:eK (c%4) e=k:=by rw[x];exact d
    by_cases A:c<=m
    .simp_all
    .have D:m=u:=a_;subst D;obtain⟨_,F,_⟩:=de s h g t
     grind
def qZ{a b:Nat}{K:Tw}(h:a*b<=1000000000):P1.C5 .mul DQ (DO a) (DO b) (@j_ _ ⟨K⟩)=K (DO (a*b)):=by have e:DO a*DO b=DO (a*b):=rfl;rw[Kt jw jw,e]
def LZ{b:Nat}{K:Tw}(h:b<=100000000):P1.C5 .mul DQ 3 (DO b) (@j_ _ ⟨K⟩)=K (DO (3*b)):=qZ (a:=3) a_
def hu{b:Nat}{K:Tw}(h:b<=100000000):P1.C5 .mul DQ 4 (DO b) (@j_ _ ⟨K⟩)=K (DO (4*b)):=qZ (a:=4) a_
def mul_12{b:Nat}{K:Tw}(h:b<=10000000):P1.C5 .mul DQ 12 (DO b) (@j_ _ ⟨K⟩)=K (DO (12*b)):=qZ (a:=12) a_
def vS{a b:Nat}{K:Tw}(h:a+b<=1000000000):P1.C5 .add DQ (DO a) (DO b) (@j_ _ ⟨K⟩)=K (DO (a+b)):=by have e:DO a+DO b=DO (a+b):=rfl;rw[Hn jw jw,e]
def H3(k:Int):Tn:=[EO DU k]
def lQ(k:Int):W (H3 k)=1:=rfl
def VC(w v:Nat)(c:Gs):Prop:=∃u e n:Nat,c.1=DO u/\c.2.1=DO e/\u<4*w*v/\e<3/\D_ w v u e=O n/\u<n/\0<=c.2.2/\c.2.2<=255
abbrev FH(T:TE):HO:=.o (EJ (T.flatMap H3) 1 J)
def S3.n{w v:Nat}(h:S3 w v):4*w<=12/\4*w*v<=36/\12*w*v<=108/\w*v<=9:=by
 obtain⟨c,a,d,b⟩:=h;have:w*v<=3*3:=qcq a b
 grind
def rG{w v:Nat}(C:S3 w v){l:TD}{H:HL}{x:TV}(P:q_ H x 3 q9 l)(hv:∀c∈l,VC w v c)(hn:W l<=1000) :
  aD cc ac 24 [.i (.ofNat w),.i (.ofNat v),.v x] (h_ aa H) [.v (DW (O ⟨W H,0,le 1⟩) (12*w*v) (12*w*v+1))] (h_ aa (H++[FH (Eu w v l)])):=by
 have X:=C.sh;obtain⟨b1,b2,b3,b4⟩:=C.n;exact xK x24 (mc (mc (o_ P.g_ vc))) (by
  unfold f24;simp only[w7];refine c_ ?_;rw[mul_12 a_];refine m9 ?_;rw[qZ a_];refine m9 ?_;refine af (dG a_) ?_;refine c_ ?_;rw[show(DO (12*w*v)).toNat=12*w*v from rfl];have z0:HO.o (EJ (aQ [EO DU 0] (12*w*v)) 1 J)=FH (Eu w v (l.take 0)):=by rw[qdm,n7];unfold FH;rw[←cP (enc:=H3) (z:=0) (n:=12*w*v)];rfl
  rw[z0];refine bo (g9:=Unit) (W l) (λj _=>[.i (DO j)]) (λj _=>H++[FH (Eu w v (l.take j))]) (λ_ _=>True) (j0:=0) (s0:=()) rfl rfl (Eg _) trivial ?_;intro i _ hi _ L b;refine c_ ?_;refine aO P ?_;by_cases s:i<W l
  case neg=>obtain rfl:i=W l:=a_;rw[aw (B7 _)];refine c_ ?_;exact⟨Ei,by rw[y0]⟩
  rw[aB s];refine c_ ?_;obtain⟨c,N⟩:=ak s;have R:=P.pre (h':=H++[FH (Eu w v (l.take i))]) ⟨_,rfl⟩;refine aJ R rfl N ?_;obtain⟨u,e,n,q1,q2,M,D,t,Y,q3,q4⟩:=hv c (A9 N);have A:Eu w v (l.take (i+1))=((Eu w v (l.take i)).set (3*u+eK (u%4) e) c.2.2).set (3*n+eK (n%4) e) c.2.2:=by
   rw[Kx,N];have:=U8 (l:=l.take i) (kd:=c.2.2) X M D t Y
   grind
  obtain⟨g1,g2,_,_,g5⟩:=de X M D t;unfold q9;refine c_ ?_;rw[q1,q2];have an:=gm (u%4) e;have av:=gm (n%4) e;have F:=oU (q:=u%4) D;have V:=oU (q:=n%4) D;have hT:W (Eu w v (l.take i))=12*w*v:=jU;have b:L [.i (DO i+1)] (H++[FH (Eu w v (l.take (i+1)))]):=b () s trivial;generalize Eu w v (l.take i)=T at *;generalize Eu w v (l.take (i+1))=T' at *;have ag:12*w*v=3*(4*w*v):=jw;have eu:DO e<=255/\(0:Int)<=DO e:=⟨jw,IK _⟩;refine bo (g9:=Unit) 3 (λj _=>[.i (DO j)]) (λj _=>H++[FH (if j<=eK (u%4) e then T else T')]) (λ_ _=>True) (j0:=0) (s0:=()) rfl k_ (Eg _) trivial ?_;intro j _ hj _ B f;refine c_ ?_;by_cases p:j<3
  case neg=>obtain rfl:j=3:=a_;rw[s_ (show(3:Int)<=DO 3 from L_ _)];refine c_ ?_;rw[aI a_,ts a_];exact b
  rw[r_ (show DO j<3 by grind)];refine c_ ?_;refine am (xm C M p) ?_;have y:j≠eK (u%4) e->B [.i (DO j+1)] (H++[FH (if j<=eK (u%4) e then T else T')]):=by
   intro I;have:=f () p trivial
   grind
  cases Z:D_ w v u (eK (u%4) j)with
  |none=>
   rw[show Ke w v u j = -1 by unfold Ke;rw[Z]];refine c_ ?_;rw[aI a_]
   grind
  |some m=>
   rw[show Ke w v u j=DO m by unfold Ke;rw[Z]];refine c_ ?_;rw[s_ (show(0:Int)<=DO m from IK m)];refine c_ ?_;refine am (Yz C M p) ?_;refine c_ ?_;by_cases E:j=eK (u%4) e
   case neg=>rw[B3 (λh=>E (by rw[←Ky h,oU p]))];refine c_ ?_;rw[aI a_];exact y E
   rw[A7 (by rw[E,F])];refine c_ ?_;have K:=Z;rw[E,F,t]at K;cases K;rw[LZ a_];refine m9 ?_;rw[vS a_];refine m9 ?_;rw[rv a_];have r:(H++[FH T])[W H]?=O (FH T):=aG;refine du (enc:=H3) (l:=T) (i:=3*u+j) (a:=c.2.2) lQ r rfl a_ hT rfl ?_;unfold sd;rw[mJ];refine m9 ?_;have S:W (T.set (3*u+j) c.2.2)=12*w*v:=k_;rw[←E]at A;generalize al:T.set (3*u+j) c.2.2=T1 at *;refine bo (g9:=Unit) 3 (λj _=>[.i (DO j)]) (λj _=>H++[FH (if j<=eK (n%4) e then T1 else T')]) (λ_ _=>True) (j0:=0) (s0:=()) rfl k_ (Eg _) trivial ?_;intro k _ ap _ ad g;refine c_ ?_;by_cases d:k<3
   case neg=>
    obtain rfl:k=3:=a_;rw[s_ (show(3:Int)<=DO 3 from L_ _)];refine c_ ?_;rw[aI a_,ts a_];have:=f () p trivial
    grind
   rw[r_ (show DO k<3 by grind)];refine c_ ?_;refine am (xm C g1 d) ?_;by_cases G:k=eK (n%4) e
   .rw[show Ke w v n k=DO u by unfold Ke;rw[G,V,g2]];refine c_ ?_;rw[LZ a_];refine m9 ?_;rw[vS a_];refine m9 ?_;rw[rv a_];have r:(H++[FH T1])[W H]?=O (FH T1):=aG;refine du (enc:=H3) (l:=T1) (i:=3*n+k) (a:=c.2.2) lQ r rfl a_ S rfl ?_;unfold sd;rw[mJ];refine m9 ?_;rw[aI a_];have:=g () d trivial
    grind
   .have I:Ke w v n k≠DO u:=by
     unfold Ke;cases hy:D_ w v n (eK (n%4) k)with
     |none=>simp_all
     |some z=>intro h;obtain rfl:=Ky h;have:=eg X g1 (gm _ _) D hy g2;exact G (by rw[←this,oU d])
    simp(disch:=omega)only[↓qb]
    try rw[tx I]
    refine m9 ?_;rw[aI a_];have:=g () d trivial
    grind)
def zU{k:Int}{a b r:Mv}(d:a.1<8)(e:b.1<8)(c:Ew k r)(h:ae a r=ae b r):a=b:=by
 have f:(Hk r).1<8:=(eb c).1;have this:ae (ae a r) (Hk r)=ae (ae b r) (Hk r):=by rw[h]
 rw[cD d c.1 f,cD e c.1 f,Zf c.1,qc d,qc e]at this;exact this
structure PS(w v:Nat)(l:TD)(r:Mv)(f_ A:TR)(B:Ty)(q:TC)(D:Nat->Nat->Prop):Prop where
 js:JS w v l A B q D
 la:A.length=4*w*v
 lb:B.length=4*w*v
 lo:f_.length=4*w*v
 rel:∀(c:Nat) a,B[c]?=O J->A[c]?=O a->f_[c]?=O (ae a r)
def Fl(b:Bool)(q:TC)(B:Ty)(j a:Nat):Prop:=(b=U->(∀c∈q,j<=c)/\FN B=a)/\(b=J->a<FN B)
abbrev o3(H:HL)(f_:TR)(B:Ty)(T:TE):HL:=H++[.o (EJ (f_.flatMap u9) 3 J),.o (EJ (B.flatMap D0) 1 J),FH T]
def Z9{H:HL}{f_:TR}{B:Ty}{T:TE}:(o3 H f_ B T)[W H]?=O (.o (EJ (f_.flatMap u9) 3 J)):=d_
def o3_1{H:HL}{f_:TR}{B:Ty}{T:TE}:(o3 H f_ B T)[W H+1]?=O (.o (EJ (B.flatMap D0) 1 J)):=d_
def o3_2{H:HL}{f_:TR}{B:Ty}{T:TE}:(o3 H f_ B T)[W H+2]?=O (FH T):=d_
def o3_s0{H:HL}{f_ a:TR}{B:Ty}{T:TE}:sd (o3 H f_ B T) (W H) 3 u9 a=o3 H a B T:=by simp[sd]
def o3_s1{H:HL}{f_:TR}{B B':Ty}{T:TE}:sd (o3 H f_ B T) (W H+1) 1 D0 B'=o3 H f_ B' T:=by simp[sd,qdI]
def PlR(w v:Nat)(l:TD)(r:Mv)(H:HL)(a:TG)(h':HL):Prop:=
 (a=[.v rW,.i 0]/\¬ ∃G,rL w v l G/\G 0=ET)∨∃G T,C' w v l G/\a=[.v (DW (O ⟨W H,0,le 3⟩) (4*w*v) (4*w*v+1)),.i 1]/\∃B,h'=o3 H (Fi w v G r) B T
def PS.restart{w v:Nat}{l:TD}{r:Mv}{f_ A:TR}{B:Ty}{q:TC}{D:Nat->Nat->Prop}(h:PS w v l r f_ A B q D):∃q',PS w v l r f_ A B q' (λ_ _=>True):=by
 refine⟨(EW (4*w*v)).filter λc=>B.getD c U,⟨h.js.a0,h.js.b0,λc a=>?_,λc e n _ a _ _ d b=>absurd ?_ b,h.js.bd,h.js.un⟩,h.la,h.lb,h.lo,h.rel⟩
 .grind
 simp_all
def nO{w v:Nat}(Z:S3 w v){l:TD}{H:HL}{x:TV}(hl:q_ H x 3 q9 l)(hv:∀c∈l,VC w v c)(a8:∀c∈l,c.2.2≠0)(hn:W l<=1000){r:Mv}(hr:Ew 20000 r) :
  ∃rs h',aD cc ac 20 ([.i (.ofNat w),.i (.ofNat v),.v x]++EG r) (h_ aa H) rs (h_ aa h')/\PlR w v l r H rs h'/\xk H h':=by
 have M:=Z.sh;obtain⟨b1,b2,b3,b4⟩:=Z.n;have hN:=GK M;have bC:=x20 (ls:=[.i (.ofNat w),.i (.ofNat v),.v x,.i (DO r.1),.i r.2.1,.i r.2.2]) (K:=λrs h'=>PlR w v l r H rs h'/\xk H h') (H:=H) (mc (mc (o_ hl.g_ (mc (mc (mc vc)))))) (by
  unfold f20;simp only[w7];refine c_ ?_;rw[hu a_];refine m9 ?_;rw[qZ a_];refine m9 ?_;refine af (dG a_) ?_;refine c_ ?_;rw[show(DO (4*w*v)).toNat=4*w*v from rfl];have z0:HO.o (EJ (aQ [EO DU 0,EO DQ 0,EO DQ 0] (4*w*v)) 3 J)=HO.o (EJ ((FJ (4*w*v) ET).flatMap u9) 3 J):=by rw[←cP (enc:=u9) (z:=ET) (n:=4*w*v)];rfl
  have z1:HO.o (EJ (aQ [.bool U] (4*w*v)) 1 J)=HO.o (EJ ((FJ (4*w*v) U).flatMap D0) 1 J):=by rw[←cP (enc:=D0) (z:=U) (n:=4*w*v)];rfl
  rw[z0];refine af (dG a_) ?_;refine c_ ?_;rw[z1,s_ (show(1:Int)<=DO (4*w*v)by grind)];refine c_ ?_;have an:W ((FJ (4*w*v) ET))=4*w*v:=d_;have a1:W ((FJ (4*w*v) U))=4*w*v:=d_;have e2:((H++[HO.o (EJ ((FJ (4*w*v) ET).flatMap u9) 3 J)])++[HO.o (EJ ((FJ (4*w*v) U).flatMap D0) 1 J)])=H++[HO.o (EJ ((FJ (4*w*v) ET).flatMap u9) 3 J),HO.o (EJ ((FJ (4*w*v) U).flatMap D0) 1 J)]:=d_;have m1:W (H++[HO.o (EJ ((FJ (4*w*v) ET).flatMap u9) 3 J)])=W H+1:=d_;rw[e2,m1];generalize hA:FJ (4*w*v) ET=A0 at *;generalize hB:FJ (4*w*v) U=B0 at *;refine du (enc:=u9) (l:=A0) (i:=0) (a:=r) cZ d_ rfl a_ an rfl ?_;have p0:sd (H++[HO.o (EJ (A0.flatMap u9) 3 J),HO.o (EJ (B0.flatMap D0) 1 J)]) (W H) 3 u9 (A0.set 0 r)=H++[HO.o (EJ ((A0.set 0 r).flatMap u9) 3 J),HO.o (EJ (B0.flatMap D0) 1 J)]:=by simp[sd]
  rw[p0];refine m9 ?_;refine du (enc:=D0) (l:=B0) (i:=0) (a:=J) cS d_ rfl a_ a1 rfl ?_;have p1:sd (H++[HO.o (EJ ((A0.set 0 r).flatMap u9) 3 J),HO.o (EJ (B0.flatMap D0) 1 J)]) (W H+1) 1 D0 (B0.set 0 J)=H++[HO.o (EJ ((A0.set 0 r).flatMap u9) 3 J),HO.o (EJ ((B0.set 0 J).flatMap D0) 1 J)]:=by simp[sd,qdI]
  rw[p1];refine m9 ?_;have hT:=rG Z (hl.pre (h':=H++[HO.o (EJ ((A0.set 0 r).flatMap u9) 3 J),HO.o (EJ ((B0.set 0 J).flatMap D0) 1 J)]) ⟨_,rfl⟩) hv hn;have e3:(H++[HO.o (EJ ((A0.set 0 r).flatMap u9) 3 J),HO.o (EJ ((B0.set 0 J).flatMap D0) 1 J)])++[FH (Eu w v l)]=o3 H (A0.set 0 r) (B0.set 0 J) (Eu w v l):=d_;have m2:W (H++[HO.o (EJ ((A0.set 0 r).flatMap u9) 3 J),HO.o (EJ ((B0.set 0 J).flatMap D0) 1 J)])=W H+2:=d_;rw[e3,m2]at hT;refine ai hT ?_;refine c_ ?_;have bk:PS w v l r (A0.set 0 r) A0 (B0.set 0 J) [0] λ_ _=>True:=by
   have js:=JS.start (l:=l) M;rw[hA,hB]at js;refine⟨js,an,k_,k_,λc a hb I=>?_⟩;have L:c=0:=by grind
   subst L;rw[Kw a_];rw[js.a0]at I;cases I;rw[lX hr.1]
  generalize A0.set 0 r=O0 at *;generalize B0.set 0 J=B1 at *;clear p0 p1 e2 e3 m1 m2 hT z0 z1 hA hB an a1;refine aN (m:=4*w*v-FN B1+1) (λm ls h=>∃f f_ A B q,ls=[.b f]/\h=o3 H f_ B (Eu w v l)/\PS w v l r f_ A B q (λ_ _=>True)/\((f=J/\m=4*w*v-FN B+1)∨(f=U/\q=[]))) ⟨J,O0,A0,B1,[0],rfl,rfl,bk,.inl ⟨rfl,rfl⟩⟩ ?_;rintro m ls h ⟨f,f_,A,B,q,rfl,rfl,d,hm⟩ bx N;refine Fc ?_;refine c_ ?_;rcases hm with⟨rfl,rfl⟩|⟨rfl,rfl⟩
  case inr=>
   refine c_ ?_;have hA:=d.js.g_ M d.la d.lb;have a5:∀n,n<4*w*v->B[n]?=O J:=zd M d.js.b0 λc e n L he hn hb=>(d.js.dn c e n trivial L he hn hb d_).1;have hO:f_=Fi w v (λc=>A.getD c ET) r:=by
    refine Kj λi=>?_;by_cases hi:i<4*w*v
    .rw[iA hi];obtain⟨a,I⟩:=ak (l:=A) (i:=i) (by rw[d.la];exact hi);rw[d.rel i a (a5 i hi) I,List.getD_eq_getElem?_getD,I];rfl
    .rw[Ig (by rw[d.lo];omega),Ig (by simp[Fi];omega)]
   refine⟨.inr ⟨_,Eu w v l,hA.consO M,rfl,B,by rw[hO]⟩,⟨_,rfl⟩⟩
  refine c_ ?_;generalize ag:FN B=cnt0 at *;have a2:∃A q,PS w v l r f_ A B q (λ_ _=>True)/\Fl U q B 0 cnt0:=⟨A,q,d,⟨λ_=>⟨λ_ _=>Eg _,ag⟩,λh=>by cases h⟩⟩;refine bo (g9:=List Mv×List Bool×Bool) (4*w*v) (λj s=>[.b s.2.2,.i (DO j)]) (λj s=>o3 H s.1 s.2.1 (Eu w v l)) (λj s=>∃A q,PS w v l r s.1 A s.2.1 q (λ_ _=>True)/\Fl s.2.2 q s.2.1 j cnt0) (j0:=0) (s0:=(f_,B,U)) rfl rfl (Eg _) a2 ?_;clear a2 d ag;rintro j ⟨f_,B,f⟩ hj ⟨A,q,d,y⟩ bs D;simp only at d y ⊢;refine c_ ?_;by_cases g:j<4*w*v
  case neg=>
   obtain rfl:j=4*w*v:=a_;rw[aw (B7 _)];refine c_ ?_;cases f with
   |false=>
    have hq:q=[]:=by rw[List.eq_nil_iff_forall_not_mem];intro c L;have h1:=(y.1 rfl).1 c L;have Y:=ah (d.js.q1 c L);rw[d.lb]at Y;omega
    subst hq;exact N 0 _ _ a_ ⟨U,f_,A,B,[],rfl,rfl,d,.inr ⟨rfl,rfl⟩⟩
   |true=>obtain⟨q',be⟩:=d.restart;have h1:=y.2 rfl;have Y:=jc B;rw[d.lb]at Y;exact N _ _ _ a_ ⟨J,f_,A,B,q',rfl,rfl,be,.inl ⟨rfl,rfl⟩⟩
  rw[aB g];refine c_ ?_;obtain⟨t,G⟩:=ak (l:=B) (i:=j) (by rw[d.lb];exact g);have T:∀(f_:TR) (B:Ty),W B=4*w*v->q_ (o3 H f_ B (Eu w v l)) (DW (O ⟨W H+1,0,le 1⟩) (4*w*v) (4*w*v+1)) 1 D0 B:=λf_ B hb=>dd cS o3_1 hb.symm;have ax:∀(f_:TR) (B:Ty),W f_=4*w*v->q_ (o3 H f_ B (Eu w v l)) (DW (O ⟨W H,0,le 3⟩) (4*w*v) (4*w*v+1)) 3 u9 f_:=λf_ B hb=>dd cZ Z9 hb.symm;have bm:∀(f_:TR) (B:Ty),q_ (o3 H f_ B (Eu w v l)) (DW (O ⟨W H+2,0,le 1⟩) (12*w*v) (12*w*v+1)) 1 H3 (Eu w v l):=λf_ B=>dd lQ o3_2 jU.symm;cases t with
  |false=>
   refine By 2 ?_;refine c_ ?_;refine aJ (T f_ B d.lb) rfl G ?_;unfold D0;refine c_ ?_;rw[aI a_];refine D (f_,B,f) g ⟨A,q,d,⟨λh=>⟨λc L=>?_,(y.1 h).2⟩,y.2⟩⟩;have h1:=(y.1 h).1 c L;have Y:=d.js.q1 c L
   grind
  |true=>
  have a3:∃A q,PS w v l r f_ A B q (λc e=>c=j->∃S,S<0/\eK (j%4) S=e)/\Fl f q B (j+1) cnt0/\B[j]?=O J:=by
   refine⟨A,q.filter λc=>!Nat.beq c j,⟨(d.js.begin (c0:=j)).Rf λe h=>?_,d.la,d.lb,d.lo,d.rel⟩,⟨λh=>⟨λc L=>?_,(y.1 h).2⟩,y.2⟩,G⟩
   .omega
   .obtain⟨h1,Y⟩:=Hs.1 L;have Z:=(y.1 h).1 c h1;have:c≠j:=λe=>by subst e;simp at Y
    omega
  refine bo (g9:=List Mv×List Bool×Bool) 3 (λk s=>[.b s.2.2,.i (DO k)]) (λk s=>o3 H s.1 s.2.1 (Eu w v l)) (λk s=>∃A q,PS w v l r s.1 A s.2.1 q (λc e=>c=j->∃S,S<k/\eK (j%4) S=e)/\Fl s.2.2 q s.2.1 (j+1) cnt0/\s.2.1[j]?=O J) (j0:=0) (s0:=(f_,B,f)) rfl rfl (Eg _) a3 ?_;clear a3 G d y;rintro k ⟨f_,B,f⟩ hk ⟨A,q,d,y,G⟩ bt u;simp only at d y G ⊢;refine c_ ?_;by_cases E:k<3
  case neg=>obtain rfl:k=3:=a_;rw[s_ (show(3:Int)<=DO 3 from L_ _)];refine c_ ?_;rw[aI a_];exact D (f_,B,f) g ⟨A,q,⟨d.js.doneP λe he=>by obtain⟨k,h1,Y⟩:=MX (q:=j%4) e he;exact⟨k,h1,Y⟩,d.la,d.lb,d.lo,d.rel⟩,y⟩
  rw[r_ (show DO k<3 by grind)];refine c_ ?_;refine aJ (T f_ B d.lb) rfl G ?_;unfold D0;refine c_ ?_;refine am (xm Z g E) ?_;have F:=gm (j%4) k;have C:∀(P:Tz),(∀e,P e↔(∃S,S<k/\eK (j%4) S=e)∨e=eK (j%4) k)->∀e,(∃S,S<k+1/\eK (j%4) S=e)->P e:=by grind
  cases R:D_ w v j (eK (j%4) k)with
  |none=>rw[show Ke w v j k = -1 by unfold Ke;rw[R]];refine c_ ?_;rw[aI a_];exact u (f_,B,f) E ⟨A,q,⟨(d.js.skipP R).Rf (C _ λ_=>Iff.rfl),d.la,d.lb,d.lo,d.rel⟩,y,G⟩
  |some n=>
  rw[show Ke w v j k=DO n by unfold Ke;rw[R]];obtain⟨g1,g2,g3,g4,g5⟩:=de M g F R;refine c_ ?_;rw[s_ (show(0:Int)<=DO n from IK n)];refine c_ ?_;obtain⟨a,I⟩:=ak (l:=A) (i:=j) (by rw[d.la];exact g);have a4:=d.rel j a G I;have ay:Ew 2000 a:=aU (d.js.bd j a G I) (by have:=jc B;rw[d.lb]at this;omega);refine aJ (ax f_ B d.lo) rfl a4 ?_;unfold u9;refine c_ ?_;rw[LZ a_];refine m9 ?_;rw[vS a_];refine m9 ?_;refine aJ (bm f_ B) rfl (mO g E) ?_;unfold H3;refine c_ ?_;have aE:Ka w v l j k=Lh l (min j n) (eK (j%4) k):=by unfold Ka;rw[R]
  have bb:Ew 30000 (ae a r):=aU (dX ay hr) a_;have a9:Ew 3000 (Gt w l a j n (eK (j%4) k)):=aU (Ag M g F R ay a_) a_;obtain⟨DJ,hW⟩ : ∃DJ,DJ=ae (Gt w l a j n (eK (j%4) k)) r:=⟨_,rfl⟩;obtain⟨tn,p⟩:=ak (l:=B) (i:=n) (by rw[d.lb];exact g1);obtain⟨b,V⟩:=ak (l:=A) (i:=n) (by rw[d.la];exact g1);by_cases av:Ka w v l j k=0
  case' pos=>
   have a7:Es l (min j n) (eK (j%4) k)=U:=by rw[←Ii,←sL a8,←aE];omega
   have e1:ae a r=DJ:=by rw[hW];unfold Gt;grind
   rw[A7 av,e1];simp(disch:=omega)only[↓qb]
  case' neg=>
   have a7:Es l (min j n) (eK (j%4) k)=J:=by rw[←sL a8,←aE];exact av
   have e1:ae (wd (u_ (ra w j) (eK (j%4) k))) (ae a r)=DJ:=by rw[hW];unfold Gt;rw[rv a7,(yY M g F R).2,cD (jx _) ay.1 hr.1]
   have al:=ZF M g F;have c1:=ii Z g;have c2:=ii Z g1;have c3:=dD Z g E R;have c4:=Cd (aU (Bl (n:=10) ⟨al.2.2.1,al.2.2.2⟩) a_) bb;rw[e1]at c4;simp only[EG,EB,Fe,E7]at c1 c2 c3 c4;rw[B3 av];refine c_ ?_;refine am c1 ?_;refine c_ ?_;refine am c2 ?_;refine c_ ?_;refine am c3 ?_;refine c_ ?_;refine aJ (ax f_ B d.lo) rfl a4 ?_;unfold u9;refine c_ ?_;refine am c4 ?_;simp(disch:=omega)only[↓qb]
  all_goals
   refine aJ (T f_ B d.lb) rfl p ?_;unfold D0;cases tn with
   |true=>
    simp(disch:=omega)only[↓qb,Fv,GG];refine aJ (ax f_ B d.lo) rfl (d.rel n b p V) ?_;unfold u9;simp(disch:=omega)only[↓qb,Fv,GG];rw[eqsM];have bn:Ew 2000 b:=aU (d.js.bd n b p V) (by have:=jc B;rw[d.lb]at this;omega);by_cases X:ae b r=DJ
    .have hb:b=Gt w l a j n (eK (j%4) k):=zU bn.1 a9.1 hr (X.trans hW);rw[FX X];simp(disch:=omega)only[↓qb,Fv,GG];refine aJ (T f_ B d.lb) rfl p ?_;unfold D0;simp(disch:=omega)only[↓qb,Fv,GG];rw[aI a_];exact u (f_,B,f) E ⟨A,q,⟨(d.js.seenP R p I (by rw[←hb];exact V)).Rf (C _ λ_=>Iff.rfl),d.la,d.lb,d.lo,d.rel⟩,y,G⟩
    .rw[Ga X];simp(disch:=omega)only[↓qb,Fv,GG];refine⟨.inl ⟨Ei,?_⟩,⟨_,rfl⟩⟩;exact d.js.tear M g F R G p I V λh=>X (by rw[h,hW])
   |false=>
    simp(disch:=omega)only[↓qb,Fv,GG];refine aJ (T f_ B d.lb) rfl p ?_;unfold D0;simp(disch:=omega)only[↓qb,Fv,GG];refine du (enc:=u9) (l:=f_) (i:=n) (a:=DJ) cZ Z9 rfl (by rw[d.lo];exact g1) d.lo rfl ?_;rw[o3_s0]
    try simp(disch:=omega)only[↓qb,Fv,GG]
    refine du (enc:=D0) (l:=B) (i:=n) (a:=J) cS o3_1 rfl (by rw[d.lb];exact g1) d.lb rfl ?_;rw[o3_s1]
    try simp(disch:=omega)only[↓qb,Fv,GG]
    rw[aI a_];have bl:=ij p;refine u (f_.set n DJ,B.set n J,J) E ⟨A.set n (Gt w l a j n (eK (j%4) k)),q++[n],⟨(d.js.freshP M d.la d.lb g F R G p I).Rf (C _ λ_=>Iff.rfl),by rw[HP,d.la],by rw[HP,d.lb],by rw[HP,d.lo],λc a' a6 ap=>?_⟩,⟨λh=>(by cases h),λ_=>?_⟩,?_⟩
    .by_cases ad:n=c
     .subst ad;rw[Kw (by rw[d.la];exact g1)]at ap;rw[Kw (by rw[d.lo];exact g1)]
      grind
     .rw[K7 ad]at a6 ap ⊢;exact d.rel c a' a6 ap
    .show cnt0<FN (B.set n J);rw[bl];cases f with
     |false=>have:=(y.1 rfl).2;omega
     |true=>have:=y.2 rfl;omega
    grind)
 grind
def M0(n:Int):Tn:=[EO DQ n]
def CW{l:Ln}(c:1<=l.1/\l.1<=4)(b:-100000<=l.2/\l.2<=100000):Cc 39 [.i (.ofNat l.1),.i l.2] (EG (wd l)):=by
 obtain⟨k,n⟩:=l;simp only at c b;refine q39 rfl ?_;unfold f39;simp only[w7];have a:k=1∨k=2∨k=3∨k=4:=a_;rcases a with rfl|rfl|rfl|rfl
 all_goals
  simp only[of0,of1,of2,of3,of4,of5,of6,of7]
  repeat (first|simp(disch:=omega)only[↓qb])
  try simp[wd,EG]
def j'{l:Ln}{c:Cl}(u:1<=l.1/\l.1<=4)(v:-100000<=l.2/\l.2<=100000)(j:c.2.2<4)(r:-100000<=c.1/\c.1<=100000/\-100000<=c.2.1/\c.2.1<=100000):Cc 40 ([.i (.ofNat l.1),.i l.2]++EB c) [.i (if aV l c then 1 else 0)]:=by
 obtain⟨k,n⟩:=l;simp only at u v;have s:=sJ j r;have w:-1000000<=(EK c).1/\(EK c).1<=1000000/\-1000000<=(EK c).2/\(EK c).2<=1000000:=by obtain⟨x,y,q⟩:=c;simp only at j r;rcases Gq j with rfl|rfl|rfl|rfl<;>simp only[EK,inX,inY]<;>omega
 have b:∀d:Int,(match k with|1=>(EK c).1|2=>(EK c).2|3=>(EK c).1+(EK c).2|_=>(EK c).2-(EK c).1)=d->(aV (k,n) c=J↔¬d<6*n):=by
  intro d t;subst t;obtain⟨x,y,q⟩:=c;simp only at j;have m:k=1∨k=2∨k=3∨k=4:=a_;rcases m with rfl|rfl|rfl|rfl<;>rcases Gq j with rfl|rfl|rfl|rfl
  all_goals
   simp[aV,EK,inX,inY];omega
 refine q40 rfl ?_;unfold f40;simp only[w7];simp only[EB,Fe,E7]at s ⊢;generalize EK c=p at *
 let L:TE:=[0,p.1,p.2,p.1+p.2,p.2-p.1]
 have f:q_ [HO.o (EJ [EO DQ 0,EO DQ p.1,EO DQ p.2,EO DQ (p.1+p.2),EO DQ (p.2-p.1)] 1 J)] (DW (O ⟨W ([]:HL),0,le 1⟩) 5 6) 1 M0 L:=dd (enc:=M0) (e:=1) (L:=L) (λ_=>rfl) rfl rfl;have m:k=1∨k=2∨k=3∨k=4:=a_;rcases m with rfl|rfl|rfl|rfl
 all_goals
  have b:=b _ rfl;simp only at b;simp only[of0,of1,of2,of3,of4,of5,of6,of7]
  repeat (first|simp(disch:=omega)only[↓qb]|refine am s ?_)
 case' inl=>refine aJ (i:=1) (a:=p.1) f rfl rfl ?_
 case' inr.inl=>refine aJ (i:=2) (a:=p.2) f rfl rfl ?_
 case' inr.inr.inl=>refine aJ (i:=3) (a:=p.1+p.2) f rfl rfl ?_
 case' inr.inr.inr=>refine aJ (i:=4) (a:=p.2-p.1) f rfl rfl ?_
 all_goals
  unfold M0;refine c_ ?_;cases g:aV _ c with
  |true=>
   have:=b.1 g
   try rw[s_ a_]
   try simp(disch:=omega)only[↓qb]
   try rfl
  |false=>
   have:¬ ¬_:=λh=>by rw[b.2 h]at g;cases g
   try rw[r_ a_]
   try simp(disch:=omega)only[↓qb]
   try rfl
def Zq{a b:Int}:Cc 90 [.i a,.i b] [.i (max a b)]:=by
 refine q90 rfl ?_;unfold f90;simp only[w7];refine c_ ?_;by_cases h:b<a
 .rw[DY h];refine c_ ?_
  grind
 .rw[A6 a_];refine c_ ?_
  grind
def mirG_c{c:Cl}{e:Nat}(a:c.2.2<4)(f:e<3)(d:-100000<=c.1/\c.1<=100000/\-100000<=c.2.1/\c.2.1<=100000):Cc 55 (EB c++EB (E5 c e)) (EG (wd (u_ c e))):=by
 obtain⟨x,y,q⟩:=c;simp only at a d;have b:e=0∨e=1∨e=2:=a_;refine q55 rfl ?_;unfold f55;simp only[w7];rcases Gq a with rfl|rfl|rfl|rfl<;>rcases b with rfl|rfl|rfl
 all_goals
  simp only[E5,EB,Fe,E7,show [1,0,3,2].getD 0 0=1 from rfl,show [1,0,3,2].getD 1 0=0 from rfl,show [1,0,3,2].getD 2 0=3 from rfl,show [1,0,3,2].getD 3 0=2 from rfl,show [3,2,1,0].getD 0 0=3 from rfl,show [3,2,1,0].getD 1 0=2 from rfl,show [3,2,1,0].getD 2 0=1 from rfl,show [3,2,1,0].getD 3 0=0 from rfl,of0,of1,of2,of3]
  repeat (first|simp(disch:=omega)only[↓qb]|refine am Zq ?_)
  try (simp[wd,u_,EG];done)
  try (simp[wd,u_,EG];omega)
def SI{c:Cl}{e:Nat}(a:c.2.2<4)(h:e<3)(d:-100000<=c.1/\c.1<=100000/\-100000<=c.2.1/\c.2.1<=100000):Cc 68 (EB c++EB (E5 c e)) [.i (.ofNat (u_ c e).1),.i (u_ c e).2]:=by
 have b:=mirG_c a h d;refine q68 rfl ?_;unfold f68;simp only[w7];simp only[EB,Fe,E7]at b ⊢;have f:((u_ c e).1=1∨(u_ c e).1=2∨(u_ c e).1=3∨(u_ c e).1=4)/\-300000<=(u_ c e).2/\(u_ c e).2<=300000:=by obtain⟨x,y,q⟩:=c;simp only at a d;have g:e=0∨e=1∨e=2:=a_;rcases Gq a with rfl|rfl|rfl|rfl<;>rcases g with rfl|rfl|rfl<;>simp[u_]<;>omega
 generalize u_ c e=l at *;obtain⟨k,n⟩:=l;simp only at f;obtain⟨rfl|rfl|rfl|rfl,j,m⟩:=f
 all_goals
  simp only[wd,EG,of4,of5,of6,of7]at b
  repeat (first|simp(disch:=omega)only[↓qb]|refine am b ?_)
  try simp_all
abbrev Mq:=Cl×FO
def Ey(s:Mq):Tn:=bX s.1++[s.2]
def pA(s:Mq):W (Ey s)=4:=rfl
def XB(h:HL)(x:FO)(L:List (Cl×List Nat)):Prop:=∃M:List Mq,q_ h x 4 Ey M/\M.length=W L/\∀(i:Nat) m,M[i]?=O m->∃l,L[i]?=O (m.1,l)/\q_ h m.2 1 l_ l
def wC(w v:Nat):List (Cl×List Nat):=(EW (4*w*v)).map λi=>(ra w i,[i])
def kO(w v c k:Nat):Bool:=match D_ w v c (eK (c%4) k)with
 |O n=>mP 43 [.i (.ofNat w),.i (.ofNat v),.i (.ofNat c),.i (.ofNat n)] [.i (.ofNat (eK (c%4) k))]
 |Q=>J
def allE:∀w v:Nat,1<=w->w<=3->1<=v->v<=3->((EW (4*w*v)).all λc=>(EW 3).all λk=>kO w v c k)=J:=by
 have a:((EW 3).all λw=>(EW 3).all λv=>(EW (4*(w+1)*(v+1))).all λc=>(EW 3).all λk=>kO (w+1) (v+1) c k)=J:=e_;intro w v d e f g;have b:=D7.1 a (w-1) (D2.2 a_);have h:=D7.1 b (v-1) (D2.2 a_)
 simp_all
def YA{w v c k n:Nat}(h:S3 w v)(a:c<4*w*v)(b:k<3)(d:D_ w v c (eK (c%4) k)=O n):Cc 43 [.i (.ofNat w),.i (.ofNat v),.i (.ofNat c),.i (.ofNat n)] [.i (.ofNat (eK (c%4) k))]:=by have:=D7.1 (D7.1 (allE w v h.1 h.2.1 h.2.2.1 h.2.2.2) c (D2.2 a)) k (D2.2 b);unfold kO at this;rw[d]at this;exact fm this rfl e_ rfl
def PE(a b:Gs):Bool:=decide (b.1<a.1)||(decide (a.1=b.1)&&decide (b.2.1<a.2.1))
def HB(l:TD):Prop:=l.Pairwise λa b=>PE a b=U
def CL{a b:Gs}:PE a b=U↔a.1<b.1∨(a.1=b.1/\a.2.1<=b.2.1):=by
 unfold PE
 grind
def o2{a b:Gs}:PE a b=J↔b.1<a.1∨(a.1=b.1/\b.2.1<a.2.1):=by
 unfold PE
 simp_all
def jj{A B:TD}{x:Gs}(h:HB (A++B))(h1:∀a∈A,PE a x=U)(d:∀b∈B,PE b x=J):HB (A++x::B):=by
 unfold HB at *;rw[qcd]at h ⊢;refine⟨h.1,MB.2 ⟨λb c=>?_,h.2.1⟩,λa e b c=>?_⟩
 .have:=o2.1 (d b c);exact CL.2 a_
 grind
def gU{j7:Type}{h:HL}{id e:Nat}{enc:j7->Tn}{l l':List j7}:sd (sd h id e enc l) id e enc l'=sd h id e enc l':=by unfold sd;rw[List.set_set]
def VE{H:HL}{id cx:Nat}{l:TD}(j_:H[id]?=O (.o (EJ (l.flatMap q9) 3 J)))(hn:W l<=1000) :
  ∃l',aD cc ac 44 [.v (DW (O ⟨id,0,le 3⟩) (W l) cx)] (h_ aa H) [.v (DW (O ⟨id,0,le 3⟩) (W l) cx)] (h_ aa (sd H id 3 q9 l'))/\l'.Perm l/\HB l':=by
 have u:=ah j_;have k:∀c:Gs,W (q9 c)=3:=λ_=>rfl;have G:∀L:List Gs,W L=W l->q_ (sd H id 3 q9 L) (DW (O ⟨id,0,le 3⟩) (W l) cx) 3 q9 L:=λL h=>dd k (bS u) h.symm;have ag:=x44 (ls:=[.v (DW (O ⟨id,0,le 3⟩) (W l) cx)]) (K:=λrs h'=>rs=[.v (DW (O ⟨id,0,le 3⟩) (W l) cx)]/\∃l',h'=sd H id 3 q9 l'/\l'.Perm l/\HB l') (H:=H) (o_ (dd k j_ rfl).g_ vc) (by
  unfold f44;simp only[w7];refine c_ ?_;have T:sd H id 3 q9 l=H:=gi j_;refine bo (g9:=List Gs) (max 1 (W l)) (λj _=>[.i (DO j)]) (λ_ L=>sd H id 3 q9 L) (λj L=>L.Perm l/\1<=j/\HB (L.take j)) (j0:=1) (s0:=l) rfl T.symm a_ ⟨ax _,B7 _,?_⟩ ?_
  .cases l with
   |nil=>exact .nil
   |cons a l=>exact MB.2 ⟨λ_ h=>(by cases h),.nil⟩
  intro i L hi ⟨w,hi1,r⟩ self hself;have F:W L=W l:=w.length_eq;refine c_ ?_;refine aO (G L F) ?_;rw[F];by_cases S:i<W l
  case neg=>
   rw[aw a_];refine c_ ?_;rw[K5 a_]at r
   grind
  rw[aB S];refine c_ ?_;obtain⟨x0,Y⟩:=ak (l:=L) (i:=i) a_;have p:L=L.take i++x0::[]++L.drop (i+1):=by
   conv=>lhs;rw[←Xi i L]
   rw[RK a_]
   simp_all
  refine aN (m:=i) (λm ls h=>∃(A:TD) (x:Gs) (B R:TD),ls=[.i (DO (W A))]/\m=W A/\h=sd H id 3 q9 (A++x::B++R)/\(A++x::B++R).Perm l/\HB (A++B)/\(∀b∈B,PE b x=J)/\A.length+W B=i)
   ⟨L.take i,x0,[],L.drop (i+1),jw,jw,by rw[←p],jw,by simpa using r,λb Z=>(by cases Z),jw⟩ ?_
  clear p Y r w F;rintro m ls h ⟨A,x,B,R,rfl,rfl,rfl,w,r,hB,I⟩ D n;refine Fc ?_;refine c_ ?_;have F:W (A++x::B++R)=W l:=w.length_eq;have s:(∀a∈A,PE a x=U)->self [.i (DO i+1)] (sd H id 3 q9 (A++x::B++R)):=λh=>hself _ a_ ⟨w,a_,by rw[qc1 z_,K5 z_];exact jj r h hB⟩
  rcases List.eq_nil_or_concat A with rfl|⟨g,y,rfl⟩
  .rw[A6 (show DO (W ([]:TD))<=0 from L_ _)];refine c_ ?_;rw[aI a_]
   simp_all
  rw[List.concat_eq_append]at *;have hk:W (g++[y])=W g+1:=d_;rw[hk]at I n ⊢;have t:PE y x=U->∀a∈g++[y],PE a x=U:=by
   intro h a M;rcases F_.1 M with M|M
   .have E:PE a y=U:=by
     unfold HB at r
     grind
    have E:=CL.1 E;have h:=CL.1 h;exact CL.2 a_
   simp_all
  have C:(g++[y]++x::B++R)[W g]?=O y:=d_;have z:(g++[y]++x::B++R)[W g+1]?=O x:=by rw[Gu,K0 d_];simp
  have f:=G _ F;have hg:=bS (l:=g++[y]++x::B++R) (e:=3) (enc:=q9) u;rw[DY (show(0:Int)<DO (W g+1)by simp_all)];have d:W g+1<=4294967296:=a_;refine c_ ?_;rw[ko a_ d];refine m9 ?_;refine bz (cs:=[EO DQ y.1]) f rfl C rfl a_ ?_;refine c_ ?_;refine bz (cs:=[EO DQ x.1]) f rfl z rfl a_ ?_;refine c_ ?_;have X:PE y x=J->D [.i (DO (W g))] (sd H id 3 q9 (g++x::(y::B)++R)):=λh=>n (W g) _ _ a_ ⟨g,x,y::B,R,rfl,rfl,rfl,by
   grind,k_,λb Z=>by
   grind,z_⟩
  have V:((g++[y]++x::B++R).set (W g) x).set (W g+1) y=g++x::(y::B)++R:=by simp_all
  have P:W ((g++[y]++x::B++R).set (W g) x)=W l:=k_;have ad:=ah z;have N:(sd (sd H id 3 q9 (g++[y]++x::B++R)) id 3 q9 ((g++[y]++x::B++R).set (W g) x))[id]?=O (.o (EJ (((g++[y]++x::B++R).set (W g) x).flatMap q9) 3 J)):=by rw[gU];exact bS u
  by_cases q:PE y x=J
  case neg=>
   have q:=qcO.2 q;rcases CL.1 q with E|⟨E,h2⟩
   .rw[A6 a_];refine c_ ?_;rw[ko a_ d];refine m9 ?_;refine bz (cs:=[EO DQ y.1]) f rfl C rfl a_ ?_;refine c_ ?_;refine bz (cs:=[EO DQ x.1]) f rfl z rfl a_ ?_;simp(disch:=omega)only[↓qb]
    try rw[tx a_]
    refine m9 ?_;rw[aI a_];exact s (t q)
   .rw[A6 a_];refine c_ ?_;rw[ko a_ d];refine m9 ?_;refine bz (cs:=[EO DQ y.1]) f rfl C rfl a_ ?_;refine c_ ?_;refine bz (cs:=[EO DQ x.1]) f rfl z rfl a_ ?_;simp(disch:=omega)only[↓qb]
    try rw[ub a_]
    refine m9 ?_;rw[ko a_ d];refine m9 ?_;refine bz (cs:=[EO DU y.2.1]) f rfl C rfl a_ ?_;refine c_ ?_;refine bz (cs:=[EO DU x.2.1]) f rfl z rfl a_ ?_;simp(disch:=omega)only[↓qb]
    try rw[A6 a_]
    refine m9 ?_;rw[aI a_];exact s (t q)
  rcases o2.1 q with E|⟨E,h2⟩
  case' inl=>
   rw[DY a_];simp(disch:=omega)only[↓qb]
  case' inr=>
   rw[A6 a_];refine c_ ?_;rw[ko a_ d];refine m9 ?_;refine bz (cs:=[EO DQ y.1]) f rfl C rfl a_ ?_;refine c_ ?_;refine bz (cs:=[EO DQ x.1]) f rfl z rfl a_ ?_;simp(disch:=omega)only[↓qb]
   try rw[ub a_]
   refine m9 ?_;rw[ko a_ d];refine m9 ?_;refine bz (cs:=[EO DU y.2.1]) f rfl C rfl a_ ?_;refine c_ ?_;refine bz (cs:=[EO DU x.2.1]) f rfl z rfl a_ ?_;simp(disch:=omega)only[↓qb]
   try rw[DY a_]
   try simp(disch:=omega)only[↓qb]
  all_goals
   rw[ko a_ d];refine m9 ?_;refine aJ f rfl z ?_;rw[show q9 x=[EO DQ x.1,EO DU x.2.1,EO DU x.2.2]from rfl];refine c_ ?_;rw[ko a_ d];refine m9 ?_;refine aJ f rfl C ?_;rw[show q9 y=[EO DQ y.1,EO DU y.2.1,EO DU y.2.2]from rfl];refine c_ ?_;refine du (enc:=q9) (i:=W g) (a:=x) k hg rfl a_ F rfl ?_;refine m9 ?_;refine du (enc:=q9) (i:=W g+1) (a:=y) k N rfl a_ P rfl ?_;rw[gU,gU,V];refine m9 ?_;rw[ko a_ d]
   simp_all)
 grind
abbrev o1:=Int×Int×Int
def yr(p:o1):Tn:=[EO DU p.1,EO DU p.2.1,EO DU p.2.2]
def wp(p:o1):W (yr p)=3:=rfl
def hZ(p:o1):Prop:=0<=p.1/\p.1<=255/\0<=p.2.1/\p.2.1<=255/\0<=p.2.2/\p.2.2<=255
def Nr{h:HL}{v:TV}{l:List o1}{i o:Nat}{a:o1}{n:Int}{cs:Tn}{K:Tf}(s:q_ h v 3 yr l)(r:n=DO i)(k:l[i]?=O a)(u:o<3)(b:cs=((yr a).drop o).take 1)(m:K cs) :
  P1.km (D8 3 v n) (@j_ _ ⟨λx=>P1.km (Y9 3 1 x (DO o)) (@j_ _ ⟨λy=>P1.qa y (@j_ _ ⟨P1.oo (.lg cc 1 y) h (@j_ _ ⟨K⟩)⟩)⟩)⟩):=by
 subst r b;obtain⟨p,g,d⟩:=s.at k;obtain⟨q,j,f⟩:=d.fd o 1 (by rw[wp];omega);refine af g (af (x:=q) ?_ (ab f.g_ (cI (f.lg ?_) m)))
 .obtain⟨id,w,z,e,t,rfl,_,_⟩:=d;have c:o=0∨o=1∨o=2:=a_;rcases c with rfl|rfl|rfl<;>· rw[←j];rfl
 .rw[qb6,qc0,wp];omega
def VK(w v:Nat)(c:Gs):Prop:=VC w v c/\1<=c.2.2/\c.2.2<=3
def BS{w v:Nat}(k:Sh w v){l:TD}{G m:TH}(h:C' w v l G)(d:C' w v l m){c:Nat}(b:c<4*w*v):G c=m c:=by
 have r:=GK k;have hA:Il w v l ((EW (4*w*v)).map G):=by
  have j:∀c,c<4*w*v->((EW (4*w*v)).map G)[c]?=O (G c):=λc b=>k_;refine⟨d_,by rw[j 0 a_,h.z],λa f=>?_,λc e n a b o p f=>?_⟩
  .obtain⟨i,q,rfl⟩:=Ed.1 f;exact h.ok i (D2.1 q)
  .rw[j c b]at f;cases f;rw[j n (de k b o p).1,h.g c e n b o p]
 have:=hA.eq k d.g d.z c b
 simp_all
def n5{w v:Nat}{l:TD}(g:∀c∈l,VK w v c)(d:l.Pairwise λa b=>Ks a b=J):Is (DO w) (DO v) l=0:=by
 have h:l.all Vi=J:=D7.2 λc f=>by
  have:=(g c f).2;unfold Vi
  simp_all
 have j:l.all (w6 (DO w) (DO v))=J:=D7.2 λc f=>by
  obtain⟨u,e,n,m,o,z,x,y,d,_⟩:=(g c f).1;unfold w6 H5;rw[m,o];have p:(0:Int)<=DO u:=IK u;have q:DO u<4*DO w*DO v:=show(u:Int)<((4*w*v:Nat):Int)by omega
  have r:DO e<=2:=jw
  simp_all
 have k:G2 l=J:=jH.2 λi a b s t=>by
  rw[Ki]at d
  grind
 unfold Is;rw[h,j,k];rfl
def okC_of{w v:Nat}{c:Gs}(h:VK w v c)(a:4*w*v<=100):okC c:=by
 obtain⟨⟨u,e,n,f,g,d,b,_,_,i,j⟩,_⟩:=h;unfold okC
 grind
abbrev Xf:=Nat×Nat×Ln
def YB(p:Xf):Tn:=[EO DQ (DO p.1),EO DQ (DO p.2.1),EO DU (DO p.2.2.1),EO DQ p.2.2.2]
def Gm(w v:Nat)(l:TD)(G:TH)(r:Mv)(a k:Nat):Option Xf:=match D_ w v a (eK (a%4) k)with
 |O b=>if a<b/\Ka w v l a k=0 then O (a,b,u_ (aq (ae (G a) r) (ra w a)) (eT (ae (G a) r).1 (eK (a%4) k)))else Q
 |Q=>Q
def DR(w v:Nat)(l:TD)(G:TH)(r:Mv)(a:Nat):List Xf:=(EW 3).filterMap (Gm w v l G r a)
def ES(w v:Nat)(l:TD)(G:TH)(r:Mv)(n:Nat):List Xf:=(EW n).flatMap (DR w v l G r)
def xB{w v:Nat}{l:TD}{G:TH}{r:Mv}{n:Nat}:ES w v l G r (n+1)=ES w v l G r n++DR w v l G r n:=by unfold ES;rw[RL,nC];simp
def BD{w v:Nat}{l:TD}{G:TH}{r:Mv}{a k:Nat}:W ((EW k).filterMap (Gm w v l G r a))<=k:=VP (qdp _ _) d_
def mz{w v:Nat}{l:TD}{G:TH}{r:Mv}:∀ {n:Nat},W (ES w v l G r n)<=3*n
 |0=>by simp[ES]
 |n+1=>by rw[xB,IL];have a:=mz (w:=w) (v:=v) (l:=l) (G:=G) (r:=r) (n:=n);have b:W (DR w v l G r n)<=3:=BD;omega
def lT{j7:Type}{f:Nat->Option j7}{k:Nat}:(EW (k+1)).filterMap f=(EW k).filterMap f++(f k).toList:=by
 rw[RL,qcs]
 grind
def BE{w v:Nat}(E:S3 w v){l:TD}{H:HL}{x xs:TV}(hl:q_ H x 3 q9 l)(ax:aH xs=J)(hv:∀c∈l,VC w v c)(Y:∀c∈l,c.2.2≠0)(hn:W l<=1000){r:Mv}(hr:Ew 10000 r){G:TH}(X:C' w v l G) :
  ∃z h',aD cc ac 38 ([.i (.ofNat w),.i (.ofNat v),.v x]++EG r++[.v xs]) (h_ aa H) [.v z] (h_ aa h')/\xk H h'/\aH z=J/\q_ h' z 4 YB (ES w v l G r (4*w*v)):=by
 have hs:=E.sh;obtain⟨b1,b2,b3,b4⟩:=E.n;have hN:=GK hs;obtain⟨a8,h1,c1,a2,L⟩:=nO E hl hv Y hn (r:=r) (aU hr a_);have a7:=x38 (ls:=[.i (.ofNat w),.i (.ofNat v),.v x,.i (DO r.1),.i r.2.1,.i r.2.2,.v xs]) (K:=λrs h'=>∃z,rs=[.v z]/\xk H h'/\aH z=J/\q_ h' z 4 YB (ES w v l G r (4*w*v))) (H:=H) (mc (mc (o_ hl.g_ (mc (mc (mc (o_ ax vc))))))) (by
  unfold f38;simp only[w7];refine c_ ?_;refine ai c1 ?_;rcases a2 with⟨rfl,I⟩|⟨G',T,ag,rfl,B,rfl⟩
  .exact absurd ⟨G,X.g,X.z⟩ I
  refine c_ ?_;have al:Fi w v G' r=Fi w v G r:=by unfold Fi;refine p' λc hc=>?_;rw[BS hs ag X (D2.1 hc)]
  have aE:q_ (o3 H (Fi w v G r) B T) (DW (O ⟨W H,0,le 3⟩) (4*w*v) (4*w*v+1)) 3 u9 (Fi w v G r):=dd cZ Z9 (by simp[Fi]);rw[al]at L ⊢;have c3:=rG E (hl.pre L) hv hn;refine ai c3 ?_;refine c_ ?_;generalize o3 H (Fi w v G r) B T=h2 at *;have ay:q_ (h2++[FH (Eu w v l)]) (DW (O ⟨W h2,0,le 1⟩) (12*w*v) (12*w*v+1)) 1 H3 (Eu w v l):=dd lQ aG jU.symm;have Z:xk h2 (h2++[FH (Eu w v l)]):=⟨_,rfl⟩;have y:=aE.pre Z;have a1:=L.trans Z;generalize h2++[FH (Eu w v l)]=h4 at *;refine bo (g9:=HL×FO) (4*w*v) (λj s=>[.v s.2,.i (DO j)]) (λ_ s=>s.1) (λj s=>xk h4 s.1/\aH s.2=J/\Xw (W h4) s.1 s.2 4 YB (ES w v l G r j)) (j0:=0) (s0:=(h4,DW Q 0 0)) rfl rfl (Eg _) ⟨.refl _,rfl,.nil _ _ _ _⟩ ?_;rintro a ⟨h,z⟩ ha ⟨f,p,A⟩ a4 M;simp only at f p A ⊢;refine c_ ?_;refine aO (y.pre f) ?_;rw[show(Fi w v G r).length=4*w*v by simp[Fi]];by_cases o:a<4*w*v
  case neg=>obtain rfl:a=4*w*v:=a_;rw[aw (B7 _)];refine c_ ?_;exact⟨z,rfl,a1.trans f,p,A.ls⟩
  rw[aB o];refine c_ ?_;refine bo (g9:=HL×FO) 3 (λk s=>[.v s.2,.i (DO k)]) (λ_ s=>s.1) (λk s=>xk h4 s.1/\aH s.2=J/\Xw (W h4) s.1 s.2 4 YB (ES w v l G r a++(EW k).filterMap (Gm w v l G r a))) (j0:=0) (s0:=(h,z)) rfl rfl (Eg _) ⟨f,p,by simpa using A⟩ ?_;clear f p A;rintro k ⟨h,z⟩ hk ⟨f,p,A⟩ R t;simp only at f p A ⊢;refine c_ ?_;by_cases C:k<3
  case neg=>obtain rfl:k=3:=a_;rw[s_ (show(3:Int)<=DO 3 from L_ _)];refine c_ ?_;rw[aI a_];exact M (h,z) o ⟨f,p,by rw[xB];exact A⟩
  rw[r_ (show DO k<3 by grind)];refine c_ ?_;refine am (xm E o C) ?_;have q:Gm w v l G r a k=Q->R [.v z,.i (DO k+1)] h:=λI=>t (h,z) C ⟨f,p,by rw[lT,I];simpa using A⟩;have D:=gm (a%4) k;cases hx:D_ w v a (eK (a%4) k)with
  |none=>rw[show Ke w v a k = -1 by unfold Ke;rw[hx]];refine c_ ?_;rw[r_ (show(-1:Int)<DO a by grind)];refine c_ ?_;rw[aI a_];exact q (by unfold Gm;rw[hx])
  |some b=>
  rw[show Ke w v a k=DO b by unfold Ke;rw[hx]];obtain⟨V,g2,g3,g4,g5⟩:=de hs o D hx;refine c_ ?_;by_cases av:b<a
  .rw[aB av];refine c_ ?_;rw[aI a_];exact q (by unfold Gm;grind)
  rw[aw a_];refine c_ ?_;rw[LZ a_];refine m9 ?_;rw[vS a_];refine m9 ?_;refine aJ (ay.pre f) rfl (mO o C) ?_;rw[show H3 (Ka w v l a k)=[EO DU (Ka w v l a k)]from rfl];refine c_ ?_;by_cases F:Ka w v l a k=0
  case neg=>rw[B3 F];refine c_ ?_;rw[aI a_];exact q (by unfold Gm;simp_all)
  rw[A7 F];refine c_ ?_;have a5:Es l (min a b) (eK (a%4) k)=U:=by
   rw[←Ii,←sL Y];intro h;refine h ?_;unfold Ka at F
   simp_all
  have an:G b=G a:=by
   rw[X.g a _ b o D hx];unfold Gt
   simp_all
  have u:Ew 20000 (ae (G a) r):=aU (dX (X.ok a o) hr) a_;have S:=cg hs o;have rb:=cg hs V;have pa:=iA (G:=G) (r:=r) o;have pb:=iA (G:=G) (r:=r) V;rw[an]at pb;have N:Gm w v l G r a k=O (a,b,u_ (aq (ae (G a) r) (ra w a)) (eT (ae (G a) r).1 (eK (a%4) k))):=by
   unfold Gm
   grind
  generalize ae (G a) r=m at *;have rm:=xj u (c:=ra w a) (k:=1000) ⟨S.1,S.2.1,S.2.2.1,S.2.2.2.1⟩;have ad:=jr (m:=m) (c:=ra w a) u.1 (by obtain⟨_,V,g2,g3,g4,_⟩:=u;omega) S.2.2.2.2 a_;have P:=jr (m:=m) (c:=ra w b) u.1 (by obtain⟨_,V,g2,g3,g4,_⟩:=u;omega) rb.2.2.2.2 a_;rw[g4,jv u.1 S.2.2.2.2 D]at P;have bt:=SI (c:=aq m (ra w a)) (e:=eT m.1 (eK (a%4) k)) rm.2.2.2.2 (jY D) a_;have k1:=ii E o;have k2:=ii E V;rw[g4]at k2;generalize E5 (aq m (ra w a)) (eT m.1 (eK (a%4) k))=d at *;generalize u_ (aq m (ra w a)) (eT m.1 (eK (a%4) k))=ln at *;simp only[EB,EG,Fe,E7]at k1 k2 ad P bt;refine aJ (y.pre f) rfl pa ?_;rw[show u9 m=[EO DU (DO m.1),EO DQ m.2.1,EO DQ m.2.2]from rfl];refine c_ ?_;refine am k1 ?_;refine c_ ?_;refine am ad ?_;refine c_ ?_;refine aJ (y.pre f) rfl pb ?_;rw[show u9 m=[EO DU (DO m.1),EO DQ m.2.1,EO DQ m.2.2]from rfl];refine c_ ?_;refine am k2 ?_;refine c_ ?_;refine am P ?_;refine c_ ?_;refine am bt ?_;refine c_ ?_;have a6:=mz (w:=w) (v:=v) (l:=l) (G:=G) (r:=r) (n:=a);have a3:=BD (w:=w) (v:=v) (l:=l) (G:=G) (r:=r) (a:=a) (k:=k)
  refine DF (h0:=h4) (a:=((a,b,ln):Xf)) f A rfl rfl rfl rfl (by unfold aY;rw[IL,FE a_,FE a_];rfl) ?_
  intro z' h' a0 ap hg _ _;refine c_ ?_;refine ab hg ?_;refine m9 ?_;rw[aI a_];exact t (h',z') C ⟨a0,hg,by rw[lT,N,←Gu];exact ap⟩)
 grind
def r_apE{j7:Type}{e b:Nat}{enc:j7->Tn}{h:HL}{x:TV}{new:List j7}{m:Nat}{K:Tb}(f:h[m]?=O (.o (EJ [] e J)))(j:q_ h x e enc new)(l:0<W new)(k:W new*b<=140737488355328)(d:W new<=140737488355328)
  (g:K [DW (O ⟨W h,0,le e⟩) (W new) 0] (h++[.o (EJ (new.flatMap enc) e J)])) :
  P1.heap (.ap cc e b (DW (O ⟨m,0,le e⟩) 0 1) x) h (@j_ _ ⟨K⟩):=by
 have i:aY (0+W new) b=J:=by
  rw[Hd];unfold aY
  simp_all
 have c:cut ([]:Tn) 0 (0*e)=O []:=Sx.A2 d_;have a:Gx cc e b (DW (O ⟨m,0,le e⟩) 0 1) x (w_ aa h) (W h)=O ([.push (EJ ([]++new.flatMap enc) e J)],[DW (O ⟨W h,0,le e⟩) (0+W new) 0]):=by
  unfold Gx;rw[oO j.2];simp only[ne_eq,not_true_eq_false,if_false];rw[bI f]
  grind
 refine bK (show(Hp.ap cc e b (DW (O ⟨m,0,le e⟩) 0 1) x).run _ _=_ from a) ?_;rw[Hd];exact g
def Ez(a b:Cl):Bool:=decide (b.2.1<a.2.1∨(a.2.1=b.2.1/\(b.1<a.1∨(a.1=b.1/\b.2.2<a.2.2))))
def SD{a b:Cl}:Cc 70 (EB a++EB b) [.i (if Ez a b then 1 else 0)]:=by
 obtain⟨x,y,q⟩:=a;obtain⟨d,e,c⟩:=b;refine q70 rfl ?_;unfold f70;simp only[w7];simp only[EB,Fe,E7];refine c_ ?_;have l:(DO c<DO q)↔c<q:=Lk;by_cases h:e<y
 .rw[DY h];refine c_ ?_;rw[show Ez (x,y,q) (d,e,c)=J from FX (.inl h)];rfl
 rw[A6 a_];refine c_ ?_;by_cases f:y=e
 case neg=>rw[tx f];refine c_ ?_;rw[show Ez (x,y,q) (d,e,c)=U from Ga (by simp only;omega)];rfl
 rw[ub f];refine c_ ?_;by_cases j:d<x
 .rw[DY j];refine c_ ?_;rw[show Ez (x,y,q) (d,e,c)=J from FX (.inr ⟨f,.inl j⟩)];rfl
 rw[A6 a_];refine c_ ?_;by_cases g:x=d
 case neg=>rw[tx g];refine c_ ?_;rw[show Ez (x,y,q) (d,e,c)=U from Ga (by simp only;omega)];rfl
 rw[ub g];refine c_ ?_;by_cases k:c<q
 .rw[DY (l.2 k)];refine c_ ?_;rw[show Ez (x,y,q) (d,e,c)=J from FX (.inr ⟨f,.inr ⟨g,k⟩⟩)];rfl
 .rw[A6 a_];refine c_ ?_;rw[show Ez (x,y,q) (d,e,c)=U from Ga (by simp only;omega)];rfl
def d5(c:Gs)(a b:Int):Bool:=decide (c.1<a)||(decide (c.1=a)&&decide (c.2.1<b))
def nr{c:Gs}{a b:Int}:d5 c a b=J↔c.1<a∨(c.1=a/\c.2.1<b):=by simp only[d5,IP,y_,Gp]
def o4{c:Gs}{a b:Int}(h:0<=c.1/\c.1<=1000/\0<=a/\a<=1000/\0<=c.2.1/\c.2.1<=255/\0<=b/\b<=255):∃d:Int,Cc 121 [.i c.1,.i c.2.1,.i a,.i b] [.i d]/\(d<0↔d5 c a b=J)/\(d=0↔c.1=a/\c.2.1=b):=by
 by_cases e:c.1=a
 .refine⟨c.2.1-b,?_,by rw[nr];omega,a_⟩;refine q121 rfl ?_;unfold f121;simp only[w7];simp(disch:=omega)only[↓qb]
 .refine⟨c.1-a,?_,by rw[nr];omega,a_⟩;refine q121 rfl ?_;unfold f121;simp only[w7];simp(disch:=omega)only[↓qb]
def Pq{c:Gs}{a b:Int}(h:0<=c.1/\c.1<=1000/\0<=a/\a<=1000/\0<=c.2.1/\c.2.1<=255/\0<=b/\b<=255):∃d:Int,Cc 147 [.i c.1,.i c.2.1,.i c.2.2,.i a,.i b] [.i d]/\(d<0↔d5 c a b=J)/\(d=0↔c.1=a/\c.2.1=b):=by
 obtain⟨d,g,e,f⟩:=o4 h;refine⟨d,?_,e,f⟩;refine q147 rfl ?_;unfold f147;simp only[w7]
 repeat (first|simp(disch:=omega)only[↓qb]|refine am (Ci c) ?_|refine am g ?_)
abbrev cloF:FO:=.func (.func 147) ⟨[]⟩ ⟨[]⟩
def goodF1:aH cloF=J:=rfl
def p_half{a:Int}{K:Tw}(h0:0<=a)(d:K (a / 2)):P1.IX .shr .u64 a .u64 1 (@j_ _ ⟨K⟩):=by
 refine s_shf (zx 0) (K:=λn=>if n=a / 2 then yes else Q) (λn f=>?_) ?_
 .by_cases e:n=a / 2
  .rw[e];exact d
  simp_all
 .have b:∀(K:Int->RT),(BA ac aa (Mc 0)).IX .shr .u64 a .u64 1 K=rm .shr .u64 a .u64 1 K:=λ_=>rfl;rw[b];have c:y3 0 1=J:=rfl;unfold rm;rw[c];simp only;rw[lS];have:a.fdiv (2 ^ min (1:Int).toNat IntKind.u64.bits)=a / 2:=by
   show a.fdiv 2=a / 2
   grind
  rw[this,rv rfl]
def s8{a:Int}{K:Tw}(h1:0<=a)(c:a<=9223372036854775807)(b:K a):P1.conv .u64 a (@j_ _ ⟨K⟩):=by
 show K (IntKind.wrap .u64 a);have:IntKind.wrap .u64 a=a:=by simp only[IntKind.wrap,IntKind.bits,IntKind.signed,Bool.false_and,FG,if_false];omega
 rw[this];exact b
def Nt(c:Gs):Prop:=0<=c.1/\c.1<=1000/\0<=c.2.1/\c.2.1<=255/\0<=c.2.2/\c.2.2<=255
def At(l:TD)(a b:Int)(i:Nat):Prop:=i<=W l/\(∀(k:Nat) c,l[k]?=O c->k<i->d5 c a b=J)/\∀(k:Nat) c,l[k]?=O c->i<=k->d5 c a b=U
def G5(l:TD)(a b:Int)(i:Nat):Bool:=match l[i]? with
 |O c=>decide (c.1=a)&&decide (c.2.1=b)
 |Q=>U
def XK{l:TD}(h:G2 l=J):∀(n i:Nat) a b,l[i]?=O a->l[i+n+1]?=O b->Ks a b=J
 |0,i,a,b,d,e=>jH.1 h i a b d e
 |n+1,i,a,b,d,e=>by obtain⟨c,f⟩:=ak (l:=l) (i:=i+n+1) jw;have g:=XK h n i a c d f;have j:=jH.1 h (i+n+1) c b f a_;simp only[Ks,IP,y_,Gp]at g j ⊢;omega
def MH{l:TD}(h:G2 l=J){i j:Nat}{a b:Gs}(d:i<j)(c:l[i]?=O a)(e:l[j]?=O b):Ks a b=J:=
 XK h (j-i-1) i a b c jw
def bin_c{h:HL}{x:TV}{l:TD}(w:q_ h x 3 q9 l)(u:∀c∈l,Nt c)(Y:W l<=1000)(p:G2 l=J){a b:Int}(Z:0<=a/\a<=1000/\0<=b/\b<=255) :
  ∃i:Nat,At l a b i/\aD cc ac 146 [.v x,.i a,.i b,.v cloF] (h_ aa h) [.i (DO i),.b (G5 l a b i)] (h_ aa h):=by
 obtain⟨M,r,P,i,rfl,rfl,R⟩:=x146 (K:=λM r=>∃i:Nat,M=[.i (DO i),.b (G5 l a b i)]/\r=h/\At l a b i) (H:=h) (o_ w.g_ (mc (mc (o_ goodF1 vc)))) (by
  unfold f146;simp only[w7];refine c_ ?_;refine aO w ?_;refine aN (m:=W l) (λm L r=>∃i j:Nat,L=[.i (DO i),.i (DO j)]/\r=h/\i<=j/\j<=W l/\m=j-i/\(∀(k:Nat) c,l[k]?=O c->k<i->d5 c a b=J)/\∀(k:Nat) c,l[k]?=O c->j<=k->d5 c a b=U) ⟨0,W l,rfl,rfl,a_,a_,a_,λk c _ u=>a_,λk c g u=>k_⟩ ?_;rintro m L r ⟨i,j,rfl,rfl,T,t,rfl,o,n⟩ N f;refine Fc ?_;refine c_ ?_;by_cases F:i<j
  .rw[aB F];refine c_ ?_;rw[Hn jw jw];refine s8 jw jw ?_;refine p_half jw ?_;have s:(DO i+DO j) / 2=DO ((i+j) / 2):=d_;rw[s];rw[DG jw jw];obtain⟨c,g⟩:=ak (l:=l) (i:=(i+j) / 2) a_;have G:=u c (A9 g);unfold Nt at G;refine aJ w rfl g ?_;unfold q9;refine c_ ?_;obtain⟨d,A,I,z⟩:=Pq (c:=c) (a:=a) (b:=b) a_;refine gK (lJ (A _) rfl [.agg [.i DQ c.1,.i DU c.2.1,.i DU c.2.2],.agg [.i DQ a,.i DU b]] rfl rfl) ?_;refine c_ ?_;by_cases B:d<0
   .have V:=I.1 B;refine c_ ?_;rw[aI a_];refine c_ ?_;refine f (j-((i+j) / 2+1)) _ _ a_ ⟨(i+j) / 2+1,j,rfl,rfl,a_,t,rfl,λk e C E=>?_,n⟩;rcases I3 k ((i+j) / 2)with q|q
    .have:=MH p q C g;rw[nr]at V ⊢;simp only[Ks,IP,y_,Gp]at this;omega
    grind
   .have S:d5 c a b=U:=by simp_all
    refine c_ ?_;refine f ((i+j) / 2-i) _ _ a_ ⟨i,(i+j) / 2,rfl,rfl,a_,a_,rfl,o,λk e C E=>?_⟩;rcases I3 ((i+j) / 2) k with q|q
    .have:=MH p q g C;rw[←Ii,nr]at S ⊢;simp only[Ks,IP,y_,Gp]at this;omega
    grind
  .obtain rfl:i=j:=a_;rw[aw (B7 _)];refine c_ ?_;by_cases D:i<W l
   .rw[aB D];refine c_ ?_;obtain⟨c,g⟩:=ak D;have G:=u c (A9 g);unfold Nt at G;refine aJ w rfl g ?_;unfold q9;refine c_ ?_;obtain⟨d,A,I,z⟩:=Pq (c:=c) (a:=a) (b:=b) a_;refine gK (lJ (A _) rfl [.agg [.i DQ c.1,.i DU c.2.1,.i DU c.2.2],.agg [.i DQ a,.i DU b]] rfl rfl) ?_;refine c_ ?_;by_cases y:d=0
    .have:=z.1 y;rw[ub y];refine c_ ?_;exact⟨i,by simp[G5,g,this.1,this.2],Ei,t,o,n⟩
    .have X:¬(c.1=a/\c.2.1=b):=λq=>y (z.2 q);rw[tx y];refine c_ ?_;refine⟨i,?_,Ei,t,o,n⟩;have:G5 l a b i=U:=by
      simp only[G5,g]
      simp_all
     rw[this]
   .rw[aw a_];refine c_ ?_;refine⟨i,?_,Ei,t,o,n⟩;have:G5 l a b i=U:=by simp only[G5,Ig (Nat.not_lt.1 D)]
    rw[this])
 exact⟨i,R,P⟩
def find_c{h:HL}{x:TV}{l:TD}(f:q_ h x 3 q9 l)(n:∀c∈l,Nt c)(o:W l<=1000)(d:G2 l=J){a b:Int}(p:0<=a/\a<=1000/\0<=b/\b<=255) :
  ∃i:Nat,At l a b i/\aD cc ac 139 [.v x,.i a,.i b] (h_ aa h) [.i (DO i),.b (G5 l a b i)] (h_ aa h):=by
 obtain⟨i,m,k⟩:=bin_c f n o d p;obtain⟨g,e,j,rfl,rfl⟩:=x139 (K:=λg e=>g=[.i (DO i),.b (G5 l a b i)]/\e=h) (H:=h) (o_ f.g_ (mc (mc vc))) (by
  unfold f139;simp only[w7]
  repeat (first|simp(disch:=omega)only[↓qb]|refine ai k ?_)
  simp_all)
 exact⟨i,m,j⟩
def Kq(a b:Int)(c:Gs):Bool:=decide (c.1=a)&&decide (c.2.1=b)
def cX(l:TD)(a b:Int):Int:=match l.find? (Kq a b)with
 |O c=>c.2.2
 |Q=>0
def el{l:TD}{a b:Int}{i:Nat}(h:At l a b i)(e:G2 l=J):(G5 l a b i=J->∃c,l[i]?=O c/\cX l a b=c.2.2)/\(G5 l a b i=U->cX l a b=0):=by
 obtain⟨u,p,r⟩:=h;have m:∀(k:Nat) c,l[k]?=O c->Kq a b c=J->k=i:=by
  intro k c f s;simp only[Kq,y_,Gp]at s;rcases qcP k i with q|q|q
  .have:=p k c f q;rw[nr]at this;omega
  .exact q
  .obtain⟨d,g⟩:=ak (l:=l) (i:=i) jw;have n:=MH e q g f;have o:=r i d g (B7 _);rw[←Ii,nr]at o;simp only[Ks,IP,y_,Gp]at n;omega
 have t:G5 l a b i=J↔∃c,l[i]?=O c/\Kq a b c=J:=by
  unfold G5 Kq
  grind
 unfold cX;cases j:l.find? (Kq a b)with
 |none=>grind
 |some c=>
  have w:=qdE j;obtain⟨k,v⟩:=E4 (qcc j)
  grind
structure XA(w v:Nat)(l:TD):Prop where
 sheet:1<=w/\w<=5/\1<=v/\v<=5
 Ns:∀c∈l,Nt c
 len:l.length<=1000
 ok:Is (.ofNat w) (.ofNat v) l=0
def XA.sm{w v:Nat}{l:TD}(h:XA w v l):Mf (.ofNat w) (.ofNat v):=by
 have:=h.sheet;unfold Mf
 grind
def XA.asc{w v:Nat}{l:TD}(h:XA w v l):G2 l=J:=by
 have:=h.ok;unfold Is at this
 grind
def XA.check{w v:Nat}{l:TD}(h:XA w v l){H:HL}{x:TV}(b:q_ H x 3 q9 l):aD cc ac 93 [.i (.ofNat w),.i (.ofNat v),.v x] (h_ aa H) [.i 0] (h_ aa H):=by
 have:=gA h.sm b (λc a=>by have:=h.Ns c a;unfold Nt at this;unfold okC;omega) (by have:=h.len;omega)
 rw[h.ok]at this;exact this
def kind_c{w v:Nat}{l:TD}(g:XA w v l){H:HL}{x:TV}(h:q_ H x 3 q9 l){c e n:Nat}(z:c<4*w*v)(A:e<3)(D:D_ w v c e=O n)(E:n<=1000) :
  aD cc ac 79 [.i (.ofNat w),.i (.ofNat v),.v x,.i (.ofNat c),.i (.ofNat e)] (h_ aa H) [.i (cX l (.ofNat (min c n)) (.ofNat e)),.i 0] (h_ aa H):=by
 have f:=g.sheet;have d:=Nc (tE w v f.1 f.2.1 f.2.2.1 f.2.2.2) z A;unfold L0 at d;rw[D]at d;simp only at d;obtain⟨i,B,q⟩:=find_c h g.Ns g.len g.asc (a:=.ofNat (min c n)) (b:=.ofNat e) jw;obtain⟨F,M⟩:=el B g.asc;obtain⟨m,j,r,t,u⟩:=x113 (K:=λm j=>m=[.i (.ofNat (min c n)),.i (.ofNat e),.i (.ofNat i),.b (G5 l (.ofNat (min c n)) (.ofNat e) i),.i 0]/\j=H) (H:=H) (mc (mc (o_ h.g_ (mc (mc vc))))) (by
  unfold f113;simp only[w7]
  repeat (first|simp(disch:=omega)only[↓qb]|refine ai (g.check h) ?_|refine am d ?_|refine ai q ?_)
  simp_all)
 rw[t,u]at r;obtain⟨G,I,L,e3,e4⟩:=x79 (K:=λm j=>m=[.i (cX l (.ofNat (min c n)) (.ofNat e)),.i 0]/\j=H) (H:=H) (mc (mc (o_ h.g_ (mc (mc vc))))) (by
  unfold f79;simp only[w7]
  repeat (first|simp(disch:=omega)only[↓qb]|refine ai r ?_)
  cases y:G5 l (.ofNat (min c n)) (.ofNat e) i with
  |false=>
   simp(disch:=omega)only[↓qb,GG]
   simp_all
  |true=>
   obtain⟨s,p,C⟩:=F y
   repeat (first|simp(disch:=omega)only[↓qb,Fv]|refine bz (o:=2) (k:=1) (cs:=[EO DU s.2.2]) h rfl p rfl a_ ?_)
   simp_all)
 simp_all
def v9(x y:Cl):K6:=if Ez x y then(y,x)else(x,y)
abbrev GP:=List K6×List (List K2)
def Ej(k:K6)(s:GP):GP:=if k∈s.1 then s else(s.1++[k],s.2++[[],[],[]])
def HH(j:Nat)(p:K2)(s:GP):GP:=(s.1,s.2.set j (s.2.getD j []++[p]))
def fB(w v:Nat)(l:TD)(P:TH)(id e:Nat)(s:GP):GP:=
 let a:=aq (P id) (ra w id)
 let b:=aq (P id) (E5 (ra w id) e)
 let s:=Ej (v9 a b) s
 let i:=s.1.idxOf (v9 a b)
 match D_ w v id e with
 |Q=>s
 |O n=>if n<id then s else
  if cX l (DO (min id n)) (DO e)=0 then HH (3*i) (if Ez a b then(n,id)else(id,n)) s
  else HH (3*i+(if Ez a b then 2 else 1)) (id,n) s
def Gy(pn:Ti)(w v:Nat)(l:TD)(P:TH)(V:Tx)(id e:Nat):Prop:=
 ∀n,D_ w v id e=O n->¬n<id->cX l (DO (min id n)) (DO e)≠0->cX l (DO (min id n)) (DO e)≠3->A4 V (I9 pn (cX l (DO (min id n)) (DO e)) id n (decide ((P id).1<4)))=J
def E2(w v:Nat)(l:TD)(P:TH)(n:Nat):GP:=(EW n).foldl (λs id=>(EW 3).foldl (λs e=>fB w v l P id e s) s) ([],[])
def Sm.look{o:Nat}{h:HL}{f:Nat}{kv:TV}{ks:List K6}{is:TC}{vs:Tn}{ls:List (List K2)}(d:Sm o h f kv ks is vs ls)(k:K6){v:TV}(n:v=EU ⟨N9 k⟩){K:Tf}(h0:k∉ks->K [EQ Q])(h1:∀(i:Nat) id,ks[i]?=O k->is[i]?=O id->K [lM id]) :
  P1.oo (.fn (Hv cc 164 U (EQ Q) (.map (O f)) v U)) h (@j_ _ ⟨K⟩):=by
 have q:∀(i:Nat) p,(ks.zip (is.map lM))[i]?=O p->∃id,ks[i]?=O p.1/\is[i]?=O id/\p.2=lM id:=λi p c=>by grind
 refine pD N9 Yu e_ e_ Po d.mp k n (λg e=>by cases e) (λp c g e=>?_) (λm=>h0 λj=>m ?_) λi u a=>?_
 .obtain⟨i,a⟩:=E4 c
  grind
 .obtain⟨i,a⟩:=E4 j;obtain⟨id,b⟩:=ak (l:=is) (i:=i) (by rw[d.il];exact ah a);refine Ed.2 ⟨(k,lM id),A9 (i:=i) (qbB.2 ⟨a,?_⟩),rfl⟩
  simp_all
 grind
def Sm.put_key{l:Nat}{h g:HL}{a:Nat}{kv:TV}{ks:List K6}{is:TC}{vs:Tn}{ls:List (List K2)}(i:Sm l h a kv ks is vs ls){k:K6}(d:k∉ks){v u:TV}(j:v=EU ⟨N9 k⟩)(c:∀o,h[a]?=O o->g[a]?=O o){K:Tb}(b:∀o,E8 N9 (g.set a o) a (ks.zip (is.map lM)++[(k,u)])->K [] (g.set a o)) :
  P1.heap (.fn (Ic cc 164 (.map (O a)) v u)) g (@j_ _ ⟨K⟩):=by
 refine m4 N9 Yu e_ e_ Po (i.mp.ke _ c) k (λe=>d ?_) j b;obtain⟨p,f,rfl⟩:=Ed.1 e;exact(List.of_mem_zip f).1
def Iw(l:Ln)(s:Bool)(g:Mv)(c:Cl):Mv:=if aV l (aq g c)=s then ae g (wd l)else g
def YN{l:Ln}{s:Bool}{g:Mv}{c:Cl}(a:g.1<8):(Iw l s g c).1<8:=by
 unfold Iw;split
 .exact eH
 .exact a
def zK{c:Cl}{e:Nat}(a:c.2.2<4)(d:e<3):aV (u_ c e) c≠aV (u_ c e) (E5 c e):=by
 obtain⟨x,y,q⟩:=c;simp only at a;have b:e=0∨e=1∨e=2:=a_;rcases Gq a with rfl|rfl|rfl|rfl<;>rcases b with rfl|rfl|rfl
 all_goals
  intro h;simp[aV,E5,u_]at h
  try omega
def P5{c:Cl}{e:Nat}(a:c.2.2<4)(d:e<3):1<=(u_ c e).1/\(u_ c e).1<=4:=by obtain⟨x,y,q⟩:=c;simp only at a;have b:e=0∨e=1∨e=2:=a_;rcases Gq a with rfl|rfl|rfl|rfl<;>rcases b with rfl|rfl|rfl<;>simp[u_]
def q6{m:Mv}(h:m.1<8):ae (Hk m) m=ET:=by obtain⟨t,x,y⟩:=m;have h:t<8:=h;unfold ae Hk ET;rcases t8 h with rfl|rfl|rfl|rfl|rfl|rfl|rfl|rfl<;>simp[EL,mA,mB,mC,mD,I']<;>omega
def ny{a b:Mv}{c:Cl}(d:a.1<8)(e:b.1<8)(f:c.2.2<4):aq (ae a b) c=aq b (aq a c):=by
 obtain⟨s,h,i⟩:=a;obtain⟨t,j,g⟩:=b;obtain⟨x,y,q⟩:=c;simp only at d e f;rcases t8 d with rfl|rfl|rfl|rfl|rfl|rfl|rfl|rfl<;>rcases t8 e with rfl|rfl|rfl|rfl|rfl|rfl|rfl|rfl
 all_goals rcases Gq f with rfl|rfl|rfl|rfl
 all_goals simp[aq,qT,mA,mB,mC,mD,ae,EL]
 all_goals omega
def Gj(w:Nat)(l:Ln)(s:Bool)(G:TH)(r:Mv)(c:Nat):Mv:=ae (Iw l s (ae (G c) r) (ra w c)) (Hk (Iw l s (ae (G 0) r) (ra w 0)))
def Az{w:Nat}{l:Ln}{s:Bool}{G:TH}{r:Mv}(c:Nat):ae (Gj w l s G r c) (Iw l s (ae (G 0) r) (ra w 0))=Iw l s (ae (G c) r) (ra w c):=by
 have a:∀c,(Iw l s (ae (G c) r) (ra w c)).1<8:=λc=>YN eH;have b:(Hk (Iw l s (ae (G 0) r) (ra w 0))).1<8:=by have:=a 0;generalize Iw l s (ae (G 0) r) (ra w 0)=m at *;unfold Hk;simp only;rcases t8 this with h|h|h|h|h|h|h|h<;>rw[h]<;>simp[I']
 unfold Gj;rw[cD (a c) b (a 0),q6 (a 0),qc (a c)]
def DA{w v:Nat}(L:Sh w v){l l':TD}{G:TH}(hG:rL w v l G)(R:∀c,c<4*w*v->(G c).1<8){r:Mv}(hr:r.1<8){ln:Ln}(D:1<=ln.1/\ln.1<=4){s:Bool}
  (ap:∀u e n,u<4*w*v->e<3->D_ w v u e=O n->u<n->(Es l' u e=J↔(Es l u e=J∨(Es l u e=U/\u_ (aq (ae (G u) r) (ra w u)) (eT (ae (G u) r).1 e)=ln)))) :
  rL w v l' (Gj w ln s G r)/\Gj w ln s G r 0=ET:=by
 have N:∀c,(Iw ln s (ae (G c) r) (ra w c)).1<8:=λc=>YN eH;refine⟨λc e n K j hn=>?_,Zf (N 0)⟩;obtain⟨F,Z,av,y,ax⟩:=de L K j hn;have p:(ra w c).2.2<4:=(cg L K).2.2.2.2;have an:(ra w n).2.2<4:=(cg L F).2.2.2.2;have E:∀g,Gt w l g c n e=if Es l (min c n) e=J then ae (wd (u_ (ra w c) e)) g else g:=λg=>by
  unfold Gt
  grind
 have A:∀g,Gt w l' g c n e=if Es l' (min c n) e=J then ae (wd (u_ (ra w c) e)) g else g:=λg=>by
  unfold Gt
  grind
 have k:=hG c e n K j hn;rw[E]at k;rw[A];generalize I:wd (u_ (ra w c) e)=M at *;have f:M.1<8:=by rw[←I];exact jx _
 have S:ae M M=ET:=by rw[←I];exact xz _
 have ag:(wd ln).1<8:=jx _;have P:=R c K;have d:(ae (G c) r).1<8:=eH;have hi:(Hk (Iw ln s (ae (G 0) r) (ra w 0))).1<8:=by have:=N 0;generalize Iw ln s (ae (G 0) r) (ra w 0)=m at *;unfold Hk;simp only;rcases t8 this with h|h|h|h|h|h|h|h<;>rw[h]<;>simp[I']
 have o:Es l' (min c n) e=J↔(Es l (min c n) e=J∨(Es l (min c n) e=U/\u_ (aq (ae (G (min c n)) r) (ra w (min c n))) (eT (ae (G (min c n)) r).1 e)=ln)):=by grind
 have x:∀X:Mv,X.1<8->(Iw ln s (ae (G n) r) (ra w n)=ae M (Iw ln s (ae (G c) r) (ra w c)))->Gj w ln s G r n=ae M (Gj w ln s G r c):=λ_ _ h=>by unfold Gj;rw[h,cD f (N c) hi]
 by_cases z:Es l (min c n) e=J
 .rw[rv (o.2 (.inl z))];rw[rv z]at k;refine x M f ?_;have hp:ae (G n) r=ae M (ae (G c) r):=by rw[k,cD f P hr]
  have V:aq (ae (G n) r) (ra w n)=aq (ae (G c) r) (ra w c):=by rw[hp,y,←I];exact iq d p j
  unfold Iw;rw[V];split
  .rw[hp,cD f d ag]
  .exact hp
 .rw[ts z]at k;have C:Es l (min c n) e=U:=qcO.2 z;have Y:G (min c n)=G c:=by grind
  have B:u_ (aq (ae (G (min c n)) r) (ra w (min c n))) (eT (ae (G (min c n)) r).1 e)=u_ (aq (ae (G c) r) (ra w c)) (eT (ae (G c) r).1 e):=by
   rw[Y];rcases Nat.le_total c n with h|h
   .rw[Xk h]
   .rw[qdz h];have al:=vf (P5 (c:=aq (ae (G c) r) (ra w n)) fi (jY (t:=(ae (G c) r).1) j)) (c:=aq (ae (G c) r) (ra w c)) fi (jY (t:=(ae (G c) r).1) j) ?_
    .exact al
    .have hb:ra w c=E5 (ra w n) e:=(de L F j Z).2.2.2.1;have h1:=zK (c:=aq (ae (G c) r) (ra w n)) (e:=eT (ae (G c) r).1 e) fi (jY j);rw[←jv d p j,←y];rw[←jv d an j,←hb]at h1;exact EC h1
  rw[B]at o;by_cases i:u_ (aq (ae (G c) r) (ra w c)) (eT (ae (G c) r).1 e)=ln
  .rw[rv (o.2 (.inr ⟨C,i⟩))];refine x M f ?_;have q:=zK (c:=aq (ae (G c) r) (ra w c)) (e:=eT (ae (G c) r).1 e) fi (jY j);rw[i,←jv d p j]at q;have H:=VH d D p j q;rw[I]at H;rw[←y]at q;unfold Iw;rw[k];generalize aV ln (aq (ae (G c) r) (ra w c))=a at *;generalize aV ln (aq (ae (G c) r) (ra w n))=b at *;have T:ae M (ae M (ae (G c) r))=ae (G c) r:=by rw[←cD f f d,S,lX d]
   by_cases ha:a=s
   .grind
   .rw[ts ha,rv (by cases a<;>cases b<;>cases s<;>simp_all),H]
  .have ad:¬Es l' (min c n) e=J:=λh=>by simp_all
   rw[ts ad];have q:aV ln (aq (ae (G c) r) (ra w c))=aV ln (aq (ae (G c) r) (ra w n)):=by
    by_cases h:aV ln (aq (ae (G c) r) (ra w c))=aV ln (aq (ae (G c) r) (ra w n))
    .exact h
    .rw[y,jv d p j]at h;exact absurd (vf D fi (jY j) h).symm i
   unfold Gj
   congr 1
   unfold Iw;rw[k,q]
def kC{a b:Cl}{K:Tp}:P1.eqs [(.i a.1,.i b.1),(.i a.2.1,.i b.2.1),(.i (DO a.2.2),.i (DO b.2.2))] (@j_ _ ⟨K⟩)=K (decide (a=b)):=by
 show K (cz _)=_;have e:cz [(.i a.1,.i b.1),(.i a.2.1,.i b.2.1),(.i (DO a.2.2),.i (DO b.2.2))]=decide (a=b):=by rw[h9];simp[cz,iP,qdj];omega
 rw[e]
def pP{c:Cl}(a:c.2.2<4):aq ET c=c:=by obtain⟨x,y,q⟩:=c;simp only at a;rcases Gq a with rfl|rfl|rfl|rfl<;>simp[aq,ET,mA,mB,mC,mD,qT]
def L1{c:Cl}{e:Nat}(a:c.2.2<4)(d:e<3):(E5 c e).2.2<4/\c.1-1<=(E5 c e).1/\(E5 c e).1<=c.1+1/\c.2.1-1<=(E5 c e).2.1/\(E5 c e).2.1<=c.2.1+1:=by obtain⟨x,y,q⟩:=c;simp only at a;have b:e=0∨e=1∨e=2:=a_;rcases Gq a with rfl|rfl|rfl|rfl<;>rcases b with rfl|rfl|rfl<;>simp[E5]<;>omega
def dst(w c:Nat):Nat:=3*(c / 4%w+c / 4 / w)+[0,1,2,1].getD (c%4) 0-(if c%4=3/\c / 4 / w=0/\c / 4%w≠0 then 2 else 0)
def Xa(w v c:Nat):Bool:=Nat.ble (dst w c) 14&&(Nat.beq c 0||(EW 3).any λe=>match D_ w v c e with
 |O n=>Nat.beq (dst w n+1) (dst w c)
 |Q=>U)
def r5:∀w v:Nat,1<=w->w<=3->1<=v->v<=3->((EW (4*w*v)).all λc=>Xa w v c)=J:=by
 have a:((EW 3).all λw=>(EW 3).all λv=>(EW (4*(w+1)*(v+1))).all λc=>Xa (w+1) (v+1) c)=J:=by decide +kernel
 intro w v d e f g;have b:=D7.1 a (w-1) (D2.2 a_);have h:=D7.1 b (v-1) (D2.2 a_)
 simp_all
def zb(d:Int)(a b:Cl):Prop:=a.1-d<=b.1/\b.1<=a.1+d/\a.2.1-d<=b.2.1/\b.2.1<=a.2.1+d
def img_nb{w v:Nat}(o:Sh w v){l:TD}{G:TH}(k:C' w v l G){r:Mv}(x:r.1<8){c e n:Nat}(j:c<4*w*v)(h:e<3)(m:D_ w v c e=O n) :
  zb 1 (aq (ae (G c) r) (ra w c)) (aq (ae (G n) r) (ra w n)):=by
 obtain⟨s,t,p,d,u⟩:=de o j h m;have i:(ra w c).2.2<4:=(cg o j).2.2.2.2;have b:(ae (G c) r).1<8:=eH;have a:=k.g c e n j h m;unfold Gt at a;by_cases f:Es l (min c n) e=J
 .rw[rv f]at a;have q:u_ (ra w (min c n)) e=u_ (ra w c) e:=by grind
  rw[q]at a;have:aq (ae (G n) r) (ra w n)=aq (ae (G c) r) (ra w c):=by rw[a,d,cD (jx _) (k.ok c j).1 x];exact iq b i h
  rw[this];unfold zb;omega
 .rw[ts f]at a;rw[a,d,jv b i h];have:=L1 (c:=aq (ae (G c) r) (ra w c)) (e:=eT (ae (G c) r).1 e) fi (jY h);unfold zb;omega
def Zc{w v:Nat}(b:S3 w v){l:TD}{G:TH}(q:C' w v l G){r:Mv}(s:r.1<8):∀(d c:Nat),c<4*w*v->dst w c=d->zb (DO d) (aq (ae (G 0) r) (ra w 0)) (aq (ae (G c) r) (ra w c)):=by
 have m:=b.sh;intro d
 induction d using Nat.strongRecOn with
 |_ d t=>
  intro c k z;have i:=D7.1 (r5 w v b.1 b.2.1 b.2.2.1 b.2.2.2) c (D2.2 k);unfold Xa at i;rw[y_,IP]at i;rcases i.2 with o|p
  .obtain rfl:=Fs o;unfold zb
   grind
  .obtain⟨e,g,a⟩:=qcn.1 p;have g:=D2.1 g;cases j:D_ w v c e with
   |none=>rw[j]at a;cases a
   |some n=>
    rw[j]at a;have a:=Fs a;obtain⟨f,h,_⟩:=de m k g j;have u:=t (dst w n) a_ n f rfl;have x:=img_nb m q s f g h;have y:DO d=DO (dst w n)+1:=by grind
    unfold zb at *;omega
def qN{w v:Nat}(a:S3 w v){l:TD}{G:TH}(e:C' w v l G){r:Mv}{k:Int}(b:Ew k r){c:Nat}(f:c<4*w*v) :
  -(k+15)<=(aq (ae (G c) r) (ra w c)).1/\(aq (ae (G c) r) (ra w c)).1<=k+15/\-(k+15)<=(aq (ae (G c) r) (ra w c)).2.1/\(aq (ae (G c) r) (ra w c)).2.1<=k+15:=by
 have d:=D7.1 (r5 w v a.1 a.2.1 a.2.2.1 a.2.2.2) c (D2.2 f);unfold Xa at d;rw[y_]at d;have j:=Nat.le_of_ble_eq_true d.1;have g:=Zc a e b.1 _ c f rfl;have i:-(k+1)<=(aq (ae (G 0) r) (ra w 0)).1/\(aq (ae (G 0) r) (ra w 0)).1<=k/\-(k+1)<=(aq (ae (G 0) r) (ra w 0)).2.1/\(aq (ae (G 0) r) (ra w 0)).2.1<=k:=by rw[e.z,lX b.1,show ra w 0=(0,0,0)by simp[ra]];obtain⟨t,x,y⟩:=r;unfold Ew at b;simp only at b;simp only[aq,Int.mul_zero,Int.zero_add];omega
 have h:DO (dst w c)<=14:=jw;unfold zb at g;omega
def ZD{c:Cl}{e:Nat}{n:Int}(a:c.2.2<4)(f:e<3)(d:-n<=c.1/\c.1<=n/\-n<=c.2.1/\c.2.1<=n):Ew (2*n+2) (wd (u_ c e))/\-(2*n+2)<=(u_ c e).2/\(u_ c e).2<=2*n+2:=by
 obtain⟨x,y,q⟩:=c;simp only at a d;have b:e=0∨e=1∨e=2:=a_;rcases Gq a with rfl|rfl|rfl|rfl<;>rcases b with rfl|rfl|rfl
 all_goals
  simp[u_,wd,Ew];omega
def Lu(l:List Mq):Prop:=l.Pairwise λa b=>Ez a.1 b.1=U
def wI{a b:Cl}:Ez a b=U↔¬(b.2.1<a.2.1∨(a.2.1=b.2.1/\(b.1<a.1∨(a.1=b.1/\b.2.2<a.2.2)))):=by
 unfold Ez
 simp_all
def wJ{a b:Cl}:Ez a b=J↔(b.2.1<a.2.1∨(a.2.1=b.2.1/\(b.1<a.1∨(a.1=b.1/\b.2.2<a.2.2)))):=by unfold Ez;rw[Gp]
def zP{A B:List Mq}{x:Mq}(h:Lu (A++B))(h1:∀a∈A,Ez a.1 x.1=U)(d:∀b∈B,Ez b.1 x.1=J):Lu (A++x::B):=by
 unfold Lu at *;rw[qcd]at h ⊢;refine⟨h.1,MB.2 ⟨λb c=>?_,h.2.1⟩,λa e b c=>?_⟩
 .have:=wJ.1 (d b c);exact wI.2 a_
 grind
def C0{H:HL}{x:TV}{l:List Mq}(hx:q_ H x 4 Ey l)(h0:0<W l)(hn:W l<=1000)(G:∀s∈l,aH s.2=J) :
  ∃l' h' z,aD cc ac 42 [.v x] (h_ aa H) [.v z] (h_ aa h')/\xk H h'/\q_ h' z 4 Ey l'/\l'.Perm l/\Lu l':=by
 have av:=x42 (ls:=[.v x]) (K:=λrs h'=>∃z l',rs=[.v z]/\xk H h'/\q_ h' z 4 Ey l'/\l'.Perm l/\Lu l') (H:=H) (o_ hx.g_ vc) (by
  unfold f42;simp only[w7];refine c_ ?_;refine r_apE (e:=4) aG (hx.pre ⟨_,rfl⟩) h0 a_ a_ ?_;have r:xk H (H++[HO.o (EJ [] 4 J)]):=⟨_,rfl⟩;generalize H++[HO.o (EJ [] 4 J)]=H1 at *;refine c_ ?_;have j_:(H1++[HO.o (EJ (l.flatMap Ey) 4 J)])[W H1]?=O (HO.o (EJ (l.flatMap Ey) 4 J)):=aG;have M:xk H (H1++[HO.o (EJ (l.flatMap Ey) 4 J)]):=r.Hu _;have I:W H<=W H1:=r.len;generalize H1++[HO.o (EJ (l.flatMap Ey) 4 J)]=H2 at *;generalize (W H1)=id at *;have p:=ah j_;have D:∀L:List Mq,W L=W l->q_ (sd H2 id 4 Ey L) (DW (O ⟨id,0,le 4⟩) (W l) 0) 4 Ey L:=λL h=>dd pA (bS p) h.symm;have r:sd H2 id 4 Ey l=H2:=gi j_;refine ab (dd (cx:=0) pA j_ rfl).g_ ?_;refine m9 ?_;refine bo (g9:=List Mq) (max 1 (W l)) (λj _=>[.i (DO j)]) (λ_ L=>sd H2 id 4 Ey L) (λj L=>L.Perm l/\1<=j/\Lu (L.take j)) (j0:=1) (s0:=l) rfl r.symm a_ ⟨ax _,B7 _,?_⟩ ?_
  .cases l with
   |nil=>exact .nil
   |cons a l=>exact MB.2 ⟨λ_ h=>(by cases h),.nil⟩
  intro i L hi ⟨d,hi1,f⟩ self hself;have t:W L=W l:=d.length_eq;refine c_ ?_;refine aO (D L t) ?_;rw[t];by_cases ad:i<W l
  case neg=>rw[aw a_];refine c_ ?_;rw[K5 a_]at f;exact⟨_,L,rfl,lr M I,D L t,d,f⟩
  rw[aB ad];refine c_ ?_;obtain⟨x0,an⟩:=ak (l:=L) (i:=i) a_;have n:L=L.take i++x0::[]++L.drop (i+1):=by
   conv=>lhs;rw[←Xi i L]
   rw[RK a_]
   simp_all
  refine aN (m:=i) (λm ls h=>∃(A:List Mq) (x:Mq) (B R:List Mq),ls=[.i (DO (W A))]/\m=W A/\h=sd H2 id 4 Ey (A++x::B++R)/\(A++x::B++R).Perm l/\Lu (A++B)/\(∀b∈B,Ez b.1 x.1=J)/\A.length+W B=i)
   ⟨L.take i,x0,[],L.drop (i+1),jw,jw,by rw[←n],jw,by simpa using f,λb hb=>(by cases hb),jw⟩ ?_
  clear n an f d t;rintro m ls h ⟨A,x,B,R,rfl,rfl,rfl,d,f,hB,S⟩ E k;refine Fc ?_;refine c_ ?_;have t:W (A++x::B++R)=W l:=d.length_eq;have u:(∀a∈A,Ez a.1 x.1=U)->self [.i (DO i+1)] (sd H2 id 4 Ey (A++x::B++R)):=λh=>hself _ a_ ⟨d,a_,by rw[qc1 z_,K5 z_];exact zP f h hB⟩
  rcases List.eq_nil_or_concat A with rfl|⟨c,y,rfl⟩
  .rw[A6 (show DO (W ([]:List Mq))<=0 from L_ _)];refine c_ ?_;rw[aI a_]
   simp_all
  rw[List.concat_eq_append]at *;have hk:W (c++[y])=W c+1:=d_;rw[hk]at S k ⊢;have C:Ez y.1 x.1=U->∀a∈c++[y],Ez a.1 x.1=U:=by
   intro h a T;rcases F_.1 T with T|T
   .have h1:Ez a.1 y.1=U:=by
     unfold Lu at f
     grind
    have h1:=wI.1 h1;have h:=wI.1 h;exact wI.2 a_
   simp_all
  have P:(c++[y]++x::B++R)[W c]?=O y:=d_;have N:(c++[y]++x::B++R)[W c+1]?=O x:=by rw[Gu,K0 d_];simp
  have q:=D _ t;have hg:=bS (l:=c++[y]++x::B++R) (e:=4) (enc:=Ey) p;have Y:aH y.2=J:=G y (d.mem_iff.1 (A9 P));have X:aH x.2=J:=G x (d.mem_iff.1 (A9 N));have g:W c+1<=4294967296:=a_;rw[DY (show(0:Int)<DO (W c+1)by simp_all)];refine c_ ?_;rw[ko a_ g];refine m9 ?_;refine bz (cs:=[EO DQ y.1.1,EO DQ y.1.2.1,EO DU (DO y.1.2.2)]) q rfl P rfl a_ ?_;refine c_ ?_;refine bz (cs:=[EO DQ x.1.1,EO DQ x.1.2.1,EO DU (DO x.1.2.2)]) q rfl N rfl a_ ?_;refine c_ ?_;have F:=SD (a:=y.1) (b:=x.1);simp only[EB,Fe,E7]at F;cases w:Ez y.1 x.1 with
  |false=>rw[w]at F;refine am F ?_;simp(disch:=omega)only[↓qb,if_false,FG];rw[aI a_];exact u (C w)
  |true=>
   rw[w]at F;refine am F ?_;simp(disch:=omega)only[↓qb,if_true];have al:E [.i (DO (W c))] (sd H2 id 4 Ey (c++x::(y::B)++R)):=k (W c) _ _ a_ ⟨c,x,y::B,R,rfl,rfl,rfl,by
    refine List.Perm.trans ?_ d;simp only[Gu,Fe,E7];exact qcS _ (List.Perm.swap _ _ _),k_,λb hb=>by
    grind,z_⟩
   have ag:((c++[y]++x::B++R).set (W c) x).set (W c+1) y=c++x::(y::B)++R:=by simp_all
   have Z:W ((c++[y]++x::B++R).set (W c) x)=W l:=k_;have ap:=ah N;have V:(sd (sd H2 id 4 Ey (c++[y]++x::B++R)) id 4 Ey ((c++[y]++x::B++R).set (W c) x))[id]?=O (.o (EJ (((c++[y]++x::B++R).set (W c) x).flatMap Ey) 4 J)):=by rw[gU];exact bS p
   rw[ko a_ g];refine m9 ?_;refine aJ q rfl N ?_;rw[show Ey x=[EO DQ x.1.1,EO DQ x.1.2.1,EO DU (DO x.1.2.2),x.2]from rfl];refine c_ ?_;refine ab X ?_;refine m9 ?_;rw[ko a_ g];refine m9 ?_;refine aJ q rfl P ?_;rw[show Ey y=[EO DQ y.1.1,EO DQ y.1.2.1,EO DU (DO y.1.2.2),y.2]from rfl];refine c_ ?_;refine ab Y ?_;refine m9 ?_;refine du (enc:=Ey) (i:=W c) (a:=x) pA hg rfl a_ t rfl ?_;refine m9 ?_;refine du (enc:=Ey) (i:=W c+1) (a:=y) pA V rfl a_ Z rfl ?_;rw[gU,gU,ag];refine m9 ?_;rw[ko a_ g]
   simp_all)
 grind
abbrev B_:=Cl×List Nat
def Mh(l:Ln)(s:Bool)(L:List B_):List B_:=L.filter λx=>!decide (aV l x.1=s)
def HZ(l:Ln)(s:Bool)(L:List B_):List B_:=(L.filter λx=>decide (aV l x.1=s)).map λx=>(aq (wd l) x.1,x.2.reverse)
def GS(o:Bool):List B_->B_->List B_
 | [],a=>[a]
 |x::S,a=>if x.1=a.1 then(x.1,if o then x.2++a.2 else a.2++x.2)::S else x::GS o S a
def Rh{o:Bool}{a:B_}:∀ {S:List B_} {k:Nat} {x:B_},S[k]?=O x->x.1=a.1->(∀j,j<k->∀t,S[j]?=O t->t.1≠a.1)->GS o S a=S.set k (x.1,if o then x.2++a.2 else a.2++x.2)
 | [],k,x,h,_,_=>by simp at h
 |y::S,0,x,h,h1,_=>by simp at h;subst h;simp[GS,h1]
 |y::S,k+1,x,h,h1,b=>by have c:=b 0 a_ y rfl;simp only[GS,ts c,qcL];rw[Rh (by simpa using h) h1 λj e t d=>b (j+1) a_ t (by simpa using d)]
def Bh{o:Bool}{a:B_}:∀ {S:List B_},(∀(j:Nat) t,S[j]?=O t->t.1≠a.1)->GS o S a=S++[a]
 | [],_=>rfl
 |y::S,h=>by have b:=h 0 y rfl;simp only[GS,ts b,Fe];rw[Bh λj t c=>h (j+1) t (by simpa using c)]
def Bg{o:Bool}{a:B_}:∀ {S:List B_},(GS o S a).map Prod.fst=if a.1∈S.map Prod.fst then S.map Prod.fst else S.map Prod.fst++[a.1]
 | []=>by simp[GS]
 |y::S=>by
  unfold GS;by_cases h:y.1=a.1
  .simp_all
  .rw[ts h,Fx,Bg]
   grind
def Bi{o:Bool}{a:B_}:∀ {S:List B_},((GS o S a).flatMap Prod.snd).Perm (S.flatMap Prod.snd++a.2)
 | []=>by simp[GS]
 |y::S=>by
  unfold GS;by_cases h:y.1=a.1
  .grind
  .rw[ts h];simp only[kD,Gu];exact qcS _ Bi
def yW{o:Bool}{a x:B_}:∀ {S:List B_},x∈GS o S a->x∈S∨x=a∨∃y∈S,y.1=a.1/\x=(y.1,if o then y.2++a.2 else a.2++y.2)
 | [],h=>by simp[GS]at h;exact .inr (.inl h)
 |y::S,h=>by
  unfold GS at h;by_cases h1:y.1=a.1
  .grind
  .rw[ts h1]at h;rcases Fy.1 h with h|h
   .simp_all
   .rcases yW h with h|h|⟨z,d,b,c⟩
    .simp_all
    .exact .inr (.inl h)
    grind
structure Mp(img:Nat->Cl)(X:TC)(L:List B_):Prop where
 nd:(L.map Prod.fst).Nodup
 at':∀s∈L,∀c∈s.2,img c=s.1
 ne:∀s∈L,s.2≠[]
 pm:(L.flatMap Prod.snd).Perm X
def Mp.GS{f:Nat->Cl}{X:TC}{S:List B_}(h:Mp f X S){o:Bool}{a:B_}(h1:∀c∈a.2,f c=a.1)(j:a.2≠[]):Mp f (X++a.2) (GS o S a):=by
 refine⟨?_,λs d c b=>?_,λs d=>?_,Bi.trans (h.pm.append_right _)⟩
 .rw[Bg];by_cases g:a.1∈S.map Prod.fst
  .rw[rv g];exact h.nd
  .rw[ts g];rw[qb5];refine⟨h.nd,d_,λx k y i e=>?_⟩
   simp_all
 .rcases yW d with d|rfl|⟨y,i,g,rfl⟩
  .exact h.at' s d c b
  .exact h1 c b
  .simp only at b ⊢;have b:c∈y.2∨c∈a.2:=by grind
   rcases b with b|b
   .exact h.at' y i c b
   simp_all
 .rcases yW d with d|rfl|⟨y,i,g,rfl⟩
  .exact h.ne s d
  .exact j
  .simp only;cases o<;>simp[j]
def Mp.mrgs{d:Nat->Cl}{o:Bool}:∀ {A:List B_} {X:TC} {S:List B_},Mp d X S->(∀a∈A,(∀c∈a.2,d c=a.1)/\a.2≠[])->Mp d (X++A.flatMap Prod.snd) (A.foldl (Go.Am.GS o) S)
 | [],X,S,h,_=>by simpa using h
 |a::A,X,S,h,h1=>by
  have e:=h1 a MA;have:=Mp.mrgs (o:=o) (h.GS (o:=o) e.1 e.2) λb f=>h1 b (G_ _ f)
  simp_all
def yE{L:List B_}{p:B_->Bool}:((L.filter λx=>!p x).flatMap Prod.snd++(L.filter p).flatMap Prod.snd).Perm (L.flatMap Prod.snd):=by rw[←nC];refine List.Perm.flatMap_right _ ?_;exact List.perm_append_comm.trans (List.filter_append_perm p L)
def YX{L:List B_}{f:Cl->Cl}:((L.map λx=>(f x.1,x.2.reverse)).flatMap Prod.snd).Perm (L.flatMap Prod.snd):=by
 induction L with
 |nil=>simp
 |cons a L b=>grind
def Iv(l:Ln)(s o:Bool)(L:List B_):List B_:=(HZ l s L).foldl (GS o) (Mh l s L)
theorem Mp.fold{f d:Nat->Cl}{X:TC}{L:List B_}(h:Mp f X L){l:Ln}{s o:Bool}(k:∀c∈X,d c=if aV l (f c)=s then aq (wd l) (f c)else f c):Mp d X (Iv l s o L):=by
 have j:∀x∈L,∀c∈x.2,c∈X:=λx b c e=>h.pm.mem_iff.1 (Gv.2 ⟨x,b,e⟩);have m:Mp d ((Mh l s L).flatMap Prod.snd) (Mh l s L):=by
  refine⟨h.nd.sublist (List.Sublist.map _ List.filter_sublist),λx b c e=>?_,λx b=>?_,ax _⟩
  .obtain⟨b,i⟩:=Hs.1 b;rw[k c (j x b c e),h.at' x b c e,ts (by simpa using i)]
  .exact h.ne x (Hs.1 b).1
 have g:=m.mrgs (o:=o) (A:=HZ l s L) λa n=>by
  obtain⟨x,b,rfl⟩:=Ed.1 n;obtain⟨b,i⟩:=Hs.1 b;refine⟨λc e=>?_,by simpa using h.ne x b⟩;have e:c∈x.2:=by simpa using e
  rw[k c (j x b c e),h.at' x b c e,rv (by simpa using i)]
 refine⟨g.nd,g.at',g.ne,g.pm.trans ?_⟩;refine List.Perm.trans ?_ h.pm;refine List.Perm.trans (qcS _ YX) ?_;exact yE
def Mp.perm{a:Nat->Cl}{X:TC}{L L':List B_}(h:Mp a X L)(b:L'.Perm L):Mp a X L':=
 ⟨(b.map _).nodup_iff.2 h.nd,λs c=>h.at' s (b.mem_iff.1 c),λs c=>h.ne s (b.mem_iff.1 c),(b.flatMap_right _).trans h.pm⟩
def zp{j7 n:Type}{f:j7->n}{l':List n}{l:List j7}(h:l'.Perm (l.map f)):∃m:List j7,m.Perm l/\m.map f=l':=by
 generalize e:l.map f=k at h
 induction h generalizing l with
 |nil=>simp_all
 |cons x _ q=>obtain⟨a,l,rfl,rfl,g⟩:=qc3.1 e;obtain⟨m,c,d⟩:=q g;exact⟨a::m,c.cons a,by rw[Fx,d]⟩
 |swap x y _=>obtain⟨a,l,rfl,rfl,g⟩:=qc3.1 e;obtain⟨b,l,rfl,rfl,rfl⟩:=qc3.1 g;exact⟨b::a::l,List.Perm.swap _ _ _,rfl⟩
 |trans _ _ i j=>obtain⟨m,c,d⟩:=j e;obtain⟨r,o,p⟩:=i d;exact⟨r,o.trans c,p⟩
def ud(l:Ln):Tn:=[EO DU (DO l.1),EO DQ l.2]
def dy(l:Ln):W (ud l)=2:=rfl
def p4{w v:Nat}(h3:S3 w v){l:TD}{H:HL}{x xs:TV}(hl:q_ H x 3 q9 l)(a2:aH xs=J)(hv:∀c∈l,VC w v c)(bm:∀c∈l,c.2.2≠0)(hn:W l<=1000){r:Mv}(hr:Ew 10000 r){G:TH}(hG:C' w v l G) :
  ∃z h' d,aD cc ac 13 ([.i (.ofNat w),.i (.ofNat v),.v x]++EG r++[.v xs]) (h_ aa H) [.v z] (h_ aa h')/\xk H h'/\q_ h' z 2 ud d/\d.length<=1000/\∀y∈d,∃p∈ES w v l G r (4*w*v),p.2.2=y:=by
 have hs:=h3.sh;obtain⟨b1,b2,b3,b4⟩:=h3.n;have hN:=GK hs;obtain⟨z,h1,c1,bx,ce,hZ⟩:=BE h3 hl a2 hv bm hn hr hG;have b6:=mz (w:=w) (v:=v) (l:=l) (G:=G) (r:=r) (n:=4*w*v);have cf:=x13 (ls:=[.i (.ofNat w),.i (.ofNat v),.v x,.i (DO r.1),.i r.2.1,.i r.2.2,.v xs]) (K:=λrs h'=>∃z d,rs=[.v z]/\xk H h'/\q_ h' z 2 ud d/\d.length<=1000/\∀y∈d,∃p∈ES w v l G r (4*w*v),p.2.2=y) (H:=H) (mc (mc (o_ hl.g_ (mc (mc (mc (o_ a2 vc))))))) (by
  unfold f13;simp only[w7];refine c_ ?_;simp only[EG,Fe,E7]at c1;refine ai c1 ?_;refine c_ ?_;generalize b5:ES w v l G r (4*w*v)=P at *;refine bo (g9:=HL×FO) (W P) (λj s=>[.v s.2,.i (DO j)]) (λ_ s=>s.1) (λj s=>xk h1 s.1/\∃d:List Ln,i' (W h1) s.1 s.2 2 ud d/\d.length<=j/\∀y∈d,∃p∈P,p.2.2=y) (j0:=0) (s0:=(h1,DW Q 0 0)) rfl rfl (Eg _) ⟨.refl _,[],.nil _ _ _ _,B7 _,λy hy=>by cases hy⟩ ?_;rintro j ⟨h,o⟩ C ⟨u,d,hO,cb,a9⟩ bd N;simp only at u hO ⊢;refine c_ ?_;refine aO (hZ.pre u) ?_;by_cases V:j<W P
  case neg=>rw[aw a_];refine c_ ?_;exact⟨o,d,rfl,bx.trans u,hO.ls dy,a_,a9⟩
  rw[aB V];refine c_ ?_;obtain⟨p,hp⟩:=ak V;have cd:=A9 hp;refine bz (cs:=[EO DU (DO p.2.2.1),EO DQ p.2.2.2]) (hZ.pre u) rfl hp rfl a_ ?_;simp(disch:=omega)only[↓DT];generalize hy:p.2.2=y at *;have a4:=u.len;have f:=hO.ls dy;have ca:=f.g_;have b0:∀k,k<=W d->∀h' o' ,xk h1 h'->i' (W h1) h' o' 2 ud (d.take k++[y]++d.drop k)->bd [.v o',.i (DO j+1)] h':=λk hk h' o' bt bn=>N (h',o') V ⟨bt,_,bn,z_,λa ha=>by grind⟩
  refine di (λl h'=>∃k,k<=W d/\l=[.i (DO k)]/\h'=h) ?_ ?_
  case refine_2=>
   intro jj b8;refine bY (W d) (λ_=>True) (j0:=0) rfl (Eg _) trivial ?_;intro k hk _ bP be;refine c_ ?_;refine aO f ?_;by_cases T:k<W d
   case neg=>
    rw[aw a_];refine c_ ?_
    simp_all
   rw[aB T];refine c_ ?_;obtain⟨a,ha⟩:=ak T;refine bz (cs:=[EO DU (DO a.1)]) f rfl ha rfl a_ ?_;refine c_ ?_;refine zk (λ_=>?_) (λ_=>?_)
   .simp(disch:=omega)only[↓qb];rw[aI a_]
    simp_all
   refine c_ ?_;refine bz (cs:=[EO DU (DO a.1)]) f rfl ha rfl a_ ?_;refine c_ ?_;refine Nk λt ht=>?_;cases t with
   |false=>
    refine c_ ?_
    simp_all
   |true=>
   refine c_ ?_;refine bz (cs:=[EO DQ a.2]) f rfl ha rfl a_ ?_;refine c_ ?_;refine zk (λ_=>?_) (λ_=>?_)
   .simp(disch:=omega)only[↓qb];rw[aI a_]
    simp_all
   .simp(disch:=omega)only[↓qb]
    simp_all
  rintro l' h' ⟨k,hk,rfl,a3⟩;rw[a3];clear a3 h';refine c_ ?_;refine aO f ?_;refine Nk λt ht=>?_;cases t with
  |true=>
   refine c_ ?_;obtain⟨x1,av,A,bk⟩:=P9 f hk;obtain⟨x2,ax,I,bl⟩:=P7 f hk;have a8:∀b,i_ o=O b->b<W h:=λb S=>(hO.i_ S).2;have hh:W (h++[HO.o (EJ [] 2 J)])=W h+1:=d_;have he:i' (j7:=Ln) (W h1) (h++[HO.o (EJ [] 2 J)]) (DW (O ⟨W h,0,le 2⟩) 0 1) 2 ud []:=i'.emp aG a4;refine af av ?_;refine ab A.g_ ?_;refine m9 ?_;refine he.XH dy a_ (A.pre ⟨_,rfl⟩) z_ z_ ?_;intro z1 g B Y E a5 _;have ay:=B.ls dy;have an:xk h1 g:=bR (u.Hu _) λi o m q=>E i o q λe=>by have:=(he.i_ e).1;omega
   have L:xk h g:=bR (h1:=h) ⟨_,rfl⟩ λi o m q=>E i o q λe=>by
    have:W h=i:=by simpa[i_]using e
    omega
   refine c_ ?_;refine ab Y ?_;refine m9 ?_;refine B.KG (a:=y) dy a_ rfl rfl rfl (by unfold aY;rw[FE z_,FE z_];rfl) ?_
   intro z2 g2 al Z F a6 _;have bb:∀b,i_ z1=O b->W h<=b/\b<W g:=λb S=>by
    refine⟨?_,(B.i_ S).2⟩;rcases ‹i_ z1=i_ _∨_› with e|⟨j',e,e'⟩
    .rw[S]at e;have:b=W h:=by simpa[i_]using e
     omega
    grind
   have ap:xk h1 g2:=bR an λi o m q=>F i o q λe=>jw;have M:xk h g2:=bR L λi o m q=>F i o q λe=>jw;refine c_ ?_;refine ab Z ?_;refine m9 ?_;refine af ax ?_;refine ab I.g_ ?_;refine m9 ?_;refine al.XH dy a_ (I.pre M) z_ z_ ?_;intro z3 g3 bs ad ag a7 _;have bC:xk h1 g3:=bR ap λi o m q=>ag i o q λe=>jw;refine c_ ?_;refine ab ad ?_;refine m9 ?_;have a0:=kJ f;have aE:=kJ A;have a1:=kJ ay;have dA:∀n c R D,Eo (E' (DW (O ⟨W h,0,O 12⟩) n c)) (D9 0 (DW (O ⟨W g,0,O 12⟩) R D))=J:=λn c R D=>qw λi m C=>by
    have e1:W h=i:=by simpa[i_]using m
    have X:W g=i:=by simpa[i_]using C
    omega
   have dB:∀n c R D,Eo (E' (DW (O ⟨W g,0,O 12⟩) n c)) (D9 0 (DW (O ⟨W h,0,O 12⟩) R D))=J:=λn c R D=>qw λi m C=>by
    have e1:W g=i:=by simpa[i_]using m
    have X:W h=i:=by simpa[i_]using C
    omega
   have dC:∀n c,Eo (E' z1) (D9 0 (DW (O ⟨W g,0,O 12⟩) n c))=J:=λn c=>wj a1 ⟨_,_,_,rfl⟩ λi m C=>by
    have X:W g=i:=by simpa[i_]using C
    simp_all
   have dD:∀n c,Eo (E' (DW (O ⟨W g,0,O 12⟩) n c)) (D9 0 x1)=J:=λn c=>wj ⟨_,_,_,rfl⟩ aE λi m C=>by
    have X:W g=i:=by simpa[i_]using m
    grind
   refine af (x:=()) (by
    repeat' (first|exact fj|refine df ?_ ?_)
    all_goals first|exact Yw a0|exact dA _ _ _ _|exact dB _ _ _ _|exact dC _ _|exact dD _ _) ?_
   try simp(disch:=omega)only[↓qb]
   try rw[aI a_]
   try grind
  |false=>
   refine c_ ?_;have T:k<W d:=by grind
   obtain⟨a,ha⟩:=ak T;refine aJ f rfl ha ?_;rw[show ud a=[EO DU (DO a.1),EO DQ a.2]from rfl];refine c_ ?_;refine Bw (λb7=>?_) (λb9=>?_)
   .simp(disch:=omega)only[↓qb,Fv];rw[aI a_];exact N (h,o) V ⟨u,d,hO,a_,a9⟩
   simp(disch:=omega)only[↓qb,GG];obtain⟨x1,av,A,bk⟩:=P9 f hk;obtain⟨x2,ax,I,bl⟩:=P7 f hk;have a8:∀b,i_ o=O b->b<W h:=λb S=>(hO.i_ S).2;have hh:W (h++[HO.o (EJ [] 2 J)])=W h+1:=d_;have he:i' (j7:=Ln) (W h1) (h++[HO.o (EJ [] 2 J)]) (DW (O ⟨W h,0,le 2⟩) 0 1) 2 ud []:=i'.emp aG a4;refine af av ?_;refine ab A.g_ ?_;refine m9 ?_;refine he.XH dy a_ (A.pre ⟨_,rfl⟩) z_ z_ ?_;intro z1 g B Y E a5 _;have ay:=B.ls dy;have an:xk h1 g:=bR (u.Hu _) λi o m q=>E i o q λe=>by have:=(he.i_ e).1;omega
   have L:xk h g:=bR (h1:=h) ⟨_,rfl⟩ λi o m q=>E i o q λe=>by
    have:W h=i:=by simpa[i_]using e
    omega
   refine c_ ?_;refine ab Y ?_;refine m9 ?_;refine B.KG (a:=y) dy a_ rfl rfl rfl (by unfold aY;rw[FE z_,FE z_];rfl) ?_
   intro z2 g2 al Z F a6 _;have bb:∀b,i_ z1=O b->W h<=b/\b<W g:=λb S=>by
    refine⟨?_,(B.i_ S).2⟩;rcases ‹i_ z1=i_ _∨_› with e|⟨j',e,e'⟩
    .rw[S]at e;have:b=W h:=by simpa[i_]using e
     omega
    grind
   have ap:xk h1 g2:=bR an λi o m q=>F i o q λe=>jw;have M:xk h g2:=bR L λi o m q=>F i o q λe=>jw;refine c_ ?_;refine ab Z ?_;refine m9 ?_;refine af ax ?_;refine ab I.g_ ?_;refine m9 ?_;refine al.XH dy a_ (I.pre M) z_ z_ ?_;intro z3 g3 bs ad ag a7 _;have bC:xk h1 g3:=bR ap λi o m q=>ag i o q λe=>jw;refine c_ ?_;refine ab ad ?_;refine m9 ?_;have a0:=kJ f;have aE:=kJ A;have a1:=kJ ay;have dA:∀n c R D,Eo (E' (DW (O ⟨W h,0,O 12⟩) n c)) (D9 0 (DW (O ⟨W g,0,O 12⟩) R D))=J:=λn c R D=>qw λi m C=>by
    have e1:W h=i:=by simpa[i_]using m
    have X:W g=i:=by simpa[i_]using C
    omega
   have dB:∀n c R D,Eo (E' (DW (O ⟨W g,0,O 12⟩) n c)) (D9 0 (DW (O ⟨W h,0,O 12⟩) R D))=J:=λn c R D=>qw λi m C=>by
    have e1:W g=i:=by simpa[i_]using m
    have X:W h=i:=by simpa[i_]using C
    omega
   have dC:∀n c,Eo (E' z1) (D9 0 (DW (O ⟨W g,0,O 12⟩) n c))=J:=λn c=>wj a1 ⟨_,_,_,rfl⟩ λi m C=>by
    have X:W g=i:=by simpa[i_]using C
    simp_all
   have dD:∀n c,Eo (E' (DW (O ⟨W g,0,O 12⟩) n c)) (D9 0 x1)=J:=λn c=>wj ⟨_,_,_,rfl⟩ aE λi m C=>by
    have X:W g=i:=by simpa[i_]using m
    grind
   refine af (x:=()) (by
    repeat' (first|exact fj|refine df ?_ ?_)
    all_goals first|exact Yw a0|exact dA _ _ _ _|exact dB _ _ _ _|exact dC _ _|exact dD _ _) ?_
   try simp(disch:=omega)only[↓qb]
   try rw[aI a_]
   try grind)
 grind
abbrev Sk:=Cl×FO×List Nat
def Eb(s:Sk):Tn:=bX s.1++[s.2.1]
def dF(s:Sk):W (Eb s)=4:=rfl
def HR(s:Sk):B_:=(s.1,s.2.2)
def GN(n0:Nat)(h:HL)(li:List Sk):Prop:=(∀p∈li,i' n0 h p.2.1 1 l_ p.2.2)/\li.Pairwise λp q=>∀b,i_ p.2.1=O b->i_ q.2.1≠O b
def GN.nil(n0:Nat)(h:HL):GN n0 h []:=⟨λp a=>(by cases a),.nil⟩
def GN.perm{n0:Nat}{h:HL}{li c:List Sk}(e:GN n0 h li)(d:c.Perm li):GN n0 h c:=
 ⟨λp h=>e.1 p (d.mem_iff.1 h),(d.pairwise_iff (λh b f a=>h b a f)).2 e.2⟩
def GN.ke{n0:Nat}{h h':HL}{li:List Sk}(b:GN n0 h li)(c:∀p∈li,∀(j:Nat) o,h[j]?=O o->i_ p.2.1=O j->h'[j]?=O o):GN n0 h' li:=
 ⟨λp a=>(b.1 p a).ke (c p a),b.2⟩
def GN.cons{n0:Nat}{h:HL}{li:List Sk}(a:GN n0 h li){p:Sk}(d:i' n0 h p.2.1 1 l_ p.2.2)(c:∀q∈li,∀b,i_ p.2.1=O b->i_ q.2.1≠O b):GN n0 h (p::li):=
 ⟨λq h=>by
  rcases Fy.1 h with rfl|h
  .exact d
  .exact a.1 q h,MB.2 ⟨c,a.2⟩⟩
def GN.low{n0:Nat}{h:HL}{li:List Sk}(a:GN n0 h li){b:Nat}(j:b<=n0):GN b h li:=
 ⟨λp g=>by
  rcases a.1 p g with d|⟨id,c,e,i,f⟩
  .exact .inl d
  .exact .inr ⟨id,c,e,a_,f⟩,a.2⟩
def gf{j7 i:Type}{n0 e e':Nat}{enc:j7->Tn}{a:i->Tn}{l:List j7}{l':List i}{h:HL}{v v':TV}(o:i' n0 h v e enc l)(d:i' n0 h v' e' a l')(n:e≠e'){b:Nat}(g:i_ v=O b):i_ v'≠O b:=by
 intro c;rcases o with⟨rfl,_⟩|⟨id,p,rfl,s,t,_⟩
 .cases g
 rcases d with⟨rfl,_⟩|⟨f,j,rfl,k,m,_⟩
 .cases c
 have q:id=b:=by simpa[i_]using g
 have r:f=b:=by simpa[i_]using c
 simp_all
structure FW(n0:Nat)(h:HL)(zs za zc:FO)(Ms Ma:List Sk)(C:TD):Prop where
 os:i' n0 h zs 4 Eb Ms
 oa:i' n0 h za 4 Eb Ma
 oc:i' n0 h zc 3 q9 C
 ne:∀b,i_ zs=O b->i_ za≠O b
 pc:GN n0 h (Ms++Ma)
section
variable {n0:Nat} {h h':HL} {zs za zc:FO} {Ms Ma:List Sk} {C:TD}
def FW.frame(b:FW n0 h zs za zc Ms Ma C)(c:∀(j:Nat) o,h[j]?=O o->h'[j]?=O o):FW n0 h' zs za zc Ms Ma C:=
 ⟨b.os.ke λj o a _=>c j o a,b.oa.ke λj o a _=>c j o a,b.oc.ke λj o a _=>c j o a,b.ne,b.pc.ke λ_ _ j o a _=>c j o a⟩
def FW.pre(a:FW n0 h zs za zc Ms Ma C)(c:xk h h'):FW n0 h' zs za zc Ms Ma C:=a.frame λ_ _ b=>c.get b
theorem FW.symm(a:FW n0 h zs za zc Ms Ma C):FW n0 h za zs zc Ma Ms C:=
 ⟨a.oa,a.os,a.oc,λb d c=>a.ne b c d,a.pc.perm List.perm_append_comm⟩
def FW.pne(a:FW n0 h zs za zc Ms Ma C){p:Sk}(e:p∈Ms++Ma){b:Nat}(d:i_ p.2.1=O b):i_ zs≠O b/\i_ za≠O b/\i_ zc≠O b:=
 have c:=a.pc.1 p e
 ⟨gf c a.os a_ d,gf c a.oa a_ d,gf c a.oc a_ d⟩
def FW.apS(d:FW n0 h zs za zc Ms Ma C){c:Cl}{y:TV}{g:TC}(r:i' n0 h y 1 l_ g)(k:∀p∈Ms++Ma,∀b,i_ y=O b->i_ p.2.1≠O b){i:TV}(m:i' n0 h' i 4 Eb (Ms++[(c,y,g)]))
  (l:∀(j:Nat) o,h[j]?=O o->i_ zs≠O j->h'[j]?=O o) (u:i_ i=i_ zs∨∃j,i_ i=O j/\h.length<=j):FW n0 h' i za zc (Ms++[(c,y,g)]) Ma C:=by
 refine⟨m,d.oa.ke λj o f a=>l j o f λe=>d.ne j e a,d.oc.ke λj o f a=>l j o f λe=>gf d.os d.oc a_ e a,λb n q=>?_,?_⟩
 .rcases u with e|⟨j,e,v⟩
  .exact d.ne b (e▸n) q
  .rw[e]at n;cases n;have:=(d.oa.i_ q).2;omega
 .have s:GN n0 h ((c,y,g)::(Ms++Ma)):=d.pc.cons r k;have t:=s.ke (h':=h') λp hp j o f a=>l j o f λe=>by
   rcases Fy.1 hp with rfl|hp
   .exact gf d.os r a_ e a
   .exact(d.pne hp a).1 e
  refine t.perm ?_
  simp_all
end
def DB{n0:Nat}{H:HL}{x:TV}{l:TD}(k:i' n0 H x 3 q9 l)(m:W l<=1000) :
  ∃l' h',aD cc ac 44 [.v x] (h_ aa H) [.v x] (h_ aa h')/\l'.Perm l/\HB l'/\i' n0 h' x 3 q9 l'/\∀(j:Nat) o,H[j]?=O o->i_ x≠O j->h'[j]?=O o:=by
 rcases k with⟨rfl,rfl⟩|⟨id,cx,rfl,g,c,h⟩
 .refine⟨[],H,?_,ax _,.nil,.inl ⟨rfl,rfl⟩,λj o b _=>b⟩;exact xK x44 (o_ rfl vc) (by
   unfold f44;simp only[w7]
   repeat (first|simp(disch:=omega)only[↓qb]|refine af (x:=(0:Int)) rfl ?_|refine By 2 ?_)
   simp_all)
 .obtain⟨l',d,a,f⟩:=VE (cx:=cx) c m;refine⟨l',_,d,a,f,.inr ⟨id,cx,by rw[a.length_eq],g,bS (ah c),by rw[a.length_eq];exact h⟩,λj o b i=>?_⟩;unfold sd;rw[K7 (λe=>i (by rw[e];rfl))];exact b
def Yy(w v a b:Nat):Nat:=if D_ w v a 0=O b then 0 else if D_ w v a 1=O b then 1 else 2
def ox{w v:Nat}(h:Sh w v){a b e:Nat}(f:a<4*w*v)(i:e<3)(l:D_ w v a e=O b):Yy w v a b=e:=by
 have m:=(cg h f).2.2.2.2;have n:∀d,d<3->D_ w v a d=O b->d=e:=λd c g=>by have j:=(de h f i l).2.2.2.1;have k:=(de h f c g).2.2.2.1;exact yZ m c i (k.symm.trans j)
 unfold Yy
 grind
def Yp(w v:Nat)(P:TH)(o:Bool)(p:Xf):Gs:=(DO p.1,DO (Yy w v p.1 p.2.1),if decide ((P p.1).1<4)=o then 2 else 1)
def FA(w v:Nat)(P:TH)(o:Bool)(ln:Ln)(a:List Xf):TD:=(a.filter λp=>decide (p.2.2=ln)).map (Yp w v P o)
def bT(ln:Ln)(s:Bool)(L:List B_)(r:Mv)(j:Nat):Mv:=if 0∈(HZ ln s (L.take j)).flatMap Prod.snd then ae r (wd ln)else r
def l7{ln:Ln}{s:Bool}{L:List B_}{j:Nat}{c:Cl}{a:TC}(h:L[j]?=O (c,a)):Mh ln s (L.take (j+1))=Mh ln s (L.take j)++(if aV ln c=s then []else [(c,a)]):=by
 unfold Mh;rw[Kx,h,qcr]
 grind
def XM{ln:Ln}{s:Bool}{L:List B_}{j:Nat}{c:Cl}{a:TC}(h:L[j]?=O (c,a)):HZ ln s (L.take (j+1))=HZ ln s (L.take j)++(if aV ln c=s then [(aq (wd ln) c,a.reverse)]else []):=by
 unfold HZ;rw[Kx,h,qcr,ME]
 grind
def ls45{h:HL}{z:TV}{Ms:List Sk}(b:q_ h z 4 Eb Ms):q_ h z 4 Ey (Ms.map λs=>(s.1,s.2.1)):=by
 refine⟨λa _=>rfl,?_⟩;have:(Ms.map λs:Sk=>((s.1,s.2.1):Mq)).flatMap Ey=Ms.flatMap Eb:=by rw[qcz];rfl
 rw[this,IR];exact b.2
def ls54{h:HL}{z:TV}{Ms:List Sk}(b:q_ h z 4 Ey (Ms.map λs=>(s.1,s.2.1))):q_ h z 4 Eb Ms:=by
 refine⟨λa _=>rfl,?_⟩;have:(Ms.map λs:Sk=>((s.1,s.2.1):Mq)).flatMap Ey=Ms.flatMap Eb:=by rw[qcz];rfl
 have c:=b.2
 simp_all
def GN.sub{n0:Nat}{h:HL}{li a:List Sk}(b:GN n0 h li)(c:a.Sublist li):GN n0 h a:=⟨λp d=>b.1 p (c.mem d),b.2.sublist c⟩
def vD{j7:Type}{a q:j7}:∀ {l:List j7} {k:Nat},l[k]?=O q->(l.set k a).Perm (a::l.eraseIdx k)
 | [],k,h=>by simp at h
 |b::l,0,h=>ax _
 |b::l,k+1,h=>by simp only[qb0]at h;simp only[qcL,List.eraseIdx_cons_succ];exact((vD h).cons b).trans (List.Perm.swap _ _ _)
def stp{n0:Nat}{h g:HL}{F P V v':TV}{Ms R Mr:List Sk}{C:TD}{a q:Sk}{k id cx:Nat}{c:TC}(y:F=DW (O ⟨id,0,le 4⟩) (W Ms) cx)(l:n0<=id)(j_:h[id]?=O (.o (EJ (Ms.flatMap Eb) 4 J)))(A:cx=0∨cx=W Ms+1)
  (D:i' n0 h P 4 Eb R) (w:i' n0 h V 3 q9 C) (K:i_ P≠O id) (L:GN n0 h (Ms++a::Mr)) (H:Ms[k]?=O q) (T:i' n0 g v' 1 l_ c) (Z:∀(j:Nat) o,h[j]?=O o->i_ q.2.1≠O j->g[j]?=O o) (X:∀b,i_ v'=O b->i_ q.2.1=O b∨h.length<=b) :
  g[id]?=O (.o (EJ (Ms.flatMap Eb) 4 J))/\i' n0 (sd g id 4 Eb (Ms.set k (q.1,v',c))) F 4 Eb (Ms.set k (q.1,v',c))/\i' n0 (sd g id 4 Eb (Ms.set k (q.1,v',c))) P 4 Eb R/\i' n0 (sd g id 4 Eb (Ms.set k (q.1,v',c))) V 3 q9 C/\GN n0 (sd g id 4 Eb (Ms.set k (q.1,v',c))) (Ms.set k (q.1,v',c)++Mr)/\∀(j:Nat) o,j<n0->h[j]?=O o->(sd g id 4 Eb (Ms.set k (q.1,v',c)))[j]?=O o:=by
 have n:GN n0 h (Ms++Mr):=L.sub (List.Sublist.append_left (List.sublist_cons_self _ _) _);have N:q∈Ms++Mr:=F_.2 (.inl (A9 H));have t:=n.1 q N;have m:i' n0 h F 4 Eb Ms:=.inr ⟨id,cx,y,l,j_,A⟩;have u:i_ F=O id:=by rw[y];rfl
 have i:g[id]?=O (.o (EJ (Ms.flatMap Eb) 4 J)):=Z _ _ j_ λe=>gf t m a_ e u;have E:i' n0 g F 4 Eb Ms:=.inr ⟨id,cx,y,l,i,A⟩;have f:∀(j:Nat) o,h[j]?=O o->i_ q.2.1≠O j->j≠id->(sd g id 4 Eb (Ms.set k (q.1,v',c)))[j]?=O o:=λj o s h1 h2=>by
  unfold sd
  grind
 have r:(Ms++Mr).Perm (q::(Ms.eraseIdx k++Mr)):=by
  have:=(vD (a:=q) H).append_right Mr
  rwa [gi H]at this
 have v:=n.perm r.symm;have M:=MB.1 v.2;refine⟨i,.inr ⟨id,cx,k_,l,bS (ah i),k_⟩,D.ke λj o s d=>f j o s (λe=>gf t D a_ e d) (λe=>K (e▸d)),w.ke λj o s d=>f j o s (λe=>gf t w a_ e d) (λe=>gf m w a_ u (by rw[d,e])),?_,λj o Y s=>f j o s (λe=>by have:=(t.i_ e).1;omega) a_⟩
 have x:GN n0 (sd g id 4 Eb (Ms.set k (q.1,v',c))) (Ms.eraseIdx k++Mr):=by have S:GN n0 h (Ms.eraseIdx k++Mr):=v.sub (List.sublist_cons_self _ _);refine S.ke λp G j o s d=>f j o s (λe=>M.1 p G j e d) λe=>?_;subst e;exact gf (S.1 p G) m a_ d u
 have B:i' n0 (sd g id 4 Eb (Ms.set k (q.1,v',c))) v' 1 l_ c:=T.ke λj o s d=>by unfold sd;rw[K7 (λe=>gf T E a_ d (by rw[u,e]))];exact s
 refine(x.cons (p:=(q.1,v',c)) B λp G b z I=>?_).perm ((vD H).append_right Mr);simp only at z;rcases X b z with e|ad
 .grind
 .have:=((n.1 p (r.mem_iff.2 (G_ _ G))).i_ I).2;omega
def Z1{o:Bool}{a:B_}:∀ {S:List B_},GS o S a≠[]
 | []=>by simp[GS]
 |y::S=>by unfold GS;split<;>simp
def yX{o:Bool}:∀ {A S:List B_},S≠[]->A.foldl (GS o) S≠[]
 | [],S,h=>h
 |a::A,S,_=>by rw[y6];exact yX Z1
def fdL_ne{ln:Ln}{s o:Bool}{L:List B_}(h:L≠[]):Iv ln s o L≠[]:=by
 unfold Iv;by_cases b:Mh ln s L=[]
 .cases hA:HZ ln s L with
  |cons a A=>rw[y6];exact yX Z1
  |nil=>
   exfalso;cases L with
   |nil=>exact h rfl
   |cons x L=>
    unfold Mh at b;unfold HZ at hA
    simp_all
 .exact yX b
def nM{w v:Nat}{l:TD}{G:TH}{r:Mv}{n:Nat}{p:Xf}(h:p∈ES w v l G r n):p.1<n/\∃k,k<3/\D_ w v p.1 (eK (p.1%4) k)=O p.2.1/\p.1<p.2.1/\Ka w v l p.1 k=0/\p.2.2=u_ (aq (ae (G p.1) r) (ra w p.1)) (eT (ae (G p.1) r).1 (eK (p.1%4) k)):=by
 unfold ES at h;obtain⟨a,b,d⟩:=Gv.1 h;have b:=D2.1 b;obtain⟨k,c,e⟩:=Np.1 d;have c:=D2.1 c;unfold Gm at e
 grind
def Vy{w v:Nat}{P:TH}{o:Bool}{ln:Ln}{a:List Xf}{j:Nat}{p:Xf}(h:a[j]?=O p):FA w v P o ln (a.take (j+1))=FA w v P o ln (a.take j)++(if p.2.2=ln then [Yp w v P o p]else []):=by
 unfold FA;rw[Kx,h,qcr,ME]
 grind
def Xt(w v:Nat)(l:TD)(G:TH)(r:Mv)(L:List B_)(ln:Ln)(s o:Bool)(H:HL)(d:TG)(h':HL):Prop:=
 ∃z c l' Ms,d=[.i (.ofNat w),.i (.ofNat v),.v z,.i (DO (bT ln s L r (W L)).1),.i (bT ln s L r (W L)).2.1,.i (bT ln s L r (W L)).2.2,.v c]/\xk H h'/\
  i' (W H) h' z 3 q9 l'/\l'.Perm (l++FA w v (λa=>ae (G a) r) o ln (ES w v l G r (4*w*v)))/\HB l'/\q_ h' c 4 Eb Ms/\GN (W H) h' Ms/\(Ms.map HR).Perm (Iv ln s o L)/\Ms.Pairwise λa b=>Ez a.1 b.1=U
def YY{w v:Nat}(h3:S3 w v){l:TD}{H:HL}{x xs:TV}(hl:q_ H x 3 q9 l)(hv:∀c∈l,VC w v c)(ev:∀c∈l,c.2.2≠0)(hn:W l<=800){r:Mv}(hr:Ew 10000 r){G:TH}(hG:C' w v l G)
  {L:List B_} (hL:XB H xs L) (ga:0<W L) (hI:W L<=100) (gb:∀a∈L,a.1.2.2<4/\-20000<=a.1.1/\a.1.1<=20000/\-20000<=a.1.2.1/\a.1.2.1<=20000) (dm:∀a∈L,a.2≠[]/\a.2.length<=100)
  {ln:Ln} (eC:1<=ln.1/\ln.1<=4) (gC:-10000<=ln.2/\ln.2<=10000) (s o:Bool) :
  ∃rs h',aD cc ac 14 ([.i (.ofNat w),.i (.ofNat v),.v x]++EG r++[.v xs,.i (.ofNat ln.1),.i ln.2,.i (if s then 1 else 0),.b o]) (h_ aa H) rs (h_ aa h')/\Xt w v l G r L ln s o H rs h':=by
 have hs:=h3.sh;obtain⟨b1,b2,b3,b4⟩:=h3.n;have hN:=GK hs;obtain⟨M,hM,gD,hm⟩:=hL;have cm:=CW eC (by omega:-100000<=ln.2/\ln.2<=100000);have bs:Ew 20000 (wd ln):=Bl (n:=10000) gC;have ci:=Cd (aU hr a_) (aU bs a_);exact x14 (ls:=[.i (.ofNat w),.i (.ofNat v),.v x,.i (DO r.1),.i r.2.1,.i r.2.2,.v xs,.i (.ofNat ln.1),.i ln.2,.i (if s then 1 else 0),.b o]) (K:=Xt w v l G r L ln s o H) (H:=H) (mc (mc (o_ hl.g_ (mc (mc (mc (o_ hM.g_ (mc (mc (mc (LI vc))))))))))) (by
  unfold f14;simp only[w7];refine c_ ?_;refine am cm ?_;simp only[EG,EB,Fe,E7]at ci ⊢;refine c_ ?_;refine(i'.emp (j7:=Gs) (enc:=q9) (n0:=W H) aG (B7 _)).XH (λ_=>rfl) d_ (hl.pre ⟨_,rfl⟩) z_ z_ ?_;intro zc h0 A gt ex hz _;rw[E7]at A;have g5:xk H h0:=bR ⟨_,rfl⟩ λi o S ho=>ex i o ho λe=>by
   have:W H=i:=by simpa[i_]using e
   omega
  refine c_ ?_;refine ab gt ?_;refine m9 ?_;generalize gE:wd ln=m at *;refine bo (g9:=HL×FO×FO×List Sk×List Sk) (W L) (λj t=>[.v t.2.1,.v t.2.2.1,.i (DO j),.i (.ofNat w),.i (.ofNat v),.v zc,.i (DO (bT ln s L r j).1),.i (bT ln s L r j).2.1,.i (bT ln s L r j).2.2,.v (DW Q 0 0)]) (λ_ t=>t.1)
   (λj t=>xk H t.1/\FW (W H) t.1 t.2.1 t.2.2.1 zc t.2.2.2.1 t.2.2.2.2 l/\t.2.2.2.1.map HR=Mh ln s (L.take j)/\t.2.2.2.2.map HR=HZ ln s (L.take j))
   (j0:=0) (s0:=(h0,DW Q 0 0,DW Q 0 0,[],[])) (by simp[bT,HZ]) rfl (Eg _) ⟨g5,⟨.nil _ _ _ _,.nil _ _ _ _,A,(λb C=>by cases C),.nil _ _⟩,rfl,rfl⟩ ?_
  rintro j ⟨h,zs,za,Ms,Ma⟩ hj ⟨E,hf,V,a7⟩ a5 D;simp only at E hf V a7 ⊢;refine c_ ?_;refine aO (hM.pre E) ?_;rw[gD];by_cases I:j<W L
  case neg=>
   rw[aw a_];refine c_ ?_;obtain rfl:j=W L:=a_;clear D I;rw[y0]at V a7;have a4:W Ms<=100:=by have:=congrArg List.length V;rw[IR]at this;have h2:W (Mh ln s L)<=W L:=qcT _ _;omega
   have eD:W Ma<=100:=by
    have:=congrArg List.length a7;rw[IR]at this;have h2:W (HZ ln s L)<=W L:=by
     unfold HZ
     grind
    omega
   have dT:∀a∈Ma,W a.2.2<=100:=λa ha=>by
    have h1:HR a∈HZ ln s L:=a7▸Ed.2 ⟨a,ha,rfl⟩;obtain⟨b,C,dr⟩:=Ed.1 h1;have h3:=(dm b (Hs.1 C).1).2;have h4:=congrArg (λx:B_=>W x.2) dr;simp only[List.length_reverse]at h4;have:(HR a).2=a.2.2:=rfl
    simp_all
   refine bo (g9:=HL×FO×List Sk) (W Ma) (λi t=>[.v t.2.1,.i (DO i)]) (λ_ t=>t.1)
    (λi t=>xk H t.1/\i' (W H) t.1 t.2.1 4 Eb t.2.2/\i' (W H) t.1 za 4 Eb Ma/\i' (W H) t.1 zc 3 q9 l/\(∀b,i_ t.2.1=O b->i_ za≠O b)/\GN (W H) t.1 (t.2.2++Ma.drop i)/\t.2.2.map HR=((HZ ln s L).take i).foldl (GS o) (Mh ln s L)/\t.2.2.length<=100+i/\∀q∈t.2.2,W q.2.2<=100+100*i)
    (j0:=0) (s0:=(h,zs,Ms)) rfl rfl (Eg _) ⟨E,hf.os,hf.oa,hf.oc,hf.ne,by simpa using hf.pc,by simpa using V,a_,λq hq=>by have h1:HR q∈Mh ln s L:=V▸Ed.2 ⟨q,hq,rfl⟩;exact(dm _ (Hs.1 h1).1).2⟩ ?_
   clear E hf V a4;rintro i ⟨h,zs,Ms⟩ S ⟨E,ay,a3,A,a2,Z,V,a4,cr⟩ a5 D;simp only at E ay a3 A a2 Z V a4 cr ⊢;refine c_ ?_;have bm:=a3.ls dF;have bn:=ay.ls dF;refine aO bm ?_;by_cases I:i<W Ma
   case neg=>
    rw[aw a_];refine c_ ?_;obtain rfl:i=W Ma:=a_;clear D I;have hD:W (HZ ln s L)=W Ma:=jw;rw[K5 a_]at V;rw[qdw,Kv]at Z;have eG:0<W Ms:=by have:=congrArg List.length V;rw[IR]at this;rw[this];exact qbG.2 (fdL_ne (ln:=ln) (s:=s) (o:=o) (L:=L) λe=>by subst e;simp at ga)
    obtain⟨l4,h4,zS,c4,cd,ea,fn,fu⟩:=C0 (ls45 bn) (by simpa using eG) jw (λt ht=>by obtain⟨q,hq,rfl⟩:=Ed.1 ht;exact(Z.1 q hq).g_ bc)
    refine ai c4 ?_;refine c_ ?_;obtain⟨a6,fl,rfl⟩:=zp fn;have ea:=ls54 ea;have cy:=E.trans cd;obtain⟨h9,h5,c5,a9,d0⟩:=nO h3 (hl.pre cy) hv ev a_ (r:=r) (aU hr a_);simp only[EG,Fe,E7]at c5;refine ai c5 ?_;rcases a9 with⟨rfl,cb⟩|⟨G',T,ef,rfl,B,rfl⟩
    .exact absurd ⟨G,hG.g,hG.z⟩ cb
    refine c_ ?_;have eg:Fi w v G' r=Fi w v G r:=by unfold Fi;refine p' λc hc=>?_;rw[BS hs ef hG (D2.1 hc)]
    have a1:q_ (o3 h4 (Fi w v G r) B T) (DW (O ⟨W h4,0,le 3⟩) (4*w*v) (4*w*v+1)) 3 u9 (Fi w v G r):=dd cZ Z9 (by simp[Fi]);rw[eg]at d0 ⊢;generalize hP:W h4=bP at *;generalize o3 h4 (Fi w v G r) B T=h5 at *;have c0:=cy.trans d0;obtain⟨zP,h6,c6,d7,hH,X⟩:=BE h3 (hl.pre c0) hM.g_ hv ev a_ hr hG;simp only[EG,Fe,E7]at c6;refine ai c6 ?_;refine c_ ?_;have c9:=c0.trans d7;have bt:=d0.trans d7;have e0:=λp (E:p∈ES w v l G r (4*w*v))=>nM E;have hK:=mz (w:=w) (v:=v) (l:=l) (G:=G) (r:=r) (n:=4*w*v);have aE:∀b,i_ zc=O b->b≠bP:=λb C=>by have:=(A.i_ C).2;have:=cd.len;omega
    have ct:i' (W H) h6 zc 3 q9 l:=A.ke λj d hj _=>(cd.trans bt).get hj;have dj:GN (W H) h6 a6:=(Z.ke λp _ j d hj _=>(cd.trans bt).get hj).perm fl;have dl:=ea.pre bt;have cp:=a1.pre d7;unfold Xt;generalize ES w v l G r (4*w*v)=ps at *;generalize bC:bT ln s L r (W L)=rt at *;clear c4 c5 c6 bn bm ay a3 a2 A Z hm ef eg;refine bo (g9:=HL×FO) (W ps) (λj t=>[.i (DO j),.i (.ofNat w),.i (.ofNat v),.v t.2,.i (DO rt.1),.i rt.2.1,.i rt.2.2,.v zS]) (λ_ t=>t.1)
     (λj t=>xk H t.1/\i' (W H) t.1 t.2 3 q9 (l++FA w v (λa=>ae (G a) r) o ln (ps.take j))/\q_ t.1 zS 4 Eb a6/\GN (W H) t.1 a6/\q_ t.1 zP 4 YB ps/\q_ t.1 (DW (O ⟨bP,0,le 3⟩) (4*w*v) (4*w*v+1)) 3 u9 (Fi w v G r)/\∀b,i_ t.2=O b->b≠bP)
     (j0:=0) (s0:=(h6,zc)) rfl rfl (Eg _) ⟨c9,by simpa[FA]using ct,dl,dj,X,cp,aE⟩ ?_
    clear c9 ct dl dj X cp aE;rintro j ⟨g,zc⟩ hj ⟨bx,A,av,ap,X,a1,aE⟩ a5 D;simp only at bx A av ap X a1 aE ⊢;have hV:W (FA w v (λa=>ae (G a) r) o ln (ps.take j))<=j:=by
     unfold FA
     grind
    have gl:W (l++FA w v (λa=>ae (G a) r) o ln (ps.take j))<=950:=by grind
    refine c_ ?_;refine aO X ?_;by_cases I:j<W ps
    case neg=>
     obtain rfl:j=W ps:=a_;rw[aw (B7 _)];refine c_ ?_;rw[y0]at A gl;obtain⟨l8,h8,c8,fo,fv,eX,dC⟩:=DB A a_;refine ai c8 ?_;refine c_ ?_;have g6:xk H h8:=bR bx λi d S ho=>dC i d ho λe=>by have:=(A.i_ e).1;omega
     refine⟨zc,zS,l8,a6,by rw[←bC]<;>rfl,g6,eX,fo,fv,av.ke λi d S C=>dC i d S λe=>ZL (e:=3) (e':=4) (A.ls λ_=>rfl) av q7 e C,ap.ke λp E i d S C=>dC i d S λe=>gf A (ap.1 p E) a_ e C,?_,?_⟩
     .show(a6.map HR).Perm (List.foldl (GS o) (Mh ln s L) (HZ ln s L))
      grind
     .have:=KZ.1 (show(a6.map λt:Sk=>((t.1,t.2.1):Mq)).Pairwise _ from fu);exact this
    rw[aB I];refine c_ ?_;obtain⟨p,E⟩:=ak I;obtain⟨d8,k,hk,fa,a9,hY,hX⟩:=e0 p (A9 E);have b0:=Vy (w:=w) (v:=v) (P:=λa=>ae (G a) r) (o:=o) (ln:=ln) E;refine bz (cs:=[EO DU (DO p.2.2.1),EO DQ p.2.2.2]) X rfl E rfl a_ ?_;refine c_ ?_;refine Bw (λgs=>?_) (λa2=>?_)
    case refine_2=>
     simp(disch:=omega)only[↓qb,GG];rw[aI a_];refine D (g,zc) I ⟨bx,?_,av,ap,X,a1,aE⟩
     grind
    simp(disch:=omega)only[↓qb,Fv];have g8:p.2.2=ln:=Xl jw gs.2;rw[rv g8]at b0;refine bz (cs:=[EO DQ (DO p.1)]) X rfl E rfl a_ ?_;refine c_ ?_;have g7:(Fi w v G r)[p.1]?=O (ae (G p.1) r):=iA d8;refine bz (cs:=[EO DU (DO (ae (G p.1) r).1)]) a1 rfl g7 rfl a_ ?_;refine c_ ?_;have eb:=YA h3 d8 hk fa;have el:Yy w v p.1 p.2.1=eK (p.1%4) k:=ox hs d8 (gm _ _) fa;rw[←el]at eb;have bk:∀kd:Int,kd=(if decide ((ae (G p.1) r).1<4)=o then 2 else 1)->∀z2 R,i' (W H) R z2 3 q9 ((l++FA w v (λa=>ae (G a) r) o ln (ps.take j))++[((DO p.1,DO (Yy w v p.1 p.2.1),kd):Gs)])->(∀(i:Nat) d,g[i]?=O d->i_ zc≠O i->R[i]?=O d)->(i_ z2=i_ zc∨∃i,i_ z2=O i/\g.length<=i)->a5 [.i (DO j+1),.i (.ofNat w),.i (.ofNat v),.v z2,.i (DO rt.1),.i rt.2.1,.i rt.2.2,.v zS] R:=by
     intro kd gy z2 R N f dr;refine D (R,z2) I ⟨bR bx λi d S ho=>f i d ho λe=>by have:=(A.i_ e).1;omega,?_,av.ke λi d S C=>f i d S λe=>ZL (e:=3) (e':=4) (A.ls λ_=>rfl) av q7 e C,ap.ke λp E i d S C=>f i d S λe=>gf A (ap.1 p E) a_ e C,X.ke λi d S C=>f i d S λe=>ZL (e:=3) (e':=4) (A.ls λ_=>rfl) X q7 e C,a1.ke λi d S C=>f i d S λe=>aE i e ?_,λb C=>?_⟩
     .rw[b0,←Gu];have:Yp w v (λa=>ae (G a) r) o p=(DO p.1,DO (Yy w v p.1 p.2.1),kd):=by unfold Yp;rw[gy]
      simp_all
     .have:bP=i:=by simpa[i_]using C
      omega
     .simp only at C;rcases dr with e|⟨i,e,eA⟩
      .exact aE b (e▸C)
      .rw[e]at C;cases C;have:=a1.blkLt (i:=bP) rfl;omega
    by_cases fx:(ae (G p.1) r).1<4
    case' pos=>rw[r_ (show DO (ae (G p.1) r).1<4 by grind)]
    case' neg=>rw[s_ (show(4:Int)<=DO (ae (G p.1) r).1 by grind)]
    case' pos=>have hd:=FX fx
    case' neg=>have hd:=Ga fx
    all_goals
     rw[hd]at bk;cases o
    all_goals
     try rw[L7 rfl]
     simp(disch:=omega)only[↓qb,Fv,GG];refine bz (cs:=[EO DQ (DO p.1)]) X rfl E rfl a_ ?_;refine c_ ?_;refine bz (cs:=[EO DQ (DO p.1)]) X rfl E rfl a_ ?_;refine c_ ?_;refine bz (cs:=[EO DQ (DO p.2.1)]) X rfl E rfl a_ ?_;refine c_ ?_;refine am eb ?_;refine c_ ?_;refine A.KG (a:=((DO p.1,DO (Yy w v p.1 p.2.1),_):Gs)) (λ_=>rfl) (by have:=bx.len;omega) rfl rfl rfl (by unfold aY;rw[FE a_,FE a_];rfl) ?_
     intro z2 R N al f an F;refine c_ ?_;refine ab al ?_;refine m9 ?_;rw[aI a_]
     simp_all
   rw[aB I];refine c_ ?_;obtain⟨a,ha⟩:=ak I;have dA:Ma.drop i=a::Ma.drop (i+1):=by
    rw[RK I]
    simp_all
   have f2:(HZ ln s L)[i]?=O (HR a):=by grind
   have cf:((HZ ln s L).take (i+1)).foldl (GS o) (Mh ln s L)=GS o (Ms.map HR) (HR a):=by rw[Kx,f2,qcw,←V];rfl
   rw[dA]at Z;have dn:=dT a (A9 ha);refine bo (g9:=HL×List Sk×Bool) (W Ms) (λk t=>[.b t.2.2,.i (DO k)]) (λ_ t=>t.1)
    (λk t=>(t.2.2=U/\t.1=h/\t.2.1=Ms/\∀j,j<k->∀q,Ms[j]?=O q->q.1≠a.1)∨(t.2.2=J/\xk H t.1/\i' (W H) t.1 zs 4 Eb t.2.1/\i' (W H) t.1 za 4 Eb Ma/\i' (W H) t.1 zc 3 q9 l/\GN (W H) t.1 (t.2.1++Ma.drop (i+1))/\t.2.1.map HR=GS o (Ms.map HR) (HR a)/\t.2.1.length=W Ms/\∀q∈t.2.1,W q.2.2<=100+100*(i+1)))
    (j0:=0) (s0:=(h,Ms,U)) rfl rfl (Eg _) (.inl ⟨rfl,rfl,rfl,λj hj=>a_⟩) ?_
   rintro k ⟨g,M2,fd⟩ hk co b6 ag;simp only at co ⊢;refine c_ ?_;rcases co with⟨rfl,rfl,rfl,cb⟩|⟨rfl,ad,cw,eP,eV,fb,eL,hE,eF⟩
   case inr=>
    refine aO (cw.ls dF) ?_;have bk:a5 [.v zs,.i (DO i+1)] g:=D (g,zs,M2) I ⟨ad,cw,eP,eV,a2,fb,by rw[cf];exact eL,jw,eF⟩;refine zk (λ_=>?_) (λ_=>?_)
    all_goals
     simp(disch:=omega)only[↓qb,Fv];rw[aI a_];exact bk
   refine aO bn ?_;by_cases a0:k<W M2
   case neg=>
    rw[aw a_];simp(disch:=omega)only[↓qb,GG];have b9:=Z.1 a (F_.2 (.inr MA));have b8:=b9.g_ bc;refine aJ bm rfl ha ?_;rw[show Eb a=[EO DQ a.1.1,EO DQ a.1.2.1,EO DU (DO a.1.2.2),a.2.1]from rfl];refine c_ ?_;refine ab b8 ?_;refine m9 ?_;refine ay.KG (a:=a) dF (by have:=E.len;omega) rfl rfl rfl (by unfold aY;rw[FE a_,FE a_];rfl) ?_
    intro z2 R N al f an F;refine c_ ?_;refine ab al ?_;refine m9 ?_;rw[aI a_];have a9:=E.len;refine D (R,z2,M2++[a]) I ⟨bR E λj d hj ho=>f j d ho λe=>by have:=(ay.i_ e).1;omega,N,a3.ke λj d hj C=>f j d hj λe=>a2 j e C,A.ke λj d hj C=>f j d hj λe=>gf ay A a_ e C,λb C bd=>?_,?_,?_,jw,λq hq=>?_⟩
    .rcases F with e|⟨j,e,eA⟩
     .grind
     .simp only at C;rw[e]at C;cases C;have:=(a3.i_ bd).2;omega
    .rw[Gu];exact Z.ke λp E j d hj C=>f j d hj λe=>gf ay (Z.1 p E) a_ e C
    .rw[cf,Bh]
     .grind
     .intro j t ht;rw[GL]at ht;cases hx:M2[j]? with
      |none=>rw[hx]at ht;cases ht
      |some q=>rw[hx]at ht;cases ht;exact cb j jw q hx
    grind
   rw[aB a0];simp(disch:=omega)only[↓qb,GG];obtain⟨q,hq⟩:=ak a0;refine bz (cs:=[EO DQ q.1.1,EO DQ q.1.2.1,EO DU (DO q.1.2.2)]) bn rfl hq rfl a_ ?_;refine c_ ?_;refine bz (cs:=[EO DQ a.1.1,EO DQ a.1.2.1,EO DU (DO a.1.2.2)]) bm rfl ha rfl a_ ?_;refine c_ ?_;rw[kC];by_cases he:q.1=a.1
   case neg=>rw[Ga he];simp(disch:=omega)only[↓qb,GG];rw[aI a_];exact ag (g,M2,U) a0 (.inl ⟨rfl,rfl,rfl,λj hj t ht=>by grind⟩)
   rw[FX he];simp(disch:=omega)only[↓qb,Fv];have fr:=A9 hq;have d9:=Z.1 q (F_.2 (.inl fr));have b9:=Z.1 a (F_.2 (.inr MA));have fp:=d9.g_ bc;have b8:=b9.g_ bc;have dn:=b9.ls bc;have hF:=cr q fr;have a9:=E.len;have ck:∀(id cx:Nat) (v':TV) (R:HL) (b5:TC),zs=DW (O ⟨id,0,le 4⟩) (W M2) cx->W H<=id->g[id]?=O (.o (EJ (M2.flatMap Eb) 4 J))->(cx=0∨cx=W M2+1)->i' (W H) R v' 1 l_ b5->(∀(j:Nat) d,g[j]?=O d->i_ q.2.1≠O j->R[j]?=O d)->(∀b,i_ v'=O b->i_ q.2.1=O b∨g.length<=b)->b5=(if o then q.2.2++a.2.2 else a.2.2++q.2.2)->
     R[id]?=O (.o (EJ (M2.flatMap Eb) 4 J))/\b6 [.b J,.i (DO k+1)] (sd R id 4 Eb (M2.set k (q.1,v',b5))):=by
    intro id cx v' R b5 c1 c2 c3 c4 c5 c6 c7 c8;obtain⟨d1,d2,d3,d4,d5,d6⟩:=stp (Mr:=Ma.drop (i+1)) (a:=a) c1 c2 c3 c4 a3 A (λe=>a2 id (by rw[c1];rfl) e) Z hq c5 c6 c7;refine⟨d1,ag (_,M2.set k (q.1,v',b5),J) a0 (.inr ⟨rfl,bR E d6,d2,d3,d4,d5,?_,d_,λt ht=>?_⟩)⟩
    .rw[qdH,Rh (a:=HR a) (x:=HR q) (k:=k) jw he,c8]
     .rfl
     .intro j hj t ht;rw[GL]at ht;cases hx:M2[j]? with
      |none=>rw[hx]at ht;cases ht
      |some q'=>rw[hx]at ht;cases ht;exact cb j hj q' hx
    grind
   obtain⟨id,cx,hh,cn,j_,ek⟩ : ∃id cx,zs=DW (O ⟨id,0,le 4⟩) (W M2) cx/\H.length<=id/\g[id]?=O (.o (EJ (M2.flatMap Eb) 4 J))/\(cx=0∨cx=W M2+1):=by
    rcases ay with⟨_,e⟩|h
    .subst e;simp at a0
    .exact h
   subst hh;cases o with
   |true=>refine c_ ?_;refine bz (cs:=[q.2.1]) bn rfl hq rfl a_ ?_;refine c_ ?_;refine ab fp ?_;refine m9 ?_;refine bz (cs:=[a.2.1]) bm rfl ha rfl a_ ?_;refine c_ ?_;refine ab b8 ?_;refine m9 ?_;refine d9.XH bc a9 dn a_ a_ ?_;intro v' R N al f an F;obtain⟨d1,d2⟩:=ck id cx v' R _ rfl cn j_ ek N f (λb C=>F.elim (λe=>.inl (e▸C)) λ⟨j,e,eA⟩=>.inr jw) rfl;refine c_ ?_;refine ab al ?_;refine m9 ?_;refine RM (a':=((q.1,v',q.2.2++a.2.2):Sk)) dF d1 rfl hq rfl d_ rfl ?_;refine c_ ?_;rw[aI a_];exact d2
   |false=>
    refine c_ ?_;obtain⟨hu,f1,f0,gu,cl,_⟩ : ∃id cx,za=DW (O ⟨id,0,le 4⟩) (W Ma) cx/\H.length<=id/\g[id]?=O (.o (EJ (Ma.flatMap Eb) 4 J))/\(cx=0∨cx=W Ma+1):=by
     rcases a3 with⟨_,e⟩|h
     .subst e;simp at I
     .exact h
    have hT:id≠hu:=λe=>a2 id rfl (by rw[f0,e];rfl);subst f0;have hS:=ah j_;have hC:=ah cl;have ca:xk g (g++[HO.o (EJ [] 1 J)]):=⟨_,rfl⟩;obtain⟨w1,w2,w3⟩:=Dx (o:=3) (k:=1) (cx:=f1) (n:=W Ma) dF (ca.get cl) ha rfl a_;refine af w1 (af w2 (ab (xH _ _) ?_));refine cY w3 rfl ?_;rw[show((Eb a).drop 3).take 1=[a.2.1]from rfl];refine c_ ?_;refine ab b8 ?_;refine m9 ?_;have go:i' (j7:=Nat) (W H) (g++[HO.o (EJ [] 1 J)]) (DW (O ⟨W g,0,le 1⟩) 0 1) 1 l_ []:=i'.emp aG a9;refine go.XH bc z_ (dn.pre ca) z_ z_ ?_;intro v1 R N es f an F;rw[E7]at N;have bl:∀(j:Nat) d,g[j]?=O d->R[j]?=O d:=λj d hj=>f j d (dI hj) λe=>by
     have e':W g=j:=by simpa[i_]using e
     grind
    have ax:xk g R:=Nl bl;refine c_ ?_;refine ab es ?_;refine m9 ?_;obtain⟨u1,u2,u3⟩:=Dx (o:=3) (k:=1) (cx:=cx) (n:=W M2) dF (bl _ _ j_) hq rfl a_;refine af u1 (af u2 (ab (xH _ _) ?_));refine cY u3 rfl ?_;rw[show((Eb q).drop 3).take 1=[q.2.1]from rfl];refine c_ ?_;refine ab fp ?_;refine m9 ?_;refine N.XH bc (by have:=ax.len;omega) ((d9.ls bc).pre ax) a_ a_ ?_;intro v2 g3 g4 et gx hB hy;have h7:∀b,i_ v1=O b->W g<=b:=λb C=>by
     rcases F with e|⟨j,e,e'⟩
     .rw[C]at e;have:b=W g:=by simpa[i_]using e
      omega
     grind
    have ez:∀(j:Nat) d,g[j]?=O d->g3[j]?=O d:=λj d hj=>gx j d (bl j d hj) λe=>by grind
    have gg:∀b,i_ v2=O b->i_ q.2.1=O b∨g.length<=b:=λb C=>by grind
    obtain⟨d1,d2⟩:=ck id cx v2 g3 _ rfl cn j_ ek g4 (λj d hj _=>ez j d hj) gg rfl;refine c_ ?_;refine ab et ?_;refine m9 ?_;refine RM (a':=((q.1,v2,a.2.2++q.2.2):Sk)) dF d1 rfl hq rfl d_ rfl ?_;refine m9 ?_;have hw:=kJ (N.ls bc);have n1:∀b,W g≠id:=λ_=>a_;refine af (x:=()) (by
     refine df (bV ⟨_,_,_,rfl⟩ λi S=>?_) (df (bV ⟨_,_,_,rfl⟩ λi S=>?_) (df (bV ⟨_,_,_,rfl⟩ λi S=>?_) (df (bV hw λi S=>?_) fj)))
     .have e:W g=i:=by simpa[i_]using S
      omega
     .have e:W g=i:=by simpa[i_]using S
      omega
     .have e:W g=i:=by simpa[i_]using S
      omega
     grind) ?_
    refine m9 ?_;rw[aI a_];exact d2
  rw[aB I];refine c_ ?_;obtain⟨⟨c,y⟩,eE⟩:=ak (l:=M) (i:=j) a_;obtain⟨Y,b7,bb⟩:=hm j _ eE;simp only at b7 bb;have ej:=A9 b7;have ds:=gb _ ej;have cq:=dm _ ej;simp only at ds cq;have a4:W Ms<=100:=by
   have:=congrArg List.length V;rw[IR]at this;have h2:W (Mh ln s (L.take j))<=W (L.take j):=qcT _ _
   grind
  have eD:W Ma<=100:=by
   have:=congrArg List.length a7;rw[IR]at this;have h2:W (HZ ln s (L.take j))<=W (L.take j):=by
    unfold HZ
    grind
   grind
  have dD:=E.len;have hg:=bb.g_;refine aJ (hM.pre E) rfl eE ?_;rw[show Ey (c,y)=[EO DQ c.1,EO DQ c.2.1,EO DU (DO c.2.2),y]from rfl];refine c_ ?_;refine ab hg ?_;refine m9 ?_;have ee:=j' (l:=ln) (c:=c) eC a_ ds.1 a_;simp only[EB,Fe,E7]at ee;refine am ee ?_;refine c_ ?_;have e1:=l7 (ln:=ln) (s:=s) b7;have e2:=XM (ln:=ln) (s:=s) b7;have fs:(if aV ln c then(1:Int)else 0)=(if s then 1 else 0)↔aV ln c=s:=by grind
  have hZ:xk H h:=E;by_cases ce:aV ln c=s
  case neg=>
   rw[B3 (λe=>ce (fs.1 e))];refine c_ ?_;have he:i' (j7:=Nat) (W H) (h++[HO.o (EJ [] 1 J)]) (DW (O ⟨W h,0,le 1⟩) 0 1) 1 l_ []:=i'.emp aG dD;refine he.XH bc z_ (bb.pre (E.Hu _)) z_ z_ ?_;intro y1 g1 eM ca gv eB ei;rw[E7]at eM;have gA:∀(i:Nat) d,h[i]?=O d->g1[i]?=O d:=λi d S=>gv i d (dI S) λe=>by
    have:W h=i:=by simpa[i_]using e
    simp_all
   have ad:xk h g1:=Nl gA;refine c_ ?_;refine ab ca ?_;refine m9 ?_;have be:=hf.pre ad;refine be.os.KG (a:=((c,y1,Y):Sk)) dF (by simp at eB;omega) rfl rfl rfl (by unfold aY;rw[FE a_,FE a_];rfl) ?_
   intro z2 R N al f an F;have gd:∀b,i_ y1=O b->W h<=b:=λb C=>by
    rcases ei with e|⟨i,e,e'⟩
    .rw[C]at e;have:b=W h:=by simpa[i_]using e
     omega
    grind
   have dB:=be.apS (c:=c) eM (λp E b C bd=>by have k1:=gd b C;have k2:=((hf.pc.1 p E).i_ bd).2;omega) N f F
   have ax:xk H R:=bR (E.trans ad) λi d S ho=>f i d ho λe=>by have:=(hf.os.i_ e).1;omega
   refine c_ ?_;refine ab al ?_;refine m9 ?_;rw[aI a_];have bC:bT ln s L r j=bT ln s L r (j+1):=by
    unfold bT
    grind
   rw[bC];exact D (R,z2,za,Ms++[(c,y1,Y)],Ma) I ⟨ax,dB,by rw[ME,V,e1,ts ce];rfl,k_⟩
  rw[A7 (fs.2 ce)];refine c_ ?_;refine aO (bb.pre E) ?_;have hR:0<W Y:=qbG.2 cq.1;refine m9 ?_;rw[Rx jw jw];refine m9 ?_;refine bo (g9:=HL×FO) (W Y) (λk t=>[.v t.2,.i ((W Y:Int)-1-(k:Int)),.i (.ofNat w),.i (.ofNat v),.v zc,.i (DO (if 0∈Y.reverse.take k then ae r m else bT ln s L r j).1),.i (if 0∈Y.reverse.take k then ae r m else bT ln s L r j).2.1,.i (if 0∈Y.reverse.take k then ae r m else bT ln s L r j).2.2,.v (DW Q 0 0)]) (λ_ t=>t.1)
   (λk t=>xk h t.1/\i' (W h) t.1 t.2 1 l_ (Y.reverse.take k)) (j0:=0) (s0:=(h,DW Q 0 0)) d_ rfl (Eg _) ⟨.refl _,.nil _ _ _ _⟩ ?_
  rintro k ⟨g,u⟩ hk ⟨ad,a8⟩ b6 ag;simp only at ad a8 ⊢;refine c_ ?_;by_cases a0:k<W Y
  case pos=>
   rw[Ho (show(0:Int)<=(W Y:Int)-1-(k:Int)by omega)];refine c_ ?_;obtain⟨id,j_⟩:=ak (l:=Y) (i:=W Y-1-k) a_;have eu:Y.reverse[k]?=O id:=jw;have cf:Y.reverse.take (k+1)=Y.reverse.take k++[id]:=by rw[Kx,eu];rfl
   have dk:(W Y:Int)-1-(k:Int)=DO (W Y-1-k):=by grind
   refine aJ ((bb.pre E).pre ad) dk j_ ?_;rw[show l_ id=[EO DQ (DO id)]from rfl];refine c_ ?_;refine a8.KG (a:=id) bc ad.len rfl rfl rfl (by unfold aY;rw[qb6,FE a_,FE a_];rfl) ?_
   intro u2 R N al f an F;have ax:xk h R:=bR ad λi d S ho=>f i d ho λe=>by have:=(a8.i_ e).1;omega
   refine c_ ?_;refine ab al ?_;refine m9 ?_;refine aJ ((bb.pre E).pre ax) dk j_ ?_;rw[show l_ id=[EO DQ (DO id)]from rfl];refine c_ ?_;rw[←cf]at N;have g0:(W Y:Int)-1-(k:Int)-1=(W Y:Int)-1-((k+1:Nat):Int):=a_;by_cases h0:id=0
   .subst h0;rw[ub (show DO 0=0 from rfl)];refine c_ ?_;refine am ci ?_;refine c_ ?_
    simp_all
   .rw[tx (show ¬DO id=0 from λe=>h0 (by exact Ky e))];refine c_ ?_;rw[g0];have:=ag (R,u2) a0 ⟨ax,N⟩
    grind
  obtain rfl:k=W Y:=a_;rw[FL (show(W Y:Int)-1-(W Y:Int)<0 by omega)];refine c_ ?_;rw[K5 d_]at a8 ⊢;have ec:=jr (m:=m) (c:=c) bs.1 (by obtain⟨_,q1,q2,q3,q4,_⟩:=bs;omega) ds.1 a_;simp only[EB,EG,Fe,E7]at ec;refine am ec ?_;refine c_ ?_;have be:=(hf.pre ad).symm;refine be.os.KG (a:=((aq m c,u,Y.reverse):Sk)) dF (by have:=ad.len;omega) rfl rfl rfl (by unfold aY;rw[FE a_,FE a_];rfl) ?_
  intro z2 R N al f an F;have eZ:i' (W H) g u 1 l_ Y.reverse:=by
   rcases a8 with e|⟨id,cx,e1,e2,e3⟩
   .exact .inl e
   .exact .inr ⟨id,cx,e1,a_,e3⟩
  have dB:=(be.apS (c:=aq m c) eZ (λp E b C bd=>by have k1:=(a8.i_ C).1;have k2:=((hf.symm.pc.1 p E).i_ bd).2;omega) N f F).symm
  have ax:xk H R:=bR (E.trans ad) λi d S ho=>f i d ho λe=>by have:=(hf.oa.i_ e).1;omega
  refine c_ ?_;refine ab al ?_;refine m9 ?_;rw[aI a_];have bC:(if 0∈Y.reverse then ae r m else bT ln s L r j)=bT ln s L r (j+1):=by
   unfold bT
   grind
  rw[bC];exact D (R,zs,z2,Ms,Ma++[(aq m c,u,Y.reverse)]) I ⟨ax,dB,k_,by rw[ME,a7,e2,rv ce,gE];rfl⟩)
end Go.Am
end

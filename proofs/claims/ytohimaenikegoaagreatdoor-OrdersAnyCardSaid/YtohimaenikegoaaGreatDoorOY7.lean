import Derived.Test.YtohimaenikegoaaGreatDoorOY6
import Derived.Shelf.SlSortCmp.WholeK
set_option linter.all false
noncomputable section
set_option maxRecDepth 100000
set_option maxHeartbeats 16000000
open Int(ofNat)
open List(range replicate)
namespace Go.Am
open Sx Go.Proofs
def GI(l:Ln)(s:Bool)(g:Mv)(c:Cl):Mv:=if dP l (aA g c)=s then af g (wd l)else g
def O3{l:Ln}{s:Bool}{g:Mv}{c:Cl}(a:g.1<8):(GI l s g c).1<8:=by
 unfold GI;split
 .exact fH
 .exact a
def Ls{c:Cl}{e:Nat}(a:c.2.2<4)(d:e<3):dP (q8 c e) c≠dP (q8 c e) (DA c e):=by
 obtain⟨x,y,q⟩:=c;simp only at a;have b:e=0∨e=1∨e=2:=by omega
 rcases Ey a with rfl|rfl|rfl|rfl<;>rcases b with rfl|rfl|rfl
 all_goals
  intro h;simp[dP,DA,q8]at h
  try omega
def KD{c:Cl}{e:Nat}(a:c.2.2<4)(d:e<3):1<=(q8 c e).1/\(q8 c e).1<=4:=by
 obtain⟨x,y,q⟩:=c;simp only at a;have b:e=0∨e=1∨e=2:=by omega
 rcases Ey a with rfl|rfl|rfl|rfl<;>rcases b with rfl|rfl|rfl<;>simp[q8]
def Vj{m:Mv}(h:m.1<8):af (EV m) m=CJ:=by
 obtain⟨t,x,y⟩:=m;have h:t<8:=h;unfold af EV CJ;rcases t8 h with rfl|rfl|rfl|rfl|rfl|rfl|rfl|rfl<;>simp[C5,mA,mB,mC,mD,Gt]<;>omega
def Bi{a b:Mv}{c:Cl}(d:a.1<8)(e:b.1<8)(f:c.2.2<4):aA (af a b) c=aA b (aA a c):=by
 obtain⟨s,h,i⟩:=a;obtain⟨t,j,g⟩:=b;obtain⟨x,y,q⟩:=c;simp only at d e f;rcases t8 d with rfl|rfl|rfl|rfl|rfl|rfl|rfl|rfl<;>rcases t8 e with rfl|rfl|rfl|rfl|rfl|rfl|rfl|rfl
 all_goals rcases Ey f with rfl|rfl|rfl|rfl
 all_goals simp[aA,qT,mA,mB,mC,mD,af,C5]
 all_goals omega
def O1(w:Nat)(l:Ln)(s:Bool)(G:TH)(r:Mv)(c:Nat):Mv:=af (GI l s (af (G c) r) (n4 w c)) (EV (GI l s (af (G 0) r) (n4 w 0)))
def O2{w:Nat}{l:Ln}{s:Bool}{G:TH}{r:Mv}(c:Nat):af (O1 w l s G r c) (GI l s (af (G 0) r) (n4 w 0))=GI l s (af (G c) r) (n4 w c):=by
 have a:∀c,(GI l s (af (G c) r) (n4 w c)).1<8:=λc=>O3 fH;have b:(EV (GI l s (af (G 0) r) (n4 w 0))).1<8:=by
  have:=a 0;generalize GI l s (af (G 0) r) (n4 w 0)=m at *;unfold EV;simp only;rcases t8 this with h|h|h|h|h|h|h|h<;>rw[h]<;>simp[Gt]
 unfold O1;rw[cu (a c) b (a 0),Vj (a 0),oC (a c)]
def RY{w v:Nat}(K:Sh w v){l l':TD}{G:TH}(hG:qn w v l G)(O:∀c,c<4*w*v->(G c).1<8){r:Mv}(hr:r.1<8){ln:Ln}(D:1<=ln.1/\ln.1<=4){s:Bool}
  (ad:∀u e n,u<4*w*v->e<3->Cn w v u e=some n->u<n->(Ch l' u e=true↔(Ch l u e=true∨(Ch l u e=false/\q8 (aA (af (G u) r) (n4 w u)) (eT (af (G u) r).1 e)=ln)))) :
  qn w v l' (O1 w ln s G r)/\O1 w ln s G r 0=CJ:=by
 have L:∀c,(GI ln s (af (G c) r) (n4 w c)).1<8:=λc=>O3 fH;refine⟨λc e n J j hn=>?_,Pt (L 0)⟩;obtain⟨F,T,ag,y,al⟩:=du K J j hn;have p:(n4 w c).2.2<4:=(dG K J).2.2.2.2;have Z:(n4 w n).2.2<4:=(dG K F).2.2.2.2;have E:∀g,Eg w l g c n e=if Ch l (min c n) e=true then af (wd (q8 (n4 w c) e)) g else g:=λg=>by
  unfold Eg
  grind
 have A:∀g,Eg w l' g c n e=if Ch l' (min c n) e=true then af (wd (q8 (n4 w c) e)) g else g:=λg=>by
  unfold Eg
  grind
 have k:=hG c e n J j hn;rw[E]at k;rw[A];generalize I:wd (q8 (n4 w c) e)=M at *;have f:M.1<8:=by rw[←I];exact rz _
 have P:af M M=CJ:=by rw[←I];exact MW _
 have V:(wd ln).1<8:=rz _;have N:=O c J;have d:(af (G c) r).1<8:=fH;have hi:(EV (GI ln s (af (G 0) r) (n4 w 0))).1<8:=by
  have:=L 0;generalize GI ln s (af (G 0) r) (n4 w 0)=m at *;unfold EV;simp only;rcases t8 this with h|h|h|h|h|h|h|h<;>rw[h]<;>simp[Gt]
 have o:Ch l' (min c n) e=true↔(Ch l (min c n) e=true∨(Ch l (min c n) e=false/\q8 (aA (af (G (min c n)) r) (n4 w (min c n))) (eT (af (G (min c n)) r).1 e)=ln)):=by
  grind
 have x:∀X:Mv,X.1<8->(GI ln s (af (G n) r) (n4 w n)=af M (GI ln s (af (G c) r) (n4 w c)))->O1 w ln s G r n=af M (O1 w ln s G r c):=λ_ _ h=>by
  unfold O1;rw[h,cu f (L c) hi]
 by_cases z:Ch l (min c n) e=true
 .rw[n_ (o.2 (.inl z))];rw[n_ z]at k;refine x M f ?_;have W:af (G n) r=af M (af (G c) r):=by rw[k,cu f N hr]
  have R:aA (af (G n) r) (n4 w n)=aA (af (G c) r) (n4 w c):=by
   rw[W,y,←I];exact gP d p j
  unfold GI;rw[R];split
  .rw[W,cu f d V]
  .exact W
 .rw[qs z]at k;have C:Ch l (min c n) e=false:=w2.2 z;have S:G (min c n)=G c:=by
   grind
  have B:q8 (aA (af (G (min c n)) r) (n4 w (min c n))) (eT (af (G (min c n)) r).1 e)=q8 (aA (af (G c) r) (n4 w c)) (eT (af (G c) r).1 e):=by
   rw[S];rcases Nat.le_total c n with h|h
   .rw[SH h]
   .rw[Nat.min_eq_right h];have Y:=xJ (KD (c:=aA (af (G c) r) (n4 w n)) iW (lS (t:=(af (G c) r).1) j)) (c:=aA (af (G c) r) (n4 w c)) iW (lS (t:=(af (G c) r).1) j) ?_
    .exact Y
    .have hb:n4 w c=DA (n4 w n) e:=(du K F j T).2.2.2.1;have h1:=Ls (c:=aA (af (G c) r) (n4 w n)) (e:=eT (af (G c) r).1 e) iW (lS j);rw[←iR d p j,←y];rw[←iR d Z j,←hb]at h1;exact De h1
  rw[B]at o;by_cases i:q8 (aA (af (G c) r) (n4 w c)) (eT (af (G c) r).1 e)=ln
  .rw[n_ (o.2 (.inr ⟨C,i⟩))];refine x M f ?_;have q:=Ls (c:=aA (af (G c) r) (n4 w c)) (e:=eT (af (G c) r).1 e) iW (lS j);rw[i,←iR d p j]at q;have H:=M4 d D p j q;rw[I]at H;rw[←y]at q;unfold GI;rw[k];generalize dP ln (aA (af (G c) r) (n4 w c))=a at *;generalize dP ln (aA (af (G c) r) (n4 w n))=b at *;have Q:af M (af M (af (G c) r))=af (G c) r:=by rw[←cu f f d,P,kR d]
   by_cases ha:a=s
   .grind
   .rw[qs ha,n_ (by cases a<;>cases b<;>cases s<;>simp_all),H]
  .have U:¬Ch l' (min c n) e=true:=λh=>by
    simp_all
   rw[qs U];have q:dP ln (aA (af (G c) r) (n4 w c))=dP ln (aA (af (G c) r) (n4 w n)):=by
    by_cases h:dP ln (aA (af (G c) r) (n4 w c))=dP ln (aA (af (G c) r) (n4 w n))
    .exact h
    .rw[y,iR d p j]at h;exact absurd (xJ D iW (lS j) h).symm i
   unfold O1
   congr 1
   unfold GI;rw[k,q]
def r1{a b:Cl}{K:Tp}:P1.eqs [(.i a.1,.i b.1),(.i a.2.1,.i b.2.1),(.i (ofNat a.2.2),.i (ofNat b.2.2))] (@hY _ ⟨K⟩)=K (decide (a=b)):=by
 show K (ch _)=_;have e:ch [(.i a.1,.i b.1),(.i a.2.1,.i b.2.1),(.i (ofNat a.2.2),.i (ofNat b.2.2))]=decide (a=b):=by
  rw[Wm];simp[ch,iq,f5];omega
 rw[e]
def P4{c:Cl}(a:c.2.2<4):aA CJ c=c:=by
 obtain⟨x,y,q⟩:=c;simp only at a;rcases Ey a with rfl|rfl|rfl|rfl<;>simp[aA,CJ,mA,mB,mC,mD,qT]
def P7{c:Cl}{e:Nat}(a:c.2.2<4)(d:e<3):(DA c e).2.2<4/\c.1 - 1<=(DA c e).1/\(DA c e).1<=c.1+1/\c.2.1 - 1<=(DA c e).2.1/\(DA c e).2.1<=c.2.1+1:=by
 obtain⟨x,y,q⟩:=c;simp only at a;have b:e=0∨e=1∨e=2:=by omega
 rcases Ey a with rfl|rfl|rfl|rfl<;>rcases b with rfl|rfl|rfl<;>simp[DA]<;>omega
def dst(w c:Nat):Nat:=3*(c / 4%w+c / 4 / w)+[0,1,2,1].getD (c%4) 0 - (if c%4=3/\c / 4 / w=0/\c / 4%w≠0 then 2 else 0)
def Nu(w v c:Nat):Bool:=Nat.ble (dst w c) 14&&(Nat.beq c 0||(range 3).any λe=>match Cn w v c e with
 |some n=>Nat.beq (dst w n+1) (dst w c)
 |none=>false)
def SY:∀w v:Nat,1<=w->w<=3->1<=v->v<=3->((range (4*w*v)).all λc=>Nu w v c)=true:=by
 have a:((range 3).all λw=>(range 3).all λv=>(range (4*(w+1)*(v+1))).all λc=>Nu (w+1) (v+1) c)=true:=by decide +kernel
 intro w v d e f g;have b:=A5.1 a (w - 1) (Cd.2 (by omega));have h:=A5.1 b (v - 1) (Cd.2 (by omega))
 simp_all
def xq(d:Int)(a b:Cl):Prop:=a.1 - d<=b.1/\b.1<=a.1+d/\a.2.1 - d<=b.2.1/\b.2.1<=a.2.1+d
def Z0{w v:Nat}(o:Sh w v){l:TD}{G:TH}(k:Cs w v l G){r:Mv}(x:r.1<8){c e n:Nat}(j:c<4*w*v)(h:e<3)(m:Cn w v c e=some n) :
  xq 1 (aA (af (G c) r) (n4 w c)) (aA (af (G n) r) (n4 w n)):=by
 obtain⟨s,t,p,d,u⟩:=du o j h m;have i:(n4 w c).2.2<4:=(dG o j).2.2.2.2;have b:(af (G c) r).1<8:=fH;have a:=k.g c e n j h m;unfold Eg at a;by_cases f:Ch l (min c n) e=true
 .rw[n_ f]at a;have q:q8 (n4 w (min c n)) e=q8 (n4 w c) e:=by
   grind
  rw[q]at a;have:aA (af (G n) r) (n4 w n)=aA (af (G c) r) (n4 w c):=by
   rw[a,d,cu (rz _) (k.ok c j).1 x];exact gP b i h
  rw[this];unfold xq;omega
 .rw[qs f]at a;rw[a,d,iR b i h];have:=P7 (c:=aA (af (G c) r) (n4 w c)) (e:=eT (af (G c) r).1 e) iW (lS h);unfold xq;omega
def Pq{w v:Nat}(b:S3 w v){l:TD}{G:TH}(q:Cs w v l G){r:Mv}(s:r.1<8):∀(d c:Nat),c<4*w*v->dst w c=d->xq (ofNat d) (aA (af (G 0) r) (n4 w 0)) (aA (af (G c) r) (n4 w c)):=by
 have m:=b.sh;intro d
 induction d using Nat.strongRecOn with
 |_ d t=>
  intro c k z;have i:=A5.1 (SY w v b.1 b.2.1 b.2.2.1 b.2.2.2) c (Cd.2 k);unfold Nu at i;rw[te,Gd]at i;rcases i.2 with o|p
  .obtain rfl:=Dp o;unfold xq
   grind
  .obtain⟨e,g,a⟩:=el.1 p;have g:=Cd.1 g;cases j:Cn w v c e with
   |none=>rw[j]at a;cases a
   |some n=>
    rw[j]at a;have a:=Dp a;obtain⟨f,h,_⟩:=du m k g j;have u:=t (dst w n) (by omega) n f rfl;have x:=Z0 m q s f g h;have y:ofNat d=ofNat (dst w n)+1:=by
     grind
    unfold xq at *;omega
def th{w v:Nat}(a:S3 w v){l:TD}{G:TH}(e:Cs w v l G){r:Mv}{k:Int}(b:CD k r){c:Nat}(f:c<4*w*v) :
  -(k+15)<=(aA (af (G c) r) (n4 w c)).1/\(aA (af (G c) r) (n4 w c)).1<=k+15/\-(k+15)<=(aA (af (G c) r) (n4 w c)).2.1/\(aA (af (G c) r) (n4 w c)).2.1<=k+15:=by
 have d:=A5.1 (SY w v a.1 a.2.1 a.2.2.1 a.2.2.2) c (Cd.2 f);unfold Nu at d;rw[te]at d;have j:=Nat.le_of_ble_eq_true d.1;have g:=Pq a e b.1 _ c f rfl;have i:-(k+1)<=(aA (af (G 0) r) (n4 w 0)).1/\(aA (af (G 0) r) (n4 w 0)).1<=k/\-(k+1)<=(aA (af (G 0) r) (n4 w 0)).2.1/\(aA (af (G 0) r) (n4 w 0)).2.1<=k:=by
  rw[e.z,kR b.1,show n4 w 0=(0,0,0)by simp[n4]];obtain⟨t,x,y⟩:=r;unfold CD at b;simp only at b;simp only[aA,Int.mul_zero,Int.zero_add];omega
 have h:ofNat (dst w c)<=14:=by grind
 unfold xq at g;omega
def PM{c:Cl}{e:Nat}{n:Int}(a:c.2.2<4)(f:e<3)(d:-n<=c.1/\c.1<=n/\-n<=c.2.1/\c.2.1<=n):CD (2*n+2) (wd (q8 c e))/\-(2*n+2)<=(q8 c e).2/\(q8 c e).2<=2*n+2:=by
 obtain⟨x,y,q⟩:=c;simp only at a d;have b:e=0∨e=1∨e=2:=by omega
 rcases Ey a with rfl|rfl|rfl|rfl<;>rcases b with rfl|rfl|rfl
 all_goals
  simp[q8,wd,CD];omega
def HB(l:List Il):Prop:=l.Pairwise λa b=>CP a.1 b.1=false
def vm{a b:Cl}:CP a b=false↔¬(b.2.1<a.2.1∨(a.2.1=b.2.1/\(b.1<a.1∨(a.1=b.1/\b.2.2<a.2.2)))):=by
 unfold CP
 simp_all
def wT{a b:Cl}:CP a b=true↔(b.2.1<a.2.1∨(a.2.1=b.2.1/\(b.1<a.1∨(a.1=b.1/\b.2.2<a.2.2)))):=by
 unfold CP;rw[Es]
def Ri{A B:List Il}{x:Il}(h:HB (A++B))(h1:∀a∈A,CP a.1 x.1=false)(d:∀b∈B,CP b.1 x.1=true):HB (A++x :: B):=by
 unfold HB at *;rw[hR]at h ⊢;refine⟨h.1,Je.2 ⟨λb c=>?_,h.2.1⟩,λa e b c=>?_⟩
 .have:=wT.1 (d b c);exact vm.2 (by omega)
 grind
def Rj{H:HL}{x:TR}{l:List Il}(hx:po H x 4 C2 l)(h0:0<l.length)(hn:l.length<=1000)(G:∀s∈l,aJ s.2=true) :
  ∃l' h' z,aI cc ac 26 [.v x] (f_ aa H) [.v z] (f_ aa h')/\tx H h'/\po h' z 4 C2 l'/\l'.Perm l/\HB l':=by
 have ag:=x26 (ls:=[.v x]) (K:=λrs h'=>∃z l',rs=[.v z]/\tx H h'/\po h' z 4 C2 l'/\l'.Perm l/\HB l') (H:=H) (pu hx.g_ u_) (by
  unfold f26;simp only[u7];refine b_ ?_;refine gv (e:=4) aH (hx.pre ⟨_,rfl⟩) h0 (by omega) (by omega) ?_;have r:tx H (H++[HO.o (.cells [] 4 true)]):=⟨_,rfl⟩;generalize H++[HO.o (.cells [] 4 true)]=H1 at *;refine b_ ?_;have hY:(H1++[HO.o (.cells (l.flatMap C2) 4 true)])[H1.length]?=some (HO.o (.cells (l.flatMap C2) 4 true)):=aH;have J:tx H (H1++[HO.o (.cells (l.flatMap C2) 4 true)]):=r.E6 _;have I:H.length<=H1.length:=r.len;generalize H1++[HO.o (.cells (l.flatMap C2) 4 true)]=H2 at *;generalize H1.length=id at *;have p:=ai hY;have D:∀L:List Il,L.length=l.length->po (m' H2 id 4 C2 L) (.slice (some ⟨id,0,le 4⟩) l.length 0) 4 C2 L:=λL h=>dL nR (bA p) h.symm;have r:m' H2 id 4 C2 l=H2:=fS hY;refine ab (dL (cx:=0) nR hY rfl).g_ ?_;refine j8 ?_;refine bE (g9:=List Il) (max 1 l.length) (λj _=>[.i (ofNat j)]) (λ_ L=>m' H2 id 4 C2 L) (λj L=>L.Perm l/\1<=j/\HB (L.take j)) (j0:=1) (s0:=l) rfl r.symm (by omega) ⟨Yq _,x5 _,?_⟩ ?_
  .cases l with
   |nil=>exact .nil
   |cons a l=>exact Je.2 ⟨λ_ h=>(by cases h),.nil⟩
  intro i L hi ⟨d,hi1,f⟩ self hself;have t:L.length=l.length:=d.length_eq;refine b_ ?_;refine bu (D L t) ?_;rw[t];by_cases V:i<l.length
  case neg=>
   rw[aK (by omega)];refine b_ ?_;rw[H4 (by omega)]at f;exact⟨_,L,rfl,iU J I,D L t,d,f⟩
  rw[aL V];refine b_ ?_;obtain⟨x0,Y⟩:=aq (l:=L) (i:=i) (by omega);have n:L=L.take i++x0 :: []++L.drop (i+1):=by
   conv=>lhs;rw[←Wp i L]
   rw[SB (by omega)]
   simp_all
  refine aG (m:=i) (λm ls h=>∃(A:List Il) (x:Il) (B R:List Il),ls=[.i (ofNat A.length)]/\m=A.length/\h=m' H2 id 4 C2 (A++x :: B++R)/\(A++x :: B++R).Perm l/\HB (A++B)/\(∀b∈B,CP b.1 x.1=true)/\A.length+B.length=i)
   ⟨L.take i,x0,[],L.drop (i+1),by grind,by grind,by rw[←n],by grind,by simpa using f,λb hb=>(by cases hb),by grind⟩ ?_
  clear n Y f d t;rintro m ls h ⟨A,x,B,R,rfl,rfl,rfl,d,f,hB,O⟩ E k;refine Da ?_;refine b_ ?_;have t:(A++x :: B++R).length=l.length:=d.length_eq;have u:(∀a∈A,CP a.1 x.1=false)->self [.i (ofNat i+1)] (m' H2 id 4 C2 (A++x :: B++R)):=λh=>hself _ (by omega) ⟨d,by omega,by
   rw[qcO (by simp;omega),H4 (by simp;omega)];exact Ri f h hB⟩
  rcases List.eq_nil_or_concat A with rfl|⟨c,y,rfl⟩
  .rw[z_ (show ofNat ([]:List Il).length<=0 from t4 _)];refine b_ ?_;rw[aT (by omega)]
   simp_all
  rw[List.concat_eq_append]at *;have hk:(c++[y]).length=c.length+1:=by simp
  rw[hk]at O k ⊢;have C:CP y.1 x.1=false->∀a∈c++[y],CP a.1 x.1=false:=by
   intro h a P;rcases Ed.1 P with P|P
   .have Z:CP a.1 y.1=false:=by
     unfold HB at f
     grind
    have Z:=vm.1 Z;have h:=vm.1 h;exact vm.2 (by omega)
   simp_all
  have N:(c++[y]++x :: B++R)[c.length]?=some y:=by simp
  have M:(c++[y]++x :: B++R)[c.length+1]?=some x:=by
   rw[EC,Hb (by simp)];simp
  have q:=D _ t;have hg:=bA (l:=c++[y]++x :: B++R) (e:=4) (enc:=C2) p;have T:aJ y.2=true:=G y (d.mem_iff.1 (Cb N));have S:aJ x.2=true:=G x (d.mem_iff.1 (Cb M));have g:c.length+1<=4294967296:=by omega
  rw[Co (show(0:Int)<ofNat (c.length+1)by simp_all)];refine b_ ?_;rw[kZ (by omega) g];refine j8 ?_;refine dF (cs:=[.int .i64 y.1.1,.int .i64 y.1.2.1,.int .u8 (ofNat y.1.2.2)]) q rfl N rfl (by omega) ?_;refine b_ ?_;refine dF (cs:=[.int .i64 x.1.1,.int .i64 x.1.2.1,.int .u8 (ofNat x.1.2.2)]) q rfl M rfl (by omega) ?_;refine b_ ?_;have F:=L2 (a:=y.1) (b:=x.1);simp only[Dd,DC,Ds]at F;cases w:CP y.1 x.1 with
  |false=>
   rw[w]at F;refine aj F ?_;simp(disch:=omega)only[↓mc,if_false,D5];rw[aT (by omega)];exact u (C w)
  |true=>
   rw[w]at F;refine aj F ?_;simp(disch:=omega)only[↓mc,if_true];have X:E [.i (ofNat c.length)] (m' H2 id 4 C2 (c++x :: (y :: B)++R)):=k c.length _ _ (by omega) ⟨c,x,y :: B,R,rfl,rfl,rfl,by
    refine List.Perm.trans ?_ d;simp only[EC,DC,Ds];exact an _ (List.Perm.swap _ _ _),by simp_all,λb hb=>by
    grind,by simp;omega⟩
   have W:((c++[y]++x :: B++R).set c.length x).set (c.length+1) y=c++x :: (y :: B)++R:=by
    simp_all
   have U:((c++[y]++x :: B++R).set c.length x).length=l.length:=by simp_all
   have ad:=ai M;have Q:(m' (m' H2 id 4 C2 (c++[y]++x :: B++R)) id 4 C2 ((c++[y]++x :: B++R).set c.length x))[id]?=some (.o (.cells (((c++[y]++x :: B++R).set c.length x).flatMap C2) 4 true)):=by
    rw[gw];exact bA p
   rw[kZ (by omega) g];refine j8 ?_;refine aP q rfl M ?_;rw[show C2 x=[.int .i64 x.1.1,.int .i64 x.1.2.1,.int .u8 (ofNat x.1.2.2),x.2]from rfl];refine b_ ?_;refine ab S ?_;refine j8 ?_;rw[kZ (by omega) g];refine j8 ?_;refine aP q rfl N ?_;rw[show C2 y=[.int .i64 y.1.1,.int .i64 y.1.2.1,.int .u8 (ofNat y.1.2.2),y.2]from rfl];refine b_ ?_;refine ab T ?_;refine j8 ?_;refine dg (enc:=C2) (i:=c.length) (a:=x) nR hg rfl (by omega) t rfl ?_;refine j8 ?_;refine dg (enc:=C2) (i:=c.length+1) (a:=y) nR Q rfl (by omega) U rfl ?_;rw[gw,gw,W];refine j8 ?_;rw[kZ (by omega) g]
   simp_all)
 grind
abbrev Dc:=Cl×List Nat
def Jy(l:Ln)(s:Bool)(L:List Dc):List Dc:=L.filter λx=>!decide (dP l x.1=s)
def Gr(l:Ln)(s:Bool)(L:List Dc):List Dc:=(L.filter λx=>decide (dP l x.1=s)).map λx=>(aA (wd l) x.1,x.2.reverse)
def EW(o:Bool):List Dc->Dc->List Dc
 | [],a=>[a]
 |x :: S,a=>if x.1=a.1 then(x.1,if o then x.2++a.2 else a.2++x.2) :: S else x :: EW o S a
def KP{o:Bool}{a:Dc}:∀ {S:List Dc} {k:Nat} {x:Dc},S[k]?=some x->x.1=a.1->(∀j,j<k->∀t,S[j]?=some t->t.1≠a.1)->EW o S a=S.set k (x.1,if o then x.2++a.2 else a.2++x.2)
 | [],k,x,h,_,_=>by simp at h
 |y :: S,0,x,h,h1,_=>by
  simp at h;subst h;simp[EW,h1]
 |y :: S,k+1,x,h,h1,b=>by
  have c:=b 0 (by omega) y rfl;simp only[EW,qs c,e6];rw[KP (by simpa using h) h1 λj e t d=>b (j+1) (by omega) t (by simpa using d)]
def zu{o:Bool}{a:Dc}:∀ {S:List Dc},(∀(j:Nat) t,S[j]?=some t->t.1≠a.1)->EW o S a=S++[a]
 | [],_=>rfl
 |y :: S,h=>by
  have b:=h 0 y rfl;simp only[EW,qs b,DC];rw[zu λj t c=>h (j+1) t (by simpa using c)]
def zt{o:Bool}{a:Dc}:∀ {S:List Dc},(EW o S a).map Prod.fst=if a.1∈S.map Prod.fst then S.map Prod.fst else S.map Prod.fst++[a.1]
 | []=>by simp[EW]
 |y :: S=>by
  unfold EW;by_cases h:y.1=a.1
  .simp_all
  .rw[qs h,DD,zt]
   grind
def zw{o:Bool}{a:Dc}:∀ {S:List Dc},((EW o S a).flatMap Prod.snd).Perm (S.flatMap Prod.snd++a.2)
 | []=>by simp[EW]
 |y :: S=>by
  unfold EW;by_cases h:y.1=a.1
  .grind
  .rw[qs h];simp only[SF,EC];exact an _ zw
def xh{o:Bool}{a x:Dc}:∀ {S:List Dc},x∈EW o S a->x∈S∨x=a∨∃y∈S,y.1=a.1/\x=(y.1,if o then y.2++a.2 else a.2++y.2)
 | [],h=>by
  simp[EW]at h;exact .inr (.inl h)
 |y :: S,h=>by
  unfold EW at h;by_cases h1:y.1=a.1
  .grind
  .rw[qs h1]at h;rcases Dy.1 h with h|h
   .simp_all
   .rcases xh h with h|h|⟨z,d,b,c⟩
    .simp_all
    .exact .inr (.inl h)
    grind
structure Ik(img:Nat->Cl)(X:TC)(L:List Dc):Prop where
 nd:(L.map Prod.fst).Nodup
 at':∀s∈L,∀c∈s.2,img c=s.1
 ne:∀s∈L,s.2≠[]
 pm:(L.flatMap Prod.snd).Perm X
def Ik.EW{f:Nat->Cl}{X:TC}{S:List Dc}(h:Ik f X S){o:Bool}{a:Dc}(h1:∀c∈a.2,f c=a.1)(j:a.2≠[]):Ik f (X++a.2) (EW o S a):=by
 refine⟨?_,λs d c b=>?_,λs d=>?_,zw.trans (h.pm.append_right _)⟩
 .rw[zt];by_cases g:a.1∈S.map Prod.fst
  .rw[n_ g];exact h.nd
  .rw[qs g];rw[kG];refine⟨h.nd,by simp,λx k y i e=>?_⟩
   simp_all
 .rcases xh d with d|rfl|⟨y,i,g,rfl⟩
  .exact h.at' s d c b
  .exact h1 c b
  .simp only at b ⊢;have b:c∈y.2∨c∈a.2:=by
    grind
   rcases b with b|b
   .exact h.at' y i c b
   simp_all
 .rcases xh d with d|rfl|⟨y,i,g,rfl⟩
  .exact h.ne s d
  .exact j
  .simp only;cases o<;>simp[j]
def Ik.mrgs{d:Nat->Cl}{o:Bool}:∀ {A:List Dc} {X:TC} {S:List Dc},Ik d X S->(∀a∈A,(∀c∈a.2,d c=a.1)/\a.2≠[])->Ik d (X++A.flatMap Prod.snd) (A.foldl (Go.Am.EW o) S)
 | [],X,S,h,_=>by simpa using h
 |a :: A,X,S,h,h1=>by
  have e:=h1 a M9;have:=Ik.mrgs (o:=o) (h.EW (o:=o) e.1 e.2) λb f=>h1 b (E2 _ f)
  simp_all
def wN{L:List Dc}{p:Dc->Bool}:((L.filter λx=>!p x).flatMap Prod.snd++(L.filter p).flatMap Prod.snd).Perm (L.flatMap Prod.snd):=by
 rw[←Yx];refine List.Perm.flatMap_right _ ?_;exact List.perm_append_comm.trans (List.filter_append_perm p L)
def O7{L:List Dc}{f:Cl->Cl}:((L.map λx=>(f x.1,x.2.reverse)).flatMap Prod.snd).Perm (L.flatMap Prod.snd):=by
 induction L with
 |nil=>simp
 |cons a L b=>
  grind
def IR(l:Ln)(s o:Bool)(L:List Dc):List Dc:=(Gr l s L).foldl (EW o) (Jy l s L)
def Ik.fold{f d:Nat->Cl}{X:TC}{L:List Dc}(h:Ik f X L){l:Ln}{s o:Bool}(k:∀c∈X,d c=if dP l (f c)=s then aA (wd l) (f c)else f c):Ik d X (IR l s o L):=by
 have j:∀x∈L,∀c∈x.2,c∈X:=λx b c e=>h.pm.mem_iff.1 (Gc.2 ⟨x,b,e⟩);have m:Ik d ((Jy l s L).flatMap Prod.snd) (Jy l s L):=by
  refine⟨h.nd.sublist (List.Sublist.map _ List.filter_sublist),λx b c e=>?_,λx b=>?_,Yq _⟩
  .obtain⟨b,i⟩:=Ge.1 b;rw[k c (j x b c e),h.at' x b c e,qs (by simpa using i)]
  .exact h.ne x (Ge.1 b).1
 have g:=m.mrgs (o:=o) (A:=Gr l s L) λa n=>by
  obtain⟨x,b,rfl⟩:=CH.1 n;obtain⟨b,i⟩:=Ge.1 b;refine⟨λc e=>?_,by simpa using h.ne x b⟩;have e:c∈x.2:=by simpa using e
  rw[k c (j x b c e),h.at' x b c e,n_ (by simpa using i)]
 refine⟨g.nd,g.at',g.ne,g.pm.trans ?_⟩;refine List.Perm.trans ?_ h.pm;refine List.Perm.trans (an _ O7) ?_;exact wN
def Ik.perm{a:Nat->Cl}{X:TC}{L L':List Dc}(h:Ik a X L)(b:L'.Perm L):Ik a X L':=
 ⟨(b.map _).nodup_iff.2 h.nd,λs c=>h.at' s (b.mem_iff.1 c),λs c=>h.ne s (b.mem_iff.1 c),(b.flatMap_right _).trans h.pm⟩
def xL{i6 n:Type}{f:i6->n}{l':List n}{l:List i6}(h:l'.Perm (l.map f)):∃m:List i6,m.Perm l/\m.map f=l':=by
 generalize e:l.map f=k at h
 induction h generalizing l with
 |nil=>simp_all
 |cons x _ q=>
  obtain⟨a,l,rfl,rfl,g⟩:=qcQ.1 e;obtain⟨m,c,d⟩:=q g;exact⟨a :: m,c.cons a,by rw[DD,d]⟩
 |swap x y _=>
  obtain⟨a,l,rfl,rfl,g⟩:=qcQ.1 e;obtain⟨b,l,rfl,rfl,rfl⟩:=qcQ.1 g;exact⟨b :: a :: l,List.Perm.swap _ _ _,rfl⟩
 |trans _ _ i j=>
  obtain⟨m,c,d⟩:=j e;obtain⟨r,o,p⟩:=i d;exact⟨r,o.trans c,p⟩
def sG(l:Ln):Tn:=[.int .u8 (ofNat l.1),.int .i64 l.2]
def de(l:Ln):(sG l).length=2:=rfl
def Vp{w v:Nat}(h3:S3 w v){l:TD}{H:HL}{x xs:TR}(hl:po H x 3 my l)(ax:aJ xs=true)(hv:∀c∈l,VC w v c)(bb:∀c∈l,c.2.2≠0)(hn:l.length<=1000){r:Mv}(hr:CD 10000 r){G:TH}(hG:Cs w v l G) :
  ∃z h' d,aI cc ac 45 ([.i (.ofNat w),.i (.ofNat v),.v x]++CI r++[.v xs]) (f_ aa H) [.v z] (f_ aa h')/\tx H h'/\po h' z 2 sG d/\d.length<=1000/\∀y∈d,∃p∈CL w v l G r (4*w*v),p.2.2=y:=by
 have hs:=h3.sh;obtain⟨b1,b2,b3,b4⟩:=h3.n;have hN:=E4 hs;obtain⟨z,h1,c1,bm,b9,hZ⟩:=zO h3 hl ax hv bb hn hr hG;have bC:=lq (w:=w) (v:=v) (l:=l) (G:=G) (r:=r) (n:=4*w*v);have ca:=x45 (ls:=[.i (.ofNat w),.i (.ofNat v),.v x,.i (ofNat r.1),.i r.2.1,.i r.2.2,.v xs]) (K:=λrs h'=>∃z d,rs=[.v z]/\tx H h'/\po h' z 2 sG d/\d.length<=1000/\∀y∈d,∃p∈CL w v l G r (4*w*v),p.2.2=y) (H:=H) (km (km (pu hl.g_ (km (km (km (pu ax u_))))))) (by
  unfold f45;simp only[u7];refine b_ ?_;simp only[CI,DC,Ds]at c1;refine am c1 ?_;refine b_ ?_;generalize bx:CL w v l G r (4*w*v)=P at *;refine bE (g9:=HL×Value) P.length (λj s=>[.v s.2,.i (ofNat j)]) (λ_ s=>s.1) (λj s=>tx h1 s.1/\∃d:List Ln,e_ h1.length s.1 s.2 2 sG d/\d.length<=j/\∀y∈d,∃p∈P,p.2.2=y) (j0:=0) (s0:=(h1,.slice none 0 0)) rfl rfl (CM _) ⟨.refl _,[],.nil _ _ _ _,x5 _,λy hy=>by cases hy⟩ ?_;rintro j ⟨h,o⟩ C ⟨u,d,hO,b7,a4⟩ a6 M;simp only at u hO ⊢;refine b_ ?_;refine bu (hZ.pre u) ?_;by_cases R:j<P.length
  case neg=>
   rw[aK (by omega)];refine b_ ?_;exact⟨o,d,rfl,bm.trans u,hO.ls de,by omega,a4⟩
  rw[aL R];refine b_ ?_;obtain⟨p,hp⟩:=aq R;have b8:=Cb hp;refine dF (cs:=[.int .u8 (ofNat p.2.2.1),.int .i64 p.2.2.2]) (hZ.pre u) rfl hp rfl (by omega) ?_;simp(disch:=omega)only[↓A9];generalize hy:p.2.2=y at *;have aE:=u.len;have f:=hO.ls de;have b6:=f.g_;have bt:∀k,k<=d.length->∀h' o' ,tx h1 h'->e_ h1.length h' o' 2 sG (d.take k++[y]++d.drop k)->a6 [.v o',.i (ofNat j+1)] h':=λk hk h' o' bl bd=>M (h',o') R ⟨bl,_,bd,by simp;omega,λa ha=>by
   grind⟩
  refine cO (λl h'=>∃k,k<=d.length/\l=[.i (ofNat k)]/\h'=h) ?_ ?_
  case refine_2=>
   intro jj b0;refine ma d.length (λ_=>True) (j0:=0) rfl (CM _) trivial ?_;intro k hk _ bs a7;refine b_ ?_;refine bu f ?_;by_cases Q:k<d.length
   case neg=>
    rw[aK (by omega)];refine b_ ?_
    simp_all
   rw[aL Q];refine b_ ?_;obtain⟨a,ha⟩:=aq Q;refine dF (cs:=[.int .u8 (ofNat a.1)]) f rfl ha rfl (by omega) ?_;refine b_ ?_;refine xF (λ_=>?_) (λ_=>?_)
   .simp(disch:=omega)only[↓mc];rw[aT (by omega)]
    simp_all
   refine b_ ?_;refine dF (cs:=[.int .u8 (ofNat a.1)]) f rfl ha rfl (by omega) ?_;refine b_ ?_;refine Jb λt ht=>?_;cases t with
   |false=>
    refine b_ ?_
    simp_all
   |true=>
   refine b_ ?_;refine dF (cs:=[.int .i64 a.2]) f rfl ha rfl (by omega) ?_;refine b_ ?_;refine xF (λ_=>?_) (λ_=>?_)
   .simp(disch:=omega)only[↓mc];rw[aT (by omega)]
    simp_all
   .simp(disch:=omega)only[↓mc]
    simp_all
  rintro l' h' ⟨k,hk,rfl,ay⟩;rw[ay];clear ay h';refine b_ ?_;refine bu f ?_;refine Jb λt ht=>?_;cases t with
  |true=>
   refine b_ ?_;obtain⟨x1,ad,A,a8⟩:=KH f hk;obtain⟨x2,ag,I,a9⟩:=KF f hk;have a3:∀b,d_ o=some b->b<h.length:=λb O=>(hO.d_ O).2;have hh:(h++[HO.o (.cells [] 2 true)]).length=h.length+1:=by simp
   have he:e_ (i6:=Ln) h1.length (h++[HO.o (.cells [] 2 true)]) (.slice (some ⟨h.length,0,le 2⟩) 0 1) 2 sG []:=e_.emp aH aE;refine ae ad ?_;refine ab A.g_ ?_;refine j8 ?_;refine he.NB de (by omega) (A.pre ⟨_,rfl⟩) (by simp;omega) (by simp;omega) ?_;intro z1 g B T E a0 _;have al:=B.ls de;have Y:tx h1 g:=bQ (u.E6 _) λi o m q=>E i o q λe=>by have:=(he.d_ e).1;omega
   have J:tx h g:=bQ (h1:=h) ⟨_,rfl⟩ λi o m q=>E i o q λe=>by
    have:h.length=i:=by simpa[d_]using e
    omega
   refine b_ ?_;refine ab T ?_;refine j8 ?_;refine B.GX (a:=y) de (by omega) rfl rfl rfl (by
    unfold ba;rw[DK (by simp;omega),DK (by simp;omega)];rfl) ?_
   intro z2 g2 X U F a1 _;have a5:∀b,d_ z1=some b->h.length<=b/\b<g.length:=λb O=>by
    refine⟨?_,(B.d_ O).2⟩;rcases ‹d_ z1=d_ _∨_› with e|⟨j',e,e'⟩
    .rw[O]at e;have:b=h.length:=by simpa[d_]using e
     omega
    grind
   have Z:tx h1 g2:=bQ Y λi o m q=>F i o q λe=>by grind
   have L:tx h g2:=bQ J λi o m q=>F i o q λe=>by grind
   refine b_ ?_;refine ab U ?_;refine j8 ?_;refine ae ag ?_;refine ab I.g_ ?_;refine j8 ?_;refine X.NB de (by omega) (I.pre L) (by simp;omega) (by simp;omega) ?_;intro z3 g3 bk V W a2 _;have bn:tx h1 g3:=bQ Z λi o m q=>W i o q λe=>by grind
   refine b_ ?_;refine ab V ?_;refine j8 ?_;have ap:=jJ f;have an:=jJ A;have av:=jJ al;have dA:∀n c N D,Ci (C9 (.slice (some ⟨h.length,0,some 12⟩) n c)) (A6 0 (.slice (some ⟨g.length,0,some 12⟩) N D))=true:=λn c N D=>oU λi m C=>by
    have e1:h.length=i:=by simpa[d_]using m
    have S:g.length=i:=by simpa[d_]using C
    omega
   have dB:∀n c N D,Ci (C9 (.slice (some ⟨g.length,0,some 12⟩) n c)) (A6 0 (.slice (some ⟨h.length,0,some 12⟩) N D))=true:=λn c N D=>oU λi m C=>by
    have e1:g.length=i:=by simpa[d_]using m
    have S:h.length=i:=by simpa[d_]using C
    omega
   have dC:∀n c,Ci (C9 z1) (A6 0 (.slice (some ⟨g.length,0,some 12⟩) n c))=true:=λn c=>uI av ⟨_,_,_,rfl⟩ λi m C=>by
    have S:g.length=i:=by simpa[d_]using C
    simp_all
   have dD:∀n c,Ci (C9 (.slice (some ⟨g.length,0,some 12⟩) n c)) (A6 0 x1)=true:=λn c=>uI ⟨_,_,_,rfl⟩ an λi m C=>by
    have S:g.length=i:=by simpa[d_]using m
    grind
   refine ae (x:=()) (by
    repeat' (first|exact eR|refine cY ?_ ?_)
    all_goals first|exact OM ap|exact dA _ _ _ _|exact dB _ _ _ _|exact dC _ _|exact dD _ _) ?_
   try simp(disch:=omega)only[↓mc]
   try rw[aT (by omega)]
   try grind
  |false=>
   refine b_ ?_;have Q:k<d.length:=by
    grind
   obtain⟨a,ha⟩:=aq Q;refine aP f rfl ha ?_;rw[show sG a=[.int .u8 (ofNat a.1),.int .i64 a.2]from rfl];refine b_ ?_;refine zJ (λbP=>?_) (λb5=>?_)
   .simp(disch:=omega)only[↓mc,DJ];rw[aT (by omega)];exact M (h,o) R ⟨u,d,hO,by omega,a4⟩
   simp(disch:=omega)only[↓mc,Ex];obtain⟨x1,ad,A,a8⟩:=KH f hk;obtain⟨x2,ag,I,a9⟩:=KF f hk;have a3:∀b,d_ o=some b->b<h.length:=λb O=>(hO.d_ O).2;have hh:(h++[HO.o (.cells [] 2 true)]).length=h.length+1:=by simp
   have he:e_ (i6:=Ln) h1.length (h++[HO.o (.cells [] 2 true)]) (.slice (some ⟨h.length,0,le 2⟩) 0 1) 2 sG []:=e_.emp aH aE;refine ae ad ?_;refine ab A.g_ ?_;refine j8 ?_;refine he.NB de (by omega) (A.pre ⟨_,rfl⟩) (by simp;omega) (by simp;omega) ?_;intro z1 g B T E a0 _;have al:=B.ls de;have Y:tx h1 g:=bQ (u.E6 _) λi o m q=>E i o q λe=>by have:=(he.d_ e).1;omega
   have J:tx h g:=bQ (h1:=h) ⟨_,rfl⟩ λi o m q=>E i o q λe=>by
    have:h.length=i:=by simpa[d_]using e
    omega
   refine b_ ?_;refine ab T ?_;refine j8 ?_;refine B.GX (a:=y) de (by omega) rfl rfl rfl (by
    unfold ba;rw[DK (by simp;omega),DK (by simp;omega)];rfl) ?_
   intro z2 g2 X U F a1 _;have a5:∀b,d_ z1=some b->h.length<=b/\b<g.length:=λb O=>by
    refine⟨?_,(B.d_ O).2⟩;rcases ‹d_ z1=d_ _∨_› with e|⟨j',e,e'⟩
    .rw[O]at e;have:b=h.length:=by simpa[d_]using e
     omega
    grind
   have Z:tx h1 g2:=bQ Y λi o m q=>F i o q λe=>by grind
   have L:tx h g2:=bQ J λi o m q=>F i o q λe=>by grind
   refine b_ ?_;refine ab U ?_;refine j8 ?_;refine ae ag ?_;refine ab I.g_ ?_;refine j8 ?_;refine X.NB de (by omega) (I.pre L) (by simp;omega) (by simp;omega) ?_;intro z3 g3 bk V W a2 _;have bn:tx h1 g3:=bQ Z λi o m q=>W i o q λe=>by grind
   refine b_ ?_;refine ab V ?_;refine j8 ?_;have ap:=jJ f;have an:=jJ A;have av:=jJ al;have dA:∀n c N D,Ci (C9 (.slice (some ⟨h.length,0,some 12⟩) n c)) (A6 0 (.slice (some ⟨g.length,0,some 12⟩) N D))=true:=λn c N D=>oU λi m C=>by
    have e1:h.length=i:=by simpa[d_]using m
    have S:g.length=i:=by simpa[d_]using C
    omega
   have dB:∀n c N D,Ci (C9 (.slice (some ⟨g.length,0,some 12⟩) n c)) (A6 0 (.slice (some ⟨h.length,0,some 12⟩) N D))=true:=λn c N D=>oU λi m C=>by
    have e1:g.length=i:=by simpa[d_]using m
    have S:h.length=i:=by simpa[d_]using C
    omega
   have dC:∀n c,Ci (C9 z1) (A6 0 (.slice (some ⟨g.length,0,some 12⟩) n c))=true:=λn c=>uI av ⟨_,_,_,rfl⟩ λi m C=>by
    have S:g.length=i:=by simpa[d_]using C
    simp_all
   have dD:∀n c,Ci (C9 (.slice (some ⟨g.length,0,some 12⟩) n c)) (A6 0 x1)=true:=λn c=>uI ⟨_,_,_,rfl⟩ an λi m C=>by
    have S:g.length=i:=by simpa[d_]using m
    grind
   refine ae (x:=()) (by
    repeat' (first|exact eR|refine cY ?_ ?_)
    all_goals first|exact OM ap|exact dA _ _ _ _|exact dB _ _ _ _|exact dC _ _|exact dD _ _) ?_
   try simp(disch:=omega)only[↓mc]
   try rw[aT (by omega)]
   try grind)
 grind
abbrev Sk:=Cl×Value×List Nat
def B2(s:Sk):Tn:=bU s.1++[s.2.1]
def di(s:Sk):(B2 s).length=4:=rfl
def FA(s:Sk):Dc:=(s.1,s.2.2)
def Eu(n0:Nat)(h:HL)(Q:List Sk):Prop:=(∀p∈Q,e_ n0 h p.2.1 1 j_ p.2.2)/\Q.Pairwise λp q=>∀b,d_ p.2.1=some b->d_ q.2.1≠some b
def Eu.nil(n0:Nat)(h:HL):Eu n0 h []:=⟨λp a=>(by cases a),.nil⟩
def Eu.perm{n0:Nat}{h:HL}{Q c:List Sk}(e:Eu n0 h Q)(d:c.Perm Q):Eu n0 h c:=
 ⟨λp h=>e.1 p (d.mem_iff.1 h),(d.pairwise_iff (λh b f a=>h b a f)).2 e.2⟩
def Eu.i_{n0:Nat}{h h':HL}{Q:List Sk}(b:Eu n0 h Q)(c:∀p∈Q,∀(j:Nat) o,h[j]?=some o->d_ p.2.1=some j->h'[j]?=some o):Eu n0 h' Q:=
 ⟨λp a=>(b.1 p a).i_ (c p a),b.2⟩
def Eu.cons{n0:Nat}{h:HL}{Q:List Sk}(a:Eu n0 h Q){p:Sk}(d:e_ n0 h p.2.1 1 j_ p.2.2)(c:∀q∈Q,∀b,d_ p.2.1=some b->d_ q.2.1≠some b):Eu n0 h (p :: Q):=
 ⟨λq h=>by
  rcases Dy.1 h with rfl|h
  .exact d
  .exact a.1 q h,Je.2 ⟨c,a.2⟩⟩
def Eu.low{n0:Nat}{h:HL}{Q:List Sk}(a:Eu n0 h Q){b:Nat}(j:b<=n0):Eu b h Q:=
 ⟨λp g=>by
  rcases a.1 p g with d|⟨id,c,e,i,f⟩
  .exact .inl d
  .exact .inr ⟨id,c,e,by omega,f⟩,a.2⟩
def fP{i6 i:Type}{n0 e e':Nat}{enc:i6->Tn}{a:i->Tn}{l:List i6}{l':List i}{h:HL}{v v':TR}(o:e_ n0 h v e enc l)(d:e_ n0 h v' e' a l')(n:e≠e'){b:Nat}(g:d_ v=some b):d_ v'≠some b:=by
 intro c;rcases o with⟨rfl,_⟩|⟨id,p,rfl,s,t,_⟩
 .cases g
 rcases d with⟨rfl,_⟩|⟨f,j,rfl,k,m,_⟩
 .cases c
 have q:id=b:=by simpa[d_]using g
 have r:f=b:=by simpa[d_]using c
 simp_all
structure FW(n0:Nat)(h:HL)(zs za zc:Value)(Ms Ma:List Sk)(C:TD):Prop where
 os:e_ n0 h zs 4 B2 Ms
 oa:e_ n0 h za 4 B2 Ma
 oc:e_ n0 h zc 3 my C
 ne:∀b,d_ zs=some b->d_ za≠some b
 pc:Eu n0 h (Ms++Ma)
section
variable {n0:Nat} {h h':HL} {zs za zc:Value} {Ms Ma:List Sk} {C:TD}
def FW.frame(b:FW n0 h zs za zc Ms Ma C)(c:∀(j:Nat) o,h[j]?=some o->h'[j]?=some o):FW n0 h' zs za zc Ms Ma C:=
 ⟨b.os.i_ λj o a _=>c j o a,b.oa.i_ λj o a _=>c j o a,b.oc.i_ λj o a _=>c j o a,b.ne,b.pc.i_ λ_ _ j o a _=>c j o a⟩
def FW.pre(a:FW n0 h zs za zc Ms Ma C)(c:tx h h'):FW n0 h' zs za zc Ms Ma C:=a.frame λ_ _ b=>c.get b
theorem FW.symm(a:FW n0 h zs za zc Ms Ma C):FW n0 h za zs zc Ma Ms C:=
 ⟨a.oa,a.os,a.oc,λb d c=>a.ne b c d,a.pc.perm List.perm_append_comm⟩
def FW.pne(a:FW n0 h zs za zc Ms Ma C){p:Sk}(e:p∈Ms++Ma){b:Nat}(d:d_ p.2.1=some b):d_ zs≠some b/\d_ za≠some b/\d_ zc≠some b:=
 have c:=a.pc.1 p e
 ⟨fP c a.os (by omega) d,fP c a.oa (by omega) d,fP c a.oc (by omega) d⟩
def FW.apS(d:FW n0 h zs za zc Ms Ma C){c:Cl}{y:TR}{g:TC}(r:e_ n0 h y 1 j_ g)(k:∀p∈Ms++Ma,∀b,d_ y=some b->d_ p.2.1≠some b){i:TR}(m:e_ n0 h' i 4 B2 (Ms++[(c,y,g)]))
  (l:∀(j:Nat) o,h[j]?=some o->d_ zs≠some j->h'[j]?=some o) (u:d_ i=d_ zs∨∃j,d_ i=some j/\h.length<=j):FW n0 h' i za zc (Ms++[(c,y,g)]) Ma C:=by
 refine⟨m,d.oa.i_ λj o f a=>l j o f λe=>d.ne j e a,d.oc.i_ λj o f a=>l j o f λe=>fP d.os d.oc (by omega) e a,λb n q=>?_,?_⟩
 .rcases u with e|⟨j,e,v⟩
  .exact d.ne b (e▸n) q
  .rw[e]at n;cases n;have:=(d.oa.d_ q).2;omega
 .have s:Eu n0 h ((c,y,g) :: (Ms++Ma)):=d.pc.cons r k;have t:=s.i_ (h':=h') λp hp j o f a=>l j o f λe=>by
   rcases Dy.1 hp with rfl|hp
   .exact fP d.os r (by omega) e a
   .exact(d.pne hp a).1 e
  refine t.perm ?_
  simp_all
end
def Qe{n0:Nat}{H:HL}{x:TR}{l:TD}(k:e_ n0 H x 3 my l)(m:l.length<=1000) :
  ∃l' h',aI cc ac 88 [.v x] (f_ aa H) [.v x] (f_ aa h')/\l'.Perm l/\E_ l'/\e_ n0 h' x 3 my l'/\∀(j:Nat) o,H[j]?=some o->d_ x≠some j->h'[j]?=some o:=by
 rcases k with⟨rfl,rfl⟩|⟨id,cx,rfl,g,c,h⟩
 .refine⟨[],H,?_,Yq _,.nil,.inl ⟨rfl,rfl⟩,λj o b _=>b⟩;exact xK x88 (pu rfl u_) (by
   unfold f88;simp only[u7]
   repeat (first|simp(disch:=omega)only[↓mc]|refine ae (x:=(0:Int)) rfl ?_|refine zK 2 ?_)
   simp_all)
 .obtain⟨l',d,a,f⟩:=M0 (cx:=cx) c m;refine⟨l',_,d,a,f,.inr ⟨id,cx,by rw[a.length_eq],g,bA (ai c),by rw[a.length_eq];exact h⟩,λj o b i=>?_⟩;unfold m';rw[Ha (λe=>i (by rw[e];rfl))];exact b
def OO(w v a b:Nat):Nat:=if Cn w v a 0=some b then 0 else if Cn w v a 1=some b then 1 else 2
def mU{w v:Nat}(h:Sh w v){a b e:Nat}(f:a<4*w*v)(i:e<3)(l:Cn w v a e=some b):OO w v a b=e:=by
 have m:=(dG h f).2.2.2.2;have n:∀d,d<3->Cn w v a d=some b->d=e:=λd c g=>by
  have j:=(du h f i l).2.2.2.1;have k:=(du h f c g).2.2.2.1;exact xn m c i (k.symm.trans j)
 unfold OO
 grind
def OG(w v:Nat)(P:TH)(o:Bool)(p:Nz):DO:=(ofNat p.1,ofNat (OO w v p.1 p.2.1),if decide ((P p.1).1<4)=o then 2 else 1)
def DH(w v:Nat)(P:TH)(o:Bool)(ln:Ln)(a:List Nz):TD:=(a.filter λp=>decide (p.2.2=ln)).map (OG w v P o)
def fR(ln:Ln)(s:Bool)(L:List Dc)(r:Mv)(j:Nat):Mv:=if 0∈(Gr ln s (L.take j)).flatMap Prod.snd then af r (wd ln)else r
def RC{ln:Ln}{s:Bool}{L:List Dc}{j:Nat}{c:Cl}{a:TC}(h:L[j]?=some (c,a)):Jy ln s (L.take (j+1))=Jy ln s (L.take j)++(if dP ln c=s then []else [(c,a)]):=by
 unfold Jy;rw[H5,h,r0]
 grind
def N8{ln:Ln}{s:Bool}{L:List Dc}{j:Nat}{c:Cl}{a:TC}(h:L[j]?=some (c,a)):Gr ln s (L.take (j+1))=Gr ln s (L.take j)++(if dP ln c=s then [(aA (wd ln) c,a.reverse)]else []):=by
 unfold Gr;rw[H5,h,r0,Iu]
 grind
def p3{h:HL}{z:TR}{b:List Sk}(c:po h z 4 B2 b):po h z 4 C2 (b.map λs=>(s.1,s.2.1)):=by
 refine⟨λa _=>rfl,?_⟩;have:(b.map λs:Sk=>((s.1,s.2.1):Il)).flatMap C2=b.flatMap B2:=by
  rw[y1];rfl
 rw[this,FM];exact c.2
def ls54{h:HL}{z:TR}{b:List Sk}(c:po h z 4 C2 (b.map λs=>(s.1,s.2.1))):po h z 4 B2 b:=by
 refine⟨λa _=>rfl,?_⟩;have:(b.map λs:Sk=>((s.1,s.2.1):Il)).flatMap C2=b.flatMap B2:=by
  rw[y1];rfl
 have d:=c.2
 simp_all
def Eu.sub{n0:Nat}{h:HL}{Q a:List Sk}(b:Eu n0 h Q)(c:a.Sublist Q):Eu n0 h a:=⟨λp d=>b.1 p (c.mem d),b.2.sublist c⟩
def ud{i6:Type}{a q:i6}:∀ {l:List i6} {k:Nat},l[k]?=some q->(l.set k a).Perm (a :: l.eraseIdx k)
 | [],k,h=>by simp at h
 |b :: l,0,h=>Yq _
 |b :: l,k+1,h=>by
  simp only[q6]at h;simp only[e6,List.eraseIdx_cons_succ];exact((ud h).cons b).trans (List.Perm.swap _ _ _)
def stp{n0:Nat}{h g:HL}{G O S v':TR}{d P Mr:List Sk}{C:TD}{a q:Sk}{k id cx:Nat}{c:TC}(z:G = .slice (some ⟨id,0,le 4⟩) d.length cx)(m:n0<=id)(hY:h[id]?=some (.o (.cells (d.flatMap B2) 4 true)))(B:cx=0∨cx=d.length+1)
  (E:e_ n0 h O 4 B2 P) (x:e_ n0 h S 3 my C) (K:d_ O≠some id) (L:Eu n0 h (d++a :: Mr)) (I:d[k]?=some q) (R:e_ n0 g v' 1 j_ c) (V:∀(j:Nat) o,h[j]?=some o->d_ q.2.1≠some j->g[j]?=some o) (T:∀b,d_ v'=some b->d_ q.2.1=some b∨h.length<=b) :
  g[id]?=some (.o (.cells (d.flatMap B2) 4 true))/\e_ n0 (m' g id 4 B2 (d.set k (q.1,v',c))) G 4 B2 (d.set k (q.1,v',c))/\e_ n0 (m' g id 4 B2 (d.set k (q.1,v',c))) O 4 B2 P/\e_ n0 (m' g id 4 B2 (d.set k (q.1,v',c))) S 3 my C/\Eu n0 (m' g id 4 B2 (d.set k (q.1,v',c))) (d.set k (q.1,v',c)++Mr)/\∀(j:Nat) o,j<n0->h[j]?=some o->(m' g id 4 B2 (d.set k (q.1,v',c)))[j]?=some o:=by
 have r:Eu n0 h (d++Mr):=L.sub (List.Sublist.append_left (List.sublist_cons_self _ _) _);have N:q∈d++Mr:=Ed.2 (.inl (Cb I));have u:=r.1 q N;have n:e_ n0 h G 4 B2 d:=.inr ⟨id,cx,z,m,hY,B⟩;have v:d_ G=some id:=by rw[z];rfl
 have l:g[id]?=some (.o (.cells (d.flatMap B2) 4 true)):=V _ _ hY λe=>fP u n (by omega) e v;have F:e_ n0 g G 4 B2 d:=.inr ⟨id,cx,z,m,l,B⟩;have i:∀(j:Nat) o,h[j]?=some o->d_ q.2.1≠some j->j≠id->(m' g id 4 B2 (d.set k (q.1,v',c)))[j]?=some o:=λj o t X Y=>by
  unfold m'
  grind
 have s:(d++Mr).Perm (q :: (d.eraseIdx k++Mr)):=by
  have:=(ud (a:=q) I).append_right Mr
  rwa [fS I]at this
 have w:=r.perm s.symm;have M:=Je.1 w.2;refine⟨l,.inr ⟨id,cx,by simp_all,m,bA (ai l),by simp_all⟩,E.i_ λj o t f=>i j o t (λe=>fP u E (by omega) e f) (λe=>K (e▸f)),x.i_ λj o t f=>i j o t (λe=>fP u x (by omega) e f) (λe=>fP n x (by omega) v (by rw[f,e])),?_,λj o U t=>i j o t (λe=>by
  have:=(u.d_ e).1;omega) (by omega)⟩
 have y:Eu n0 (m' g id 4 B2 (d.set k (q.1,v',c))) (d.eraseIdx k++Mr):=by
  have Q:Eu n0 h (d.eraseIdx k++Mr):=w.sub (List.sublist_cons_self _ _);refine Q.i_ λp H j o t f=>i j o t (λe=>M.1 p H j e f) λe=>?_;subst e;exact fP (Q.1 p H) n (by omega) f v
 have D:e_ n0 (m' g id 4 B2 (d.set k (q.1,v',c))) v' 1 j_ c:=R.i_ λj o t f=>by
  unfold m';rw[Ha (λe=>fP R F (by omega) f (by rw[v,e]))];exact t
 refine(y.cons (p:=(q.1,v',c)) D λp H b A J=>?_).perm ((ud I).append_right Mr);simp only at A;rcases T b A with e|W
 .grind
 .have:=((r.1 p (s.mem_iff.2 (E2 _ H))).d_ J).2;omega
def P6{o:Bool}{a:Dc}:∀ {S:List Dc},EW o S a≠[]
 | []=>by simp[EW]
 |y :: S=>by
  unfold EW;split<;>simp
def xj{o:Bool}:∀ {A S:List Dc},S≠[]->A.foldl (EW o) S≠[]
 | [],S,h=>h
 |a :: A,S,_=>by
  rw[Wn];exact xj P6
def ZK{ln:Ln}{s o:Bool}{L:List Dc}(h:L≠[]):IR ln s o L≠[]:=by
 unfold IR;by_cases b:Jy ln s L=[]
 .cases hA:Gr ln s L with
  |cons a A=>
   rw[Wn];exact xj P6
  |nil=>
   exfalso;cases L with
   |nil=>exact h rfl
   |cons x L=>
    unfold Jy at b;unfold Gr at hA
    simp_all
 .exact xj b
def mo{w v:Nat}{l:TD}{G:TH}{r:Mv}{n:Nat}{p:Nz}(h:p∈CL w v l G r n):p.1<n/\∃k,k<3/\Cn w v p.1 (eK (p.1%4) k)=some p.2.1/\p.1<p.2.1/\Ip w v l p.1 k=0/\p.2.2=q8 (aA (af (G p.1) r) (n4 w p.1)) (eT (af (G p.1) r).1 (eK (p.1%4) k)):=by
 unfold CL at h;obtain⟨a,b,d⟩:=Gc.1 h;have b:=Cd.1 b;obtain⟨k,c,e⟩:=QT.1 d;have c:=Cd.1 c;unfold Eb at e
 grind
def MT{w v:Nat}{P:TH}{o:Bool}{ln:Ln}{a:List Nz}{j:Nat}{p:Nz}(h:a[j]?=some p):DH w v P o ln (a.take (j+1))=DH w v P o ln (a.take j)++(if p.2.2=ln then [OG w v P o p]else []):=by
 unfold DH;rw[H5,h,r0,Iu]
 grind
def NR(w v:Nat)(l:TD)(G:TH)(r:Mv)(L:List Dc)(ln:Ln)(s o:Bool)(H:HL)(e:TG)(h':HL):Prop:=
 ∃z d l' c,e=[.i (.ofNat w),.i (.ofNat v),.v z,.i (ofNat (fR ln s L r L.length).1),.i (fR ln s L r L.length).2.1,.i (fR ln s L r L.length).2.2,.v d]/\tx H h'/\
  e_ H.length h' z 3 my l'/\l'.Perm (l++DH w v (λa=>af (G a) r) o ln (CL w v l G r (4*w*v)))/\E_ l'/\po h' d 4 B2 c/\Eu H.length h' c/\(c.map FA).Perm (IR ln s o L)/\c.Pairwise λa b=>CP a.1 b.1=false
def O8{w v:Nat}(h3:S3 w v){l:TD}{H:HL}{x xs:TR}(hl:po H x 3 my l)(hv:∀c∈l,VC w v c)(em:∀c∈l,c.2.2≠0)(hn:l.length<=800){r:Mv}(hr:CD 10000 r){G:TH}(hG:Cs w v l G)
  {L:List Dc} (hL:StL H xs L) (fs:0<L.length) (hu:L.length<=100) (fu:∀a∈L,a.1.2.2<4/\-20000<=a.1.1/\a.1.1<=20000/\-20000<=a.1.2.1/\a.1.2.1<=20000) (dj:∀a∈L,a.2≠[]/\a.2.length<=100)
  {ln:Ln} (ex:1<=ln.1/\ln.1<=4) (gd:-10000<=ln.2/\ln.2<=10000) (s o:Bool) :
  ∃rs h',aI cc ac 46 ([.i (.ofNat w),.i (.ofNat v),.v x]++CI r++[.v xs,.i (.ofNat ln.1),.i ln.2,.i (if s then 1 else 0),.b o]) (f_ aa H) rs (f_ aa h')/\NR w v l G r L ln s o H rs h':=by
 have hs:=h3.sh;obtain⟨b1,b2,b3,b4⟩:=h3.n;have hN:=E4 hs;obtain⟨M,hM,gg,hm⟩:=hL;have cm:=Bh ex (by omega:-100000<=ln.2/\ln.2<=100000);have bm:CD 20000 (wd ln):=zA (n:=10000) gd;have ce:=Au (aY hr (by omega)) (aY bm (by omega));exact x46 (ls:=[.i (.ofNat w),.i (.ofNat v),.v x,.i (ofNat r.1),.i r.2.1,.i r.2.2,.v xs,.i (.ofNat ln.1),.i ln.2,.i (if s then 1 else 0),.b o]) (K:=NR w v l G r L ln s o H) (H:=H) (km (km (pu hl.g_ (km (km (km (pu hM.g_ (km (km (km (HM u_))))))))))) (by
  unfold f46;simp only[u7];refine b_ ?_;refine aj cm ?_;simp only[CI,Dd,DC,Ds]at ce ⊢;refine b_ ?_;refine(e_.emp (i6:=DO) (enc:=my) (n0:=H.length) aH (x5 _)).NB (λ_=>rfl) (by simp) (hl.pre ⟨_,rfl⟩) (by simp;omega) (by simp;omega) ?_;intro zc h0 A f5 es g4 _;rw[Ds]at A;have gu:tx H h0:=bQ ⟨_,rfl⟩ λi o O ho=>es i o ho λe=>by
   have:H.length=i:=by simpa[d_]using e
   omega
  refine b_ ?_;refine ab f5 ?_;refine j8 ?_;generalize go:wd ln=m at *;refine bE (g9:=HL×Value×Value×List Sk×List Sk) L.length (λj t=>[.v t.2.1,.v t.2.2.1,.i (ofNat j),.i (.ofNat w),.i (.ofNat v),.v zc,.i (ofNat (fR ln s L r j).1),.i (fR ln s L r j).2.1,.i (fR ln s L r j).2.2,.v (.slice none 0 0)]) (λ_ t=>t.1)
   (λj t=>tx H t.1/\FW H.length t.1 t.2.1 t.2.2.1 zc t.2.2.2.1 t.2.2.2.2 l/\t.2.2.2.1.map FA=Jy ln s (L.take j)/\t.2.2.2.2.map FA=Gr ln s (L.take j))
   (j0:=0) (s0:=(h0,.slice none 0 0,.slice none 0 0,[],[])) (by simp[fR,Gr]) rfl (CM _) ⟨gu,⟨.nil _ _ _ _,.nil _ _ _ _,A,(λb C=>by cases C),.nil _ _⟩,rfl,rfl⟩ ?_
  rintro j ⟨h,zs,za,Ms,Z⟩ Y ⟨E,hf,Q,a4⟩ a2 D;simp only at E hf Q a4 ⊢;refine b_ ?_;refine bu (hM.pre E) ?_;rw[gg];by_cases I:j<L.length
  case neg=>
   rw[aK (by omega)];refine b_ ?_;obtain rfl:j=L.length:=by omega
   clear D I;rw[Yt]at Q a4;have a1:Ms.length<=100:=by
    have:=congrArg List.length Q;rw[FM]at this;have h2:(Jy ln s L).length<=L.length:=qcI _ _;omega
   have ez:Z.length<=100:=by
    have:=congrArg List.length a4;rw[FM]at this;have h2:(Gr ln s L).length<=L.length:=by
     unfold Gr
     grind
    omega
   have dB:∀a∈Z,a.2.2.length<=100:=λa ha=>by
    have h1:FA a∈Gr ln s L:=a4▸CH.2 ⟨a,ha,rfl⟩;obtain⟨b,C,dl⟩:=CH.1 h1;have h3:=(dj b (Ge.1 C).1).2;have h4:=congrArg (λx:Dc=>x.2.length) dl;simp only[List.length_reverse]at h4;have:(FA a).2=a.2.2:=rfl
    simp_all
   refine bE (g9:=HL×Value×List Sk) Z.length (λi t=>[.v t.2.1,.i (ofNat i)]) (λ_ t=>t.1)
    (λi t=>tx H t.1/\e_ H.length t.1 t.2.1 4 B2 t.2.2/\e_ H.length t.1 za 4 B2 Z/\e_ H.length t.1 zc 3 my l/\(∀b,d_ t.2.1=some b->d_ za≠some b)/\Eu H.length t.1 (t.2.2++Z.drop i)/\t.2.2.map FA=((Gr ln s L).take i).foldl (EW o) (Jy ln s L)/\t.2.2.length<=100+i/\∀q∈t.2.2,q.2.2.length<=100+100*i)
    (j0:=0) (s0:=(h,zs,Ms)) rfl rfl (CM _) ⟨E,hf.os,hf.oa,hf.oc,hf.ne,by simpa using hf.pc,by simpa using Q,by omega,λq hq=>by
     have h1:FA q∈Jy ln s L:=Q▸CH.2 ⟨q,hq,rfl⟩;exact(dj _ (Ge.1 h1).1).2⟩ ?_
   clear E hf Q a1;rintro i ⟨h,zs,Ms⟩ O ⟨E,ap,a0,A,aE,U,Q,a1,cp⟩ a2 D;simp only at E ap a0 A aE U Q a1 cp ⊢;refine b_ ?_;have bk:=a0.ls di;have bl:=ap.ls di;refine bu bk ?_;by_cases I:i<Z.length
   case neg=>
    rw[aK (by omega)];refine b_ ?_;obtain rfl:i=Z.length:=by omega
    clear D I;have g7:(Gr ln s L).length=Z.length:=by grind
    rw[H4 (by omega)]at Q;rw[List.drop_length,GM]at U;have eC:0<Ms.length:=by
     have:=congrArg List.length Q;rw[FM]at this;rw[this];exact kE.2 (ZK (ln:=ln) (s:=s) (o:=o) (L:=L) λe=>by subst e;simp at fs)
    obtain⟨l4,h4,zS,c4,ca,d7,e5,fb⟩:=Rj (p3 bl) (by simpa using eC) (by grind) (λt ht=>by
     obtain⟨q,hq,rfl⟩:=CH.1 ht;exact(U.1 q hq).g_ bq)
    refine am c4 ?_;refine b_ ?_;obtain⟨a3,e0,rfl⟩:=xL e5;have d7:=ls54 d7;have ct:=E.trans ca;obtain⟨hJ,h5,c5,a6,dC⟩:=rH h3 (hl.pre ct) hv em (by omega) (r:=r) (aY hr (by omega));simp only[CI,DC,Ds]at c5;refine am c5 ?_;rcases a6 with⟨rfl,b9⟩|⟨G',T,eb,rfl,B,rfl⟩
    .exact absurd ⟨G,hG.g,hG.z⟩ b9
    refine b_ ?_;have ec:DI w v G' r=DI w v G r:=by
     unfold DI;refine Yy λc hc=>?_;rw[Jl hs eb hG (Cd.1 hc)]
    have ay:po (o3 h4 (DI w v G r) B T) (.slice (some ⟨h4.length,0,le 3⟩) (4*w*v) (4*w*v+1)) 3 q7 (DI w v G r):=dL da VO (by simp[DI]);rw[ec]at dC ⊢;generalize hy:h4.length=bP at *;generalize o3 h4 (DI w v G r) B T=h5 at *;have cw:=ct.trans dC;obtain⟨zP,h6,c6,dD,hh,R⟩:=zO h3 (hl.pre cw) hM.g_ hv em (by omega) hr hG;simp only[CI,DC,Ds]at c6;refine am c6 ?_;refine b_ ?_;have cy:=cw.trans dD;have bn:=dC.trans dD;have eV:=λp (E:p∈CL w v l G r (4*w*v))=>mo E;have hw:=lq (w:=w) (v:=v) (l:=l) (G:=G) (r:=r) (n:=4*w*v);have av:∀b,d_ zc=some b->b≠bP:=λb C=>by
     have:=(A.d_ C).2;have:=ca.len;omega
    have cq:e_ H.length h6 zc 3 my l:=A.i_ λj d Y _=>(ca.trans bn).get Y;have cA:Eu H.length h6 a3:=(U.i_ λp _ j d Y _=>(ca.trans bn).get Y).perm e0;have c9:=d7.pre bn;have cn:=ay.pre dD;unfold NR;generalize CL w v l G r (4*w*v)=ps at *;generalize bt:fR ln s L r L.length=rt at *;clear c4 c5 c6 bl bk ap a0 aE A U hm eb ec;refine bE (g9:=HL×Value) ps.length (λj t=>[.i (ofNat j),.i (.ofNat w),.i (.ofNat v),.v t.2,.i (ofNat rt.1),.i rt.2.1,.i rt.2.2,.v zS]) (λ_ t=>t.1)
     (λj t=>tx H t.1/\e_ H.length t.1 t.2 3 my (l++DH w v (λa=>af (G a) r) o ln (ps.take j))/\po t.1 zS 4 B2 a3/\Eu H.length t.1 a3/\po t.1 zP 4 OR ps/\po t.1 (.slice (some ⟨bP,0,le 3⟩) (4*w*v) (4*w*v+1)) 3 q7 (DI w v G r)/\∀b,d_ t.2=some b->b≠bP)
     (j0:=0) (s0:=(h6,zc)) rfl rfl (CM _) ⟨cy,by simpa[DH]using cq,c9,cA,R,cn,av⟩ ?_
    clear cy cq c9 cA R cn av;rintro j ⟨g,zc⟩ Y ⟨bs,A,al,ag,R,ay,av⟩ a2 D;simp only at bs A al ag R ay av ⊢;have hD:(DH w v (λa=>af (G a) r) o ln (ps.take j)).length<=j:=by
     unfold DH
     grind
    have f0:(l++DH w v (λa=>af (G a) r) o ln (ps.take j)).length<=950:=by
     grind
    refine b_ ?_;refine bu R ?_;by_cases I:j<ps.length
    case neg=>
     obtain rfl:j=ps.length:=by omega
     rw[aK (x5 _)];refine b_ ?_;rw[Yt]at A f0;obtain⟨l8,h8,c8,e6,fl,eM,ds⟩:=Qe A (by omega);refine am c8 ?_;refine b_ ?_;have gv:tx H h8:=bQ bs λi d O ho=>ds i d ho λe=>by
      have:=(A.d_ e).1;omega
     refine⟨zc,zS,l8,a3,by rw[←bt]<;>rfl,gv,eM,e6,fl,al.i_ λi d O C=>ds i d O λe=>PT (e:=3) (e':=4) (A.ls λ_=>rfl) al (by decide) e C,ag.i_ λp E i d O C=>ds i d O λe=>fP A (ag.1 p E) (by omega) e C,?_,?_⟩
     .show(a3.map FA).Perm (List.foldl (EW o) (Jy ln s L) (Gr ln s L))
      grind
     .have:=M_.1 (show(a3.map λt:Sk=>((t.1,t.2.1):Il)).Pairwise _ from fb);exact this
    rw[aL I];refine b_ ?_;obtain⟨p,E⟩:=aq I;obtain⟨dT,k,hk,eX,a6,hF,hE⟩:=eV p (Cb E);have bx:=MT (w:=w) (v:=v) (P:=λa=>af (G a) r) (o:=o) (ln:=ln) E;refine dF (cs:=[.int .u8 (ofNat p.2.2.1),.int .i64 p.2.2.2]) R rfl E rfl (by omega) ?_;refine b_ ?_;refine zJ (λf2=>?_) (λaE=>?_)
    case refine_2=>
     simp(disch:=omega)only[↓mc,Ex];rw[aT (by omega)];refine D (g,zc) I ⟨bs,?_,al,ag,R,ay,av⟩
     grind
    simp(disch:=omega)only[↓mc,DJ];have gy:p.2.2=ln:=Wq (by grind) f2.2;rw[n_ gy]at bx;refine dF (cs:=[.int .i64 (ofNat p.1)]) R rfl E rfl (by omega) ?_;refine b_ ?_;have gx:(DI w v G r)[p.1]?=some (af (G p.1) r):=kf dT;refine dF (cs:=[.int .u8 (ofNat (af (G p.1) r).1)]) ay rfl gx rfl (by omega) ?_;refine b_ ?_;have d8:=OQ h3 dT hk eX;have ei:OO w v p.1 p.2.1=eK (p.1%4) k:=mU hs dT (ip _ _) eX;rw[←ei]at d8;have bb:∀kd:Int,kd=(if decide ((af (G p.1) r).1<4)=o then 2 else 1)->∀z2 N,e_ H.length N z2 3 my ((l++DH w v (λa=>af (G a) r) o ln (ps.take j))++[((ofNat p.1,ofNat (OO w v p.1 p.2.1),kd):DO)])->(∀(i:Nat) d,g[i]?=some d->d_ zc≠some i->N[i]?=some d)->(d_ z2=d_ zc∨∃i,d_ z2=some i/\g.length<=i)->a2 [.i (ofNat j+1),.i (.ofNat w),.i (.ofNat v),.v z2,.i (ofNat rt.1),.i rt.2.1,.i rt.2.2,.v zS] N:=by
     intro kd ga z2 N J f dl;refine D (N,z2) I ⟨bQ bs λi d O ho=>f i d ho λe=>by
      have:=(A.d_ e).1;omega,?_,al.i_ λi d O C=>f i d O λe=>PT (e:=3) (e':=4) (A.ls λ_=>rfl) al (by decide) e C,ag.i_ λp E i d O C=>f i d O λe=>fP A (ag.1 p E) (by omega) e C,R.i_ λi d O C=>f i d O λe=>PT (e:=3) (e':=4) (A.ls λ_=>rfl) R (by decide) e C,ay.i_ λi d O C=>f i d O λe=>av i e ?_,λb C=>?_⟩
     .rw[bx,←EC];have:OG w v (λa=>af (G a) r) o p=(ofNat p.1,ofNat (OO w v p.1 p.2.1),kd):=by
       unfold OG;rw[ga]
      simp_all
     .have:bP=i:=by simpa[d_]using C
      omega
     .simp only at C;rcases dl with e|⟨i,e,eu⟩
      .exact av b (e▸C)
      .rw[e]at C;cases C;have:=ay.blkLt (i:=bP) rfl;omega
    by_cases fn:(af (G p.1) r).1<4
    case' pos=>rw[td (show ofNat (af (G p.1) r).1<4 by grind)]
    case' neg=>rw[tf (show(4:Int)<=ofNat (af (G p.1) r).1 by grind)]
    case' pos=>have hd:=Fo fn
    case' neg=>have hd:=Gg fn
    all_goals
     rw[hd]at bb;cases o
    all_goals
     try rw[H0 rfl]
     simp(disch:=omega)only[↓mc,DJ,Ex];refine dF (cs:=[.int .i64 (ofNat p.1)]) R rfl E rfl (by omega) ?_;refine b_ ?_;refine dF (cs:=[.int .i64 (ofNat p.1)]) R rfl E rfl (by omega) ?_;refine b_ ?_;refine dF (cs:=[.int .i64 (ofNat p.2.1)]) R rfl E rfl (by omega) ?_;refine b_ ?_;refine aj d8 ?_;refine b_ ?_;refine A.GX (a:=((ofNat p.1,ofNat (OO w v p.1 p.2.1),_):DO)) (λ_=>rfl) (by have:=bs.len;omega) rfl rfl rfl (by
      unfold ba;rw[DK (by omega),DK (by omega)];rfl) ?_
     intro z2 N J X f ad F;refine b_ ?_;refine ab X ?_;refine j8 ?_;rw[aT (by omega)]
     simp_all
   rw[aL I];refine b_ ?_;obtain⟨a,ha⟩:=aq I;have dn:Z.drop i=a :: Z.drop (i+1):=by
    rw[SB I]
    simp_all
   have fr:(Gr ln s L)[i]?=some (FA a):=by
    grind
   have cd:((Gr ln s L).take (i+1)).foldl (EW o) (Jy ln s L)=EW o (Ms.map FA) (FA a):=by
    rw[H5,fr,n9,←Q];rfl
   rw[dn]at U;have dk:=dB a (Cb ha);refine bE (g9:=HL×List Sk×Bool) Ms.length (λk t=>[.b t.2.2,.i (ofNat k)]) (λ_ t=>t.1)
    (λk t=>(t.2.2=false/\t.1=h/\t.2.1=Ms/\∀j,j<k->∀q,Ms[j]?=some q->q.1≠a.1)∨(t.2.2=true/\tx H t.1/\e_ H.length t.1 zs 4 B2 t.2.1/\e_ H.length t.1 za 4 B2 Z/\e_ H.length t.1 zc 3 my l/\Eu H.length t.1 (t.2.1++Z.drop (i+1))/\t.2.1.map FA=EW o (Ms.map FA) (FA a)/\t.2.1.length=Ms.length/\∀q∈t.2.1,q.2.2.length<=100+100*(i+1)))
    (j0:=0) (s0:=(h,Ms,false)) rfl rfl (CM _) (.inl ⟨rfl,rfl,rfl,λj Y=>by omega⟩) ?_
   rintro k ⟨g,M2,fd⟩ hk cl b0 W;simp only at cl ⊢;refine b_ ?_;rcases cl with⟨rfl,rfl,rfl,b9⟩|⟨rfl,V,cr,eF,eL,eZ,eD,g8,eB⟩
   case inr=>
    refine bu (cr.ls di) ?_;have bb:a2 [.v zs,.i (ofNat i+1)] g:=D (g,zs,M2) I ⟨V,cr,eF,eL,aE,eZ,by rw[cd];exact eD,by grind,eB⟩;refine xF (λ_=>?_) (λ_=>?_)
    all_goals
     simp(disch:=omega)only[↓mc,DJ];rw[aT (by omega)];exact bb
   refine bu bl ?_;by_cases ax:k<M2.length
   case neg=>
    rw[aK (by omega)];simp(disch:=omega)only[↓mc,Ex];have b7:=U.1 a (Ed.2 (.inr M9));have b6:=b7.g_ bq;refine aP bk rfl ha ?_;rw[show B2 a=[.int .i64 a.1.1,.int .i64 a.1.2.1,.int .u8 (ofNat a.1.2.2),a.2.1]from rfl];refine b_ ?_;refine ab b6 ?_;refine j8 ?_;refine ap.GX (a:=a) di (by have:=E.len;omega) rfl rfl rfl (by
     unfold ba;rw[DK (by omega),DK (by omega)];rfl) ?_
    intro z2 N J X f ad F;refine b_ ?_;refine ab X ?_;refine j8 ?_;rw[aT (by omega)];have a6:=E.len;refine D (N,z2,M2++[a]) I ⟨bQ E λj d Y ho=>f j d ho λe=>by
     have:=(ap.d_ e).1;omega,J,a0.i_ λj d Y C=>f j d Y λe=>aE j e C,A.i_ λj d Y C=>f j d Y λe=>fP ap A (by omega) e C,λb C a8=>?_,?_,?_,by grind,λq hq=>?_⟩
    .rcases F with e|⟨j,e,eu⟩
     .grind
     .simp only at C;rw[e]at C;cases C;have:=(a0.d_ a8).2;omega
    .rw[EC];exact U.i_ λp E j d Y C=>f j d Y λe=>fP ap (U.1 p E) (by omega) e C
    .rw[cd,zu]
     .grind
     .intro j t ht;rw[EL]at ht;cases hx:M2[j]? with
      |none=>rw[hx]at ht;cases ht
      |some q=>
       rw[hx]at ht;cases ht;exact b9 j (by grind) q hx
    grind
   rw[aL ax];simp(disch:=omega)only[↓mc,Ex];obtain⟨q,hq⟩:=aq ax;refine dF (cs:=[.int .i64 q.1.1,.int .i64 q.1.2.1,.int .u8 (ofNat q.1.2.2)]) bl rfl hq rfl (by omega) ?_;refine b_ ?_;refine dF (cs:=[.int .i64 a.1.1,.int .i64 a.1.2.1,.int .u8 (ofNat a.1.2.2)]) bk rfl ha rfl (by omega) ?_;refine b_ ?_;rw[r1];by_cases he:q.1=a.1
   case neg=>
    rw[Gg he];simp(disch:=omega)only[↓mc,Ex];rw[aT (by omega)];exact W (g,M2,false) ax (.inl ⟨rfl,rfl,rfl,λj Y t ht=>by
     grind⟩)
   rw[Fo he];simp(disch:=omega)only[↓mc,DJ];have e9:=Cb hq;have d0:=U.1 q (Ed.2 (.inl e9));have b7:=U.1 a (Ed.2 (.inr M9));have e7:=d0.g_ bq;have b6:=b7.g_ bq;have dk:=b7.ls bq;have hg:=cp q e9;have a6:=E.len;have cf:∀(id cx:Nat) (v':TR) (N:HL) (bC:TC),zs = .slice (some ⟨id,0,le 4⟩) M2.length cx->H.length<=id->g[id]?=some (.o (.cells (M2.flatMap B2) 4 true))->(cx=0∨cx=M2.length+1)->e_ H.length N v' 1 j_ bC->(∀(j:Nat) d,g[j]?=some d->d_ q.2.1≠some j->N[j]?=some d)->(∀b,d_ v'=some b->d_ q.2.1=some b∨g.length<=b)->bC=(if o then q.2.2++a.2.2 else a.2.2++q.2.2)->
     N[id]?=some (.o (.cells (M2.flatMap B2) 4 true))/\b0 [.b true,.i (ofNat k+1)] (m' N id 4 B2 (M2.set k (q.1,v',bC))):=by
    intro id cx v' N bC c1 c2 c3 c4 c5 c6 c7 c8;obtain⟨d1,d2,d3,d4,d5,d6⟩:=stp (Mr:=Z.drop (i+1)) (a:=a) c1 c2 c3 c4 a0 A (λe=>aE id (by rw[c1];rfl) e) U hq c5 c6 c7;refine⟨d1,W (_,M2.set k (q.1,v',bC),true) ax (.inr ⟨rfl,bQ E d6,d2,d3,d4,d5,?_,by simp,λt ht=>?_⟩)⟩
    .rw[sk,KP (a:=FA a) (x:=FA q) (k:=k) (by grind) he,c8]
     .rfl
     .intro j Y t ht;rw[EL]at ht;cases hx:M2[j]? with
      |none=>rw[hx]at ht;cases ht
      |some q'=>
       rw[hx]at ht;cases ht;exact b9 j Y q' hx
    grind
   obtain⟨id,cx,gC,ck,hY,eg⟩ : ∃id cx,zs = .slice (some ⟨id,0,le 4⟩) M2.length cx/\H.length<=id/\g[id]?=some (.o (.cells (M2.flatMap B2) 4 true))/\(cx=0∨cx=M2.length+1):=by
    rcases ap with⟨_,e⟩|h
    .subst e;simp at ax
    .exact h
   subst gC;cases o with
   |true=>
    refine b_ ?_;refine dF (cs:=[q.2.1]) bl rfl hq rfl (by omega) ?_;refine b_ ?_;refine ab e7 ?_;refine j8 ?_;refine dF (cs:=[a.2.1]) bk rfl ha rfl (by omega) ?_;refine b_ ?_;refine ab b6 ?_;refine j8 ?_;refine d0.NB bq a6 dk (by omega) (by omega) ?_;intro v' N J X f ad F;obtain⟨d1,d2⟩:=cf id cx v' N _ rfl ck hY eg J f (λb C=>F.elim (λe=>.inl (e▸C)) λ⟨j,e,eu⟩=>.inr (by grind)) rfl;refine b_ ?_;refine ab X ?_;refine j8 ?_;refine pX (a':=((q.1,v',q.2.2++a.2.2):Sk)) di d1 rfl hq rfl (by simp) rfl ?_;refine b_ ?_;rw[aT (by omega)];exact d2
   |false=>
    refine b_ ?_;obtain⟨gD,fp,fo,f6,ci,_⟩ : ∃id cx,za = .slice (some ⟨id,0,le 4⟩) Z.length cx/\H.length<=id/\g[id]?=some (.o (.cells (Z.flatMap B2) 4 true))/\(cx=0∨cx=Z.length+1):=by
     rcases a0 with⟨_,e⟩|h
     .subst e;simp at I
     .exact h
    have hC:id≠gD:=λe=>aE id rfl (by rw[fo,e];rfl);subst fo;have hB:=ai hY;have g6:=ai ci;have b8:tx g (g++[HO.o (.cells [] 1 true)]):=⟨_,rfl⟩;obtain⟨w1,w2,w3⟩:=Qi (o:=3) (k:=1) (cx:=fp) (n:=Z.length) di (b8.get ci) ha rfl (by omega);refine ae w1 (ae w2 (ab (vR _ _) ?_));refine cU w3 rfl ?_;rw[show((B2 a).drop 3).take 1=[a.2.1]from rfl];refine b_ ?_;refine ab b6 ?_;refine j8 ?_;have f1:e_ (i6:=Nat) H.length (g++[HO.o (.cells [] 1 true)]) (.slice (some ⟨g.length,0,le 1⟩) 0 1) 1 j_ []:=e_.emp aH a6;refine f1.NB bq (by simp;omega) (dk.pre b8) (by simp;omega) (by simp;omega) ?_;intro v1 N J ej f ad F;rw[Ds]at J;have bd:∀(j:Nat) d,g[j]?=some d->N[j]?=some d:=λj d Y=>f j d (dt Y) λe=>by
     have e':g.length=j:=by simpa[d_]using e
     grind
    have an:tx g N:=Jc bd;refine b_ ?_;refine ab ej ?_;refine j8 ?_;obtain⟨u1,u2,u3⟩:=Qi (o:=3) (k:=1) (cx:=cx) (n:=M2.length) di (bd _ _ hY) hq rfl (by omega);refine ae u1 (ae u2 (ab (vR _ _) ?_));refine cU u3 rfl ?_;rw[show((B2 q).drop 3).take 1=[q.2.1]from rfl];refine b_ ?_;refine ab e7 ?_;refine j8 ?_;refine J.NB bq (by have:=an.len;omega) ((d0.ls bq).pre an) (by omega) (by omega) ?_;intro v2 g3 gt ek f9 g5 g0;have hI:∀b,d_ v1=some b->g.length<=b:=λb C=>by
     rcases F with e|⟨j,e,e'⟩
     .rw[C]at e;have:b=g.length:=by simpa[d_]using e
      omega
     grind
    have et:∀(j:Nat) d,g[j]?=some d->g3[j]?=some d:=λj d Y=>f9 j d (bd j d Y) λe=>by
     grind
    have fx:∀b,d_ v2=some b->d_ q.2.1=some b∨g.length<=b:=λb C=>by
     grind
    obtain⟨d1,d2⟩:=cf id cx v2 g3 _ rfl ck hY eg gt (λj d Y _=>et j d Y) fx rfl;refine b_ ?_;refine ab ek ?_;refine j8 ?_;refine pX (a':=((q.1,v2,a.2.2++q.2.2):Sk)) di d1 rfl hq rfl (by simp) rfl ?_;refine j8 ?_;have gE:=jJ (J.ls bq);have n1:∀b,g.length≠id:=λ_=>by omega
    refine ae (x:=()) (by
     refine cY (bS ⟨_,_,_,rfl⟩ λi O=>?_) (cY (bS ⟨_,_,_,rfl⟩ λi O=>?_) (cY (bS ⟨_,_,_,rfl⟩ λi O=>?_) (cY (bS gE λi O=>?_) eR)))
     .have e:g.length=i:=by simpa[d_]using O
      omega
     .have e:g.length=i:=by simpa[d_]using O
      omega
     .have e:g.length=i:=by simpa[d_]using O
      omega
     grind) ?_
    refine j8 ?_;rw[aT (by omega)];exact d2
  rw[aL I];refine b_ ?_;obtain⟨⟨c,y⟩,eA⟩:=aq (l:=M) (i:=j) (by omega);obtain⟨S,b5,a7⟩:=hm j _ eA;simp only at b5 a7;have ef:=Cb b5;have dm:=fu _ ef;have co:=dj _ ef;simp only at dm co;have a1:Ms.length<=100:=by
   have:=congrArg List.length Q;rw[FM]at this;have h2:(Jy ln s (L.take j)).length<=(L.take j).length:=qcI _ _
   grind
  have ez:Z.length<=100:=by
   have:=congrArg List.length a4;rw[FM]at this;have h2:(Gr ln s (L.take j)).length<=(L.take j).length:=by
    unfold Gr
    grind
   grind
  have dA:=E.len;have gA:=a7.g_;refine aP (hM.pre E) rfl eA ?_;rw[show C2 (c,y)=[.int .i64 c.1,.int .i64 c.2.1,.int .u8 (ofNat c.2.2),y]from rfl];refine b_ ?_;refine ab gA ?_;refine j8 ?_;have ea:=Rf (l:=ln) (c:=c) ex (by omega) dm.1 (by omega);simp only[Dd,DC,Ds]at ea;refine aj ea ?_;refine b_ ?_;have e1:=RC (ln:=ln) (s:=s) b5;have e2:=N8 (ln:=ln) (s:=s) b5;have fa:(if dP ln c then(1:Int)else 0)=(if s then 1 else 0)↔dP ln c=s:=by
   grind
  have hH:tx H h:=E;by_cases cb:dP ln c=s
  case neg=>
   rw[CS (λe=>cb (fa.1 e))];refine b_ ?_;have he:e_ (i6:=Nat) H.length (h++[HO.o (.cells [] 1 true)]) (.slice (some ⟨h.length,0,le 1⟩) 0 1) 1 j_ []:=e_.emp aH dA;refine he.NB bq (by simp;omega) (a7.pre (E.E6 _)) (by simp;omega) (by simp;omega) ?_;intro y1 g1 eE b8 f7 ev ee;rw[Ds]at eE;have gb:∀(i:Nat) d,h[i]?=some d->g1[i]?=some d:=λi d O=>f7 i d (dt O) λe=>by
    have:h.length=i:=by simpa[d_]using e
    simp_all
   have V:tx h g1:=Jc gb;refine b_ ?_;refine ab b8 ?_;refine j8 ?_;have a9:=hf.pre V;refine a9.os.GX (a:=((c,y1,S):Sk)) di (by simp at ev;omega) rfl rfl rfl (by
    unfold ba;rw[DK (by omega),DK (by omega)];rfl) ?_
   intro z2 N J X f ad F;have fv:∀b,d_ y1=some b->h.length<=b:=λb C=>by
    rcases ee with e|⟨i,e,e'⟩
    .rw[C]at e;have:b=h.length:=by simpa[d_]using e
     omega
    grind
   have dr:=a9.apS (c:=c) eE (λp E b C a8=>by
    have k1:=fv b C;have k2:=((hf.pc.1 p E).d_ a8).2;omega) J f F
   have an:tx H N:=bQ (E.trans V) λi d O ho=>f i d ho λe=>by
    have:=(hf.os.d_ e).1;omega
   refine b_ ?_;refine ab X ?_;refine j8 ?_;rw[aT (by omega)];have bt:fR ln s L r j=fR ln s L r (j+1):=by
    unfold fR
    grind
   rw[bt];exact D (N,z2,za,Ms++[(c,y1,S)],Z) I ⟨an,dr,by
    rw[Iu,Q,e1,qs cb];rfl,by simp_all⟩
  rw[CQ (fa.2 cb)];refine b_ ?_;refine bu (a7.pre E) ?_;have hz:0<S.length:=kE.2 co.1;refine j8 ?_;rw[K0 (by grind) (by grind)];refine j8 ?_;refine bE (g9:=HL×Value) S.length (λk t=>[.v t.2,.i ((S.length:Int) - 1 - (k:Int)),.i (.ofNat w),.i (.ofNat v),.v zc,.i (ofNat (if 0∈S.reverse.take k then af r m else fR ln s L r j).1),.i (if 0∈S.reverse.take k then af r m else fR ln s L r j).2.1,.i (if 0∈S.reverse.take k then af r m else fR ln s L r j).2.2,.v (.slice none 0 0)]) (λ_ t=>t.1)
   (λk t=>tx h t.1/\e_ h.length t.1 t.2 1 j_ (S.reverse.take k)) (j0:=0) (s0:=(h,.slice none 0 0)) (by simp) rfl (CM _) ⟨.refl _,.nil _ _ _ _⟩ ?_
  rintro k ⟨g,u⟩ hk ⟨V,a5⟩ b0 W;simp only at V a5 ⊢;refine b_ ?_;by_cases ax:k<S.length
  case pos=>
   rw[EZ (show(0:Int)<=(S.length:Int) - 1 - (k:Int)by omega)];refine b_ ?_;obtain⟨id,hY⟩:=aq (l:=S) (i:=S.length - 1 - k) (by omega);have el:S.reverse[k]?=some id:=by grind
   have cd:S.reverse.take (k+1)=S.reverse.take k++[id]:=by rw[H5,el];rfl
   have c0:(S.length:Int) - 1 - (k:Int)=ofNat (S.length - 1 - k):=by
    grind
   refine aP ((a7.pre E).pre V) c0 hY ?_;rw[show j_ id=[.int .i64 (ofNat id)]from rfl];refine b_ ?_;refine a5.GX (a:=id) bq V.len rfl rfl rfl (by
    unfold ba;rw[Ys,DK (by omega),DK (by omega)];rfl) ?_
   intro u2 N J X f ad F;have an:tx h N:=bQ V λi d O ho=>f i d ho λe=>by
    have:=(a5.d_ e).1;omega
   refine b_ ?_;refine ab X ?_;refine j8 ?_;refine aP ((a7.pre E).pre an) c0 hY ?_;rw[show j_ id=[.int .i64 (ofNat id)]from rfl];refine b_ ?_;rw[←cd]at J;have gs:(S.length:Int) - 1 - (k:Int) - 1=(S.length:Int) - 1 - ((k+1:Nat):Int):=by omega
   by_cases h0:id=0
   .subst h0;rw[s_ (show ofNat 0=0 from rfl)];refine b_ ?_;refine aj ce ?_;refine b_ ?_
    simp_all
   .rw[ua (show ¬ofNat id=0 from λe=>h0 (by exact Jg e))];refine b_ ?_;rw[gs];have:=W (N,u2) ax ⟨an,J⟩
    grind
  obtain rfl:k=S.length:=by omega
  rw[FK (show(S.length:Int) - 1 - (S.length:Int)<0 by omega)];refine b_ ?_;rw[H4 (by simp)]at a5 ⊢;have d9:=pz (m:=m) (c:=c) bm.1 (by obtain⟨_,q1,q2,q3,q4,_⟩:=bm;omega) dm.1 (by omega);simp only[Dd,CI,DC,Ds]at d9;refine aj d9 ?_;refine b_ ?_;have a9:=(hf.pre V).symm;refine a9.os.GX (a:=((aA m c,u,S.reverse):Sk)) di (by have:=V.len;omega) rfl rfl rfl (by
   unfold ba;rw[DK (by omega),DK (by omega)];rfl) ?_
  intro z2 N J X f ad F;have eP:e_ H.length g u 1 j_ S.reverse:=by
   rcases a5 with e|⟨id,cx,e1,e2,e3⟩
   .exact .inl e
   .exact .inr ⟨id,cx,e1,by omega,e3⟩
  have dr:=(a9.apS (c:=aA m c) eP (λp E b C a8=>by
   have k1:=(a5.d_ C).1;have k2:=((hf.symm.pc.1 p E).d_ a8).2;omega) J f F).symm
  have an:tx H N:=bQ (E.trans V) λi d O ho=>f i d ho λe=>by
   have:=(hf.oa.d_ e).1;omega
  refine b_ ?_;refine ab X ?_;refine j8 ?_;rw[aT (by omega)];have bt:(if 0∈S.reverse then af r m else fR ln s L r j)=fR ln s L r (j+1):=by
   unfold fR
   grind
  rw[bt];exact D (N,zs,z2,Ms,Z++[(aA m c,u,S.reverse)]) I ⟨an,dr,by simp_all,by
   rw[Iu,a4,e2,n_ cb,go];rfl⟩)
def OD{w v:Nat}(a:S3 w v){l:TD}{G:TH}(o:qn w v l G)(q:G 0=CJ):Cs w v l G:=by
 have p:=a.sh;have m:∀(d c:Nat),c<4*w*v->dst w c=d->CD (20*(d:Int)) (G c):=by
  intro d
  induction d using Nat.strongRecOn with
  |_ d x=>
   intro c h u;have f:=A5.1 (SY w v a.1 a.2.1 a.2.2.1 a.2.2.2) c (Cd.2 h);unfold Nu at f;rw[te,Gd]at f;rcases f.2 with s|t
   .obtain rfl:=Dp s;rw[q];exact zC (by omega)
   .obtain⟨e,i,g⟩:=el.1 t;have i:=Cd.1 i;cases k:Cn w v c e with
    |none=>rw[k]at g;cases g
    |some n=>
     rw[k]at g;have g:=Dp g;obtain⟨b,j,_⟩:=du p h i k;have r:=x (dst w n) (by omega) n b rfl;rw[o n e c b i j];exact aY (yv p b i j r (by omega)) (by omega)
 refine⟨o,q,λc h=>?_⟩;have f:=A5.1 (SY w v a.1 a.2.1 a.2.2.1 a.2.2.2) c (Cd.2 h);unfold Nu at f;rw[te]at f;have u:=Nat.le_of_ble_eq_true f.1;exact aY (m _ c h rfl) (by omega)
def PV{l:TD}(h:E_ l)(d:(l.map aO).Nodup):l.Pairwise λa b=>FG a b=true:=by
 have g:l.Pairwise λa b=>aO a≠aO b:=M_.1 d;refine(List.Pairwise.and h g).imp λ{a b} c=>?_;obtain⟨f,i⟩:=c;have f:=AX.1 f;unfold FG;rw[Gd,te];simp only[Es];have j:¬(a.1=b.1/\a.2.1=b.2.1):=λe=>i (by unfold aO;rw[e.1,e.2]);omega
structure GP(w v:Nat)(k:Int)(l:TD)(r:Mv)(G:TH)(L:List Dc):Prop where
 vk:∀c∈l,VK w v c
 so:l.Pairwise λa b=>FG a b=true
 co:Cs w v l G
 rk:CD k r
 st:Ik (λc=>aA (af (G c) r) (n4 w c)) (range (4*w*v)) L
 ss:L.Pairwise λa b=>CP b.1 a.1=true
def VK.k0{w v:Nat}{c:DO}(h:VK w v c):c.2.2≠0:=by have:=h.2;omega
def z8{w v:Nat}(x:Sh w v){l:TD}{G:TH}{r:Mv}:(CL w v l G r (4*w*v)).Pairwise λp q=>¬(p.1=q.1/\p.2.1=q.2.1):=by
 unfold CL;rw[List.pairwise_flatMap];have D:∀a p,p∈Qw w v l G r a->p.1=a/\∃k,k<3/\Eb w v l G r a k=some p:=λa p d=>by
  obtain⟨k,B,f⟩:=QT.1 d;refine⟨?_,k,Cd.1 B,f⟩;unfold Eb at f
  grind
 refine⟨λa g=>?_,?_⟩
 .have g:=Cd.1 g;unfold Qw;rw[qdi];have t:(range 3).Pairwise λi j=>i<j:=m4;refine(qcG.1 t).imp λ{i j} o=>?_;obtain⟨n,s,C⟩:=o;have n:=Cd.1 n;have s:=Cd.1 s;intro p d q m e;have d:Eb w v l G r a i=some p:=d;have m:Eb w v l G r a j=some q:=m;have c:∀k p,Eb w v l G r a k=some p->Cn w v a (eK (a%4) k)=some p.2.1:=λk p h=>by
   unfold Eb at h
   grind
  have u:=c i p d;have f:=c j q m;rw[e.2]at u;have y:=mU x g (ip _ _) u;have z:=mU x g (ip _ _) f;have e3:eK (a%4) i=eK (a%4) j:=y.symm.trans z;have:i=j:=by rw[←qw (q:=a%4) n,e3,qw s]
  omega
 .have t:(range (4*w*v)).Pairwise λi j=>i<j:=m4;refine t.imp λ{a b} A p d q m e=>?_
  grind
def X7{w v:Nat}(g:S3 w v){k:Int}{l:TD}{r:Mv}{G:TH}(h:Cs w v l G)(q:CD k r){p:Nz}(j:p∈CL w v l G r (4*w*v)):(1<=p.2.2.1/\p.2.2.1<=4)/\-(2*k+32)<=p.2.2.2/\p.2.2.2<=2*k+32/\CD (2*k+32) (wd p.2.2):=by
 obtain⟨b,i,s,m,o,n,a⟩:=mo j;have f:eT (af (G p.1) r).1 (eK (p.1%4) i)<3:=lS (ip _ _);have d:=PM (c:=aA (af (G p.1) r) (n4 w p.1)) (e:=eT (af (G p.1) r).1 (eK (p.1%4) i)) iW f (th g h q b);rw[←a]at d;refine⟨by rw[a];exact KD iW f,by omega,by omega,aY d.1 (by omega)⟩
def Py{w v:Nat}{l:TD}{u k n:Nat}(b:Cn w v u (eK (u%4) k)=some n)(a:u<n):Ip w v l u k=Su l u (eK (u%4) k):=by
 unfold Ip
 grind
def GP.keys{w v:Nat}(J:S3 w v){k:Int}{l:TD}{r:Mv}{G:TH}{L:List Dc}(h:GP w v k l r G L){ln:Ln}{o:Bool}{u e n:Nat}(I:u<4*w*v)(F:e<3)(C:Cn w v u e=some n)(B:u<n) :
  ((ofNat u,ofNat e):Ku)∈(DH w v (λa=>af (G a) r) o ln (CL w v l G r (4*w*v))).map aO↔(Ch l u e=false/\q8 (aA (af (G u) r) (n4 w u)) (eT (af (G u) r).1 e)=ln):=by
 have H:=J.sh;have g:∀c∈l,c.2.2≠0:=λc x=>(h.vk c x).k0;constructor
 .intro M;obtain⟨c,x,b⟩:=CH.1 M;unfold DH at x;obtain⟨p,y,rfl⟩:=CH.1 x;obtain⟨y,j⟩:=Ge.1 y;have j:=of_decide_eq_true j;obtain⟨E,i,P,s,t,d,q⟩:=mo y;have A:=mU H E (ip _ _) s;unfold aO OG at b;simp only[QR]at b;have z:p.1=u:=Jg b.1;have m:OO w v p.1 p.2.1=e:=Jg b.2;rw[A]at m;subst z;rw[m]at q;refine⟨?_,q.symm.trans j⟩;rw[←Gb,←rf g];intro D;rw[Py s t,m]at d;exact D d
 .rintro⟨K,O⟩;have f:eK (u%4) (eK (u%4) e)=e:=qw F;have d:Eb w v l G r u (eK (u%4) e)=some (u,n,ln):=by
   unfold Eb;rw[f,C];simp only;have N:Ip w v l u (eK (u%4) e)=0:=by
    rw[Py (n:=n) (by rw[f];exact C) B,f];rcases Int.lt_or_le 0 (Su l u e)with z|z
    .have:=(rf (l:=l) g (u:=u) (e:=e)).1 (by omega)
     simp_all
    .rcases Int.lt_or_le (Su l u e) 0 with m|m
     .have:=(rf (l:=l) g (u:=u) (e:=e)).1 (by omega)
      simp_all
     .omega
   simp_all
  have y:((u,n,ln):Nz)∈CL w v l G r (4*w*v):=by
   unfold CL;exact Gc.2 ⟨u,Cd.2 I,QT.2 ⟨eK (u%4) e,Cd.2 (ip _ _),d⟩⟩
  refine CH.2 ⟨OG w v (λa=>af (G a) r) o (u,n,ln),?_,?_⟩
  .unfold DH
   grind
  .unfold aO OG;simp only;rw[mU H I F C]
def tb{a b:Cl}(h:CP a b=false)(c:a≠b):CP b a=true:=by
 have h:=vm.1 h;refine wT.2 ?_
 grind
def GP.fold{w v:Nat}(E:S3 w v){k:Int}(hk:0<=k){l:TD}{r:Mv}{G:TH}{L:List Dc}(h:GP w v k l r G L){ln:Ln}{s o:Bool}(V:∃p∈CL w v l G r (4*w*v),p.2.2=ln)
  {l':TD} (m:l'.Perm (l++DH w v (λa=>af (G a) r) o ln (CL w v l G r (4*w*v)))) (ap:E_ l') {L':List Dc} (J:L'.Perm (IR ln s o L)) (an:L'.Pairwise λa b=>CP a.1 b.1=false) :
  GP w v (3*k+32) l' (fR ln s L r L.length) (O1 w ln s G r) L':=by
 have D:=E.sh;obtain⟨p0,Y,M⟩:=V;have S:=X7 E h.co h.rk Y;rw[M]at S;have I:=S.2.2.2;have Q:∀c,c<4*w*v->(G c).1<8:=λc d=>(h.co.ok c d).1;have f:=RY (l':=l') D h.co.g Q h.rk.1 S.1 (s:=s) λu e n hu U W C=>by
  have h1:=h.keys E (ln:=ln) (o:=o) hu U W C;rw[show Ch l' u e=decide (((ofNat u,ofNat e):Ku)∈l'.map aO)from rfl,Es,(m.map aO).mem_iff,Iu,Ed,h1];rw[show(Ch l u e=true)=(((ofNat u,ofNat e):Ku)∈l.map aO)by unfold Ch;rw[Es]]
 have T:=OD E f.1 f.2;have hN:0<4*w*v:=(E4 D).1;have al:fR ln s L r L.length=GI ln s (af (G 0) r) (n4 w 0):=by
  unfold fR GI;rw[Yt,h.co.z,kR h.rk.1];have ay:0∈(Gr ln s L).flatMap Prod.snd↔dP ln (aA r (n4 w 0))=s:=by
   have aE:∀x∈L,∀c∈x.2,c=0->x.1=aA r (n4 w 0):=λx P c d O=>by
    have:=h.st.at' x P c d;simp only[O,h.co.z]at this;rw[kR h.rk.1]at this;exact this.symm
   constructor
   .intro hm;obtain⟨a,R,O⟩:=Gc.1 hm;obtain⟨x,P,rfl⟩:=CH.1 R
    grind
   .intro a3;have O:0∈L.flatMap Prod.snd:=h.st.pm.mem_iff.2 (Cd.2 hN);obtain⟨x,P,ax⟩:=Gc.1 O;refine Gc.2 ⟨(aA (wd ln) x.1,x.2.reverse),CH.2 ⟨x,Ge.2 ⟨P,Fo ?_⟩,rfl⟩,by simpa using ax⟩
    grind
  simp_all
 have av:Ik (λc=>aA (af (O1 w ln s G r c) (fR ln s L r L.length)) (n4 w c)) (range (4*w*v)) (IR ln s o L):=h.st.fold λc d=>by
  have d:=Cd.1 d;have hq:(n4 w c).2.2<4:=(dG D d).2.2.2.2;rw[al,O2];unfold GI;split
  .rw[Bi fH (rz _) hq]
  .rfl
 have A:=av.perm J;have N:∀c∈DH w v (λa=>af (G a) r) o ln (CL w v l G r (4*w*v)),VK w v c:=λc d=>by
  unfold DH at d;obtain⟨p,m,rfl⟩:=CH.1 d;obtain⟨m,_⟩:=Ge.1 m;obtain⟨y,i,hi,t,K,a2,J⟩:=mo m;have H:=mU D y (ip _ _) t;have a0:(OG w v (λa=>af (G a) r) o p).2.2=1∨(OG w v (λa=>af (G a) r) o p).2.2=2:=by
   unfold OG
   grind
  refine⟨⟨p.1,OO w v p.1 p.2.1,p.2.1,rfl,rfl,y,by rw[H];exact ip _ _,by rw[H];exact t,K,by omega,by omega⟩,by omega,by omega⟩
 have X:((l++DH w v (λa=>af (G a) r) o ln (CL w v l G r (4*w*v))).map aO).Nodup:=by
  rw[Iu,kG];refine⟨lY h.so,?_,λa R b B e=>?_⟩
  .unfold DH;rw[SD,List.Nodup,M_];refine(qcG.1 ((z8 D (l:=l) (G:=G) (r:=r)).filter _)).imp λ{p q} Z e=>?_;obtain⟨m,hq,a1⟩:=Z;obtain⟨y,i,hi,t,_⟩:=mo (Ge.1 m).1;obtain⟨ag,j,hj,ad,_⟩:=mo (Ge.1 hq).1;simp only[Function.comp,aO,OG,QR]at e;have e1:p.1=q.1:=Jg e.1;have e2:OO w v p.1 p.2.1=OO w v q.1 q.2.1:=Jg e.2;rw[mU D y (ip _ _) t,mU D ag (ip _ _) ad]at e2
   simp_all
  .subst e;obtain⟨c,d,rfl⟩:=CH.1 B;obtain⟨⟨u,e,n,q1,q2,hu,U,W,C,_⟩,_⟩:=N c d;have hk:aO c=((ofNat u,ofNat e):Ku):=by unfold aO;rw[q1,q2]
   rw[hk]at R B;have:=((h.keys E hu U W C).1 B).1;unfold Ch at this
   simp_all
 refine⟨λc d=>?_,PV ap ((m.map aO).nodup_iff.2 X),T,?_,A,?_⟩
 .rcases Ed.1 (m.mem_iff.1 d)with d|d
  .exact h.vk c d
  .exact N c d
 .unfold fR;split
  .exact aY (eh h.rk I) (by omega)
  .exact aY h.rk (by omega)
 .have h2:L'.Pairwise λa b=>a.1≠b.1:=M_.1 A.nd;exact(List.Pairwise.and an h2).imp λ{a b} F=>tb F.1 F.2
def pb{n0:Nat}{h:HL}{z:TR}{a:List Sk}(e:po h z 4 B2 a)(d:Eu n0 h a):StL h z (a.map FA):=by
 refine⟨a.map λs=>(s.1,s.2.1),p3 e,by simp,λi m b=>?_⟩;rw[EL]at b;cases c:a[i]? with
 |none=>rw[c]at b;cases b
 |some q=>
  rw[c]at b;cases b;exact⟨q.2.2,by rw[EL,c];rfl,(d.1 q (Cb c)).ls bq⟩
def PG{L:List Dc}(h:∀s∈L,s.2≠[]):L.length<=(L.flatMap Prod.snd).length:=by
 induction L with
 |nil=>simp
 |cons a L c=>
  rw[SF,GA,Wk];have b:=kE.2 (h a M9)
  grind
def PI{L:List Dc}{a:Dc}(h:a∈L):a.2.length<=(L.flatMap Prod.snd).length:=by
 induction L with
 |nil=>cases h
 |cons b L c=>
  grind
section
variable {w v:Nat} {k:Int} {l:TD} {r:Mv} {G:TH} {L:List Dc}
def GP.tot(h:GP w v k l r G L):(L.flatMap Prod.snd).length=4*w*v:=by rw[h.st.pm.length_eq,SG]
def GP.lenL(h:GP w v k l r G L):L.length<=4*w*v:=by have:=PG h.st.ne;rw[h.tot]at this;exact this
def GP.lenP(h:GP w v k l r G L){a:Dc}(b:a∈L):a.2.length<=4*w*v:=by have:=PI b;rw[h.tot]at this;exact this
def GP.pos(a:S3 w v)(h:GP w v k l r G L):0<L.length:=by
 have c:=(E4 a.sh).1;have b:=h.tot
 grind
def GP.idlt(h:GP w v k l r G L){a:Dc}(b:a∈L){c:Nat}(d:c∈a.2):c<4*w*v:=Cd.1 (h.st.pm.mem_iff.1 (Gc.2 ⟨a,b,d⟩))
def GP.cell(e:S3 w v)(h:GP w v k l r G L){a:Dc}(b:a∈L):a.1.2.2<4/\-(k+15)<=a.1.1/\a.1.1<=k+15/\-(k+15)<=a.1.2.1/\a.1.2.1<=k+15:=by
 obtain⟨c,f⟩:=List.exists_mem_of_ne_nil _ (h.st.ne a b);have d:aA (af (G c) r) (n4 w c)=a.1:=h.st.at' a b c f;have g:=th e h.co h.rk (h.idlt b f);rw[d]at g;have e:a.1.2.2<4:=by rw[←d];exact iW
 omega
end
def eE(w n:Nat):Bool:=(range n).all λj=>(range j).all λi=>CP (n4 w j) (n4 w i)
def hg:∀w:Nat,1<=w->w<=3->eE w 36=true:=by
 have a:((range 3).all λw=>eE (w+1) 36)=true:=by decide +kernel
 intro w b c;have:=A5.1 a (w - 1) (Cd.2 (by omega))
 simp_all
def lB{w v:Nat}(a:S3 w v){i j:Nat}(b:i<j)(g:j<4*w*v):CP (n4 w j) (n4 w i)=true:=by
 obtain⟨c,d,e,f⟩:=a.n;have:=A5.1 (hg w a.1 a.2.1) j (Cd.2 (by omega))
 simp_all
def O'{w v:Nat}(m:S3 w v):GP w v 0 [] CJ (λ_=>CJ) (vf w v):=by
 have k:=m.sh;have f:(vf w v).Pairwise λa b=>CP b.1 a.1=true:=by
  unfold vf;rw[M_];have o:(range (4*w*v)).Pairwise λi j=>i<j:=m4;exact(qcG.1 o).imp λ{a b} h=>lB m h.2.2 (Cd.1 h.2.1)
 refine⟨λc d=>(by cases d),.nil,⟨λc e n _ _ _=>?_,rfl,λc _=>zC (by omega)⟩,zC (by omega),⟨?_,λs l c d=>?_,λs k=>?_,?_⟩,f⟩
 .unfold Eg Ch;simp
 .rw[List.Nodup,M_];refine f.imp λ{a b} h e=>?_;have:=wT.1 h
  simp_all
 .obtain⟨i,g,rfl⟩:=CH.1 l;have g:=Cd.1 g;have d:c=i:=by simpa using d
  subst d;show aA (af CJ CJ) (n4 w c)=n4 w c;rw[oC (by decide),P4 (dG k g).2.2.2.2]
 .obtain⟨i,g,rfl⟩:=CH.1 k;simp
 .have:(vf w v).flatMap Prod.snd=range (4*w*v):=by
   unfold vf;rw[y1]
   simp_all
  rw[this]
def U6{w v:Nat}(y:S3 w v){H:HL} :
  ∃x h' d,aI cc ac 44 [.i (.ofNat w),.i (.ofNat v)] (f_ aa H) [.i (.ofNat w),.i (.ofNat v),.v qz,.i 0,.i 0,.i 0,.v x] (f_ aa h')/\tx H h'/\po h' x 4 B2 d/\Eu H.length h' d/\d.map FA=vf w v:=by
 have O:=y.sh;obtain⟨U,V,W,X⟩:=y.n;have Y:=E4 O;have Q:=u44 (ls:=[.i (.ofNat w),.i (.ofNat v)]) (K:=λS h'=>∃x d,S=[.i (.ofNat w),.i (.ofNat v),.v qz,.i 0,.i 0,.i 0,.v x]/\tx H h'/\po h' x 4 B2 d/\Eu H.length h' d/\d.map FA=vf w v) (H:=H) rfl (by
  unfold f44;simp only[u7];refine b_ ?_;refine bE (g9:=HL×Value×List Sk) (4*w*v) (λj s=>[.i (ofNat j),.i (.ofNat w),.i (.ofNat v),.v qz,.i 0,.i 0,.i 0,.v s.2.1]) (λ_ s=>s.1)
   (λj s=>tx H s.1/\FW H.length s.1 s.2.1 (.slice none 0 0) (.slice none 0 0) s.2.2 [] []/\s.2.2.map FA=(range j).map λi=>(n4 w i,[i]))
   (j0:=0) (s0:=(H,.slice none 0 0,[])) rfl rfl (CM _) ⟨.refl _,⟨.nil _ _ _ _,.nil _ _ _ _,.nil _ _ _ _,(λb z=>by cases z),.nil _ _⟩,rfl⟩ ?_
  rintro j ⟨h,x,d⟩ hj ⟨u,l,f⟩ L k;simp only at u l f ⊢;refine b_ ?_;rw[X_ (by omega)];refine j8 ?_;rw[pL (by omega)];refine j8 ?_;by_cases g:j<4*w*v
  case neg=>
   obtain rfl:j=4*w*v:=by omega
   rw[aK (x5 _)];refine b_ ?_;exact⟨x,d,rfl,u,l.os.ls di,by simpa using l.pc,f⟩
  rw[aL g];refine b_ ?_;refine aj (kF y g) ?_;unfold Dd;refine b_ ?_;have M:d.length=j:=by
   have:=congrArg List.length f;simpa using this
  have D:=u.len;have t:tx h (h++[HO.o (.cells [.int .i64 (ofNat j)] 1 true)]):=⟨_,rfl⟩;have q:=l.pre t;refine q.os.GX (a:=((n4 w j,.slice (some ⟨h.length,0,le 1⟩) 1 2,[j]):Sk)) di (by simp;omega) rfl rfl rfl (by
   unfold ba;rw[DK (by omega),DK (by omega)];rfl) ?_
  intro T I E C r J m;have P:e_ H.length (h++[HO.o (.cells [.int .i64 (ofNat j)] 1 true)]) (.slice (some ⟨h.length,0,le 1⟩) 1 2) 1 j_ [j]:=.inr ⟨h.length,2,rfl,D,aH,.inr rfl⟩;have B:=q.apS (c:=n4 w j) P (λp F b z A=>by
   have e:h.length=b:=by simpa[d_]using z
   have:=((l.pc.1 p F).d_ A).2;omega) E r m
  have G:tx H I:=bQ (u.trans t) λi R Z N=>r i R N λe=>by
   have:=(l.os.d_ e).1;omega
  refine b_ ?_;refine ab C ?_;refine j8 ?_;rw[aT (by omega)];exact k (I,T,d++[_]) g ⟨G,B,by
   rw[Iu,f,Lb,Iu];rfl⟩)
 grind
structure StH(w v:Nat)(n0:Nat)(h:HL)(k:Int)(z:Value)(r:Mv)(zs:Value)(l:TD)(G:TH)(Ms:List Sk):Prop where
 cr:po h z 3 my l
 st:GP w v k l r G (Ms.map FA)
 ss:po h zs 4 B2 Ms
 pc:Eu n0 h Ms
def StH.pre{w v n0:Nat}{h h':HL}{k:Int}{z:TR}{r:Mv}{d:TR}{l:TD}{G:TH}{c:List Sk}(a:StH w v n0 h k z r d l G c)(b:tx h h'):StH w v n0 h' k z r d l G c:=
 ⟨a.cr.pre b,a.st,a.ss.pre b,a.pc.i_ λ_ _ _ _ e _=>b.get e⟩
def kB:Nat->Int
 |0=>0
 |n+1=>3*kB n+32
def X6{j:Nat}(h:j<=5):0<=kB j/\kB j<=3872:=by
 have:j=0∨j=1∨j=2∨j=3∨j=4∨j=5:=by omega
 rcases this with rfl|rfl|rfl|rfl|rfl|rfl<;>simp[kB]
def Z2{j:Nat}(h:j<=4):kB j<=1280:=by
 have:j=0∨j=1∨j=2∨j=3∨j=4:=by omega
 rcases this with rfl|rfl|rfl|rfl|rfl<;>simp[kB]
def Ej(a b:Int):Int:=if a<b then -1 else if b<a then 1 else 0
def Sw:TE->Int
 | []=>0
 |a :: l=>if a=0 then Sw l else a
def Uy(p:Int×Int):Tn:=[.int .i64 p.1,.int .i64 p.2]
def OS(p:Int×Int):(Uy p).length=2:=rfl
def X'(a:Int):Cc 128 [.i a] [.b false]:=by
 refine q128 rfl ?_;unfold Sa;simp only[u7];simp(disch:=omega)only[↓mc]
def f9(a b:Int):Cc 94 [.i a,.i b] [.i (Ej a b)]:=by
 refine q94 rfl ?_;unfold f94;simp only[u7]
 repeat (first|simp(disch:=omega)only[↓mc]|refine aj (X' a) ?_|refine aj (X' b) ?_)
 unfold Ej;by_cases c:a<b
 .simp(disch:=omega)only[↓mc];simp[c]
 .by_cases d:b<a
  .simp(disch:=omega)only[↓mc];simp[c,d]
  .simp(disch:=omega)only[↓mc];simp[c,d]
def Qd{l:TE}{j:Nat}{a:Int}(b:l[j]?=some a):Sw (l.drop j)=if a=0 then Sw (l.drop (j+1))else a:=by
 rw[SB (ai b)];have c:l[j]'(ai b)=a:=by grind
 rw[c];rfl
def j4{h:HL}{x:TR}{l:List (Int×Int)}(c:po h x 2 Uy l)(m:l.length<=1000) :
  aI cc ac 93 [.v x] (f_ aa h) [.i (Sw (l.map λp=>Ej p.1 p.2))] (f_ aa h):=by
 exact xK x93 (pu c.g_ u_) (by
  unfold f93;simp only[u7];refine b_ ?_;refine bu c ?_;refine ma l.length (λj=>Sw (l.map λp=>Ej p.1 p.2)=Sw ((l.map λp=>Ej p.1 p.2).drop j)) (j0:=0) rfl (CM _) rfl ?_;intro j n f g d;refine b_ ?_;by_cases b:j<l.length
  .rw[aL b];refine b_ ?_;obtain⟨p,k⟩:=aq b;refine aP c rfl k ?_;unfold Uy
   repeat (first|simp(disch:=omega)only[↓mc]|refine aj (f9 p.1 p.2) ?_)
   rw[Qd (a:=Ej p.1 p.2) (by simp_all)]at f;by_cases e:Ej p.1 p.2=0
   .rw[CQ e];refine b_ ?_;rw[aT (by omega)]
    simp_all
   .rw[CS e];refine b_ ?_
    simp_all
  .obtain rfl:j=l.length:=by omega
   rw[aK (x5 _)];refine b_ ?_;refine⟨?_,by trivial⟩;rw[f,W3 (by simp_all)];rfl)
def Mb{x y q x' y' q':Int}(b:0<=q/\q<=255)(a:0<=q'/\q'<=255):Cc 58 [.i x,.i y,.i q,.i x',.i y',.i q'] [.i (Sw [Ej y y',Ej x x',Ej q q'])]:=by
 refine q58 rfl ?_;unfold f58;simp only[u7];refine b_ ?_;refine am (h':=[]++[HO.o (.cells [.int .i64 y,.int .i64 y',.int .i64 x,.int .i64 x',.int .i64 q,.int .i64 q'] 2 true)]) (j4 (l:=[(y,y'),(x,x'),(q,q')]) ?_ (by simp)) ?_
 .exact VJ (h:=[]) (e:=2) (enc:=Uy) (l:=[(y,y'),(x,x'),(q,q')]) OS (by rfl)
 .simp(disch:=omega)only[↓mc];rfl
def IE(a b:Cl):Int:=Sw [Ej a.2.1 b.2.1,Ej a.1 b.1,Ej (ofNat a.2.2) (ofNat b.2.2)]
def f7(a b:Nat):Ej (ofNat a) (ofNat b)=if a<b then -1 else if b<a then 1 else 0:=by
 unfold Ej
 simp_all
def Zn(a b:Cl):0<IE a b↔CP a b=true:=by
 obtain⟨x,y,q⟩:=a;obtain⟨u,v,r⟩:=b;rw[wT];unfold IE;simp only[Sw,f7];unfold Ej;omega
def Zo(a b:Cl):IE a b<0↔CP b a=true:=by
 obtain⟨x,y,q⟩:=a;obtain⟨u,v,r⟩:=b;rw[wT];unfold IE;simp only[Sw,f7];unfold Ej;omega
def uG{a b:Cl}(c:a.2.2<4)(d:b.2.2<4):Cc 58 (Dd a++Dd b) [.i (IE a b)]:=
 Mb (x:=a.1) (y:=a.2.1) (q:=ofNat a.2.2) (x':=b.1) (y':=b.2.1) (q':=ofNat b.2.2) ⟨Ga _,by grind⟩ ⟨Ga _,by grind⟩
def YJ(w v c:Nat):Bool:=(range 3).all λe=>lK 104 (Dd (n4 w c)++[.i (ofNat e)]) (Dd (DA (n4 w c) e)++[.i 0])
def m6:∀w v:Nat,1<=w->w<=3->1<=v->v<=3->((range (4*w*v)).all λc=>YJ w v c)=true:=by
 have a:((range 3).all λw=>(range 3).all λv=>(range (4*(w+1)*(v+1))).all λc=>YJ (w+1) (v+1) c)=true:=by kernel_rfl
 intro w v d e f g;have b:=A5.1 a (w - 1) (Cd.2 (by omega));have h:=A5.1 b (v - 1) (Cd.2 (by omega))
 simp_all
def hy{w v c e:Nat}(h:S3 w v)(a:c<4*w*v)(b:e<3):Cc 104 (Dd (n4 w c)++[.i (ofNat e)]) (Dd (DA (n4 w c) e)++[.i 0]):=by
 have:=A5.1 (m6 w v h.1 h.2.1 h.2.2.1 h.2.2.2) c (Cd.2 a);have:=A5.1 this e (Cd.2 b);exact fT this rfl (by kernel_rfl) rfl
def U9{m:Mv}(j:CD 16384 m):Cc 108 (CI m) [.b (decide (4<=m.1))]:=by
 obtain⟨t,x,y⟩:=m;obtain⟨c,d,f,g,h,i⟩:=j;simp only at c d f g h i;have a:=zp (t:=ofNat t) (x:=x) (y:=y) ⟨Ga _,by grind⟩;have k:YL (ofNat t) x y=true:=by
  unfold YL
  grind
 rw[k,n_ rfl]at a;refine q108 rfl ?_;unfold R4;simp only[u7];simp only[CI];refine b_ ?_;refine aj a ?_;refine b_ ?_;by_cases e:4<=t
 .rw[EZ (show(4:Int)<=ofNat t by grind),Fo e]
  try trivial
 .rw[FK (show ofNat t<(4:Int)by grind),Gg e]
  try trivial
def Qo{h:HL}{b e:Nat}{cs ds:Tn}{K:Tf}(a:h[b]?=some (.o (.cells cs e true)))(f:2<=cs.length)(c:ds=(cs.drop 0).take 2)(d:K ds) :
  P1.h_ (CW (i' b)) (@hY _ ⟨λx=>P1.k_ x (@hY _ ⟨P1.h_ (Dg 0 x) (@hY _ ⟨λy=>P1.k_ y (@hY _ ⟨P1.h_ (Dg 0 y) (@hY _ ⟨λz=>P1.k_ z (@hY _ ⟨P1.ka (.lg cc 2 z) h (@hY _ ⟨K⟩)⟩)⟩)⟩)⟩)⟩)⟩):=by
 refine ae (x:=i' b) rfl (ab (au b) (ae (x:=.pointer (some ⟨b,0+0,none⟩)) rfl (ab (by simp[aJ,l_,aV,bF,bo,aR,aD]) ?_)));exact rC (p:=.pointer (some ⟨b,0+0,none⟩)) (bz a) (by omega) c d
def YD{h:HL}{b e:Nat}{cs new:Tn}{K:Tb}{o:Nat}(c:h[b]?=some (.o (.cells cs e true)))(f:o+new.length<=cs.length)(d:K [] (h.set b (.o (.cells (cs.take o++new++cs.drop (o+new.length)) e true)))) :
  P1.heap (.st (.pointer (some ⟨b,o,none⟩)) new) h (@hY _ ⟨K⟩):=by
 have a:(Hp.st (.pointer (some ⟨b,o,none⟩)) new).run (r_ aa h) h.length=some ([.set b (.cells (cs.take o++new++cs.drop (o+new.length)) e true)],[]):=by
  show Jw (.pointer (some ⟨b,o,none⟩)) new (r_ aa h) h.length=_;unfold Jw;simp only;rw[bG c];simp only;unfold q9;rw[n_ f];rfl
 exact bJ a d
def Qv{id s:Nat}(b:s<2){K:TR->Prop}(a:K (.pointer (some ⟨id,1+s,none⟩))) :
  P1.h_ (CW (i' id)) (@hY _ ⟨λx=>P1.k_ x (@hY _ ⟨P1.h_ (Dg 1 x) (@hY _ ⟨λy=>P1.k_ y (@hY _ ⟨P1.h_ (Ph 2 1 y (ofNat s)) (@hY _ ⟨λq=>P1.k_ q (@hY _ ⟨K q⟩)⟩)⟩)⟩)⟩)⟩):=by
 have g:∀o,aJ (.pointer (some ⟨id,o,none⟩))=true:=λo=>by simp[aJ,l_,aV,bF,bo,aR,aD]
 obtain rfl|rfl:s=0∨s=1:=by omega
 .exact ae (x:=i' id) rfl (ab (au id) (ae (x:=.pointer (some ⟨id,1,none⟩)) rfl (ab (g _) (ae (x:=.pointer (some ⟨id,1,none⟩)) rfl (ab (g _) a)))))
 .exact ae (x:=i' id) rfl (ab (au id) (ae (x:=.pointer (some ⟨id,1,none⟩)) rfl (ab (g _) (ae (x:=.pointer (some ⟨id,2,none⟩)) rfl (ab (g _) a)))))
def MR{y:Nat}{h:HL}{n:Nat}{kv:TR}{ks:List K6}{is:TC}{vs:Tn}{ls:List (List K2)}(r:Sm y h n kv ks is vs ls)(k:K6){v:TR}(s:v = .agg ⟨JW k⟩)(Inv:Te){b:Te}{A:(TG->HL->Prop)->Prop}{B:TR->(TG->HL->Prop)->Prop}
  (h1:∀l g,Inv l g->b l g) (o:k∉ks->∀a:TG->HL->Prop,(∀l g,Inv l g->a l g)->A a) (p:∀(i:Nat) id,ks[i]?=some k->is[i]?=some id->∀a:TG->HL->Prop,(∀l g,Inv l g->a l g)->B (i' id) a) :
  P1.ka (.fn (E7 cc 198 false (.pointer none) (.map (some n)) v false)) h (@hY _ ⟨λu=>P1.BM u (@hY _ ⟨λm w=>P1.k_ m (@hY _ ⟨P1.ts w (@hY _ ⟨P1.h_ (lh 4 m (.pointer none)) (@hY _ ⟨λt=>P1.join (@hY _ ⟨b⟩) (@hY _ ⟨λj=>P1.cond t (@hY _ ⟨A j⟩) (@hY _ ⟨B m j⟩)⟩)⟩)⟩)⟩)⟩)⟩):=by
 refine r.look k s (λq=>?_) λi id d f=>?_
 .simp(disch:=omega)only[↓A9];refine ab rfl ?_
  try simp(disch:=omega)only[↓A9]
  refine ae (x:=true) rfl ?_;refine cO Inv h1 λa c=>?_;exact⟨λ_=>o q a c,λe=>(by cases e)⟩
 .simp(disch:=omega)only[↓A9];refine ab (au _) ?_
  try simp(disch:=omega)only[↓A9]
  refine ae (x:=false) rfl ?_;refine cO Inv h1 λa c=>?_;exact⟨λe=>(by cases e),λ_=>p i id d f a c⟩
def RJ{k:K6}{s:Ev}:(Ce k s).1.length<=s.1.length+1:=by
 unfold Ce
 grind
def Nn{w v:Nat}{l:TD}{P:TH}{i e:Nat}{s:Ev}:(ff w v l P i e s).1.length<=s.1.length+1:=by
 unfold ff;have:=RJ (k:=sd (aA (P i) (n4 w i)) (aA (P i) (DA (n4 w i) e))) (s:=s);simp only;split
 .exact this
 .split
  .exact this
  .split
   .exact this
   .exact this
def mK{w v:Nat}{l:TD}{P:TH}{i:Nat}:∀(L:TC) (s:Ev),(L.foldl (λs e=>ff w v l P i e s) s).1.length<=s.1.length+L.length
 | [],s=>by simp
 |e :: L,s=>by
  have a:=mK (w:=w) (v:=v) (l:=l) (P:=P) (i:=i) L (ff w v l P i e s);have b:=Nn (w:=w) (v:=v) (l:=l) (P:=P) (i:=i) (e:=e) (s:=s)
  grind
def oz{w v:Nat}{l:TD}{P:TH}:∀n,(CY w v l P n).1.length<=3*n
 |0=>by simp[CY]
 |n+1=>by
  have a:=oz (w:=w) (v:=v) (l:=l) (P:=P) n;have b:=mK (w:=w) (v:=v) (l:=l) (P:=P) (i:=n) (range 3) (CY w v l P n);have c:CY w v l P (n+1)=(range 3).foldl (λs e=>ff w v l P n e s) (CY w v l P n):=by
   unfold CY;rw[Lb (n:=n),n9];rfl
  grind
def Ax{k:K6}{s:Ev}{m:Nat}(h:∀q∈s.2,q.length<=m):∀q∈(Ce k s).2,q.length<=m:=by
 unfold Ce
 grind
def zZ{s:Ev}{m j:Nat}{p:K2}(h:∀q∈s.2,q.length<=m):∀q∈(Ff j p s).2,q.length<=m+1:=by
 intro q a;rcases t3 a with a|rfl
 .grind
 grind
def Np{w v:Nat}{l:TD}{P:TH}{i e m:Nat}{s:Ev}(h:∀q∈s.2,q.length<=m):∀q∈(ff w v l P i e s).2,q.length<=m+1:=by
 have a:=Ax (k:=sd (aA (P i) (n4 w i)) (aA (P i) (DA (n4 w i) e))) h;have b:∀q∈(Ce (sd (aA (P i) (n4 w i)) (aA (P i) (DA (n4 w i) e))) s).2,q.length<=m+1:=λq c=>Nat.le_succ_of_le (a q c);unfold ff;simp only;split
 .exact b
 .split
  .exact b
  .split
   .exact zZ a
   .exact zZ a
def mL{w v:Nat}{l:TD}{P:TH}{i:Nat}:∀(L:TC) (s:Ev) (m:Nat),(∀q∈s.2,q.length<=m)->∀q∈(L.foldl (λs e=>ff w v l P i e s) s).2,q.length<=m+L.length
 | [],s,m,h=>by simpa using h
 |e :: L,s,m,h=>by
  have a:=mL (w:=w) (v:=v) (l:=l) (P:=P) (i:=i) L (ff w v l P i e s) (m+1) (Np h)
  grind
def tV{w v:Nat}{l:TD}{P:TH}:∀n,∀q∈(CY w v l P n).2,q.length<=3*n
 |0=>by simp[CY]
 |n+1=>by
  have b:CY w v l P (n+1)=(range 3).foldl (λs e=>ff w v l P n e s) (CY w v l P n):=by
   unfold CY;rw[Lb (n:=n),n9];rfl
  intro q a;rw[b]at a;have:=mL (range 3) _ _ (tV (w:=w) (v:=v) (l:=l) (P:=P) n) q a
  grind
structure SeX(h0:HL)(c:XC)(w v:Nat)(l:TD)(G:TH)(r:Mv)(xi:Value):Prop where
 h3:S3 w v
 cw:c.w=w/\c.v=v/\c.r=r
 xc:po h0 c.xc 3 my l
 pat:NX w v l
 gok:Cs w v l G
 rok:CD 4000 r
 nok:∀id e,id<4*w*v->e<3->JD (aA (af (G id) r) (DA (n4 w id) e))=true
 im:po h0 xi 3 bU (B3 w v G r)
 pl:∀H,po H c.xc 3 my l->∃lx h',aI cc ac 103 [.i (ofNat w),.i (ofNat v),.v c.xc,.i (ofNat r.1),.i r.2.1,.i r.2.2] (f_ aa H) [.v lx,.i 0] (f_ aa h')/\tx H h'/\po h' lx 3 q7 (DI w v G r)
structure SeS(h0:HL)(b mm n1:Nat)(c:XC)(lx:Value)(w v:Nat)(G:TH)(r:Mv)(U:List Lit)(pn:Ti)(F:List x_)(C:(Nat->Bool)->Prop)(A:Ev)(kv:Value)(g:HL):Prop where
 ex:∃n W is vs,Pi g b c n U W pn F/\(∀V,(n=false/\Rs U W V)↔C V)/\Sm n1 g mm kv A.1 is vs A.2
 pl:po g lx 3 q7 (DI w v G r)
 ln:n1<=g.length
 fr:∀(j:Nat) o,h0[j]?=some o->j≠b->d_ c.va≠some j->g[j]?=some o
def Wx{h:HL}{b:Nat}{c:XC}{n:Bool}{U:List Lit}{W:TE}{pn:Ti}{F:List x_}(Z:Pi h b c n U W pn F){w v:Nat}{l:TD}{G:TH}{r:Mv}{xi:TR}(S:SeX h c w v l G r xi)(et:∀j,d_ c.va=some j->d_ c.xc≠some j)(ev:∀j,d_ c.va=some j->d_ xi≠some j)
  (d8:∀i n,i<4*w*v->(∃e,e<3/\Cn w v i e=some n/\gO l (ofNat (min i n)) (ofNat e)≠0)->(CO pn i n).1<U.length) :
  ∃kv h' mm n1,aI cc ac 70 [.v (i' b),.v xi] (f_ aa h) [.v kv,.i 0] (f_ aa h')/\h.length<=n1/\∃lx,SeS h b mm n1 c lx w v G r U pn F (λV=>(n=false/\Rs U W V)/\∀i e,i<4*w*v->e<3->Ew pn w v l (λc=>af (G c) r) V i e) (CY w v l (λc=>af (G c) r) (4*w*v)) kv h':=by
 have fn:=x70 (ls:=[.v (i' b),.v xi]) (K:=λrs h'=>∃kv mm n1,rs=[.v kv,.i 0]/\h.length<=n1/\∃lx,SeS h b mm n1 c lx w v G r U pn F (λV=>(n=false/\Rs U W V)/\∀i e,i<4*w*v->e<3->Ew pn w v l (λc=>af (G c) r) V i e) (CY w v l (λc=>af (G c) r) (4*w*v)) kv h') (H:=h) (pu (au _) (pu S.im.g_ u_)) (by
  unfold f70;simp only[u7];refine b_ ?_;obtain⟨hw,hv,hr⟩:=S.cw;obtain⟨g1,e1⟩ : ∃g1,g1=h++[HO.o (.map [] 0)]:=⟨_,rfl⟩;rw[←e1];have k1:∀(j:Nat) o,h[j]?=some o->g1[j]?=some o:=λj o p=>by grind
  have l1:g1.length=h.length+1:=by rw[e1];simp
  have m1:g1[h.length]?=some (.o (.map [] 0)):=by rw[e1];exact aH
  refine br (ds:=[.int .i64 (ofNat c.w),.int .i64 (ofNat c.v),c.xc]) (k1 _ _ Z.hb) (by simp[ah]) rfl ?_;refine b_ ?_;refine ab S.xc.g_ ?_;refine j8 ?_;refine br (ds:=[.int .u8 (ofNat c.r.1),.int .i64 c.r.2.1,.int .i64 c.r.2.2]) (k1 _ _ Z.hb) (by simp[ah]) rfl ?_;refine b_ ?_;obtain⟨lx,Q,cp,bk,co⟩:=S.pl g1 (S.xc.i_ λj o p _=>k1 j o p);rw[←hw,←hv,←hr]at cp;refine am cp ?_;refine b_ ?_;have l2:g1.length<=Q.length:=bk.len;have k2:∀(j:Nat) o,h[j]?=some o->Q[j]?=some o:=λj o p=>bk.get (k1 j o p);have d9:Pi Q b c n U W pn F:=⟨k2 _ _ Z.hb,Z.up.i_ λj o p _=>k2 j o p,Z.va.i_ λj o p _=>k2 j o p,Z.fo.i_ λj o p _=>k2 j o p,Z.pr.i_ λo ho=>k2 _ o ho,Z.fr,Z.ok⟩;have hN:(B3 w v G r).length=4*w*v:=by simp[B3]
  refine bu (S.im.i_ λj o p _=>k2 j o p) ?_;rw[hN];have ei:SeS h b h.length Q.length c lx w v G r U pn F (λV=>(n=false/\Rs U W V)/\∀i e,i<0->e<3->Ew pn w v l (λc=>af (G c) r) V i e) (CY w v l (λc=>af (G c) r) 0) (.slice none 0 0) Q:=
   ⟨⟨n,W,[],[],d9,λV=>⟨λq=>⟨q,λi e hi=>by omega⟩,λq=>q.1⟩,Rh (bk.get m1)⟩,co,x5 _,λj o p _ _=>k2 j o p⟩
  refine aG (m:=4*w*v) (λm ls g=>∃j kv,ls=[.v kv,.i (ofNat j)]/\m=4*w*v - j/\j<=4*w*v/\SeS h b h.length Q.length c lx w v G r U pn F (λV=>(n=false/\Rs U W V)/\∀i e,i<j->e<3->Ew pn w v l (λc=>af (G c) r) V i e) (CY w v l (λc=>af (G c) r) j) kv g) ⟨0,_,rfl,rfl,CM _,ei⟩ ?_;rintro m ls g ⟨j,kv,rfl,rfl,p,hg⟩ eL ct;refine Da ?_;refine b_ ?_;by_cases E:j<4*w*v
  case neg=>
   obtain rfl:j=4*w*v:=by omega
   rw[aK (x5 _)];refine b_ ?_
   grind
  rw[aL E];refine b_ ?_;obtain⟨A0,bm⟩ : ∃A0,A0=CY w v l (λc=>af (G c) r) j:=⟨_,rfl⟩;obtain⟨C0,dr⟩ : ∃C0:(Nat->Bool)->Prop,C0=λV=>(n=false/\Rs U W V)/\∀i e,i<j->e<3->Ew pn w v l (λc=>af (G c) r) V i e:=⟨_,rfl⟩;rw[←bm,←dr]at hg;have hs:=S.h3.sh;have d6:∀ {C:(Nat->Bool)->Prop} {A:Ev} {kv:TR} {g:HL},SeS h b h.length Q.length c lx w v G r U pn F C A kv g->∃n,g[b]?=some (.o (.cells (ah c n) 15 true)):=λq=>by
   obtain⟨⟨n,W,is,vs,q1,_⟩,_⟩:=q;exact⟨n,q1.hb⟩
  have cd:∀ {C:(Nat->Bool)->Prop} {A:Ev} {kv:TR} {g:HL},SeS h b h.length Q.length c lx w v G r U pn F C A kv g->po g c.xc 3 my l/\po g xi 3 bU (B3 w v G r):=λ{C A kv g} q=>by
   refine⟨S.xc.i_ λj o p N=>q.fr j o p (λe=>?_) λe=>et j e N,S.im.i_ λj o p N=>q.fr j o p (λe=>?_) λe=>ev j e N⟩
   .obtain⟨Y,ad,L⟩:=vC S.xc N
    grind
   .obtain⟨Y,ad,L⟩:=vC S.im N
    grind
  obtain⟨n1,d4⟩:=d6 hg;refine Qo (ds:=[.int .i64 (ofNat c.w),.int .i64 (ofNat c.v)]) d4 (by simp[ah]) rfl ?_;refine b_ ?_;rw[hw,hv];refine aj (Iz (rU w v hs.1 hs.2.1 hs.2.2.1 hs.2.2.2) E) ?_;unfold HC;refine b_ ?_;refine aG (m:=3) (λm ls g=>∃e kv,ls=[.v kv,.i (ofNat e)]/\m=3 - e/\e<=3/\SeS h b h.length Q.length c lx w v G r U pn F (λV=>C0 V/\∀e',e'<e->Ew pn w v l (λc=>af (G c) r) V j e') ((range e).foldl (λs e=>ff w v l (λc=>af (G c) r) j e s) A0) kv g) ⟨0,kv,rfl,rfl,by decide,?_⟩ ?_
  case refine_1=>
   simp_all
  rintro m2 fp g4 ⟨e,ay,rfl,rfl,he,bs⟩ ez b0;refine Da ?_;refine b_ ?_;by_cases an:e<3
  case neg=>
   obtain rfl:e=3:=by omega
   rw[tf (by decide)];refine b_ ?_;rw[aT (by have:=S.h3.n;omega)];refine ct _ _ _ (by omega) ⟨j+1,ay,rfl,rfl,E,?_⟩;have eP:CY w v l (λc=>af (G c) r) (j+1)=(range 3).foldl (λs e=>ff w v l (λc=>af (G c) r) j e s) A0:=by
    rw[bm];unfold CY;rw[Lb (n:=j),n9];rfl
   grind
  rw[td (show ofNat e<3 by grind)];simp(disch:=omega)only[↓A9];obtain⟨t,bn⟩ : ∃t,t=(range e).foldl (λs e=>ff w v l (λc=>af (G c) r) j e s) A0:=⟨_,rfl⟩;obtain⟨C1,dA⟩ : ∃C1:(Nat->Bool)->Prop,C1=λV=>C0 V/\∀e',e'<e->Ew pn w v l (λc=>af (G c) r) V j e':=⟨_,rfl⟩;rw[←bn,←dA]at bs;refine cO (λls g'=>∃kv',ls=[.v kv']/\SeS h b h.length Q.length c lx w v G r U pn F (λV=>C1 V/\Ew pn w v l (λc=>af (G c) r) V j e) (ff w v l (λc=>af (G c) r) j e t) kv' g') ?_ ?_
  case refine_1=>
   rintro ls g' ⟨kv',rfl,q⟩;refine b_ ?_;rw[Ja (by grind) (by grind)];refine b0 _ _ _ ?_ ⟨e+1,kv',rfl,rfl,an,?_⟩
   .omega
   rw[Lb (n:=e),n9,←bn]
   grind
  intro jj bx;have ng:=hy S.h3 E an;simp only[Dd,n4,DC,Ds]at ng;refine aj ng ?_;simp(disch:=omega)only[↓A9];obtain⟨eF,dk⟩:=cd bs;refine aP dk rfl (eQ E) ?_;rw[show bU (aA (af (G j) r) (n4 w j))=[.int .i64 (aA (af (G j) r) (n4 w j)).1,.int .i64 (aA (af (G j) r) (n4 w j)).2.1,.int .u8 (ofNat (aA (af (G j) r) (n4 w j)).2.2)]from rfl];simp(disch:=omega)only[↓A9];refine aP bs.pl rfl (kf E) ?_;have dn:CD 16384 (af (G j) r):=aY (eh (S.gok.ok j E) S.rok) (by omega);rw[show q7 (af (G j) r)=[.int .u8 (ofNat (af (G j) r).1),.int .i64 (af (G j) r).2.1,.int .i64 (af (G j) r).2.2]from rfl];simp(disch:=omega)only[↓A9];have eg:=dG hs E;have fb:=P7 (c:=n4 w j) (e:=e) eg.2.2.2.2 an;have fd:(n4 w j).1<=100/\(n4 w j).2.1<=100/\0<=(n4 w j).1/\0<=(n4 w j).2.1:=by
   have b1:=S.h3.n;have d1:j / 4%w<=j / 4:=hz _ _;have d2:j / 4 / w<=j / 4:=z0 _ _;refine⟨g5.2 (show j / 4%w<=100 by omega),g5.2 (show j / 4 / w<=100 by omega),Ga _,Ga _⟩
  have mv:=P5 dn (c:=DA (n4 w j) e) (by omega);rw[n_ (S.nok j e E an)]at mv;simp only[n4]at mv;simp only[Dd,CI,DC,Ds]at mv;refine aj mv ?_;simp(disch:=omega)only[↓A9];obtain⟨f,ea⟩ : ∃f,f=aA (af (G j) r) (n4 w j):=⟨_,rfl⟩;obtain⟨k,eb⟩ : ∃k,k=aA (af (G j) r) (DA (n4 w j) e):=⟨_,rfl⟩;have ec:f.2.2<4:=by rw[ea];exact iW
  have ef:k.2.2<4:=by rw[eb];exact iW
  have dB:aA (af (G j) r) (ofNat (j / 4%w),ofNat (j / 4 / w),j%4)=f:=ea.symm;have dC:aA (af (G j) r) (DA (ofNat (j / 4%w),ofNat (j / 4 / w),j%4) e)=k:=eb.symm;simp only[n4,dB,dC];have c2:=uG ec ef;simp only[Dd,DC,Ds]at c2;refine aj c2 ?_;simp(disch:=omega)only[↓A9];have ck:=Zn f k;have dm:∀K:Bool->Prop,K (CP f k)->P1.cmp .gtr (IE f k) 0 (@hY _ ⟨K⟩):=λK hK=>by
   cases av:CP f k with
   |true=>
    rw[av]at hK ck;rw[Co (ck.2 rfl)];exact hK
   |false=>
    rw[av]at hK ck;rw[z_ (by simp_all)];exact hK
  refine dm _ ?_;refine cO (λls g'=>ls=[.i (if CP f k then 1 else 0),.i (sd f k).1.1,.i (sd f k).1.2.1,.i (ofNat (sd f k).1.2.2),.i (sd f k).2.1,.i (sd f k).2.2.1,.i (ofNat (sd f k).2.2.2)]/\g'=g4) ?_ ?_
  case refine_2=>
   intro jk cm;unfold sd at cm;cases av:CP f k with
   |true=>
    rw[av]at cm;simp(disch:=omega)only[↓A9]
    simp_all
   |false=>
    rw[av]at cm;simp(disch:=omega)only[↓A9]
    simp_all
  rintro ls g' ⟨rfl,rfl⟩;simp(disch:=omega)only[↓A9];obtain⟨⟨n2,W2,is,vs,q1,q2,q3⟩,q4,q5,q6⟩:=bs;have e6:t.1.length<=1000000:=by
   have a1:=oz (w:=w) (v:=v) (l:=l) (P:=λc=>af (G c) r) j;have a2:=mK (w:=w) (v:=v) (l:=l) (P:=λc=>af (G c) r) (i:=j) (range e) A0;rw[←bm]at a1;rw[←bn,SG]at a2;have:=S.h3.n;omega
  refine MR q3 (sd f k) rfl (λls X=>∃id I T ag,ls=[.v (i' id),.v I]/\Sm Q.length X h.length I (Ce (sd f k) t).1 T ag (Ce (sd f k) t).2/\T[(Ce (sd f k) t).1.idxOf (sd f k)]?=some id/\(Ce (sd f k) t).1[(Ce (sd f k) t).1.idxOf (sd f k)]?=some (sd f k)/\Pi X b c n2 U W2 pn F/\po X lx 3 q7 (DI w v G r)/\Q.length<=X.length/\∀(j:Nat) o,h[j]?=some o->j≠b->d_ c.va≠some j->X[j]?=some o) ?_ ?_ ?_
  case refine_3=>
   intro i id bt e0 ex b7
   try simp(disch:=omega)only[↓A9]
   have d7:sd f k∈t.1:=Cb bt;have cx:Ce (sd f k) t=t:=by
    unfold Ce;rw[n_ d7]
   have b5:t.1.idxOf (sd f k)=i:=by
    have e1:=FN (ai bt);rw[bt]at e1;rw[DU e1];exact q3.nd.idxOf_getElem i (ai bt)
   grind
  case refine_2=>
   intro hn ex b7
   try simp(disch:=omega)only[↓A9]
   obtain⟨gA,eA⟩ : ∃gA,gA=g'++[HO.o (.cells [.slice none 0 0,.slice none 0 0,.slice none 0 0] 3 true)]:=⟨_,rfl⟩;rw[←eA];have kA:∀(i:Nat) o,g'[i]?=some o->gA[i]?=some o:=λi o hi=>by grind
   have lA:gA.length=g'.length+1:=by rw[eA];simp
   have nA:gA[g'.length]?=some (.o (.cells [.slice none 0 0,.slice none 0 0,.slice none 0 0] 3 true)):=by rw[eA];exact aH
   have fa:h.length<g'.length:=by omega
   refine q3.put_key hn rfl (λo ho=>kA _ o ho) ?_;intro o hm;obtain⟨gB,eB⟩ : ∃gB,gB=gA.set h.length o:=⟨_,rfl⟩;rw[←eB]at hm ⊢;have kB:∀(i:Nat) o,i≠h.length->gA[i]?=some o->gB[i]?=some o:=λi o hi ho=>by grind
   have lB:gB.length=g'.length+1:=by grind
   try simp(disch:=omega)only[↓A9]
   have b8:e_ Q.length gB ay 1 CG (is.map i'):=q3.kl.A1 λj Y _ p=>kB j _ (q3.Gy p) (kA j _ p);refine b8.GX (a:=i' g'.length) be (by omega) rfl rfl rfl (by unfold ba;rw[DK (by rw[FM,q3.il];omega),DK (by rw[FM,q3.il];omega)];rfl) ?_;intro I gC eV dT kC lC _;have cy:∀(j:Nat) o,gB[j]?=some o->d_ ay≠some j->gC[j]?=some o:=λj o p N=>kC j o p N
   try simp(disch:=omega)only[↓A9]
   refine ab dT ?_
   try simp(disch:=omega)only[↓A9]
   have c5:∀ {j e:Nat} {Y:Tn} {ad:Bool},gB[j]?=some (.o (.cells Y e ad))->e≠1->d_ ay≠some j:=λ{j e Y ad} p he e2=>by
    obtain⟨aE,L⟩:=b8.wid e2
    grind
   have cx:Ce (sd f k) t=(t.1++[sd f k],t.2++[[],[],[]]):=by
    unfold Ce;rw[qs hn]
   have b5:(t.1++[sd f k]).idxOf (sd f k)=t.1.length:=by
    grind
   have D:∀(j:Nat) o,g'[j]?=some o->j≠h.length->d_ ay≠some j->gC[j]?=some o:=λj o p h1 L=>cy j o (kB j o h1 (kA j o p)) L;have bC:∀ {j e:Nat} {Y:Tn} {ad:Bool},g'[j]?=some (.o (.cells Y e ad))->e≠1->d_ ay≠some j:=λ{j e Y ad} p he e2=>by
    obtain⟨aE,L⟩:=q3.kl.wid e2
    grind
   have c4:∀j,d_ ay=some j->Q.length<=j:=λj e=>(q3.kl.d_ e).1;have ci:=q3.new (h':=gC) hn (id:=g'.length) (kv':=I) (x5 _) q5 (cy _ _ (kB _ _ (by omega) nA) (c5 (kB _ _ (by omega) nA) (by decide))) (hm.i_ _ λo2 cr=>cy _ o2 cr λe=>by
    grind) (by grind) λj o2 p _ h1 L=>D j o2 p h1 L
   have bb:c.pr<h.length:=by
    obtain⟨ps,p1,_⟩:=Z.pr;exact p1.lt
   refine b7 _ _ ⟨g'.length,I,is++[g'.length],_,rfl,by rw[cx];exact ci,?_,?_,⟨D _ _ q1.hb (q3.Gy q1.hb) (bC q1.hb (by decide)),q1.up.A1 λj Y _ p=>D j _ p (q3.Gy p) (bC p (by decide)),q1.va.A1 λj Y N p=>D j _ p (q3.Gy p) λe=>?_,q1.fo.A1 λj Y _ p=>D j _ p (q3.Gy p) (bC p (by decide)),q1.pr.i_ λo2 cr=>D _ o2 cr (by omega) λe=>?_,q1.fr,q1.ok⟩,q4.i_ λj o2 p N=>?_,by omega,λj o2 p h1 L=>D j o2 (q6 j o2 p h1 L) (by grind) λe=>?_⟩
   .rw[cx];show(is++[g'.length])[(t.1++[sd f k]).idxOf (sd f k)]?=_;rw[b5,←q3.il,Hb (x5 _),Wj];rfl
   .grind
   .have a1:=c4 j e;have a2:=(Z.va.d_ N).2;omega
   .grind
   .obtain⟨Y,ad,L⟩:=vC q4 N;exact D j o2 p (q3.Gy L) (bC L (by decide))
   grind
  rintro ls X ⟨id,I,T,ag,rfl,s5,a6,e5,p5,cn,n5,f5⟩;simp(disch:=omega)only[↓A9];refine Qo (ds:=[.int .i64 (ofNat c.w),.int .i64 (ofNat c.v)]) p5.hb (by simp[ah]) rfl ?_;simp(disch:=omega)only[↓A9];rw[hw,hv];have a0:=kg hs E an;have d:ff w v l (λc=>af (G c) r) j e t=(match Cn w v j e with
    |none=>Ce (sd f k) t
    |some n=>if n<j then Ce (sd f k) t else
     if gO l (ofNat (min j n)) (ofNat e)=0 then Ff (3*(Ce (sd f k) t).1.idxOf (sd f k)) (if CP f k then(n,j)else(j,n)) (Ce (sd f k) t)
     else Ff (3*(Ce (sd f k) t).1.idxOf (sd f k)+(if CP f k then 2 else 1)) (j,n) (Ce (sd f k) t)):=by
   unfold ff;rw[ea,eb]
   try rfl
  have ce:(∀V,Ew pn w v l (λc=>af (G c) r) V j e)->ff w v l (λc=>af (G c) r) j e t=Ce (sd f k) t->jj [.v I] X:=λh1 L=>bx _ _ ⟨I,rfl,⟨⟨n2,W2,T,ag,p5,λV=>(q2 V).trans ⟨λq=>⟨q,h1 V⟩,λq=>q.1⟩,by rw[L];exact s5⟩,cn,n5,f5⟩⟩;have a7:∀q∈(Ce (sd f k) t).2,q.length<=1000000:=by
   have b1:=tV (w:=w) (v:=v) (l:=l) (P:=λc=>af (G c) r) j;rw[←bm]at b1;have b2:=mL (w:=w) (v:=v) (l:=l) (P:=λc=>af (G c) r) (i:=j) (range e) A0 _ b1;rw[←bn,SG]at b2;intro q hq;have b3:=Ax b2 q hq;have:=S.h3.n;omega
  unfold vH at a0;cases a8:Cn w v j e with
  |none=>
   rw[a8]at a0 d;refine aj a0 ?_;simp(disch:=omega)only[↓A9]
   try rw[CS (by decide)]
   try simp(disch:=omega)only[↓A9]
   exact ce (λV n' c7=>by simp_all) d
  |some nn=>
  rw[a8]at a0 d;simp only at a0 d;refine aj a0 ?_;simp(disch:=omega)only[↓A9]
  try rw[CQ rfl]
  try simp(disch:=omega)only[↓A9]
  by_cases cq:nn<j
  .rw[aL cq];simp(disch:=omega)only[↓A9];rw[n_ cq]at d;exact ce (λV n' c7 hc=>by simp_all) d
  rw[aK (by omega)];simp(disch:=omega)only[↓A9];rw[qs cq]at d;obtain⟨ca,_⟩:=cd (C:=C1) (A:=Ce (sd f k) t) (kv:=I) (g:=X) ⟨⟨n2,W2,T,ag,p5,q2,s5⟩,cn,n5,f5⟩;refine br (ds:=[.int .i64 (ofNat c.w),.int .i64 (ofNat c.v),c.xc]) p5.hb (by simp[ah]) rfl ?_;simp(disch:=omega)only[↓A9];refine ab ca.g_ ?_
  try simp(disch:=omega)only[↓A9]
  rw[hw,hv];have c8:nn<=1000:=by
   have b1:=(du hs E an a8).1;have b2:=S.h3.n;omega
  refine am (Z3 S.pat ca E an a8 c8) ?_;simp(disch:=omega)only[↓A9];obtain⟨ki,ek⟩ : ∃ki,ki=gO l (ofNat (min j nn)) (ofNat e):=⟨_,rfl⟩;rw[←ek]at d;rw[←ek];obtain⟨a1,x,y,z,a2,a3,a4,a5⟩:=s5.bl _ id a6;obtain⟨ix,dD⟩ : ∃ix,ix=(Ce (sd f k) t).1.idxOf (sd f k):=⟨_,rfl⟩;rw[←dD]at a2 a3 a4 d a6;have cf:∀(s:Nat) (u u':TR) (B:List K2) (pr:K2) (J:HL),s<3->ag[3*ix+s]?=some u->(Ce (sd f k) t).2[3*ix+s]?=some B->e_ Q.length J u' 2 D8 (B++[pr])->(∀(j:Nat) o,X[j]?=some o->d_ u≠some j->J[j]?=some o)->X.length<=J.length->(d_ u'=d_ u∨∃j,d_ u'=some j/\X.length<=j)->∀al,al=[x,y,z].set s u'->
    Sm Q.length (J.set id (.o (.cells al 3 true))) h.length I (Ff (3*ix+s) pr (Ce (sd f k) t)).1 T (ag.set (3*ix+s) u') (Ff (3*ix+s) pr (Ce (sd f k) t)).2/\Pi (J.set id (.o (.cells al 3 true))) b c n2 U W2 pn F/\po (J.set id (.o (.cells al 3 true))) lx 3 q7 (DI w v G r)/\Q.length<=(J.set id (.o (.cells al 3 true))).length/\∀(j:Nat) o,h[j]?=some o->j≠b->d_ c.va≠some j->(J.set id (.o (.cells al 3 true)))[j]?=some o:=by
   intro s u u' B pr J ej hu c6 d0 c3 eD d5 al cl;have eZ:(Ce (sd f k) t).2.getD (3*ix+s) []=B:=by simp_all
   have a9:=s5.ow _ u B hu c6;have c9:∀j,d_ u=some j->Q.length<=j:=λj e=>(a9.d_ e).1;have D:∀(j:Nat) o,j<Q.length->X[j]?=some o->(J.set id (.o (.cells al 3 true)))[j]?=some o:=λj o h1 L=>cW (c3 j o L λe=>by have:=c9 j e;omega) (by omega);have eC:h.length<Q.length:=by omega
   have bb:c.pr<h.length:=by
    obtain⟨ps,p1,_⟩:=Z.pr;exact p1.lt
   refine⟨?_,⟨D _ _ (by have:=ai Z.hb;omega) p5.hb,p5.up.i_ λj o p N=>D j o (by have:=(Z.up.d_ N).2;omega) p,p5.va.i_ λj o p N=>D j o (by have:=(Z.va.d_ N).2;omega) p,p5.fo.i_ λj o p N=>D j o (by have:=(Z.fo.d_ N).2;omega) p,p5.pr.i_ λo ho=>D _ o (by omega) ho,p5.fr,p5.ok⟩,cn.i_ λj o p N=>D j o (Bf co N) p,by grind,λj o p h1 L=>D j o (by grind) (f5 j o p h1 L)⟩;have:=s5.put a6 ej hu c6 d0 c3 d5 a5 cl;unfold Ff
   grind
  by_cases ax:ki=0
  .rw[s_ ax];simp(disch:=omega)only[↓A9];rw[n_ ax]at d;have bd:∀V,Ew pn w v l (λc=>af (G c) r) V j e:=λV n' c7 _ hc=>by
    grind
   obtain⟨B,M⟩:=aq (l:=(Ce (sd f k) t).2) (i:=3*ix) (by rw[s5.ll];exact ai a2);have bP:=s5.ow _ x B a2 M;have e9:B.length<=1000000:=a7 B (Cb M);have cA:∀(pr:K2) (K:Tb),(∀x' J,e_ Q.length J x' 2 D8 (B++[pr])->aJ x'=true->(∀(j:Nat) o,X[j]?=some o->d_ x≠some j->J[j]?=some o)->X.length<=J.length->(d_ x'=d_ x∨∃j,d_ x'=some j/\X.length<=j)->K [x'] J)->
     P1.heap (.ap cc 2 16 x (.slice (some ⟨X.length,0,some 12⟩) 1 2)) (X++[.o (.cells [.int .i64 (ofNat pr.1),.int .i64 (ofNat pr.2)] 2 true)]) (@hY _ ⟨K⟩):=λpr K hK=>
    bP.GX (a:=pr) (λ_=>rfl) (by omega) rfl rfl rfl (by unfold ba;rw[DK (by omega),DK (by omega)];rfl) hK
   have b4:∀ {J:HL},(∀(j:Nat) o,X[j]?=some o->d_ x≠some j->J[j]?=some o)->J[id]?=some (.o (.cells [x,y,z] 3 true)):=λ{J} hk=>hk id _ a5 λe=>by
    obtain⟨aE,L⟩:=bP.wid e
    simp_all
   cases av:CP f k with
   |false=>
    rw[av,qs (by decide)]at d;rw[qs (by decide),s_ rfl];refine b_ ?_;refine br (ds:=[x]) a5 (by simp) rfl ?_;refine b_ ?_;refine ab (e_.g_ (e:=2) (enc:=D8) (λ_=>rfl) bP) ?_;refine j8 ?_;refine cA (j,nn) _ λx' J o6 gx k6 l6 b6=>?_;refine b_ ?_;refine ab gx ?_;refine j8 ?_;refine gf (b:=id) (b4 k6) (by simp) ?_;refine j8 ?_;obtain⟨w1,R,w3,w4,w5⟩:=cf 0 x x' B (j,nn) J (by decide) a2 M o6 k6 l6 b6 [x',y,z] rfl;exact bx _ _ ⟨I,rfl,⟨⟨n2,W2,T,_,R,λV=>(q2 V).trans ⟨λq=>⟨q,bd V⟩,λq=>q.1⟩,by rw[d];exact w1⟩,w3,w4,w5⟩⟩
   |true=>
    rw[av,n_ rfl]at d;rw[n_ rfl,ua (by decide)];simp(disch:=omega)only[↓mc]
    try rw[s_ ax]
    refine j8 ?_;refine br (ds:=[x]) a5 (by simp) rfl ?_;refine b_ ?_;refine ab (e_.g_ (e:=2) (enc:=D8) (λ_=>rfl) bP) ?_;refine j8 ?_;refine cA (nn,j) _ λx' J o6 gx k6 l6 b6=>?_;refine b_ ?_;refine ab gx ?_;refine j8 ?_;refine gf (b:=id) (b4 k6) (by simp) ?_;refine j8 ?_;obtain⟨w1,R,w3,w4,w5⟩:=cf 0 x x' B (nn,j) J (by decide) a2 M o6 k6 l6 b6 [x',y,z] rfl;exact bx _ _ ⟨I,rfl,⟨⟨n2,W2,T,_,R,λV=>(q2 V).trans ⟨λq=>⟨q,bd V⟩,λq=>q.1⟩,by rw[d];exact w1⟩,w3,w4,w5⟩⟩
  rw[ua ax];simp(disch:=omega)only[↓A9];rw[qs ax]at d
  try rw[ua ax]
  refine b_ ?_;obtain⟨O,c0⟩ : ∃O:Nat,O=if CP f k=true then 1 else 0:=⟨_,rfl⟩
  have el:(if CP f k=true then(1:Int)else 0)=ofNat O:=by rw[c0];split<;>rfl
  have b9:O<2:=by grind
  try rw[el]
  try rw[ua ax]
  refine j8 ?_;refine Qv b9 ?_;obtain⟨u,eu⟩ : ∃u,u=if O=0 then y else z:=⟨_,rfl⟩
  have hu:ag[3*ix+(1+O)]?=some u:=by
   obtain h|h:O=0∨O=1:=by omega
   .rw[eu,h,n_ rfl];exact a3
   grind
  have d3:∀ {gg:HL},gg[id]?=some (.o (.cells [x,y,z] 3 true))->Gp gg (.pointer (some ⟨id,1+O,none⟩)) [u]:=λ{gg} hg=>by
   refine⟨id,1+O,_,3,true,rfl,hg,?_⟩;obtain h|h:O=0∨O=1:=by omega
   .rw[eu,h,n_ rfl];exact fY.2 ⟨by simp,rfl⟩
   .rw[eu,h,qs (by decide)];exact fY.2 ⟨by simp,rfl⟩
  obtain⟨B,M⟩:=aq (l:=(Ce (sd f k) t).2) (i:=3*ix+(1+O)) (by rw[s5.ll];exact ai hu);have a9:=s5.ow _ u B hu M;refine dq ((d3 a5).lg rfl) ?_;refine b_ ?_;refine ab (e_.g_ (e:=2) (enc:=D8) (λ_=>rfl) a9) ?_;refine j8 ?_;have eE:B.length<=1000000:=a7 B (Cb M);refine a9.GX (a:=((j,nn):K2)) (λ_=>rfl) (by omega) rfl rfl rfl (by unfold ba;rw[DK (by omega),DK (by omega)];rfl) ?_;intro u' J o6 gu k6 l6 b6;have dl:∀(i:Nat) o,X[i]?=some o->d_ u≠some i->J[i]?=some o:=λi o hi N=>k6 i o hi N;refine b_ ?_;refine ab gu ?_;refine j8 ?_;refine Qv b9 ?_;have b4:J[id]?=some (.o (.cells [x,y,z] 3 true)):=dl id _ a5 λe=>by
   obtain⟨aE,L⟩:=a9.wid e
   simp_all
  refine YD b4 (by simp;omega) ?_;refine j8 ?_;refine ae (x:=()) (cY (bS ⟨_,_,_,rfl⟩ λi hi=>?_) eR) ?_
  .have q1:X.length=i:=by simpa[d_]using hi
   grind
  refine j8 ?_;have cl:([x,y,z]:Tn).take (1+O)++[u']++([x,y,z]:Tn).drop (1+O+[u'].length)=[x,y,z].set (1+O) u':=by
   obtain h|h:O=0∨O=1:=by omega
   .rw[h];rfl
   .rw[h];rfl
  rw[cl];obtain⟨w1,R,w3,w4,w5⟩:=cf (1+O) u u' B (j,nn) J (by omega) hu M o6 dl l6 b6 _ rfl;obtain⟨g7,e7⟩ : ∃g7,g7=J.set id (.o (.cells (([x,y,z]:Tn).set (1+O) u') 3 true)):=⟨_,rfl⟩;rw[←e7]at w1 R w3 w4 w5 ⊢;refine aP w3 rfl (kf E) ?_;rw[show q7 (af (G j) r)=[.int .u8 (ofNat (af (G j) r).1),.int .i64 (af (G j) r).2.1,.int .i64 (af (G j) r).2.2]from rfl];refine b_ ?_;have fl:=U9 dn;simp only[CI]at fl;refine aj fl ?_;refine b_ ?_;have em:(!decide (4<=(af (G j) r).1))=decide ((af (G j) r).1<4):=by
   grind
  rw[em];obtain⟨r0,c1⟩:=R.fr;obtain⟨W3,n3,g8,cb,t1,t2,t3,t4,t5,t6⟩:=Y' R.hb (R.up.ls dI) c1 R.ok R.va R.pr ki (x:=j) (y:=nn) (decide ((af (G j) r).1<4)) (λ_=>d8 j nn E ⟨e,an,a8,by omega⟩);refine am cb ?_;refine b_ ?_;have es:∀i,d_ c.va=some i->i<h.length:=λi e=>(Z.va.d_ e).2;have eX:=ai Z.hb;have dj:∀ {i ee:Nat} {Y:Tn},g7[i]?=some (.o (.cells Y ee true))->ee≠15->ee≠1->g8[i]?=some (.o (.cells Y ee true)):=λ{i ee Y} hi eM h1=>t5 i _ hi (λe2=>by
   subst e2;rw[R.hb]at hi
   simp_all) λe2=>by
   obtain⟨aE,L⟩:=R.va.wid e2
   grind
  have bb:c.pr<h.length:=by
   obtain⟨ps,p1,_⟩:=Z.pr;exact p1.lt
  have hq:(if CP f k=true then 2 else 1)=1+O:=by rw[c0];split<;>rfl
  have ci:Sm Q.length g8 h.length I (ff w v l (λc=>af (G c) r) j e t).1 T (ag.set (3*ix+(1+O)) u') (ff w v l (λc=>af (G c) r) j e t).2:=by
   rw[d,hq];exact w1.i_ λi o hi ho=>t5 i o ho (by omega) λe2=>by have:=es i e2;omega
  refine bx _ _ ⟨I,rfl,⟨⟨n3,W3,T,ag.set (3*ix+(1+O)) u',⟨t1,R.up.A1 λi Y _ hi=>dj hi (by decide) (by decide),t2,R.fo.A1 λi Y _ hi=>dj hi (by decide) (by decide),R.pr.i_ λo ho=>t5 _ o ho (rn R.pr R.hb) λe2=>?_,⟨r0,c1⟩,t3⟩,λV=>(t4 V).trans ?_,ci⟩,w3.i_ λi o hi N=>?_,by omega,λi o hi h1 L=>t5 i o (w5 i o hi h1 L) h1 L⟩⟩
  .obtain⟨aE,L⟩:=R.va.wid e2;exact rn R.pr L rfl
  .rw[←and_assoc];refine and_congr (q2 V) ?_;unfold Ew;constructor
   .grind
   grind
  .obtain⟨Y,ad,L⟩:=vC w3 N;have:=Bf co N;exact t5 i o hi (λe2=>by
    rw[e2,R.hb]at L
    grind) λe2=>by
    obtain⟨aE,h3⟩:=R.va.wid e2
    grind)
 grind
end Go.Am
namespace Go.Am
namespace Sx
section
variable [Cf] [C8] {C:ke} {Sg:Td} {T:Tv}
variable {j7:Type} [DecidableEq j7] (kc:j7->Tn) {kk:TJ} (hd:∀a b,v_ kk (kc a) (kc b)=some (decide (a=b)))
variable {kt:TP} (h1:x6 C.P kt=some true) (h2:Cz C.P 10000 kt=some kk) (h3:∀a,∃r,fF kk (kc a) (kc a)=some r)
include hd h1 h2 h3
theorem hP{h:HL}{id:Nat}{a:List (j7×Value)}{z:TR}{K:Tf}(x:C6 kc h id a)(k:j7){v:TR}(y:v = .agg ⟨kc k⟩)(H:∀cs,z≠.agg cs)(F:∀p∈a,∀cs,p.2≠.agg cs)
  (h0:k∉a.map Prod.fst->K [z,.bool false]) (E:∀(i:Nat) u,a[i]?=some (k,u)->K [u,.bool true]) :
  (PH C Sg T).ka (.fn (E7 C kt false z (.map (some id)) v true)) h (@hY _ ⟨K⟩):=by
 subst y;obtain⟨b,c,m,f⟩:=x;have D:∀u:Value,(∀cs,u≠.agg cs)->gm false u=some [u]:=λu G=>by
  unfold gm
  simp_all
 have d:∃cs,E7 C kt false z (.map (some id)) (.agg ⟨kc k⟩) true (r_ T h)=some cs/\K cs:=by
  unfold E7;rw[Kx kc h1 h2 h3 k];simp only[DJ,D5,if_false];rw[oh m];simp only;rw[yQ kc h1 h2 k (HJ kc hd k 0 (C6.keys kc f))];cases r:(a.map Prod.fst).idxOf? k with
  |none=>
   simp_all
  |some j=>
   obtain⟨s,w,_⟩:=qcz.1 r;have l:b.length=a.length:=by
    have:=congrArg List.length f;simpa using this
   have t:j<a.length:=by simpa using s
   have q:b[j]?=some (b[j]'(by omega)):=FN _;have g:a[j]?=some a[j]:=FN _;have n:(b.map (λe=>(e.key,e.val)))[j]?=(a.map λp=>((.agg ⟨kc p.1⟩ : Value),p.2))[j]?:=by rw[f]
   rw[EL,EL,q,g]at n;have B:(b[j]'(by omega)).val=a[j].2:=by
    simp_all
   have A:ed b j=some a[j].2:=by
    unfold ed
    simp_all
   grind
 obtain⟨cs,e,o⟩:=d;exact dq e o
theorem eu{h:HL}{id:Nat}{a:List (j7×Value)}{u:TR}{K:Tb}(A:C6 kc h id a)(k:j7)(z:k∈a.map Prod.fst){v:TR}(D:v = .agg ⟨kc k⟩)(B:Instr.sameBits 10000 (.agg ⟨kc k⟩) (.agg ⟨kc k⟩)=true)
  (x:∀o (i:Nat),(a.map Prod.fst)[i]?=some k->C6 kc (h.set id o) id (a.set i (k,u))->K [] (h.set id o)) :
  (PH C Sg T).heap (.fn (FH C kt (.map (some id)) v u)) h (@hY _ ⟨K⟩):=by
 subst D;obtain⟨b,c,n,f⟩:=A;cases g:(a.map Prod.fst).idxOf? k with
 |none=>exact absurd z (qdg.1 g)
 |some j=>
  obtain⟨t,l,_⟩:=qcz.1 g;have q:b.length=a.length:=by
   have:=congrArg List.length f;simpa using this
  have w:j<a.length:=by simpa using t
  have s:b[j]?=some (b[j]'(by omega)):=FN _;have m:a[j]?=some a[j]:=FN _;have r:(b.map (λe=>(e.key,e.val)))[j]?=(a.map λp=>((.agg ⟨kc p.1⟩ : Value),p.2))[j]?:=by rw[f]
  rw[EL,EL,s,m]at r;have y:a[j].1=k:=by simpa using l
  have E:(b[j]'(by omega)).key = .agg ⟨kc k⟩:=by
   simp_all
  have d:(Hp.fn (FH C kt (.map (some id)) (.agg ⟨kc k⟩) u)).run (r_ T h) h.length=some ([.set id (.map (b.modify j λe=>{ e with key:=.agg ⟨kc k⟩,val:=u }) c)],[]):=by
   show FH C kt (.map (some id)) (.agg ⟨kc k⟩) u (r_ T h) h.length=_;unfold FH;simp only;rw[Kx kc h1 h2 h3 k];simp only[DJ,D5,if_false];rw[oh n];simp only;rw[yQ kc h1 h2 k (HJ kc hd k 0 (C6.keys kc f)),g]
   simp_all
  refine bJ d (x _ j (by simp_all) ⟨_,_,GL (ai n),?_⟩);apply GB;intro i;rw[EL,EL,List.getElem?_modify];have e3:(b.map (λe=>(e.key,e.val)))[i]?=(a.map λp=>((.agg ⟨kc p.1⟩ : Value),p.2))[i]?:=by rw[f]
  grind
end
end Sx
end Go.Am
namespace Go.Am
open Sx Go.Proofs
def EH(ks:TM)(c:Cl):TM:=if c∈ks then ks else ks++[c]
def C7(L:TM):TM:=L.foldl EH []
def O_{L:TM}{c:Cl}:C7 (L++[c])=EH (C7 L) c:=by simp[C7]
def U_:∀(L A:TM),A.Nodup->(L.foldl EH A).Nodup/\(∀c,c∈L.foldl EH A↔c∈A∨c∈L)/\(L.foldl EH A).length<=A.length+L.length
 | [],A,h=>⟨h,λc=>by simp,by simp⟩
 |x :: L,A,h=>by
  have a:(EH A x).Nodup:=by
   unfold EH
   grind
  have d:∀c,c∈EH A x↔c∈A∨c=x:=λc=>by
   unfold EH
   grind
  have b:(EH A x).length<=A.length+1:=by
   unfold EH
   grind
  obtain⟨e,f,g⟩:=U_ L (EH A x) a
  grind
def sY(L:TM):(C7 L).Nodup:=(U_ L [] kH).1
def ob{L:TM}{c:Cl}:c∈C7 L↔c∈L:=by
 have:=(U_ L [] kH).2.1 c;simpa[C7]using this
def sX(L:TM):(C7 L).length<=L.length:=by
 have:=(U_ L [] kH).2.2;simpa[C7]using this
def Fa(l:TM):Prop:=l.Pairwise λa b=>CP b a=true
def wS{a:Cl}:CP a a=false:=by rw[vm];omega
def Pc{a b c:Cl}(h:CP b a=true)(k:CP c b=true):CP c a=true:=by rw[wT]at *;omega
def Pb{a b:Cl}(h:CP a b=true):CP b a=false:=by rw[wT]at h;rw[vm];omega
def Ix{l:TM}(h:Fa l):l.Nodup:=h.imp λ{a b} q e=>by
 subst e;rw[wS]at q;cases q
def yx:∀ {l m:TM},Fa l->Fa m->(∀c,c∈l↔c∈m)->l=m
 | [],[],_,_,_=>rfl
 | [],b :: m,_,_,h=>absurd ((h b).2 (by simp)) (by simp)
 |a :: l,[],_,_,h=>absurd ((h a).1 (by simp)) (by simp)
 |a :: l,b :: m,h1,d,h=>by
  unfold Fa at h1 d;rw[Je]at h1 d;have e:a=b:=by
   rcases Dy.1 ((h a).1 (by simp))with e|f
   .exact e
   .rcases Dy.1 ((h b).2 (by simp))with e|hb
    .exact e.symm
    .have n:=d.1 a f;have o:=Pb (h1.1 b hb)
     simp_all
  subst e
  congr 1
  refine yx h1.2 d.2 λc=>?_;have j:∀ {k:TM},(∀x∈k,CP x a=true)->a∉k:=λg i=>by
   have:=g a i;rw[wS]at this;cases this
  grind
def G1(c:Cl):TM->List Cl
 | []=>[c]
 |a :: l=>if CP a c then c :: a :: l else a :: G1 c l
def pA(c:Cl):∀l:List Cl,(G1 c l).Perm (c :: l)
 | []=>Yq _
 |a :: l=>by
  unfold G1;split
  .exact Yq _
  .exact((pA c l).cons a).trans (List.Perm.swap c a l)
def yY{c:Cl}:∀ {l:TM},Fa l->c∉l->Fa (G1 c l)
 | [],_,_=>by simp[G1,Fa]
 |a :: l,h,f=>by
  unfold Fa at h;have d:=Je.1 h;unfold G1;split
  next q=>
   unfold Fa;rw[Je];refine⟨λb hb=>?_,h⟩;rcases Dy.1 hb with rfl|hb
   .exact q
   .exact Pc q (d.1 b hb)
  next q=>
   unfold Fa;rw[Je];refine⟨λb hb=>?_,yY d.2 λg=>f (by simp[g])⟩;rcases Dy.1 ((pA c l).mem_iff.1 hb)with rfl|hb
   .exact tb (by simpa using q) λe=>f (by simp[e])
   .exact d.1 b hb
def Dn(L:TM):TM:=(C7 L).foldr G1 []
def o2:∀ {l:TM},l.Nodup->Fa (l.foldr G1 [])/\(l.foldr G1 []).Perm l
 | [],_=>⟨.nil,Yq _⟩
 |a :: l,h=>by
  rw[nD]at h;obtain⟨h1,b⟩:=o2 h.2;exact⟨yY h1 λc=>h.1 (b.mem_iff.1 c),(pA a _).trans (b.cons a)⟩
def sj(L:TM):Fa (Dn L):=(o2 (sY L)).1
def jf(L:TM):(Dn L).Perm (C7 L):=(o2 (sY L)).2
def wu{L:TM}{c:Cl}:c∈Dn L↔c∈L:=(jf L).mem_iff.trans ob
def sn(L:TM):(Dn L).length<=L.length:=by rw[(jf L).length_eq];exact sX L
def Y2{L D:TM}(h:D.Perm (C7 L))(k:D.Pairwise λa b=>CP a b=false):D=Dn L:=by
 have g:D.Nodup:=h.nodup_iff.2 (sY L);refine yx ?_ (sj L) λc=>by rw[h.mem_iff,(jf L).mem_iff]
 unfold Fa;rw[M8]at k ⊢;rw[SA,M8]at g;exact λi j e f d=>tb (k i j e f d) (g i j e f d)
def Fc(L:TM)(n:Nat)(c:Cl):TC:=(range n).filter λi=>decide (L[i]?=some c)
def Vg(L:TM)(c:Cl):TC:=Fc L L.length c
def q_(L:TM):List (TC):=(Dn L).map (Vg L)
def vq{L:TM}{n:Nat}{c:Cl}:Fc L (n+1) c=Fc L n c++(if L[n]?=some c then [n]else []):=by
 unfold Fc;rw[Lb,r0]
 grind
def Po{L:TM}{n i:Nat}{c:Cl}:i∈Fc L n c↔i<n/\L[i]?=some c:=by
 unfold Fc
 simp_all
def ge{L:TM}{i:Nat}{c:Cl}:i∈Vg L c↔L[i]?=some c:=by
 unfold Vg;rw[Po]
 grind
def Pn{L:TM}{n:Nat}{c:Cl}:(Fc L n c).Pairwise (· < ·):=List.pairwise_lt_range.filter _
def og{L:TM}{n:Nat}{c:Cl}:(Fc L n c).length<=n:=by
 have:=qcI (λi=>decide (L[i]?=some c)) (range n);rw[SG]at this;exact this
def Pj{L:TM}{l:TC}(a:l∈q_ L):l.Pairwise (· < ·):=by
 obtain⟨c,_,rfl⟩:=CH.1 a;exact Pn
def wV(L:TM):Gl (q_ L) L.length:=by
 refine⟨λl d=>?_,λl d x g=>?_,λl d=>(Pj d).imp λh=>by omega,?_⟩
 .obtain⟨c,k,rfl⟩:=CH.1 d;obtain⟨i,m⟩:=DZ (wu.1 k);exact λe=>by
   have:=ge.2 m
   simp_all
 .obtain⟨c,_,rfl⟩:=CH.1 d;exact ai (ge.1 g)
 .unfold q_;rw[M_];refine(Ix (sj L)).imp λ{a b} f x g j=>f ?_;have n:=ge.1 g;have o:=ge.1 j
  simp_all
def kS{L:TM}{x y:Nat}{c:Cl}(a:L[x]?=some c)(b:L[y]?=some c):∃l∈q_ L,x∈l/\y∈l:=
 ⟨Vg L c,CH.2 ⟨c,wu.2 (Cb a),rfl⟩,ge.2 a,ge.2 b⟩
def Pm{L:TM}{l:TC}(b:l∈q_ L){x y:Nat}(d:x∈l)(e:y∈l):L[x]?=L[y]?/\x<L.length:=by
 obtain⟨c,_,rfl⟩:=CH.1 b;have a:=ge.1 d;exact⟨a.trans (ge.1 e).symm,ai a⟩
def Sy(l:TC)(i:Nat):List K2:=match l[i]? with
 |some b=>(l.take i).map λa=>(a,b)
 |none=>[]
def G_(l:TC)(n:Nat):List K2:=(range n).flatMap (Sy l)
def M6(IDS:List (TC))(n:Nat):List K2:=(IDS.take n).flatMap λl=>G_ l l.length
def Er(IDS:List (TC)):List K2:=IDS.flatMap λl=>G_ l l.length
def tK{l:TC}{n:Nat}:G_ l (n+1)=G_ l n++Sy l n:=by
 unfold G_;rw[Lb,Yx];simp
def Wd{l:TC}{i:Nat}:(Sy l i).length<=i:=by
 unfold Sy
 grind
def xN{l:TC}:∀n,(G_ l n).length<=n*n
 |0=>by simp[G_]
 |n+1=>by
  have a:=xN (l:=l) n;have:=Wd (l:=l) (i:=n);rw[tK,GA,Jh,Nat.mul_add];omega
def QI{IDS:List (TC)}{n:Nat}{l:TC}(h:IDS[n]?=some l):M6 IDS (n+1)=M6 IDS n++G_ l l.length:=by
 unfold M6;rw[H5,h,Yx];simp
def Wc{IDS:List (TC)}{n:Nat}(h:IDS.length<=n):M6 IDS n=Er IDS:=by
 unfold M6 Er;rw[H4 h]
def xM{l:TC}{i:Nat}{p:K2}:p∈Sy l i↔∃j:Nat,j<i/\l[j]?=some p.1/\l[i]?=some p.2:=by
 unfold Sy;cases h:l[i]? with
 |none=>simp
 |some b=>
  simp only[CH,FL];constructor
  .rintro⟨a,d,rfl⟩;obtain⟨j,g⟩:=DZ d
   grind
  .rintro⟨j,e,f,c⟩;refine⟨p.1,Cb (i:=j) (by simp_all),by rw[c]⟩
def mr{l:TC}{n:Nat}{p:K2}:p∈G_ l n↔∃j i:Nat,j<i/\i<n/\l[j]?=some p.1/\l[i]?=some p.2:=by
 unfold G_;rw[Gc];constructor
 .rintro⟨i,d,e⟩;obtain⟨j,q⟩:=xM.1 e;exact⟨j,i,q.1,Cd.1 d,q.2⟩
 .rintro⟨j,i,a,b,c⟩;exact⟨i,Cd.2 b,xM.2 ⟨j,a,c⟩⟩
def xO{IDS:List (TC)}{p:K2}:p∈Er IDS↔∃l∈IDS,∃j i:Nat,j<i/\l[j]?=some p.1/\l[i]?=some p.2:=by
 unfold Er;rw[Gc];constructor
 .rintro⟨l,c,e⟩;obtain⟨j,i,b,d,a⟩:=mr.1 e;exact⟨l,c,j,i,b,a⟩
 .rintro⟨l,c,j,i,b,d,a⟩;exact⟨l,c,mr.2 ⟨j,i,b,ai a,d,a⟩⟩
def I7{l:TC}(h:l.Nodup){i j x:Nat}(a:l[i]?=some x)(b:l[j]?=some x):i=j:=by
 rw[SA,M8]at h
 grind
def p9{l:TC}(h:l.Nodup)(i:Nat):(Sy l i).Nodup:=by
 unfold Sy
 grind
def QJ{l:TC}(h:l.Nodup):∀n,(G_ l n).Nodup
 |0=>by simp[G_]
 |n+1=>by
  rw[tK,kG];refine⟨QJ h n,p9 h n,λp b q c e=>?_⟩;subst e;obtain⟨j,i,h1,f,g,a⟩:=mr.1 b;obtain⟨k,m,o,d⟩:=xM.1 c;have:=I7 h a d;omega
def QK{IDS:List (TC)}{N:Nat}(g:Gl IDS N):(Er IDS).Nodup:=by
 have f:∀I:List (TC),(∀l∈I,l.Nodup)->(I.Pairwise λa b=>∀x∈a,x∉b)->(Er I).Nodup:=by
  intro I
  induction I with
  |nil=>intro _ _;exact kH
  |cons l I s=>
   intro h c;rw[Je]at c;show(G_ l l.length++Er I).Nodup;rw[kG];refine⟨QJ (h l (by simp)) _,s (λm d=>h m (by simp[d])) c.2,λp o q r e=>?_⟩;subst e;obtain⟨j,i,_,_,k,_⟩:=mr.1 o;obtain⟨m,d,u,t,_,n,_⟩:=xO.1 r;exact c.1 m d p.1 (Cb k) (Cb n)
 exact f IDS g.nd g.dj
def Wf{IDS:List (TC)}{N s i k a b:Nat}{l:TC}(g:Gl IDS N)(x:IDS[s]?=some l)(v:l[i]?=some b)(D:k<i)(u:l[k]?=some a):((a,b):K2)∉M6 IDS s++G_ l i++(l.take k).map λa=>((a,b):K2):=by
 intro c;have f:=g.nd l (Cb x);rcases Ed.1 c with c|c
 .rcases Ed.1 c with c|c
  .unfold M6 at c;obtain⟨m,n,o⟩:=Gc.1 c;obtain⟨z,y,_,_,C,_⟩:=mr.1 o;obtain⟨t,d⟩:=DZ n;rw[lE]at d;split at d
   next w=>
    have j:=g.dj;rw[M8]at j
    grind
   .cases d
  .obtain⟨z,y,A,B,_,r⟩:=mr.1 c;have:=I7 f r v;omega
 .obtain⟨p,h,e⟩:=CH.1 c;have q:p=a:=congrArg Prod.fst e;subst q;obtain⟨t,d⟩:=DZ h;rw[lE]at d;split at d
  .have:=I7 f d u;omega
  .cases d
def WS{l:TC}{k a b:Nat}(c:l[k]?=some a):((l.take (k+1)).map λa=>((a,b):K2))=((l.take k).map λa=>((a,b):K2))++[(a,b)]:=by
 rw[H5,c];simp
def y7{l:TC}{i b:Nat}(c:l[i]?=some b):Sy l i=(l.take i).map λa=>((a,b):K2):=by
 unfold Sy;rw[c]
def DB(c:List K2)(a b:Nat):Nat:=if (a,b)∈c then c.idxOf (a,b)else 0
def Sz(a:List K2):List (K2×Value):=a.mapIdx λi k=>(k,.int .i64 (ofNat i))
def K7{a:List K2}:(Sz a).map Prod.fst=a:=by
 unfold Sz;refine GB λi=>?_
 grind
def We{a:List K2}{k:K2}:Sz (a++[k])=Sz a++[(k,.int .i64 (ofNat a.length))]:=by
 unfold Sz
 simp_all
def K8{h:HL}{id:Nat}{a:List K2}(n:a.Nodup)(m:C6 D8 h id (Sz a)):NA h id (DB a):=by
 refine⟨Sz a,m,λi k u b=>?_,λk g=>?_⟩
 .unfold Sz at b;rw[List.getElem?_mapIdx]at b;cases f:a[i]? with
  |none=>rw[f]at b;cases b
  |some q=>
   rw[f]at b;have e:=DU b;have j:q=k:=congrArg Prod.fst e;have l:Value.int .i64 (ofNat i)=u:=congrArg Prod.snd e;subst j;have c:=Cb f;have d:a.idxOf q=i:=by
    grind
   rw[←l];unfold DB;rw[n_ c,d]
 .rw[K7]at g;unfold DB;rw[qs g]
def QH{c:List K2}(h0:0<c.length)(a b:Nat):DB c a b<c.length:=by
 unfold DB
 grind
def wv{c:List K2}(h0:0<c.length)(a b:Nat):(CO (DB c) a b).1<c.length:=by
 unfold CO;split
 .exact QH h0 _ _
 .exact QH h0 _ _
def tM{L:TM}{x y:Nat}(o:x≠y)(h:L[x]?=L[y]?)(n:x<L.length):0<(Er (q_ L)).length:=by
 obtain⟨c,b⟩:=aq n;rw[b]at h;obtain⟨l,g,k,m⟩:=kS b h.symm;obtain⟨i,d⟩:=DZ k;obtain⟨j,f⟩:=DZ m;have a:i≠j:=λe=>by
  simp_all
 rcases Nat.lt_or_gt_of_ne a with q|q
 .exact List.length_pos_of_mem (xO.2 ⟨l,g,i,j,q,d,f⟩ : ((x,y):K2)∈_)
 .exact List.length_pos_of_mem (xO.2 ⟨l,g,j,i,q,f,d⟩ : ((y,x):K2)∈_)
abbrev Ad:=K6×Option (Nat×K2)
def Hi(s:Ev)(x:Ad):Ev:=match x.2 with
 |none=>Ce x.1 s
 |some (t,p)=>Ff (3*(Ce x.1 s).1.idxOf x.1+t) p (Ce x.1 s)
def Ep(k:K6)(t:Nat)(x:Ad):Option K2:=match x.2 with
 |none=>none
 |some (a,p)=>if x.1=k/\a=t then some p else none
structure AI(A:Ev)(Q:List Ad):Prop where
 nd:A.1.Nodup
 ln:A.2.length=3*A.1.length
 ks:∀k,k∈A.1↔∃x∈Q,x.1=k
 ls:∀(i:Nat) k t,A.1[i]?=some k->t<3->A.2[3*i+t]?=some (Q.filterMap (Ep k t))
def YV:AI ([],[]) []:=⟨kH,rfl,λk=>by simp,λi k t h=>by cases h⟩
def Nc{k:K6}{t:Nat}{Q:List Ad}(h:∀x∈Q,x.1≠k):Q.filterMap (Ep k t)=[]:=by
 rw[List.filterMap_eq_nil_iff];intro x a;unfold Ep
 grind
def AI.tou{A:Ev}{Q:List Ad}(h:AI A Q)(k:K6):AI (Ce k A) (Q++[(k,none)])/\k∈(Ce k A).1:=by
 have n:∀c t,(Q++[((k,none):Ad)]).filterMap (Ep c t)=Q.filterMap (Ep c t):=λc t=>by
  rw[ce];simp[Ep]
 have m:∀c,(∃x∈Q++[((k,none):Ad)],x.1=c)↔(∃x∈Q,x.1=c)∨k=c:=λc=>by
  simp_all
 unfold Ce;split
 next j=>
  refine⟨⟨h.nd,h.ln,λc=>?_,λi c t d l=>?_⟩,j⟩
  .rw[m,←h.ks]
   grind
  .rw[n];exact h.ls i c t d l
 next j=>
  refine⟨⟨?_,?_,λc=>?_,λi c t d l=>?_⟩,by simp⟩
  .rw[kG];exact⟨h.nd,by simp,λa p b q e=>by
    simp_all⟩
  .simp[h.ln];omega
  .rw[m,←h.ks];simp[eq_comm]
  .rw[n];simp only at d ⊢;rw[n3]at d;split at d
   next g=>
    rw[GD (by rw[h.ln];omega)];exact h.ls i c t d l
   next g=>
    have f:=ai d;simp only[qcK]at f;have e:i=A.1.length:=by omega
    subst e;rw[Wj]at d;have e:k=c:=DU d;subst e;rw[Nc λx o e=>j ((h.ks k).2 ⟨x,o,e⟩),Hb (by rw[h.ln];omega),h.ln,qdk]
    grind
def AI.step{A:Ev}{Q:List Ad}(h:AI A Q){x:Ad}(v:∀q,x.2=some q->q.1<3):AI (Hi A x) (Q++[x]):=by
 obtain⟨k,o⟩:=x;obtain⟨c,w⟩:=h.tou k;unfold Hi;cases o with
 |none=>exact c
 |some q=>
  obtain⟨t,p⟩:=q;have z:t<3:=v _ rfl;simp only;obtain⟨f,m⟩ : ∃f,f=(Ce k A).1.idxOf k:=⟨_,rfl⟩;rw[←m];have u:(Ce k A).1[f]?=some k:=by
   grind
  have j:∀a b,(Q++[((k,some (t,p)):Ad)]).filterMap (Ep a b)=(Q++[((k,none):Ad)]).filterMap (Ep a b)++(if k=a/\t=b then [p]else []):=λa b=>by
   rw[ce,ce];by_cases e:k=a/\t=b
   .simp[Ep,e]
   .simp[Ep,e]
  refine⟨c.nd,by simp[Ff,c.ln],λa=>?_,λi a b s l=>?_⟩
  .show a∈(Ce k A).1↔_;rw[c.ks]
   simp_all
  .have g:(Ce k A).1[i]?=some a:=s;have d:=c.ls i a b g l;unfold Ff;simp only;rw[j];by_cases e:i=f/\t=b
   .grind
   .rw[Ha (by omega),d,qs,GM];rintro⟨n,r⟩;subst n;exact e ⟨by
     have y:=c.nd
     grind,r⟩
def JM:∀(R:List Ad) (A:Ev) (Q:List Ad),AI A Q->(∀x∈R,∀q,x.2=some q->q.1<3)->AI (R.foldl Hi A) (Q++R)
 | [],A,Q,h,_=>by simpa using h
 |x :: R,A,Q,h,a=>by
  have:=JM R (Hi A x) (Q++[x]) (h.step (a x (by simp))) λy b=>a y (by simp[b])
  simp_all
section
variable (w v:Nat) (l:TD) (P:TH)
def Dw(id:Nat):Cl:=aA (P id) (n4 w id)
def EG(id e:Nat):Cl:=aA (P id) (DA (n4 w id) e)
def Vl(id n e:Nat):Int:=gO l (ofNat (min id n)) (ofNat e)
def Eh(id e:Nat):Ad:=(sd (Dw w P id) (EG w P id e),match Cn w v id e with
 |none=>none
 |some n=>if n<id then none else
  if Vl l id n e=0 then some (0,if CP (Dw w P id) (EG w P id e)then(n,id)else(id,n))
  else some (if CP (Dw w P id) (EG w P id e)then 2 else 1,(id,n)))
def SS{id e:Nat}:∀q,(Eh w v l P id e).2=some q->q.1<3:=by
 intro q a;unfold Eh at a
 grind
def Rw(id e:Nat)(s:Ev):ff w v l P id e s=Hi s (Eh w v l P id e):=by
 unfold ff Hi Eh Dw EG Vl
 grind
def Fs(n:Nat):List Ad:=(range n).flatMap λid=>(range 3).map (Eh w v l P id)
def tU(n:Nat):CY w v l P n=(Fs w v l P n).foldl Hi ([],[]):=by
 have c:∀(id:Nat) (E:TC) (s:Ev),E.foldl (λs e=>ff w v l P id e s) s=(E.map (Eh w v l P id)).foldl Hi s:=λid E=>by
  induction E with
  |nil=>intro s;rfl
  |cons e E a=>
   intro s;simp only[Wn,DD];rw[Rw,a]
 unfold CY Fs;generalize (([],[]):Ev)=s0;have b:∀(I:TC) (s:Ev),I.foldl (λs id=>(range 3).foldl (λs e=>ff w v l P id e s) s) s=(I.flatMap λid=>(range 3).map (Eh w v l P id)).foldl Hi s:=λI=>by
  induction I with
  |nil=>intro s;rfl
  |cons i I a=>
   simp_all
 exact b _ s0
def Lj(n:Nat):AI (CY w v l P n) (Fs w v l P n):=by
 rw[tU];have:=JM (Fs w v l P n) ([],[]) [] YV λx a q b=>by
  unfold Fs at a;obtain⟨id,_,a⟩:=Gc.1 a;obtain⟨e,_,rfl⟩:=CH.1 a;exact SS w v l P q b
 simpa using this
def JH(N:Nat)(k:K6)(t:Nat)(p:K2):Prop:=∃id e n,id<N/\e<3/\Cn w v id e=some n/\¬n<id/\sd (Dw w P id) (EG w P id e)=k/\
 ((t=0/\Vl l id n e=0/\p=if CP (Dw w P id) (EG w P id e)then(n,id)else(id,n))∨(t=(if CP (Dw w P id) (EG w P id e)then 2 else 1)/\Vl l id n e≠0/\p=(id,n)))
def Ra{N:Nat}{k:K6}{t:Nat}{p:K2}:p∈(Fs w v l P N).filterMap (Ep k t)↔JH w v l P N k t p:=by
 unfold Fs;rw[QT];constructor
 .rintro⟨x,i,a⟩;obtain⟨id,hY,i⟩:=Gc.1 i;obtain⟨e,g,rfl⟩:=CH.1 i;unfold Ep Eh at a;simp only at a;cases c:Cn w v id e with
  |none=>rw[c]at a;cases a
  |some n=>
   rw[c]at a;simp only at a;by_cases d:n<id
   .simp_all
   .rw[qs d]at a;by_cases f:Vl l id n e=0
    .rw[n_ f]at a;simp only at a;split at a
     next b=>
      exact⟨id,e,n,Cd.1 hY,Cd.1 g,c,d,b.1,.inl ⟨b.2.symm,f,(DU a).symm⟩⟩
     .cases a
    .rw[qs f]at a;simp only at a;obtain⟨q,eq⟩ : ∃q,q=if CP (Dw w P id) (EG w P id e)=true then 2 else 1:=⟨_,rfl⟩
     rw[←eq]at a;split at a
     next b=>
      exact⟨id,e,n,Cd.1 hY,Cd.1 g,c,d,b.1,.inr ⟨by omega,f,(DU a).symm⟩⟩
     .cases a
 .rintro⟨id,e,n,hY,g,c,d,b,h⟩;refine⟨Eh w v l P id e,Gc.2 ⟨id,Cd.2 hY,CH.2 ⟨e,Cd.2 g,rfl⟩⟩,?_⟩;unfold Ep Eh
  grind
end
section
variable {R HT:Type} (A:A_ R HT)
def np5(c:Nat)(b:Int)(a:HT)(K:TG->HT->R):R:=K [(.v (.pointer (some ⟨c,0,none⟩))),(.i b)] a
def hI(c:Nat)(E:Value)(e:HT)(K:TG->HT->R):R:=A.h_ (CW (.pointer (some ⟨c,0,none⟩))) (λf=>A.k_ f ( A.h_ (Dg 11 f) (λg=>A.k_ g ( A.ka (.lg cc 1 g) e (λr=>A.BM r (λh s=>A.k_ h ( A.ts s ( A.ln h (λa=>A.h_ (DS a a) (λG=>A.new (.cells (aN [(.int .i64 0)] (Int.toNat a)) 1 true) e (λy n=>A.h_ (CW (.pointer (some ⟨c,0,none⟩))) (λj=>A.k_ j ( A.h_ (Dg 12 j) (λk=>A.k_ k ( A.heap (.st k [(.slice (some ⟨y,0,(some 11)⟩) (Int.toNat a) ((Int.toNat a)+1))]) n (λF o=>A.c2 70 [(.v (.pointer (some ⟨c,0,none⟩))),(.v E)] o (λp l z=>A.ln l (λD=>A.loop (λC t b=>A.k6 t (λd=>A.cd .lss d D ( A.ix 1 l d 1 b (λu=>A.BM u (λm w=>A.k_ m ( A.ts w ( A.call 71 [(.v (.pointer (some ⟨c,0,none⟩))),(.v m)] b (λx q=>A.u4 x ( A.pa d 1 (λB=>C [(.i B)] q)))))))) ( np5 c z b K))) [(.i 0)] p))))))))))))))))))
def cA(b:Nat)(a9:Value)(n:HT)(K:TG->HT->R):R:=A.h_ (CW (.pointer (some ⟨b,0,none⟩))) (λp=>A.k_ p ( A.h_ (Dg 7 p) (λq=>A.k_ q ( A.ka (.lg cc 1 q) n (λJ=>A.BM J (λk L=>A.k_ k ( A.ts L ( A.ln k (λa4=>A.loop (λa1 M e=>A.k6 M (λh=>A.cd .lss h a4 ( A.ix 1 k h 1 e (λN=>A.BM N (λd O=>A.k_ d ( A.ts O ( A.ln d (λa5=>A.loop (λa2 P f=>A.k6 P (λc=>A.cd .lss c a5 ( A.ix 1 d c 1 f (λQ=>A.Dx Q (λav=>A.h_ (Et 1 d none (some c) none) (λl=>A.k_ l ( A.ln l (λa6=>A.loop (λa3 S a=>A.k6 S (λj=>A.cd .lss j a6 ( A.ix 1 l j 1 a (λT=>A.Dx T (λax=>A.h_ (CW (.pointer (some ⟨b,0,none⟩))) (λr=>A.k_ r ( A.h_ (Dg 10 r) (λs=>A.k_ s ( A.ka (.lg cc 1 s) a (λU=>A.BM U (λt V=>A.k_ t ( A.ts V ( A.h_ (CW (.pointer (some ⟨b,0,none⟩))) (λu=>A.k_ u ( A.h_ (Dg 11 u) (λv=>A.k_ v ( A.ka (.lg cc 1 v) a (λW=>A.BM W (λw X=>A.k_ w ( A.ts X ( A.ln w (λa7=>A.heap (.fn (FH cc 153 t (.agg ⟨[(.int .i64 ax),(.int .i64 av)]⟩) (.int .i64 a7))) a (λbb g=>A.h_ (CW (.pointer (some ⟨b,0,none⟩))) (λx=>A.k_ x ( A.h_ (Dg 11 x) (λm=>A.k_ m ( A.ka (.lg cc 1 m) g (λY=>A.BM Y (λy Z=>A.k_ y ( A.ts Z ( A.h_ (CW (.pointer (some ⟨b,0,none⟩))) (λz=>A.k_ z ( A.h_ (Dg 11 z) (λB=>A.k_ B ( A.ka (.lg cc 1 B) g (λad=>A.BM ad (λC ag=>A.k_ C ( A.ts ag ( A.ln C (λa8=>A.new (.cells [(.int .i64 a8),(.bool false)] 2 true) g (λo G=>A.heap (.ap cc 2 16 y (.slice (some ⟨o,0,(some 12)⟩) 1 2)) G (λal H=>A.BM al (λD an=>A.k_ D ( A.ts an ( A.h_ (CW (.pointer (some ⟨b,0,none⟩))) (λE=>A.k_ E ( A.h_ (Dg 11 E) (λF=>A.k_ F ( A.heap (.st F [D]) H (λbd I=>A.h_ (Di [((.slice (some ⟨o,0,(some 12)⟩) 1 2),(0,m))]) (λbk=>A.pa j 1 (λay=>a3 [(.i ay)] I)))))))))))))))))))))))))))))))))))))))))))))))))) ( A.pa c 1 (λaE=>a2 [(.i aE)] a)))) [(.i 0)] f)))))) ( A.pa h 1 (λa0=>a1 [(.i a0)] f)))) [(.i 0)] e)))))) ( hI A b a9 e K))) [(.i 0)] n)))))))))
def hO(g:Nat)(D:Value)(n:Nat)(L:HT)(K:TG->HT->R):R:=A.h_ (CW (.pointer (some ⟨g,0,none⟩))) (λWW=>A.k_ WW ( A.h_ (Dg 6 WW) (λRZ=>A.k_ RZ ( A.ka (.lg cc 1 RZ) L (λM=>A.BM M (λR0 N=>A.k_ R0 ( A.ts N ( A.ln R0 (λDo=>A.h_ (DS Do Do) (λx116=>A.new (.cells (aN [(.slice none 0 0)] (Int.toNat Do)) 1 true) L (λh q=>A.h_ (CW (.pointer (some ⟨g,0,none⟩))) (λu=>A.k_ u ( A.h_ (Dg 6 u) (λo=>A.k_ o ( A.ka (.lg cc 1 o) q (λO=>A.BM O (λk P=>A.k_ k ( A.ts P ( A.ln k (λa=>A.h_ (DS a a) (λa4=>A.new (.cells (aN [(.slice none 0 0)] (Int.toNat a)) 1 true) q (λc E=>A.h_ (CW (.pointer (some ⟨g,0,none⟩))) (λv=>A.k_ v ( A.h_ (Dg 7 v) (λe=>A.k_ e ( A.heap (.st e [(.slice (some ⟨h,0,(some 11)⟩) (Int.toNat Do) ((Int.toNat Do)+1))]) E (λa1 F=>A.h_ (CW (.pointer (some ⟨g,0,none⟩))) (λw=>A.k_ w ( A.h_ (Dg 8 w) (λx=>A.k_ x ( A.heap (.st x [(.slice (some ⟨c,0,(some 11)⟩) (Int.toNat a) ((Int.toNat a)+1))]) F (λa2 G=>A.h_ (Di [((.slice (some ⟨h,0,(some 11)⟩) (Int.toNat Do) ((Int.toNat Do)+1)),(0,o)),((.slice (some ⟨h,0,(some 11)⟩) (Int.toNat Do) ((Int.toNat Do)+1)),(2,k)),((.slice (some ⟨c,0,(some 11)⟩) (Int.toNat a) ((Int.toNat a)+1)),(0,RZ)),((.slice (some ⟨c,0,(some 11)⟩) (Int.toNat a) ((Int.toNat a)+1)),(2,R0)),((.slice (some ⟨h,0,(some 11)⟩) (Int.toNat Do) ((Int.toNat Do)+1)),(0,(.slice (some ⟨c,0,(some 11)⟩) (Int.toNat a) ((Int.toNat a)+1)))),(e,(2,k)),((.slice (some ⟨c,0,(some 11)⟩) (Int.toNat a) ((Int.toNat a)+1)),(0,e)),((.slice (some ⟨c,0,(some 11)⟩) (Int.toNat a) ((Int.toNat a)+1)),(0,e))]) (λa5=>A.ln D (λaE=>A.loop (λay Q b=>A.k6 Q (λj=>A.cd .lss j aE ( A.ix 3 D j 3 b (λS=>A.FD S (λr s t=>A.h_ (CW (.pointer (some ⟨g,0,none⟩))) (λWX=>A.k_ WX ( A.h_ (Dg 7 WX) (λf=>A.k_ f ( A.ka (.lg cc 1 f) b (λT=>A.BM T (λy U=>A.k_ y ( A.ts U ( A.ka (.fn (E7 cc 71 false (.int .i64 0) (.map (some n)) (.agg ⟨[(.int .i64 r),(.int .i64 s),(.int .u8 t)]⟩) false)) b (λV=>A.Dx V (λan=>A.h_ (CW (.pointer (some ⟨g,0,none⟩))) (λz=>A.k_ z ( A.h_ (Dg 7 z) (λp=>A.k_ p ( A.ka (.lg cc 1 p) b (λW=>A.BM W (λB X=>A.k_ B ( A.ts X ( A.ka (.fn (E7 cc 71 false (.int .i64 0) (.map (some n)) (.agg ⟨[(.int .i64 r),(.int .i64 s),(.int .u8 t)]⟩) false)) b (λY=>A.Dx Y (λav=>A.h_ (A2 1 B av) (λC=>A.ka (.lg cc 1 C) b (λZ=>A.BM Z (λl ad=>A.k_ l ( A.ts ad ( A.new (.cells [(.int .i64 j)] 1 true) b (λd H=>A.heap (.ap cc 1 8 l (.slice (some ⟨d,0,(some 11)⟩) 1 2)) H (λag I=>A.BM ag (λm al=>A.k_ m ( A.ts al ( A.h_ (A2 1 y an) (λa0=>A.heap (.st a0 [m]) I (λa3 J=>A.h_ (Di [((.slice (some ⟨d,0,(some 11)⟩) 1 2),(0,f)),((.slice (some ⟨d,0,(some 11)⟩) 1 2),(0,(.map (some n)))),((.slice (some ⟨d,0,(some 11)⟩) 1 2),(0,p)),((.slice (some ⟨d,0,(some 11)⟩) 1 2),(0,(.map (some n)))),((.slice (some ⟨d,0,(some 11)⟩) 1 2),(0,C)),(l,(0,f)),(m,(0,f)),(l,(0,(.map (some n)))),(m,(0,(.map (some n))))]) (λa6=>A.pa j 1 (λax=>ay [(.i ax)] J))))))))))))))))))))))))))))))))))))) ( cA A g D b K))) [(.i 0)] G))))))))))))))))))))))))))))))))))
def c8(c:Nat)(j:Nat)(B:Value)(f:HT)(K:TG->HT->R):R:=A.h_ (CW (.pointer (some ⟨c,0,none⟩))) (λo=>A.k_ o ( A.h_ (Dg 6 o) (λp=>A.k_ p ( A.ka (.lg cc 1 p) f (λs=>A.BM s (λq t=>A.k_ q ( A.ts t ( A.call 69 [(.v q),(.v (.func (.func 58) ⟨[]⟩ ⟨[]⟩))] f (λu g=>A.u4 u ( A.h_ (CW (.pointer (some ⟨c,0,none⟩))) (λr=>A.k_ r ( A.h_ (Dg 6 r) (λx88=>A.k_ x88 ( A.ka (.lg cc 1 x88) g (λw=>A.BM w (λd x=>A.k_ d ( A.ts x ( A.ln d (λC=>A.loop (λz y b=>A.k6 y (λa=>A.cd .lss a C ( A.ix 3 d a 3 b (λh=>A.FD h (λk l m=>A.heap (.fn (FH cc 71 (.map (some j)) (.agg ⟨[(.int .i64 k),(.int .i64 l),(.int .u8 m)]⟩) (.int .i64 a))) b (λD e=>A.pa a 1 (λn=>z [(.i n)] e))))) ( hO A c B j b K))) [(.i 0)] g)))))))))))))))))))
def a9(ls:TG)(h:HT)(K:TG->HT->R):R:=A.oo ls (λX l7=>A.oo l7 (λZ l9=>A.Ck l9 (λx J=>A.k4 J (λs t u=>A.c2 68 [(.i X),(.i Z),(.v x),(.i s),(.i t),(.i u)] h (λd c w=>A.cd .neq w 0 ( K [(.v (.pointer none)),(.i w)] d) ( A.pm X Z (λW=>A.cd .gtr W 9 ( K [(.v (.pointer none)),(.i 3)] d) ( A.ln c (λa=>A.h_ (DS a a) (λay=>A.new (.cells (aN [(.bool false)] (Int.toNat a)) 1 true) d (λq B=>A.new (.map [] 0) B (λe C=>A.new (.cells [(.int .i64 X),(.int .i64 Z),x,(.int .u8 s),(.int .i64 t),(.int .i64 u),(.slice none 0 0),(.slice none 0 0),(.slice none 0 0),(.slice (some ⟨q,0,(some 11)⟩) (Int.toNat a) ((Int.toNat a)+1)),(.map (some e)),(.slice none 0 0),(.slice none 0 0),(.slice none 0 0),(.bool false)] 15 true) C (λf D=>A.h_ (Di [((.map (some e)),(2,c)),((.slice (some ⟨q,0,(some 11)⟩) (Int.toNat a) ((Int.toNat a)+1)),(0,(.map (some e))))]) (λaE=>A.new (.map [] 0) D (λg E=>A.ln c (λal=>A.loop (λad L b=>A.k6 L (λj=>A.cd .lss j al ( A.ix 3 c j 3 b (λM=>A.FD M (λk l m=>A.ka (.fn (E7 cc 71 false (.int .i64 0) (.map (some g)) (.agg ⟨[(.int .i64 k),(.int .i64 l),(.int .u8 m)]⟩) true)) b (λN=>A.rv .i64 N (λax O=>A.DV O (λag P=>A.ts P ( A.join (λQ F=>A.u4 Q ( A.pa j 1 (λY=>ad [(.i Y)] F))) (λp=>A.cond (!ag) ( A.heap (.fn (FH cc 71 (.map (some g)) (.agg ⟨[(.int .i64 k),(.int .i64 l),(.int .u8 m)]⟩) (.int .i64 0))) b (λan o=>A.h_ (CW (.pointer (some ⟨f,0,none⟩))) (λy=>A.k_ y ( A.h_ (Dg 6 y) (λn=>A.k_ n ( A.ka (.lg cc 1 n) o (λS=>A.BM S (λz T=>A.k_ z ( A.ts T ( A.new (.cells [(.int .i64 k),(.int .i64 l),(.int .u8 m)] 3 true) o (λr G=>A.heap (.ap cc 3 24 z (.slice (some ⟨r,0,(some 13)⟩) 1 2)) G (λU H=>A.BM U (λx73 V=>A.k_ x73 ( A.ts V ( A.h_ (CW (.pointer (some ⟨f,0,none⟩))) (λx75=>A.k_ x75 ( A.h_ (Dg 6 x75) (λx76=>A.k_ x76 ( A.heap (.st x76 [x73]) H (λav I=>A.h_ (Di [((.slice (some ⟨r,0,(some 13)⟩) 1 2),(0,n))]) (λa0=>p [] I))))))))))))))))))))) ( p [] b))))))))) ( c8 A f g c b K))) [(.i 0)] E))))))))))))))))
end
def d'{R a:Type}(A:A_ R a)(ls:TG)(h:a)(K:TG->a->R):f29 A ls h K=a9 A ls h K:=rfl
def P8{l:TC}{N:Nat}(h:l.Nodup)(j:∀x∈l,x<N):l.length<=N:=by
 have d:∀(a b:TC),a.Nodup->(∀x∈a,x∈b)->a.length<=b.length:=by
  intro a
  induction a with
  |nil=>simp_all
  |cons x a k=>
   intro b c f;rw[nD]at c;have g:=f x (by simp);have:=k (b.erase x) c.2 λy i=>(List.mem_erase_of_ne λe=>c.1 (by rw[←e];exact i)).2 (f y (by simp[i]))
   grind
 have:=d l (range N) h λx g=>Cd.2 (j x g)
 simp_all
def u6{c:Cl}{e:Nat}(a:c.2.2<4)(b:e<3):DA c e≠c:=by
 obtain⟨x,y,q⟩:=c;simp only at a;obtain rfl|rfl|rfl|rfl:=Ey a
 all_goals
  obtain rfl|rfl|rfl:e=0∨e=1∨e=2:=by omega
 all_goals simp[DA]
 all_goals omega
def Zv{t e f:Nat}(a:e<3)(b:f<3)(h:eT t e=eT t f):e=f:=by
 unfold eT at h
 grind
def pG{l:TD}(j:∀c∈l,c.2.2≠0){u e:Nat}:gO l (ofNat u) (ofNat e)≠0↔Ch l u e=true:=by
 unfold gO Ch;rw[Es,CH];cases b:l.find? (J9 (ofNat u) (ofNat e))with
 |none=>
  have d:=List.find?_eq_none.1 b;refine⟨λh=>absurd rfl h,?_⟩;rintro⟨c,i,a⟩;refine absurd ?_ (d c i);unfold aO at a;simp only[QR]at a;simp[J9,a]
 |some c=>
  have g:=r3 b;have f:=cm b;refine⟨λ_=>⟨c,g,?_⟩,λ_=>j c g⟩;simp only[J9,te,Es]at f;unfold aO;rw[f.1,f.2]
def PB{x y z:Cl}(a:y≠x)(b:z≠x)(h:sd x y=sd x z):y=z:=by
 unfold sd at h
 grind
section
variable {w v:Nat} (hs:Sh w v) {l:TD} {G:TH} (hG:Cs w v l G) {r:Mv} (hr:r.1<8)
abbrev Cp(G:TH)(r:Mv):Nat->Mv:=λc=>af (G c) r
include hs
theorem qlt{c:Nat}(a:c<4*w*v):(n4 w c).2.2<4:=(dG hs a).2.2.2.2
theorem JQ{c e:Nat}(a:c<4*w*v)(b:e<3):EG w (Cp G r) c e=DA (Dw w (Cp G r) c) (eT (Cp G r c).1 e):=
 iR fH (qlt hs a) b
theorem Oj{c e:Nat}(b:c<4*w*v)(a:e<3):EG w (Cp G r) c e≠Dw w (Cp G r) c:=by
 rw[JQ hs b a];exact u6 iW (lS a)
theorem Y_{c e f:Nat}(d:c<4*w*v)(a:e<3)(b:f<3)(h:EG w (Cp G r) c e=EG w (Cp G r) c f):e=f:=by
 rw[JQ hs d a,JQ hs d b]at h;exact Zv a b (xn iW (lS a) (lS b) h)
theorem jV{c e f:Nat}(a:c<4*w*v)(b:e<3)(d:f<3)(h:sd (Dw w (Cp G r) c) (EG w (Cp G r) c e)=sd (Dw w (Cp G r) c) (EG w (Cp G r) c f)):e=f:=
 Y_ hs a b d (PB (Oj hs a b) (Oj hs a d) h)
include hG hr
theorem wC{c e n:Nat}(j:c<4*w*v)(h:e<3)(q:Cn w v c e=some n)(k:Ch l (min c n) e=true):Dw w (Cp G r) n=Dw w (Cp G r) c/\EG w (Cp G r) n e=EG w (Cp G r) c e:=by
 obtain⟨i,o,m,d,t⟩:=du hs j h q;obtain⟨_,_,_,f,_⟩:=du hs i h o;have b:(af (G c) r).1<8:=fH;have a:=hG.g c e n j h q;unfold Eg at a;rw[n_ k]at a;have s:q8 (n4 w (min c n)) e=q8 (n4 w c) e:=by
  grind
 rw[s]at a;have p:af (G n) r=af (wd (q8 (n4 w c) e)) (af (G c) r):=by rw[a,cu (rz _) (hG.ok c j).1 hr]
 constructor
 .unfold Dw Cp;rw[p,d];exact gP b (qlt hs j) h
 .unfold EG Cp;rw[←f,←d,p,m];have:=gP (g:=af (G c) r) (c:=n4 w n) (e:=e) b (qlt hs i) h
  grind
theorem Zq{c e n:Nat}(m:c<4*w*v)(i:e<3)(o:Cn w v c e=some n)(h:Ch l (min c n) e=false):Cp G r n=Cp G r c/\Dw w (Cp G r) n=EG w (Cp G r) c e/\EG w (Cp G r) n e=Dw w (Cp G r) c:=by
 obtain⟨j,k,p,f,q⟩:=du hs m i o;obtain⟨_,_,_,b,_⟩:=du hs j i k;have a:=hG.g c e n m i o;unfold Eg at a;rw[qs (by rw[h];decide)]at a;have d:Cp G r n=Cp G r c:=by unfold Cp;rw[a]
 refine⟨d,?_,?_⟩
 .unfold Dw EG;rw[d,f]
 .unfold Dw EG;rw[d,←b]
variable (hk0:∀c∈l,c.2.2≠0)
structure GQ(w v:Nat)(l:TD)(G:TH)(r:Mv)(k:K6)(t:Nat)(o:K2)(e:Nat):Prop where
 he:e<3
 n1:o.1<4*w*v
 n2:o.2<4*w*v
 lt:o.1<o.2
 nb:Cn w v o.1 e=some o.2
 bn:Cn w v o.2 e=some o.1
 cr:Ch l o.1 e=true
 k1:sd (Dw w (Cp G r) o.1) (EG w (Cp G r) o.1 e)=k
 k2:sd (Dw w (Cp G r) o.2) (EG w (Cp G r) o.2 e)=k
 im:Dw w (Cp G r) o.1=(if t=1 then k.1 else k.2)/\Dw w (Cp G r) o.2=(if t=1 then k.1 else k.2)
 gt:CP (Dw w (Cp G r) o.1) (EG w (Cp G r) o.1 e)=decide (t=2)
include hk0
theorem Vt{k:K6}{t:Nat}{o:K2}(B:t=1∨t=2)(h:JH w v l (Cp G r) (4*w*v) k t o):∃e,GQ w v l G r k t o e:=by
 obtain⟨id,e,n,hY,c,f,x,d,h⟩:=h;rcases h with⟨z,_,_⟩|⟨A,q,rfl⟩
 .omega
 obtain⟨g,i,u,s,y⟩:=du hs hY c f;have m:min id n=id:=SH (by omega);have b:Ch l (min id n) e=true:=(pG hk0).1 q;obtain⟨j,p⟩:=wC hs hG hr hY c f b;have a:Dw w (Cp G r) id=(if t=1 then k.1 else k.2):=by
  unfold sd at d
  grind
 refine⟨e,c,hY,g,by omega,f,i,by grind,d,by rw[j,p];exact d,⟨a,by rw[j];exact a⟩,?_⟩
 grind
omit hk0 hG hr in
theorem zg{k:K6}{t z:Nat}{o u:K2}{e f:Nat}(a:GQ w v l G r k t o e)(b:GQ w v l G r k z u f)(h:o.1=u.1∨o.1=u.2∨o.2=u.1∨o.2=u.2):o=u/\e=f:=by
 obtain⟨A,B⟩:=o;obtain⟨C,D⟩:=u;have n:=a.nb;have p:=a.bn;have s:=b.nb;have x:=b.bn;have q:=a.lt;have y:=b.lt;have c:=a.k1;have d:=a.k2;have j:=b.k1;have m:=b.k2;have g:=a.n1;have i:=a.n2;simp only at n p s x q y c d j m g i h;rcases h with h|h|h|h
 .subst h;have:=jV hs g a.he b.he (c.trans j.symm)
  simp_all
 .subst h;have:=jV hs g a.he b.he (c.trans m.symm)
  grind
 .subst h;have:=jV hs i a.he b.he (d.trans j.symm)
  grind
 .subst h;have:=jV hs i a.he b.he (d.trans m.symm)
  simp_all
structure GS(w v:Nat)(l:TD)(G:TH)(r:Mv)(k:K6)(p:K2)(e:Nat):Prop where
 he:e<3
 n1:p.1<4*w*v
 n2:p.2<4*w*v
 ne:p.1≠p.2
 nb:Cn w v p.1 e=some p.2
 bn:Cn w v p.2 e=some p.1
 cr:Ch l (min p.1 p.2) e=false
 k1:sd (Dw w (Cp G r) p.1) (EG w (Cp G r) p.1 e)=k
 k2:sd (Dw w (Cp G r) p.2) (EG w (Cp G r) p.2 e)=k
 i1:Dw w (Cp G r) p.1=k.1
 i2:Dw w (Cp G r) p.2=k.2
theorem V8{k:K6}{p:K2}(h:JH w v l (Cp G r) (4*w*v) k 0 p):∃e,GS w v l G r k p e:=by
 obtain⟨id,e,n,hY,c,m,A,a,h⟩:=h;rcases h with⟨_,x,o⟩|⟨u,_,_⟩
 case inr=>
  split at u<;>omega
 obtain⟨f,i,z,y,j⟩:=du hs hY c m;have b:Ch l (min id n) e=false:=by
  rw[←Gb];exact λq=>(pG hk0).2 q x
 obtain⟨_,s,t⟩:=Zq hs hG hr hY c m b;have d:sd (Dw w (Cp G r) n) (EG w (Cp G r) n e)=k:=by
  rw[s,t,←a];unfold sd;cases g:CP (Dw w (Cp G r) id) (EG w (Cp G r) id e)with
  |true=>rw[Pb g];rfl
  |false=>
   rw[tb g λq=>Oj hs hY c q.symm];rfl
 unfold sd at a;cases g:CP (Dw w (Cp G r) id) (EG w (Cp G r) id e)with
 |true=>
  rw[g,n_ rfl]at o a;subst o;refine⟨e,c,f,hY,j,i,m,by simp_all,d,?_,by rw[s,←a],by rw[←a]⟩;unfold sd
  simp_all
 |false=>
  rw[g,qs (by decide)]at o a;subst o;refine⟨e,c,hY,f,De j,m,i,b,?_,d,by rw[←a],by rw[s,←a]⟩;unfold sd
  simp_all
omit hk0 hG hr in
theorem Qx{k:K6}{p q:K2}{e f:Nat}(a:GS w v l G r k p e)(b:GS w v l G r k q f)(h:p.1=q.1∨p.2=q.2):p=q/\e=f:=by
 obtain⟨u,x⟩:=p;obtain⟨y,z⟩:=q;have n:=a.nb;have o:=a.bn;have s:=b.nb;have t:=b.bn;have c:=a.k1;have d:=a.k2;have j:=b.k1;have m:=b.k2;have g:=a.n1;have i:=a.n2;simp only at n o s t c d j m g i h;rcases h with h|h
 .subst h;have:=jV hs g a.he b.he (c.trans j.symm)
  simp_all
 .subst h;have:=jV hs i a.he b.he (d.trans m.symm)
  simp_all
end
def tW{w v:Nat}{l:TD}{P:TH}{k:K6}{t id e:Nat}{b:K2}(h:Ep k t (Eh w v l P id e)=some b):sd (Dw w P id) (EG w P id e)=k/\∃n,Cn w v id e=some n/\¬n<id/\(b=(id,n)∨b=(n,id)):=by
 unfold Ep Eh at h
 grind
def na{w v:Nat}(p:Sh w v){l:TD}{G:TH}{r:Mv}{k:K6}{t:Nat}:((Fs w v l (Cp G r) (4*w*v)).filterMap (Ep k t)).Nodup:=by
 rw[SA,qdi];unfold Fs;rw[List.pairwise_flatMap];constructor
 .intro id hY;rw[M_];refine List.pairwise_lt_range.imp_of_mem λ{e f} i m j b c h a _=>?_;have d:=(tW c).1;have g:=(tW a).1;have:=jV p (Cd.1 hY) (Cd.1 i) (Cd.1 m) (d.trans g.symm);omega
 .refine List.pairwise_lt_range.imp λ{id u} o x q y s b c h a e=>?_;obtain⟨z,_,rfl⟩:=CH.1 q;obtain⟨A,_,rfl⟩:=CH.1 s;obtain⟨_,n,_,d,g⟩:=tW c;obtain⟨_,D,_,B,C⟩:=tW a
  grind
def DL(A:Ev)(i t:Nat):List K2:=A.2.getD (3*i+t) []
def Js{w v:Nat}{l:TD}{P:TH}{n i t:Nat}{k:K6}(a:(CY w v l P n).1[i]?=some k)(b:t<3):(CY w v l P n).2[3*i+t]?=some (DL (CY w v l P n) i t)/\DL (CY w v l P n) i t=(Fs w v l P n).filterMap (Ep k t):=by
 have:=(Lj w v l P n).ls i k t a b;unfold DL
 simp_all
def Lv{w v:Nat}{l:TD}{P:TH}{n i t:Nat}{k:K6}(a:(CY w v l P n).1[i]?=some k)(b:t<3){p:K2}:p∈DL (CY w v l P n) i t↔JH w v l P n k t p:=by
 rw[(Js a b).2];exact Ra w v l P
section
variable {w v:Nat} (hs:Sh w v) {l:TD} {G:TH} (hG:Cs w v l G) {r:Mv} (hr:r.1<8) (hk0:∀c∈l,c.2.2≠0) {i:Nat} {k:K6} (hi:(CY w v l (Cp G r) (4*w*v)).1[i]?=some k)
abbrev y9(w v:Nat)(l:TD)(G:TH)(r:Mv):Ev:=CY w v l (Cp G r) (4*w*v)
include hs hi
theorem Jt{t:Nat}(a:t<3):(DL (y9 w v l G r) i t).Nodup:=by
 rw[(Js hi a).2];exact na hs
include hG hr hk0
theorem lZ{t:Nat}(b:t=1∨t=2){o:K2}(a:o∈DL (y9 w v l G r) i t):∃e,GQ w v l G r k t o e:=Vt hs hG hr hk0 b ((Lv hi (by omega)).1 a)
theorem K1{o:K2}(a:o∈DL (y9 w v l G r) i 0):∃e,GS w v l G r k o e:=V8 hs hG hr hk0 ((Lv hi (by omega)).1 a)
theorem vB{t:Nat}(d:t=1∨t=2):(DL (y9 w v l G r) i t).length<=4*w*v:=by
 have g:((DL (y9 w v l G r) i t).map Prod.fst).Nodup:=by
  rw[SA,M_];have:=Jt hs hi (G:=G) (r:=r) (l:=l) (t:=t) (by omega);rw[SA]at this;refine this.imp_of_mem λ{a b} h j c e=>c ?_;obtain⟨q,f⟩:=lZ hs hG hr hk0 hi d h;obtain⟨s,p⟩:=lZ hs hG hr hk0 hi d j;exact(zg hs f p (.inl e)).1
 have:=P8 g λx n=>by
  obtain⟨o,m,rfl⟩:=CH.1 n;obtain⟨e,f⟩:=lZ hs hG hr hk0 hi d m;exact f.n1
 simp_all
theorem WU(A:2<=(DL (y9 w v l G r) i 0).length+(DL (y9 w v l G r) i 1).length+(DL (y9 w v l G r) i 2).length):0<(Er (q_ (B3 w v G r))).length:=by
 have h:(B3 w v G r).length=4*w*v:=by simp[B3]
 have B:∀t,(t=1∨t=2)->0<(DL (y9 w v l G r) i t).length->0<(Er (q_ (B3 w v G r))).length:=λt s d=>by
  obtain⟨o,m⟩:=aq d;obtain⟨e,q⟩:=lZ hs hG hr hk0 hi s (Cb m);refine tM (x:=o.1) (y:=o.2) (by have:=q.lt;omega) ?_ (by rw[h];exact q.n1);rw[eQ q.n1,eQ q.n2];have:=q.im.1.trans q.im.2.symm;unfold Dw at this
  simp_all
 by_cases u:0<(DL (y9 w v l G r) i 1).length
 .simp_all
 by_cases z:0<(DL (y9 w v l G r) i 2).length
 .simp_all
 obtain⟨p,d⟩:=aq (l:=DL (y9 w v l G r) i 0) (i:=0) (by omega);obtain⟨q,n⟩:=aq (l:=DL (y9 w v l G r) i 0) (i:=1) (by omega);obtain⟨e,a⟩:=K1 hs hG hr hk0 hi (Cb d);obtain⟨f,g⟩:=K1 hs hG hr hk0 hi (Cb n);have c:p.1≠q.1:=λj=>by
  have:=(Qx hs a g (.inl j)).1;subst this;have b:=Jt hs hi (G:=G) (r:=r) (l:=l) (t:=0) (by omega);rw[SA,M8]at b
  grind
 refine tM (x:=p.1) (y:=q.1) c ?_ (by rw[h];exact a.n1);rw[eQ a.n1,eQ g.n1];have:=a.i1.trans g.i1.symm;unfold Dw at this
 simp_all
end
def Kf{pn:Ti}{L:List K2}{i:Nat}{f:x_}:f∈Sq pn L i↔∃(j:Nat) (o u:K2),j<i/\L[i]?=some o/\L[j]?=some u/\f=four pn o u:=by
 unfold Sq;cases h:L[i]? with
 |none=>simp
 |some o=>
  simp only[CH,FL];constructor
  .rintro⟨u,a,rfl⟩;obtain⟨j,d⟩:=DZ a
   grind
  .rintro⟨j,e,u,b,rfl,c,rfl⟩;exact⟨u,Cb (i:=j) (by simp_all),rfl⟩
def BR{pn:Ti}{L:List K2}{f:x_}:f∈Fi pn L L.length↔∃(i j:Nat) (o u:K2),j<i/\L[i]?=some o/\L[j]?=some u/\f=four pn o u:=by
 unfold Fi;rw[Gc];constructor
 .rintro⟨i,_,d⟩;exact⟨i,Kf.1 d⟩
 .rintro⟨i,h⟩;obtain⟨j,o,u,b,a,c⟩:=h;exact⟨i,Cd.2 (ai a),Kf.2 ⟨j,o,u,b,a,c⟩⟩
def IU{pn:Ti}{L:List K2}:∀n,(Fi pn L n).length<=n*L.length
 |0=>by simp[Fi]
 |n+1=>by
  have a:=IU (pn:=pn) (L:=L) n;rw[sU,GA,Jh,SI];have:(Sq pn L n).length<=L.length:=by
   unfold Sq
   grind
  omega
def Hm(pn:Ti)(A:Ev)(n:Nat):List x_:=(range n).flatMap λi=>Fi pn (DL A i 1) (DL A i 1).length++Fi pn (DL A i 2) (DL A i 2).length
def yr{pn:Ti}{A:Ev}{n:Nat}:Hm pn A (n+1)=Hm pn A n++Fi pn (DL A n 1) (DL A n 1).length++Fi pn (DL A n 2) (DL A n 2).length:=by
 unfold Hm;rw[Lb,Yx];simp
def wp{pn:Ti}{A:Ev}{B:Nat}:∀n,(∀i t,i<n->(t=1∨t=2)->(DL A i t).length<=B)->(Hm pn A n).length<=n*(2*(B*B))
 |0,_=>by simp[Hm]
 |n+1,h=>by
  have d:=wp (pn:=pn) n λi t c=>h i t (by omega);have a:=h n 1 (by omega) (.inl rfl);have b:=h n 2 (by omega) (.inr rfl);have e:=IU (pn:=pn) (L:=DL A n 1) (DL A n 1).length;have f:=IU (pn:=pn) (L:=DL A n 2) (DL A n 2).length;have g:(DL A n 1).length*(DL A n 1).length<=B*B:=m0 a a;have j:(DL A n 2).length*(DL A n 2).length<=B*B:=m0 b b;rw[yr,GA,GA,Jh,SI];omega
def e0(pn:Ti)(A:Ev)(V:Tx)(n:Nat):Prop:=∀i,i<n->∀j,j<(DL A i 0).length->Gq pn (DL A i 0) (DL A i 1) (DL A i 2) V j
section
variable {w v:Nat} (hs:Sh w v) {l:TD} {G:TH} (hG:Cs w v l G) {r:Mv} (hr:r.1<8) (hk0:∀c∈l,c.2.2≠0)
include hs hG hr hk0
theorem NP{pn:Ti}{n:Nat}(P:n<=(y9 w v l G r).1.length):∀f∈Hm pn (y9 w v l G r) n,∀x∈[f.1,f.2.1,f.2.2.1,f.2.2.2],∃q∈q_ (B3 w v G r),∃a∈q,∃b∈q,a≠b/\x=CO pn a b:=by
 intro f m x A;unfold Hm at m;obtain⟨i,H,m⟩:=Gc.1 m;rw[Cd]at H;obtain⟨k,p⟩:=aq (l:=(y9 w v l G r).1) (i:=i) (by omega);have M:∀t,(t=1∨t=2)->f∈Fi pn (DL (y9 w v l G r) i t) (DL (y9 w v l G r) i t).length->∃q∈q_ (B3 w v G r),∃a∈q,∃b∈q,a≠b/\x=CO pn a b:=λt D m=>by
  obtain⟨a,b,o,u,F,I,J,rfl⟩:=BR.1 m;obtain⟨e,d⟩:=lZ hs hG hr hk0 p D (Cb I);obtain⟨C,g⟩:=lZ hs hG hr hk0 p D (Cb J);have c:¬(o.1=u.1∨o.1=u.2∨o.2=u.1∨o.2=u.2):=λq=>by
   have:=(zg hs d g q).1;subst this;have s:=Jt hs p (G:=G) (r:=r) (l:=l) (t:=t) (by omega);rw[SA,M8]at s
   grind
  have j:∀y,y<4*w*v->Dw w (Cp G r) y=(if t=1 then k.1 else k.2)->(B3 w v G r)[y]?=some (if t=1 then k.1 else k.2):=λy B e=>by
   rw[eQ B];exact congrArg some e
  have h:∀y z,y<4*w*v->z<4*w*v->Dw w (Cp G r) y=(if t=1 then k.1 else k.2)->Dw w (Cp G r) z=(if t=1 then k.1 else k.2)->y≠z->∃q∈q_ (B3 w v G r),∃a∈q,∃b∈q,a≠b/\CO pn y z=CO pn a b:=λy z B L E C K=>by
   obtain⟨q,Q,N,O⟩:=kS (j y B E) (j z L C)
   grind
  unfold four at A;simp only[Dy,Wl,or_false]at A;rcases A with rfl|rfl|rfl|rfl
  .exact h _ _ d.n1 g.n1 d.im.1 g.im.1 λe=>c (.inl e)
  .exact h _ _ d.n2 g.n1 d.im.2 g.im.1 λe=>c (.inr (.inr (.inl e)))
  .exact h _ _ d.n1 g.n2 d.im.1 g.im.2 λe=>c (.inr (.inl e))
  .exact h _ _ d.n2 g.n2 d.im.2 g.im.2 λe=>c (.inr (.inr (.inr e)))
 grind
theorem Zr{i e n:Nat}(a:i<4*w*v)(d:e<3)(f:Cn w v i e=some n)(h:gO l (ofNat (min i n)) (ofNat e)≠0):0<(Er (q_ (B3 w v G r))).length:=by
 obtain⟨b,_,_,_,c⟩:=du hs a d f;have g:=(wC hs hG hr a d f ((pG hk0).1 h)).1;refine tM (x:=i) (y:=n) (De c) ?_ (by simp[B3];exact a);rw[eQ a,eQ b];unfold Dw at g
 simp_all
end
def K_{IDS:List (TC)}{B:Nat}(h:∀l∈IDS,l.length<=B):(Er IDS).length<=IDS.length*(B*B):=by
 induction IDS with
 |nil=>simp[Er]
 |cons l I c=>
  have d:=c λm b=>h m (by simp[b]);have a:=h l (by simp);have e:=xN (l:=l) l.length;have f:l.length*l.length<=B*B:=m0 a a;show(G_ l l.length++Er I).length<=_;rw[GA,Wk,Jh,SI];omega
structure N4(h0 h4:HL)(b mp:Nat)(w v:Nat)(xv:Value)(r:Mv)(xa xd xl xu xp:Value)(vs:Tn)(IM:TM):Prop where
 hb:h4[b]?=some (.o (.cells (ah ⟨w,v,xv,r,xa,xd,xl,xu,mp,xp,.slice none 0 0,.slice none 0 0⟩ false) 15 true))
 bn:h0.length<=b
 mpn:h0.length<=mp
 old:∀(j:Nat) o,h0[j]?=some o->h4[j]?=some o
 at_:e_ h0.length h4 xa 3 bU (Dn IM)
 ids:e_ h0.length h4 xd 1 CG vs
 vl:vs.length=(q_ IM).length
 iv:∀(j:Nat) x l,vs[j]?=some x->(q_ IM)[j]?=some l->e_ h0.length h4 x 1 j_ l
 lay:e_ h0.length h4 xl 1 CG ((q_ IM).map λ_=>.slice none 0 0)
 us:e_ h0.length h4 xu 1 y0 (replicate IM.length false)
 pr:C6 D8 h4 mp (Sz (Er (q_ IM)))
 up:e_ h0.length h4 xp 2 C' ((range (Er (q_ IM)).length).map λi=>(i,false))
 s1:∀j,d_ xu=some j->d_ xl≠some j
 s2:∀j,d_ xu=some j∨d_ xl=some j->d_ xd≠some j/\∀x∈vs,d_ x≠some j
def NU(h0:HL)(b w v:Nat)(a:Value)(r:Mv)(AT:List K3)(CR:TD)(IDS:List (TC))(pn:Ti)(S:(Nat->Bool)->Prop)(F:List x_)(g:HL):Prop:=
 ∃c n,(c.w=w/\c.v=v/\c.r=r)/\(∀(j:Nat) o,h0[j]?=some o->g[j]?=some o)/\h0.length<=g.length/\(∀j,d_ c.va=some j∨d_ c.us=some j∨d_ c.lay=some j->h0.length<=j)/\
  ∀E:Nat->Prop,(∀j,E j->j<h0.length/\d_ a≠some j)->NpR b c n g (λj=>E j∨d_ c.va=some j∨d_ c.us=some j∨d_ c.lay=some j) AT CR IDS pn S F
def W8(w v:Nat)(l:TD)(G:TH)(r:Mv)(pn:Ti)(V:Tx):Prop:=
 (∀i e,i<4*w*v->e<3->Ew pn w v l (Cp G r) V i e)/\e0 pn (y9 w v l G r) V (y9 w v l G r).1.length
def ZN(M:Nat):Hn ((range M).map λi=>((i,false):Lit)) (λ_=>0):=by
 have a:∀(i:Nat) u,((range M).map λi=>((i,false):Lit))[i]?=some u->i<M/\u=(i,false):=λi u h=>by
  grind
 refine⟨λi u h=>?_,λi u h b=>?_,λi u h _=>?_⟩
 .grind
 .grind
 grind
def dA(M:Nat)(V:Tx):Rs ((range M).map λi=>((i,false):Lit)) (replicate M 0) V:=by
 constructor
 .intro i u h;have a:=ai h;rw[FM,SG]at a;rw[EL,List.getElem?_range a]at h;have:=DU h;subst this;unfold ub;rw[Nx]
 grind
def T2(M:Nat):F7 ((range M).map λi=>((i,false):Lit)) (replicate M 0):=
 ⟨by simp,λx a=>.inl (qdc a)⟩
def s8{h0 C g:HL}{b mp w v:Nat}{xv:TR}{r:Mv}{xa xd X Y xp:TR}{vs:Tn}{l:TD}{G:TH}(m:N4 h0 C b mp w v xv r xa xd X Y xp vs (B3 w v G r))(S:S3 w v)(bm:NX w v l)(al:∀c∈l,c.2.2≠0)(ag:Cs w v l G)(ay:CD 4000 r)(bb:po h0 xv 3 my l)
  {I:List K2} (ad:I=Er (q_ (B3 w v G r))) {va fo:TR} {n:Bool} {U:List Lit} {W:TE} (b3:d_ va=some C.length)
  (R:Pi g b ⟨w,v,xv,r,xa,xd,X,Y,mp,xp,va,fo⟩ n U W (DB I) (Hm (DB I) (y9 w v l G r) (y9 w v l G r).1.length)) (hU:U.length=I.length) (hC:∀V,(n=false/\Rs U W V)↔W8 w v l G r (DB I) V)
  (hk:∀(j:Nat) o,C[j]?=some o->j≠b->d_ xp≠some j->g[j]?=some o) (b1:∀j,d_ fo=some j->C.length<j) (b2:C.length+1<g.length) :
  NU h0 b w v xv r (Dn (B3 w v G r)) l (q_ (B3 w v G r)) (DB I) (W8 w v l G r (DB I)) (Hm (DB I) (y9 w v l G r) (y9 w v l G r).1.length) g:=by
 have hs:=S.sh;have hN:(B3 w v G r).length=4*w*v:=by simp[B3]
 have bs:=S.n;have bP:=ai m.hb;have bt:h0.length<=C.length:=by have:=m.bn;omega
 have a3:∀ {j e:Nat} {H:Tn} {P:Bool},C[j]?=some (.o (.cells H e P))->e≠15->j≠b:=λ{j e H P} u he q=>by
  subst q;rw[m.hb]at u
  simp_all
 have bd:∀ {j e:Nat} {H:Tn} {P:Bool},C[j]?=some (.o (.cells H e P))->e≠2->d_ xp≠some j:=λ{j e H P} u he q=>by
  obtain⟨aE,D⟩:=m.up.wid q
  simp_all
 have b4:∀j,d_ xp=some j->h0.length<=j/\j<C.length:=λj q=>m.up.d_ q;have kO:∀ {N:Type} {e:Nat} {p:N->Tn} {L:List N} {x:TR} {n0:Nat},e_ n0 C x e p L->e≠15->e≠2->e_ n0 g x e p L:=λ{N e p L x n0} M s D=>M.A1 λj H _ u=>hk j _ u (a3 u s) (bd u D);have ax:∀(j:Nat) o,h0[j]?=some o->g[j]?=some o:=λj o u=>by
  have s:=ai u;refine hk j o (m.old j o u) (λe=>?_) λe=>?_
  .have:=m.bn;omega
  grind
 have a8:∀j,d_ Y=some j∨d_ X=some j->(∃H,C[j]?=some (.o (.cells H 1 true)))/\h0.length<=j/\j<C.length:=λj q=>by
  rcases q with q|q
  .exact⟨m.us.wid q,m.us.d_ q⟩
  .exact⟨m.lay.wid q,m.lay.d_ q⟩
 refine⟨⟨w,v,xv,r,xa,xd,X,Y,mp,xp,va,fo⟩,n,⟨rfl,rfl,rfl⟩,ax,by omega,λj q=>?_,λE hE=>?_⟩
 .grind
 have av:S3x ⟨w,v,xv,r,xa,xd,X,Y,mp,xp,va,fo⟩ g.length:=by
  refine⟨λj q=>?_,λj q=>?_,λj q=>?_⟩
  .grind
  .have:=(a8 _ (.inl q)).2.2;exact⟨by omega,m.s1 j q⟩
  grind
 obtain⟨mu,a0⟩ : ∃mu:Nat->Prop,mu=λj=>E j∨d_ va=some j∨d_ Y=some j∨d_ X=some j:=⟨_,rfl⟩;have K:∀j,mu j->(j<h0.length/\d_ xv≠some j)∨j=C.length∨(h0.length<=j/\j<C.length/\(d_ Y=some j∨d_ X=some j)/\∃H,C[j]?=some (.o (.cells H 1 true))):=λj q=>by
  grind
 show NpR b _ n g (λj=>E j∨d_ va=some j∨d_ Y=some j∨d_ X=some j) _ _ _ _ _ _;rw[←a0];have an:¬mu b:=λq=>by
  rcases K b q with q|q|⟨_,_,_,H,q⟩
  .have:=m.bn;omega
  .omega
  grind
 refine⟨R.hb,av,an,λhn x=>?_,λhn=>?_⟩
 .rw[←Gb,zB];rintro⟨V,hV,_⟩
  simp_all
 subst hn;have ap:0<(B3 w v G r).length:=by
  have s:0<w*v:=q4 S.1 S.2.2.1
  grind
 obtain⟨O,Q,hI⟩ : ∃O Q,q_ (B3 w v G r)=O :: Q:=by
  cases h:q_ (B3 w v G r)with
  |cons a b=>exact⟨a,b,rfl⟩
  |nil=>
   obtain⟨c,hc⟩:=aq ap;obtain⟨q,F,_⟩:=kS hc hc
   simp_all
 have J:=wV (B3 w v G r);have a5:(q_ (B3 w v G r)).length=(Dn (B3 w v G r)).length:=by simp[q_]
 have bC:=sn (B3 w v G r);have bx:NA C mp (DB I):=by
  rw[ad];exact K8 (QK J) m.pr
 have a7:∀q∈q_ (B3 w v G r),q.length<=36:=λq F=>by
  obtain⟨c,_,rfl⟩:=CH.1 F;have:=og (L:=B3 w v G r) (n:=(B3 w v G r).length) (c:=c);show(Fc _ _ _).length<=36;omega
 have a4:∀q∈q_ (B3 w v G r),∀x∈q,∀y∈q,x≠y->(CO (DB I) x y).1<U.length:=λq F x hx y hy bk=>by
  obtain⟨e1,e2⟩:=Pm F hx hy;rw[hU];refine wv ?_ x y;rw[ad];exact tM bk e1 e2
 have T:=NP hs ag ay.1 al (pn:=DB I) (x5 (y9 w v l G r).1.length);have a9:∀x,(replicate (B3 w v G r).length false).getD x false=false:=λx=>by
  grind
 have a6:Cx (replicate (B3 w v G r).length false) O=O:=by
  unfold Cx;rw[qcU]
  grind
 obtain⟨r0,a2⟩:=R.fr;have hP:∀ {h:HL},AgP g mu h->∀ {N:Type} {e:Nat} {p:N->Tn} {L:List N} {x:TR} {n0:Nat},e_ n0 g x e p L->(∀j,d_ x=some j->¬mu j)->e_ n0 h x e p L:=by
  intro h hA N e p L x n0 M hm;exact M.i_ λj o u hb=>hA.2 j o (ai u) (hm j hb) u
 have bl:∀ {N:Type} {e:Nat} {p:N->Tn} {L:List N} {x:TR},e_ h0.length C x e p L->e≠1->∀j,d_ x=some j->¬mu j:=λ{N e p L x} M he j u q=>by
  have a1:=M.d_ u;rcases K j q with q|q|⟨_,_,_,H,q⟩
  .omega
  .omega
  .obtain⟨aE,D⟩:=M.wid u
   grind
 refine⟨U,W,replicate (B3 w v G r).length false,(q_ (B3 w v G r)).map λ_=>.slice none 0 0,r0,(B3 w v G r).length,O,Q,?_,a2,J,T,hI,?_,a6,?_,λx hx=>?_⟩
 .refine⟨λh h' hA Z=>⟨?_,λj o s D S=>Z j o s D (hA.2 j o s D S)⟩,λh hA=>hA.1,av,λj q=>?_,ai R.hb,λh hA=>hA.2 b _ (ai R.hb) an R.hb,λh hA=>e_.ls dI (hP hA R.up λj q=>?_),λh hA=>e_.ls (λ_=>rfl) (hP hA R.fo λj q=>?_),?_,λf hf=>?_,λh hA=>R.pr.i_ λo M=>hA.2 mp o (ai M) (λq=>?_) M,λh hA=>e_.ls Ui (hP hA (kO m.at_ (by decide) (by decide)) (bl m.at_ (by decide))),λh hA=>bb.i_ λj o u b0=>hA.2 j o ?_ (λq=>?_) (ax j o u),by have:=bm.len;omega,by omega,a5,⟨vs,m.vl,λh hA=>⟨e_.ls be (hP hA (kO m.ids (by decide) (by decide)) λj u q=>?_),λj x q s D=>e_.ls bq (hP hA (kO (m.iv j x q s D) (by decide) (by decide)) λi hi q2=>?_)⟩⟩,λq F=>⟨J.nd q F,by have:=a7 q F;omega,a4 q F⟩⟩
  .obtain⟨o,M⟩:=aq (l:=g) (i:=g.length - 1) (by omega);have s:=hA.2 _ o (by omega) (λq=>by
    grind) M
   grind
  .grind
  .grind
  .grind
  .have s:=wp (pn:=DB I) (A:=y9 w v l G r) (B:=36) (y9 w v l G r).1.length λi t hi ht=>by
    obtain⟨k,Z⟩:=aq hi;have:=vB hs ag ay.1 al Z ht;omega
   have D:(y9 w v l G r).1.length<=3*(4*w*v):=oz (4*w*v);omega
  .have q1:=T f hf;have b5:∀x∈[f.1,f.2.1,f.2.2.1,f.2.2.2],x.1<U.length:=λx hx=>by
    grind
   grind
  .rcases K mp q with q|q|⟨_,_,_,H,q⟩
   .have:=m.mpn;omega
   .have:=m.pr.lt;omega
   .obtain⟨es,c,a1,_⟩:=m.pr
    grind
  .grind
  .grind
  .have a1:=m.ids.d_ u;rcases K j q with q|q|⟨_,_,q,_⟩
   .omega
   .omega
   .exact(m.s2 j q).1 u
  .have a1:=(m.iv j x q s D).d_ hi;rcases K i q2 with q2|q2|⟨_,_,q2,_⟩
   .omega
   .omega
   .exact(m.s2 i q2).2 x (Cb s) hi
 .refine⟨⟨R.ok,λV=>?_,λq F=>(by cases F),.nil,λa ha=>(by cases ha)⟩,by simp,rfl,?_,λi d q s=>(by cases s),λq _ x _=>a9 x,λq=>?_⟩
  .constructor
   .intro hR;exact⟨(hC V).1 ⟨rfl,hR⟩,λq F=>(by cases F),.nil,λa ha=>(by cases ha)⟩
   grind
  .grind
  grind
 .refine⟨R.va,?_,?_,?_,λj x q s D=>?_,λj x y s D=>?_,λi j x y z s D S=>?_⟩
  .rcases kO m.us (by decide) (by decide)with q|⟨id,cx,e1,e2,e3⟩
   .exact .inl q
   .exact .inr ⟨id,cx,e1,CM _,e3⟩
  .rcases kO m.lay (by decide) (by decide)with q|⟨id,cx,e1,e2,e3⟩
   .exact .inl q
   .exact .inr ⟨id,cx,e1,CM _,e3⟩
  .grind
  .obtain⟨_,_,rfl⟩:=CH.1 (Cb s);have F:q=[]:=by
    grind
   subst F;exact FV.nil g
  .obtain⟨_,_,rfl⟩:=CH.1 (Cb s);cases D
  .obtain⟨_,_,rfl⟩:=CH.1 (Cb s);cases S
 .obtain⟨_,_,rfl⟩:=CH.1 hx;rfl
section
variable {h0 h4:HL} {b mp w v:Nat} {xv:Value} {r:Mv} {xa xd xl xu xp:Value} {vs:Tn} {l:TD} {G:TH}
def d8(s:N4 h0 h4 b mp w v xv r xa xd xl xu xp vs (B3 w v G r))(h3:S3 w v)(bk:NX w v l)(Q:∀c∈l,c.2.2≠0)(D:Cs w v l G)(J:CD 4000 r)(cm:∀id e,id<4*w*v->e<3->JD (aA (af (G id) r) (DA (n4 w id) e))=true)
  (ap:po h0 xv 3 my l) {xi:TR} (ay:po h0 xi 3 bU (B3 w v G r)) (ci:∀H,po H xv 3 my l->∃lx h',aI cc ac 103 [.i (ofNat w),.i (ofNat v),.v xv,.i (ofNat r.1),.i r.2.1,.i r.2.2] (f_ aa H) [.v lx,.i 0] (f_ aa h')/\tx H h'/\po h' lx 3 q7 (DI w v G r))
  {K:Te} (hK:∀g,NU h0 b w v xv r (Dn (B3 w v G r)) l (q_ (B3 w v G r)) (DB (Er (q_ (B3 w v G r)))) (W8 w v l G r (DB (Er (q_ (B3 w v G r))))) (Hm (DB (Er (q_ (B3 w v G r)))) (y9 w v l G r) (y9 w v l G r).1.length) g->K [.v (i' b),.i 0] g) :
  hI (hA P1) b xi h4 K:=by
 have hs:=h3.sh;have hN:(B3 w v G r).length=4*w*v:=by simp[B3]
 have cn:=h3.n;obtain⟨d,p⟩ : ∃d,d=Er (q_ (B3 w v G r)):=⟨_,rfl⟩;have hM:d.length<=1048576:=by
  have N:=K_ (IDS:=q_ (B3 w v G r)) (B:=36) λl hl=>by
   obtain⟨c,_,rfl⟩:=CH.1 hl;have:=og (L:=B3 w v G r) (n:=(B3 w v G r).length) (c:=c);show(Fc _ _ _).length<=36;omega
  have E:(q_ (B3 w v G r)).length<=36:=by
   unfold q_;rw[FM];have:=sn (B3 w v G r);omega
  rw[p];omega
 unfold hI;simp only[u7];refine j8 ?_;refine br (ds:=[xp]) s.hb (by simp[ah]) rfl ?_;refine b_ ?_;refine ab (e_.g_ (e:=2) (enc:=C') (λ_=>rfl) s.up) ?_;refine j8 ?_;refine bu (e_.ls dI s.up) ?_;rw[FM,SG,←p];refine ae (dM hM) ?_;refine j8 ?_;rw[show(ofNat d.length).toNat=d.length from rfl];have z0:HO.o (.cells (aN [.int .i64 0] d.length) 1 true)=HO.o (.cells ((replicate d.length (0:Int)).flatMap Cg) 1 true):=by
  rw[←cS (enc:=Cg) (z:=0)];rfl
 rw[z0];have c2:=ai s.hb;have cq:h0.length<=h4.length:=by have:=s.bn;omega
 obtain⟨X,e5⟩ : ∃X,X=h4++[HO.o (.cells ((replicate d.length (0:Int)).flatMap Cg) 1 true)]:=⟨_,rfl⟩;rw[←e5];have k5:∀(j:Nat) o,h4[j]?=some o->X[j]?=some o:=λj o f=>by grind
 have l5:X.length=h4.length+1:=by rw[e5];simp
 have m5:X[h4.length]?=some (.o (.cells ((replicate d.length (0:Int)).flatMap Cg) 1 true)):=by rw[e5];exact aH
 refine gf (b:=b) (k5 _ _ s.hb) (by simp[ah]) ?_;obtain⟨M,u⟩ : ∃M:XC,M=⟨w,v,xv,r,xa,xd,xl,xu,mp,xp,.slice (some ⟨h4.length,0,le 1⟩) d.length (d.length+1),.slice none 0 0⟩:=⟨_,rfl⟩;obtain⟨O,e6⟩ : ∃O,O=X.set b (.o (.cells (ah M false) 15 true)):=⟨_,rfl⟩;have bt:X.set b (.o (.cells (List.take 12 (ah ⟨w,v,xv,r,xa,xd,xl,xu,mp,xp,.slice none 0 0,.slice none 0 0⟩ false)++[.slice (some ⟨h4.length,0,some 11⟩) d.length (d.length+1)]++List.drop (12+[Value.slice (some ⟨h4.length,0,some 11⟩) d.length (d.length+1)].length) (ah ⟨w,v,xv,r,xa,xd,xl,xu,mp,xp,.slice none 0 0,.slice none 0 0⟩ false)) 15 true))=O:=by rw[e6,u];rfl
 rw[bt];refine j8 ?_;have l6:O.length=h4.length+1:=by simp_all
 have k6:∀(j:Nat) o,h4[j]?=some o->j≠b->O[j]?=some o:=λj o f c3=>by
  grind
 have b9:∀ {j e:Nat} {cs:Tn} {bm:Bool},h4[j]?=some (.o (.cells cs e bm))->e≠15->j≠b:=λ{j e cs bm} f he q=>by
  subst q;rw[s.hb]at f
  simp_all
 have W:∀(j:Nat) o,h0[j]?=some o->O[j]?=some o:=λj o f=>k6 j o (s.old j o f) (by have:=ai f;have:=s.bn;omega);have a9:e_ 0 O (.slice (some ⟨h4.length,0,le 1⟩) d.length (d.length+1)) 1 Cg (replicate d.length 0):=by
  refine .inr ⟨h4.length,d.length+1,by simp_all,CM _,?_,.inr (by simp_all)⟩
  simp_all
 have a7:NA O mp (DB d):=by
  rw[p];refine(K8 (QK (wV _)) s.pr).i_ λo U=>k6 mp o U λe=>?_;obtain⟨es,c,a1,_⟩:=s.pr;rw[e,s.hb]at a1;cases a1
 have a8:∀ {g:HL},e_ h0.length g xp 2 C' ((range d.length).map λi=>(i,false))->e_ 0 g xp 2 C' ((range d.length).map λi=>(i,false)):=λq=>by
  rcases q with q|⟨id,cx,e1,_,e3⟩
  .exact .inl q
  .exact .inr ⟨id,cx,e1,CM _,e3⟩
 have I:=s.up;rw[←p]at I;have cf:Pi O b M false ((range d.length).map λi=>((i,false):Lit)) (replicate d.length 0) (DB d) []:=by
  rw[u];refine⟨?_,a8 (I.A1 λj cs _ h=>k6 j _ h (b9 h (by decide))),a9,.inl ⟨rfl,rfl⟩,a7,⟨_,ZN _⟩,T2 _⟩
  grind
 have ck:SeX O M w v l G r xi:=by
  rw[u];exact⟨h3,⟨rfl,rfl,rfl⟩,ap.i_ λj o f _=>W j o f,bk,D,J,cm,ay.i_ λj o f _=>W j o f,ci⟩
 have cA:∀j,d_ xv=some j->j<h0.length:=λj q=>Bf ap q;have cy:∀j,d_ xi=some j->j<h0.length:=λj q=>Bf ay q;have cw:d_ M.va=some h4.length:=by rw[u];rfl
 have bd:∀j,d_ xp=some j->h0.length<=j/\j<h4.length:=λj q=>I.d_ q;obtain⟨kv,T,mm,n1,cs,c8,lx,hS⟩:=Wx cf ck (λj q e=>by
  grind) (λj q e=>by
  grind) (λi n hi ⟨e,he,hn,hc⟩=>by
  rw[FM,SG];refine wv ?_ i n;rw[p];exact Zr hs D J.1 Q hi he hn hc)
 refine am cs ?_;refine b_ ?_;obtain⟨A,S⟩ : ∃A,A=y9 w v l G r:=⟨_,rfl⟩;have bx:CY w v l (λc=>af (G c) r) (4*w*v)=A:=S.symm;rw[bx]at hS;obtain⟨⟨n7,W7,is,dk,p7,c7,C⟩,_,dj,bP⟩:=hS;have b4:A.1.length<=108:=by
  have E:(y9 w v l G r).1.length<=3*(4*w*v):=oz (4*w*v);rw[S];omega
 have bs:∀V,(n7=false/\Rs ((range d.length).map λi=>((i,false):Lit)) W7 V)↔∀i e,i<4*w*v->e<3->Ew (DB d) w v l (Cp G r) V i e:=λV=>(c7 V).trans ⟨λq=>q.2,λq=>⟨⟨rfl,dA _ V⟩,q⟩⟩;have b0:=e_.g_ (e:=1) (enc:=CG) be C.kl;refine bu (e_.ls be C.kl) ?_;rw[FM];have c1:S1 T b M d.length W7 (DB d) (Hm (DB d) A 0) (λV=>(∀i e,i<4*w*v->e<3->Ew (DB d) w v l (Cp G r) V i e)/\e0 (DB d) A V 0) T:=
  ⟨n7,_,p7,by simp,λV=>(bs V).trans ⟨λq=>⟨q,λi hi=>by omega⟩,λq=>q.1⟩,λ_ _ h _ _=>h,rfl⟩
 refine aG (m:=is.length) (λm ls g=>∃i fo,ls=[.i (ofNat i)]/\m=is.length - i/\i<=is.length/\S1 g b { M with fo:=fo } d.length W7 (DB d) (Hm (DB d) A i) (λV=>(∀i e,i<4*w*v->e<3->Ew (DB d) w v l (Cp G r) V i e)/\e0 (DB d) A V i) g/\(∀(j:Nat) o,T[j]?=some o->j≠b->d_ xp≠some j->g[j]?=some o)/\T.length<=g.length/\∀j,d_ fo=some j->T.length<=j) ⟨0,.slice none 0 0,rfl,rfl,CM _,by
  grind,λ_ _ h _ _=>h,x5 _,λj q=>(by cases q)⟩ ?_
 rintro m ls g ⟨i,fo,rfl,rfl,hi,ax,ag,c5,ca⟩ c0 al;refine Da ?_;refine b_ ?_;have co:b<n1:=by omega
 have Y:∀(j:Nat) o,n1<=j->T[j]?=some o->g[j]?=some o:=λj o f U=>ag j o U (by omega) λe=>by grind
 by_cases R:i<is.length
 case neg=>
  obtain rfl:i=is.length:=by omega
  rw[aK (x5 _)];refine j8 ?_;obtain⟨n8,U8,p8,b8,av,_,_⟩:=ax;have a0:is.length=A.1.length:=C.il;have ct:0<A.1.length:=by
   have N:0<w*v:=q4 h3.1 h3.2.2.1;have E:(Eh w v l (Cp G r) 0 0).1∈A.1:=by
    rw[S];refine((Lj w v l (Cp G r) (4*w*v)).ks _).2 ⟨Eh w v l (Cp G r) 0 0,?_,rfl⟩;unfold Fs
    grind
   grind
  obtain⟨id,F⟩:=aq (l:=is) (i:=0) (by omega);obtain⟨a1,_,_,_,_,_,_,a5⟩:=C.bl 0 id F;have a6:=ai a5;refine hK g ?_;rw[←p];rw[a0,S]at p8 av;rw[u]at p8;exact s8 s h3 bk Q D J ap p rfl p8 b8 (λV=>av V) (λj o f N E=>ag j o (bP j o (k6 j o f N) N (by grind)) N E) (λj q=>by have:=ca j q;omega) (by omega)
 rw[aL R];refine b_ ?_;obtain⟨id,F⟩:=aq R;refine aP (e_.ls be (C.kl.i_ λj o f hb=>Y j o (C.kl.d_ hb).1 f)) rfl (a:=i' id) (by grind) ?_;rw[show CG (i' id)=[i' id]from rfl];refine b_ ?_;refine ab (au _) ?_;refine j8 ?_;obtain⟨a1,x,y,z,a2,a3,a4,a5⟩:=C.bl i id F;obtain⟨k,hk⟩:=aq (l:=A.1) (i:=i) (by rw[←C.il];exact R);have Z:=hk;rw[S]at Z;have hL:∀t,t<3->A.2[3*i+t]?=some (DL A i t):=λt ht=>by
  rw[S];exact(Js Z ht).1
 have ad:∀ {x:TR} {L:List K2},e_ n1 T x 2 D8 L->e_ n1 g x 2 D8 L:=λU=>U.i_ λj o f hb=>Y j o (U.d_ hb).1 f;have o0:=ad (C.ow _ x _ a2 (hL 0 (by omega)));have o1:=ad (C.ow _ y _ a3 (hL 1 (by omega)));have o2:=ad (C.ow _ z _ a4 (hL 2 (by omega)));have an:∀t,t<3->(DL A i t).length<=1000:=λt ht=>by
  have:=tV (w:=w) (v:=v) (l:=l) (P:=Cp G r) (4*w*v) (DL A i t) (by
   grind)
  omega
 have c9:∀ {x:TR} {L:List K2},e_ n1 g x 2 D8 L->∀j,d_ xp=some j->d_ x≠some j:=λU j q e=>by
  have N:=(bd j q).2;have E:=(U.d_ e).1;omega
 have b6:(Hm (DB d) A i).length<=1000000000:=by
  have N:=wp (pn:=DB d) (A:=A) (B:=1000) i λj t f ht=>by
   obtain⟨k2,aE⟩:=aq (l:=A.1) (i:=j) (by rw[←C.il];omega);rw[S]at aE ⊢;have:=vB hs D J.1 Q aE ht;omega
  grind
 have cl:({ M with fo:=fo }:XC).up=xp:=by rw[u]
 obtain⟨g',cr,bC,n',U',p',b7,b5,cp,cd,c4⟩:=Ww ax (sb:=id) (Y id _ a1 a5) (e_.ls (λ_=>rfl) o0) (e_.ls (λ_=>rfl) o1) (e_.ls (λ_=>rfl) o2) (λj q=>by grind) ⟨an 0 (by omega),an 1 (by omega),an 2 (by omega)⟩ b6 (λE a b'=>by
  refine wv ?_ a b';rw[p];rw[S]at E;exact WU hs D J.1 Q Z E)
 refine am cr ?_;refine b_ ?_;rw[aT (by have:=C.il;omega)];have ce:∀j,j<T.length->d_ fo≠some j:=λj f e=>by
  grind
 have bb:∀j,d_ ({ M with fo:=fo }:XC).up≠some j↔d_ xp≠some j:=λj=>by rw[cl]
 refine al _ _ _ (by omega) ⟨i+1,bC,rfl,rfl,R,⟨n',U',by rw[yr];exact p',b7,λV=>(b5 V).trans ?_,λ_ _ h _ _=>h,rfl⟩,λj o f N E=>cd j o (ag j o f N E) N ((bb j).2 E) (ce j (ai f)),by omega,λj q=>?_⟩
 .constructor
  .rintro⟨⟨b1,b2⟩,b3⟩;refine⟨b1,λi2 cb=>?_⟩;by_cases e:i2=i
   .grind
   .exact b2 i2 (by omega)
  .rintro⟨b1,b2⟩;exact⟨⟨b1,λi2 cb=>b2 i2 (by omega)⟩,b2 i (by omega)⟩
 grind
end
structure N3(h0 h4:HL)(b mp:Nat)(w v:Nat)(xv:Value)(r:Mv)(xa xd xl xu:Value)(vs:Tn)(IM:TM):Prop where
 hb:h4[b]?=some (.o (.cells (ah ⟨w,v,xv,r,xa,xd,xl,xu,mp,.slice none 0 0,.slice none 0 0,.slice none 0 0⟩ false) 15 true))
 bn:h0.length<=b
 mpn:h0.length<=mp
 old:∀(j:Nat) o,h0[j]?=some o->h4[j]?=some o
 at_:e_ h0.length h4 xa 3 bU (Dn IM)
 ids:e_ h0.length h4 xd 1 CG vs
 vl:vs.length=(q_ IM).length
 iv:∀(j:Nat) x l,vs[j]?=some x->(q_ IM)[j]?=some l->e_ h0.length h4 x 1 j_ l
 lay:e_ h0.length h4 xl 1 CG ((q_ IM).map λ_=>.slice none 0 0)
 us:e_ h0.length h4 xu 1 y0 (replicate IM.length false)
 pr:h4[mp]?=some (.o (.map [] 0))
 s1:∀j,d_ xu=some j->d_ xl≠some j
 s2:∀j,d_ xu=some j∨d_ xl=some j->d_ xd≠some j/\∀x∈vs,d_ x≠some j
structure NJ(h4 g:HL)(b mp:Nat)(w v:Nat)(xv:Value)(r:Mv)(xa xd xl xu:Value)(PR:List K2):Prop where
 x:∃xp,g[b]?=some (.o (.cells (ah ⟨w,v,xv,r,xa,xd,xl,xu,mp,xp,.slice none 0 0,.slice none 0 0⟩ false) 15 true))/\e_ h4.length g xp 2 C' ((range PR.length).map λi=>(i,false))
 m:C6 D8 g mp (Sz PR)
 k:∀(j:Nat) o,h4[j]?=some o->j≠b->j≠mp->g[j]?=some o
 l:h4.length<=g.length
section
variable {h0 h4:HL} {b mp w v:Nat} {xv:Value} {r:Mv} {xa xd xl xu:Value} {vs:Tn} {IM:TM}
def N3.wid(d:N3 h0 h4 b mp w v xv r xa xd xl xu vs IM){j e:Nat}{cs:Tn}{c:Bool}(a:h4[j]?=some (.o (.cells cs e c)))(f:e≠15):j≠b/\j≠mp:=by
 constructor
 .intro q;subst q;rw[d.hb]at a
  simp_all
 .intro q;subst q;rw[d.pr]at a;cases a
def NJ.ls{i6:Type}{e:Nat}{enc:i6->Tn}{L:List i6}{x:TR}(c:N3 h0 h4 b mp w v xv r xa xd xl xu vs IM){g:HL}{d:List K2}(f:NJ h4 g b mp w v xv r xa xd xl xu d)(a:e≠15){n0:Nat}(i:e_ n0 h4 x e enc L):e_ n0 g x e enc L:=
 i.A1 λj l _ h=>f.k j _ h (c.wid h a).1 (c.wid h a).2
def NJ.done(a:N3 h0 h4 b mp w v xv r xa xd xl xu vs IM){g:HL}(c:NJ h4 g b mp w v xv r xa xd xl xu (Er (q_ IM)))(f:h0.length<=h4.length):∃d,N4 h0 g b mp w v xv r xa xd xl xu d vs IM:=by
 obtain⟨d,t,u⟩:=c.x;refine⟨d,t,a.bn,a.mpn,λj o h=>c.k j o (a.old j o h) (λe=>?_) (λe=>?_),c.ls a (by decide) a.at_,c.ls a (by decide) a.ids,a.vl,λj x l p s=>c.ls a (by decide) (a.iv j x l p s),c.ls a (by decide) a.lay,c.ls a (by decide) a.us,c.m,?_,a.s1,a.s2⟩
 .have:=ai h;have:=a.bn;omega
 .have:=ai h;have:=a.mpn;omega
 .rcases u with q|⟨id,i,n,y,e3⟩
  .exact .inl q
  .exact .inr ⟨id,i,n,by omega,e3⟩
def dT(t:N3 h0 h4 b mp w v xv r xa xd xl xu vs IM)(X:h0.length<=h4.length)(bb:IM.length<=36){xi:TR}{K:Te}(hK:∀g H,N4 h0 g b mp w v xv r xa xd xl xu H vs IM->hI (hA P1) b xi g K) :
  cA (hA P1) b xi h4 K:=by
 have ay:=wV IM;have bk:(q_ IM).length<=36:=by
  unfold q_;rw[FM];have:=sn IM;omega
 have Y:∀l∈q_ IM,l.length<=36:=λl z=>by
  obtain⟨c,_,rfl⟩:=CH.1 z;have:=og (L:=IM) (n:=IM.length) (c:=c);show(Fc _ _ _).length<=36;omega
 have F:∀ {g:HL} {PR:List K2},NJ h4 g b mp w v xv r xa xd xl xu PR->∀(j:Nat) x l,vs[j]?=some x->(q_ IM)[j]?=some l->po g x 1 j_ l:=λS j x l W N=>e_.ls bq (S.ls t (by decide) (t.iv j x l W N));unfold cA;simp only[u7];refine j8 ?_;refine br (ds:=[xd]) t.hb (by simp[ah]) rfl ?_;refine b_ ?_;refine ab (e_.g_ (e:=1) (enc:=CG) be t.ids) ?_;refine j8 ?_;refine bu (e_.ls be t.ids) ?_;have ap:NJ h4 h4 b mp w v xv r xa xd xl xu (M6 (q_ IM) 0):=⟨⟨_,t.hb,.inl ⟨rfl,rfl⟩⟩,⟨[],0,t.pr,rfl⟩,λ_ _ h _ _=>h,x5 _⟩;refine aG (m:=vs.length) (λm T g=>∃s,T=[.i (ofNat s)]/\m=vs.length - s/\s<=vs.length/\NJ h4 g b mp w v xv r xa xd xl xu (M6 (q_ IM) s)) ⟨0,rfl,rfl,CM _,ap⟩ ?_;rintro m T g ⟨s,rfl,rfl,bn,R⟩ a8 P;refine Da ?_;refine b_ ?_;by_cases C:s<vs.length
 case neg=>
  obtain rfl:s=vs.length:=by omega
  rw[aK (x5 _)];refine j8 ?_;rw[Wc (by rw[t.vl];omega)]at R;obtain⟨H,q⟩:=R.done t X;exact hK g H q
 rw[aL C];refine b_ ?_;obtain⟨x,Z⟩:=aq C;obtain⟨l,z⟩:=aq (l:=q_ IM) (i:=s) (by rw[←t.vl];exact C);have a7:=Y l (Cb z);refine aP (e_.ls be (R.ls t (by decide) t.ids)) rfl Z ?_;rw[show CG x=[x]from rfl];refine b_ ?_;have ag:=F R s x l Z z;refine ab ag.g_ ?_;refine j8 ?_;refine bu ag ?_;refine aG (m:=l.length) (λm T g=>∃i,T=[.i (ofNat i)]/\m=l.length - i/\i<=l.length/\NJ h4 g b mp w v xv r xa xd xl xu (M6 (q_ IM) s++G_ l i)) ⟨0,rfl,rfl,CM _,by simpa[G_]using R⟩ ?_;rintro m2 bs g2 ⟨i,rfl,rfl,hi,O⟩ a4 D;refine Da ?_;refine b_ ?_;by_cases A:i<l.length
 case neg=>
  obtain rfl:i=l.length:=by omega
  rw[aK (x5 _)];refine b_ ?_;rw[aT (j:=s) (by have:=t.vl;omega)];refine P _ _ _ (by omega) ⟨s+1,rfl,rfl,C,?_⟩;rw[QI z];exact O
 rw[aL A];refine b_ ?_;obtain⟨y,hy⟩:=aq A;refine aP (F O s x l Z z) rfl hy ?_;rw[show j_ y=[.int .i64 (ofNat y)]from rfl];refine b_ ?_;obtain⟨xt,et,lt,gt,bt⟩:=qg (F R s x l Z z) hi;refine ae et (ab gt ?_);refine j8 ?_;have a0:(l.take i).length=i:=by simp_all
 refine bu lt ?_;rw[a0];refine aG (m:=i) (λm T g=>∃k,T=[.i (ofNat k)]/\m=i - k/\k<=i/\NJ h4 g b mp w v xv r xa xd xl xu (M6 (q_ IM) s++G_ l i++(l.take k).map λa=>((a,y):K2))) ⟨0,rfl,rfl,CM _,by simpa using O⟩ ?_;rintro m3 bx V ⟨k,rfl,rfl,hk,d⟩ a5 E;refine Da ?_;refine b_ ?_;by_cases B:k<i
 case neg=>
  obtain rfl:k=i:=by omega
  rw[aK (x5 _)];refine b_ ?_;rw[aT (by omega)];refine D _ _ _ (by omega) ⟨k+1,rfl,rfl,A,?_⟩;rw[tK,y7 hy,←EC];exact d
 rw[aL B];refine b_ ?_;obtain⟨a,ha⟩:=aq (l:=l) (i:=k) (by omega);have av:(l.take i)[k]?=some a:=by grind
 have a3:po V xt 1 j_ (l.take i):=by
  obtain⟨bP,a9,bC,_,_⟩:=qg (F d s x l Z z) hi
  simp_all
 refine aP a3 rfl av ?_;rw[show j_ a=[.int .i64 (ofNat a)]from rfl];refine b_ ?_;obtain⟨p,I⟩ : ∃p,p=M6 (q_ IM) s++G_ l i++(l.take k).map λa=>((a,y):K2):=⟨_,rfl⟩;have M:=Wf ay z hy B ha;rw[←I]at d M;have bd:p.length<=1000000:=by
  have W:(M6 (q_ IM) s).length<=((q_ IM).take s).length*(36*36):=K_ λl z=>Y l (ND z);have N:=xN (l:=l) i;have h3:i*i<=36*36:=m0 (by omega) (by omega)
  grind
 obtain⟨H,U,q2⟩:=d.x;refine br (ds:=[.map (some mp)]) U (by simp[ah]) rfl ?_;refine b_ ?_;refine ab rfl ?_;refine j8 ?_;refine br (ds:=[H]) U (by simp[ah]) rfl ?_;refine b_ ?_;refine ab (e_.g_ (e:=2) (enc:=C') dI q2) ?_;refine j8 ?_;refine bu (e_.ls dI q2) ?_;rw[FM,SG];have bm:∀k:K2,Instr.sameBits 10000 (.agg ⟨D8 k⟩) (.agg ⟨D8 k⟩)=true:=λk=>by simp[D8,Instr.sameBits]
 refine QX D8 OJ (by kernel_rfl) (by kernel_rfl) J' d.m ((a,y):K2) (by rw[K7];exact M) rfl λo hm=>?_;obtain⟨J,e4⟩ : ∃J,J=V.set mp o:=⟨_,rfl⟩;rw[←e4]at hm ⊢;rw[←We]at hm;have l4:J.length=V.length:=by simp_all
 have bl:∀ {j e:Nat} {u:Tn} {f:Bool},V[j]?=some (.o (.cells u e f))->mp≠j:=λ{j e u f} S q=>by
  subst q;obtain⟨es,c,N,_⟩:=d.m
  simp_all
 have k4:∀ {j e:Nat} {u:Tn} {f:Bool},V[j]?=some (.o (.cells u e f))->J[j]?=some (.o (.cells u e f)):=λ{j e u f} S=>by
  grind
 refine j8 ?_;refine jK (ds:=[H]) (k4 U) (by simp[ah]) rfl ?_;refine b_ ?_;have Q:e_ h4.length J H 2 C' ((range p.length).map λi=>(i,false)):=q2.A1 λj u _ h=>k4 h;refine ab (e_.g_ (e:=2) (enc:=C') dI Q) ?_;refine j8 ?_;refine br (ds:=[H]) (k4 U) (by simp[ah]) rfl ?_;refine b_ ?_;refine ab (e_.g_ (e:=2) (enc:=C') dI Q) ?_;refine j8 ?_;refine bu (e_.ls dI Q) ?_;rw[FM,SG];refine j8 ?_;refine Q.GX (a:=((p.length,false):Lit)) dI (by have:=d.l;omega) rfl rfl rfl (by unfold ba;rw[FM,SG,DK (by omega),DK (by omega)];rfl) ?_;intro a6 g5 o5 gx k5 l5 b5;refine b_ ?_;refine ab gx ?_;refine j8 ?_;have G:=k4 U;have ad:∀ {j e:Nat} {u:Tn} {f:Bool},J[j]?=some (.o (.cells u e f))->e≠2->d_ H≠some j:=λ{j e u f} S he q=>by
  obtain⟨al,N⟩:=Q.wid q
  simp_all
 refine gf (b:=b) (k5 _ _ G (ad G (by decide))) (by simp[ah]) ?_;refine j8 ?_;refine ae (x:=()) (cY (bS ⟨_,_,_,rfl⟩ λi hi=>?_) eR) ?_
 .have U:J.length=i:=by simpa[d_]using hi
  grind
 refine j8 ?_;rw[aT (by omega)];refine E _ _ _ (by omega) ⟨k+1,rfl,rfl,B,?_⟩;rw[WS ha,←EC,←I];have ax:=k5 _ _ G (ad G (by decide));have aE:mp≠b:=λe=>by
  grind
 refine⟨⟨a6,?_,?_⟩,?_,λj o S W N=>?_,?_⟩
 .exact fG ax
 .have e1:((range (p++[((a,y):K2)]).length).map λi=>((i,false):Lit))=((range p.length).map λi=>((i,false):Lit))++[(p.length,false)]:=by
   rw[GA,qcK,Lb,Iu];rfl
  rw[e1];exact o5.A1 λj u _ h=>cW h λe=>by
   simp_all
 .obtain⟨es,c,a1,a2⟩:=hm;refine⟨es,c,cW (k5 mp _ a1 λe=>?_) (De aE),a2⟩;obtain⟨al,N⟩:=Q.wid e
  simp_all
 .have h3:=d.k j o S W N;have an:J[j]?=some o:=by
   grind
  refine cW (k5 j o an λe=>?_) (De W);have:=(Q.d_ e).1
  simp_all
 .rw[Fy];have:=d.l;omega
end
def sM(a:K3):∃r,fF kk3 (EP a) (EP a)=some r:=by
 have b:cX .i64 .i64=true:=rfl;have c:cX .u8 .u8=true:=rfl;simp only[EP,fF,b,c,iJ];exact⟨_,rfl⟩
def WhH(h:HL)(m:Nat)(b:TM):Prop:=∃a:List (K3×Value),C6 EP h m a/\(∀c,c∈a.map Prod.fst↔c∈b)/\∀(i:Nat) k u,a[i]?=some (k,u)->u = .int .i64 (ofNat ((Dn b).idxOf k))
def WhH.i_{h h':HL}{m:Nat}{a:TM}(e:WhH h m a)(d:∀o,h[m]?=some o->h'[m]?=some o):WhH h' m a:=by
 obtain⟨f,b,c⟩:=e;exact⟨f,b.i_ EP d,c⟩
def WhH.lt{h:HL}{m:Nat}{a:TM}(c:WhH h m a):m<h.length:=by
 obtain⟨d,b,_⟩:=c;exact b.lt
def WhH.ne{h:HL}{m:Nat}{b:TM}(d:WhH h m b){j e:Nat}{cs:Tn}{a:Bool}(i:h[j]?=some (.o (.cells cs e a))):j≠m:=λq=>by
 subst q;obtain⟨k,⟨f,c,g,_⟩,_⟩:=d
 simp_all
def YC{h:HL}{m:Nat}{a:TM}(n:WhH h m a){c:Cl}(g:c∈a){K:Tf}(q:K [.int .i64 (ofNat ((Dn a).idxOf c))]):P1.ka (.fn (E7 cc 71 false (.int .i64 0) (.map (some m)) (.agg ⟨[.int .i64 c.1,.int .i64 c.2.1,.int .u8 (ofNat c.2.2)]⟩) false)) h (@hY _ ⟨K⟩):=by
 obtain⟨r,d,f,o⟩:=n;refine QW EP yF (by kernel_rfl) (by kernel_rfl) sM d c rfl (λb e=>by cases e) (λp l b e=>?_) (λk=>absurd ((f c).2 g) k) λi u j=>?_
 .obtain⟨i,j⟩:=DZ l
  grind
 grind
def yI{u v:TR}(e:∃a n c,v = .slice a n c):Ci (C9 u) (A6 2 v)=true:=by
 obtain⟨b,m,d,rfl⟩:=e;exact nQ
def oT{v:TR}{b:Nat}(e:∃a n c,v = .slice a n c)(h:∀i,d_ v=some i->i≠b):Ci (C9 v) (A6 0 (.map (some b)))=true:=by
 obtain⟨a,n,c,rfl⟩:=e;show Ci (C9 (.slice a n c)) [b]=true;rcases a with _|a
 .rfl
 have d:=h a.block rfl;unfold C9;simp only;split
 .rfl
 .exact wE d
def xD{i6:Type}{n0 e:Nat}{enc:i6->Tn}{l:List i6}{h:HL}{v:TR}(b:e_ n0 h v e enc l):∃a n c,v = .slice a n c:=by
 rcases b with⟨rfl,_⟩|⟨id,d,rfl,_⟩
 .simp_all
 simp_all
def z4{h:HL}{b e:Nat}{cs new:Tn}{K:TR->Tn->HL->Prop}{o:Nat}(a:h[b]?=some (.o (.cells cs e true)))(d:o+new.length<=cs.length)(c:K (.pointer (some ⟨b,o,none⟩)) [] (h.set b (.o (.cells (cs.take o++new++cs.drop (o+new.length)) e true)))) :
  P1.h_ (CW (i' b)) (@hY _ ⟨λx=>P1.k_ x (@hY _ ⟨P1.h_ (Dg o x) (@hY _ ⟨λy=>P1.k_ y (@hY _ ⟨P1.heap (.st y new) h (@hY _ ⟨K y⟩)⟩)⟩)⟩)⟩):=by
 refine ae (x:=i' b) rfl (ab (au b) (ae (x:=.pointer (some ⟨b,0+o,none⟩)) rfl (ab (by simp[aJ,l_,aV,bF,bo,aR,aD]) ?_)));rw[EM];exact YD a d c
structure N2(h0 h4:HL)(b mp mw:Nat)(w v:Nat)(xv:Value)(r:Mv)(xa xu:Value)(IM:TM):Prop where
 hb:h4[b]?=some (.o (.cells (ah ⟨w,v,xv,r,xa,.slice none 0 0,.slice none 0 0,xu,mp,.slice none 0 0,.slice none 0 0,.slice none 0 0⟩ false) 15 true))
 bn:h0.length<=b
 mpn:h0.length<=mp
 old:∀(j:Nat) o,h0[j]?=some o->h4[j]?=some o
 at_:e_ h0.length h4 xa 3 bU (Dn IM)
 us:e_ h0.length h4 xu 1 y0 (replicate IM.length false)
 pr:h4[mp]?=some (.o (.map [] 0))
 wh:WhH h4 mw IM
structure NK(h6 g:HL)(xd:Value)(m:Nat)(IM:TM)(n:Nat)(vs:Tn):Prop where
 x:e_ 0 g xd 1 CG vs
 vl:vs.length=(Dn IM).length
 iv:∀(j:Nat) x c,vs[j]?=some x->(Dn IM)[j]?=some c->e_ h6.length g x 1 j_ (Fc IM n c)
 dj:∀(i j:Nat) x y z,vs[i]?=some x->vs[j]?=some y->d_ x=some z->d_ y=some z->i=j
 k:∀(j:Nat) o,h6[j]?=some o->j≠m->g[j]?=some o
 l:h6.length<=g.length
def eV{h0 A:HL}{b J mw w v:Nat}{R:TR}{r:Mv}{D N:TR}{f:TM}(s:N2 h0 A b J mw w v R r D N f)(ce:f.length<=36){xi:TR}(a3:po h0 xi 3 bU f){K:Te}(hK:∀g u G vs,h0.length<=g.length->N3 h0 g b J w v R r D u G N vs f->cA (hA P1) b xi g K) :
  hO (hA P1) b xi mw A K:=by
 have ci:=ai s.hb;have a4:h0.length<=A.length:=by have:=s.bn;omega
 have cf:(Dn f).length<=36:=by have:=sn f;omega
 obtain⟨M,eM⟩ : ∃M,M=(Dn f).length:=⟨_,rfl⟩;unfold hO;simp only[u7];refine jK (ds:=[D]) s.hb (by simp[ah]) rfl ?_;refine b_ ?_;refine ab (e_.g_ (e:=3) (enc:=bU) cF s.at_) ?_;refine j8 ?_;refine bu (e_.ls cF s.at_) ?_;rw[←eM];refine ae (dM (by omega)) ?_;refine j8 ?_;rw[show(ofNat M).toNat=M from rfl];obtain⟨H,e5⟩ : ∃H,H=A++[HO.o (.cells (aN [.slice none 0 0] M) 1 true)]:=⟨_,rfl⟩;rw[←e5];have k5:∀(j:Nat) o,A[j]?=some o->H[j]?=some o:=λj o d=>by grind
 have l5:H.length=A.length+1:=by rw[e5];simp
 have m5:H[A.length]?=some (.o (.cells (aN [.slice none 0 0] M) 1 true)):=by rw[e5];exact aH
 refine jK (ds:=[D]) (k5 _ _ s.hb) (by simp[ah]) rfl ?_;refine b_ ?_;have ay:e_ h0.length H D 3 bU (Dn f):=s.at_.i_ λj o d _=>k5 j o d;refine ab (e_.g_ (e:=3) (enc:=bU) cF ay) ?_;refine j8 ?_;refine bu (e_.ls cF ay) ?_;rw[←eM];refine ae (dM (by omega)) ?_;refine j8 ?_;rw[show(ofNat M).toNat=M from rfl];obtain⟨h6,e6⟩ : ∃h6,h6=H++[HO.o (.cells (aN [.slice none 0 0] M) 1 true)]:=⟨_,rfl⟩;rw[←e6];have k6:∀(j:Nat) o,H[j]?=some o->h6[j]?=some o:=λj o d=>by grind
 have l6:h6.length=A.length+2:=by rw[e6];simp;omega
 have m6:h6[H.length]?=some (.o (.cells (aN [.slice none 0 0] M) 1 true)):=by rw[e6];exact aH
 refine z4 (b:=b) (k6 _ _ (k5 _ _ s.hb)) (by simp[ah]) ?_;refine j8 ?_;obtain⟨u,T⟩ : ∃u:Value,u = .slice (some ⟨A.length,0,le 1⟩) M (M+1):=⟨_,rfl⟩;obtain⟨G,U⟩ : ∃G:Value,G = .slice (some ⟨H.length,0,le 1⟩) M (M+1):=⟨_,rfl⟩;have aE:Value.slice (some ⟨A.length,0,some 11⟩) M (M+1)=u:=T.symm;have a0:Value.slice (some ⟨H.length,0,some 11⟩) M (M+1)=G:=U.symm;rw[aE,a0];obtain⟨h7,e7⟩ : ∃h7,h7=h6.set b (.o (.cells (ah ⟨w,v,R,r,D,u,.slice none 0 0,N,J,.slice none 0 0,.slice none 0 0,.slice none 0 0⟩ false) 15 true)):=⟨_,rfl⟩;have bd:h6.set b (.o (.cells (List.take 7 (ah ⟨w,v,R,r,D,.slice none 0 0,.slice none 0 0,N,J,.slice none 0 0,.slice none 0 0,.slice none 0 0⟩ false)++[u]++List.drop (7+[u].length) (ah ⟨w,v,R,r,D,.slice none 0 0,.slice none 0 0,N,J,.slice none 0 0,.slice none 0 0,.slice none 0 0⟩ false)) 15 true))=h7:=by rw[e7];rfl
 rw[bd];have bt:h7[b]?=some (.o (.cells (ah ⟨w,v,R,r,D,u,.slice none 0 0,N,J,.slice none 0 0,.slice none 0 0,.slice none 0 0⟩ false) 15 true)):=by
  grind
 refine gf (b:=b) bt (by simp[ah]) ?_;obtain⟨C,e8⟩ : ∃C,C=h7.set b (.o (.cells (ah ⟨w,v,R,r,D,u,G,N,J,.slice none 0 0,.slice none 0 0,.slice none 0 0⟩ false) 15 true)):=⟨_,rfl⟩;have bk:h7.set b (.o (.cells (List.take 8 (ah ⟨w,v,R,r,D,u,.slice none 0 0,N,J,.slice none 0 0,.slice none 0 0,.slice none 0 0⟩ false)++[G]++List.drop (8+[G].length) (ah ⟨w,v,R,r,D,u,.slice none 0 0,N,J,.slice none 0 0,.slice none 0 0,.slice none 0 0⟩ false)) 15 true))=C:=by rw[e8];rfl
 refine j8 ?_;rw[bk];have cq:∀i,d_ D=some i->h0.length<=i/\i<A.length:=λi q=>s.at_.d_ q;have av:=xD s.at_;have ct:d_ u=some A.length:=by rw[T];rfl
 have cy:d_ G=some H.length:=by rw[U];rfl
 have a6:∃a n c,u = .slice a n c:=⟨_,_,_,T⟩;have Z:∃a n c,G = .slice a n c:=⟨_,_,_,U⟩;refine ae (x:=()) (cY (bS a6 λi B=>?_) (cY (yI av) (cY (bS Z λi B=>?_) (cY (yI av) (cY (uI a6 Z λi B=>?_) (cY (yI av) (cY (bS Z λi B=>?_) (cY (bS Z λi B=>?_) eR)))))))) ?_
 .grind
 .grind
 .simp_all
 .grind
 .grind
 refine j8 ?_;have l8:C.length=A.length+2:=by simp_all
 have k8:∀(j:Nat) o,h6[j]?=some o->j≠b->C[j]?=some o:=λj o d V=>by
  grind
 have bx:C[b]?=some (.o (.cells (ah ⟨w,v,R,r,D,u,G,N,J,.slice none 0 0,.slice none 0 0,.slice none 0 0⟩ false) 15 true)):=by
  grind
 have ax:∀(j:Nat) o,A[j]?=some o->j≠b->C[j]?=some o:=λj o d V=>k8 j o (k6 j o (k5 j o d)) V;have zz:(aN [Value.slice none 0 0] M)=((Dn f).map λ_=>Value.slice none 0 0).flatMap CG:=by
  show aN (CG (Value.slice none 0 0)) M=_;rw[cS (enc:=CG) (z:=Value.slice none 0 0) (n:=M),eM,List.map_const']
 have W:((Dn f).map λ_=>Value.slice none 0 0).length=M:=by simp_all
 have b3:e_ h0.length C u 1 CG ((Dn f).map λ_=>.slice none 0 0):=.inr ⟨A.length,M+1,by rw[W,T],a4,by simp_all,.inr (by rw[W])⟩;have b4:e_ h0.length C G 1 CG ((Dn f).map λ_=>.slice none 0 0):=.inr ⟨H.length,M+1,by rw[W,U],by omega,by simp_all,.inr (by rw[W])⟩;have Q:∀(j:Nat) o,h0[j]?=some o->C[j]?=some o:=λj o d=>ax j o (s.old j o d) (by have:=ai d;have:=s.bn;omega);refine bu (a3.i_ λj o d _=>Q j o d) ?_;have a9:∀ {i6:Type} {e n0:Nat} {enc:i6->Tn} {L:List i6} {g:HL} {x:TR},e_ n0 g x e enc L->e_ 0 g x e enc L:=λq=>by
  rcases q with q|⟨id,cx,e1,_,e3⟩
  .exact .inl q
  .exact .inr ⟨id,cx,e1,CM _,e3⟩
 refine aG (m:=f.length) (λm ls g=>∃n vs,ls=[.i (ofNat n)]/\m=f.length - n/\n<=f.length/\NK C g u A.length f n vs) ⟨0,(Dn f).map λ_=>.slice none 0 0,rfl,rfl,CM _,a9 b3,by simp,λj x c E F=>?_,λi j x y z E F h3=>?_,λ_ _ h _=>h,x5 _⟩ ?_
 .obtain⟨_,_,rfl⟩:=CH.1 (Cb E);exact .inl ⟨rfl,by simp[Fc]⟩
 .obtain⟨_,_,rfl⟩:=CH.1 (Cb E);cases h3
 rintro m ls g ⟨n,vs,rfl,rfl,hn,p⟩ cb ap;refine Da ?_;refine b_ ?_;have a5:WhH g mw f:=by
  refine(s.wh.i_ λo ho=>ax mw o ho λe=>?_).i_ λo ho=>p.k mw o ho ?_
  .exact s.wh.ne s.hb e.symm
  .have:=s.wh.lt;omega
 have ag:g[b]?=some (.o (.cells (ah ⟨w,v,R,r,D,u,G,N,J,.slice none 0 0,.slice none 0 0,.slice none 0 0⟩ false) 15 true)):=p.k b _ bx (by omega);by_cases X:n<f.length
 case neg=>
  obtain rfl:n=f.length:=by omega
  rw[aK (x5 _)];refine j8 ?_;have kg:∀(j:Nat) o,A[j]?=some o->j≠b->g[j]?=some o:=λj o d V=>p.k j o (ax j o d V) (by grind);have a1:∀ {j e:Nat} {cs:Tn} {bb:Bool},A[j]?=some (.o (.cells cs e bb))->e≠15->j≠b:=λ{j e cs bb} d he q=>by
   subst q;rw[s.hb]at d
   simp_all
  have bP:(q_ f).length=(Dn f).length:=by simp[q_]
  have cn:∀j,d_ N=some j->j<A.length:=λj q=>(s.us.d_ q).2;have co:∀x∈vs,∀j,d_ x=some j->C.length<=j:=λx hx j q=>by
   obtain⟨i,B⟩:=DZ hx;obtain⟨c,S⟩:=aq (l:=Dn f) (i:=i) (by rw[←p.vl];exact ai B);exact((p.iv i x c B S).d_ q).1
  refine hK g u G vs (by have:=p.l;omega) ⟨ag,s.bn,s.mpn,λj o d=>p.k j o (Q j o d) (by grind),s.at_.A1 λj cs _ h=>kg j _ h (a1 h (by decide)),?_,by rw[bP];exact p.vl,λj x l E F=>?_,?_,s.us.A1 λj cs _ h=>kg j _ h (a1 h (by decide)),kg J _ s.pr λe=>?_,λj q e=>?_,λj q=>⟨λe=>?_,λx hx e=>?_⟩⟩
  .rcases p.x with q|⟨id,cx,e1,_,e3⟩
   .exact .inl q
   .refine .inr ⟨id,cx,e1,?_,e3⟩
    simp_all
  .unfold q_ at F;rw[EL]at F;cases S:(Dn f)[j]? with
   |none=>rw[S]at F;cases F
   |some c=>
    rw[S]at F;have:=DU F;subst this;rcases p.iv j x c E S with q|⟨id,cx,e1,e2,e3⟩
    .exact .inl q
    .exact .inr ⟨id,cx,e1,by omega,e3⟩
  .have e1:((q_ f).map λ_=>Value.slice none 0 0)=(Dn f).map λ_=>Value.slice none 0 0:=by
    unfold q_
    simp_all
   rw[e1];exact b4.i_ λj o d hb=>p.k j o d (by grind)
  .have E:=s.pr;rw[e,s.hb]at E;cases E
  .grind
  .grind
  grind
 rw[aL X];refine b_ ?_;obtain⟨c,S⟩:=aq X;have al:=Cb S;refine aP (a3.i_ λj o d ck=>p.k j o (Q j o d) (by grind)) rfl S ?_;rw[show bU c=[.int .i64 c.1,.int .i64 c.2.1,.int .u8 (ofNat c.2.2)]from rfl];refine b_ ?_;refine jK (ds:=[u]) ag (by simp[ah]) rfl ?_;refine b_ ?_;have a2:=e_.g_ (e:=1) (enc:=CG) be p.x;refine ab a2 ?_;refine j8 ?_;refine YC a5 al ?_;refine b_ ?_;refine jK (ds:=[u]) ag (by simp[ah]) rfl ?_;refine b_ ?_;refine ab a2 ?_;refine j8 ?_;refine YC a5 al ?_;refine b_ ?_;obtain⟨I,bl⟩ : ∃I,I=(Dn f).idxOf c:=⟨_,rfl⟩;rw[←bl];have an:(Dn f)[I]?=some c:=by
  have X:=qcw.2 (wu.2 al)
  simp_all
 obtain⟨x,hx⟩:=aq (l:=vs) (i:=I) (by rw[p.vl];exact ai an);refine QV p.x rfl hx ?_;intro id hY;refine b_ ?_;have Y:=p.iv I x c hx an;refine ab (e_.g_ (e:=1) (enc:=j_) bq Y) ?_;refine j8 ?_;obtain⟨g1,cd⟩ : ∃g1,g1=g++[HO.o (.cells [.int .i64 (ofNat n)] 1 true)]:=⟨_,rfl⟩;refine Y.GX (a:=n) bq p.l rfl rfl rfl (by have:=og (L:=f) (n:=n) (c:=c);unfold ba;rw[DK (by omega),DK (by omega)];rfl) ?_;intro x' g2 o2 gx k2 l2 b2;refine b_ ?_;refine ab gx ?_;refine j8 ?_;have b8:id=A.length:=by
  simp_all
 have cr:∀j,d_ x=some j->C.length<=j/\j<g.length:=λj q=>Y.d_ q;have ca:∀j,d_ x'=some j->C.length<=j:=λj q=>(o2.d_ q).1;have b9:mw<A.length:=s.wh.lt;have b7:=p.l;have a8:∀(j:Nat) o,g[j]?=some o->d_ x≠some j->g2[j]?=some o:=λj o d hb=>k2 j o d hb;have b5:e_ 0 g2 u 1 CG vs:=p.x.i_ λj o d hb=>a8 j o d λe=>by
  grind
 refine b5.Jq be rfl (ai hx) rfl ?_;intro g3 b6 k3 l3;refine j8 ?_;have P:∀m n c,∃a n' c',Value.slice (some ⟨m,0,some 11⟩) n c = .slice a n' c':=λm n c=>⟨_,_,_,rfl⟩;have a7:=xD Y;have ad:=xD o2;have bm:∀i,d_ (.slice (some ⟨g.length,0,some 11⟩) 1 2)=some i->i=g.length:=λi q=>(DU q).symm;refine ae (x:=()) (cY (bS (P _ _ _) λi B=>?_) (cY (oT (P _ _ _) λi B=>?_) (cY (bS (P _ _ _) λi B=>?_) (cY (oT (P _ _ _) λi B=>?_) (cY (bS (P _ _ _) λi B=>?_) (cY (bS a7 λi B=>?_) (cY (bS ad λi B=>?_) (cY (oT a7 λi B=>?_) (cY (oT ad λi B=>?_) eR))))))))) ?_
 .grind
 .grind
 .grind
 .grind
 .grind
 .grind
 .grind
 .grind
 .grind
 refine j8 ?_;rw[aT (by omega)];have O:∀(j:Nat) y,(vs.set I x')[j]?=some y->(j=I/\y=x')∨(j≠I/\vs[j]?=some y):=λj y d=>by
  by_cases e:j=I
  .grind
  grind
 have cl:∀(j:Nat) y z,j≠I->vs[j]?=some y->d_ y=some z->d_ x≠some z/\C.length<=z/\z<g.length:=λj y z e d hz=>by
  obtain⟨c2,bC⟩:=aq (l:=Dn f) (i:=j) (by rw[←p.vl];exact ai d);exact⟨λq=>e (p.dj j I y x z d hx hz q),(p.iv j y c2 d bC).d_ hz⟩
 refine ap _ _ _ (by omega) ⟨n+1,vs.set I x',rfl,rfl,X,b6,by rw[Fy];exact p.vl,λj y c2 E F=>?_,λi j y z t E F h3 bs=>?_,λj o d b0=>?_,?_⟩
 .rcases O j y E with⟨rfl,rfl⟩|⟨e,E⟩
  .rw[an]at F;have:=DU F;subst this;rw[vq,n_ S];refine o2.i_ λi o B hb=>k3 i o B λe=>?_
   grind
  .have b1:f[n]?≠some c2:=λq=>by
    rw[S]at q;have:=DU q;subst this;have cm:=Ix (sj f)
    grind
   rw[vq,qs b1,GM];refine(p.iv j y c2 E F).i_ λi o B hb=>?_
   grind
 .have cw:∀(j:Nat) y t,j≠I->vs[j]?=some y->d_ y=some t->d_ x'≠some t:=λj y t e d hy cp=>by
   grind
  rcases O i y E with⟨q1,q2⟩|⟨e,q1⟩
  .grind
  .rcases O j z F with⟨p1,p2⟩|⟨e2,p1⟩
   .grind
   .exact p.dj i j y z t q1 p1 h3 bs
 .refine k3 j o (a8 j o (p.k j o d b0) λe=>?_) λe=>?_
  .grind
  grind
 .omega
end Go.Am
namespace Go.Am
open Sx Go.Proofs Go.Shelf Go.Lib Go.Sort
section
variable [Cf]
def RQ [D1]{C:ke}{a:Nat}{mu:jn}{H:Tu}{w w':TS}(h:WR C a mu H w)(d:Go.RowKit.Below w.heap.size w w')(n:w.drawn<=w'.drawn):WR C a mu H w'/\Ee H mu w H mu w':=by
 refine⟨⟨λid o k f=>?_,h.inj,h.own,h.ro,h.Im,λg r q=>?_⟩,⟨x5 _,λ_ _=>rfl,d.size,λb l _=>d.block b l,λb h=>.inr h,d.os,d.tape,d.output,n⟩⟩
 .obtain⟨p,i,j⟩:=h.obj id o k f;exact⟨p,i,by rw[d.block _ (jX f j)];exact j⟩
 .obtain⟨k,f,c,e,m,i,j⟩:=h.D2 g r q;exact⟨k,f,c,e,m,by rw[d.block _ (Is.1 i).1];exact i,j⟩
def BH{W w':TS}(h1:w'.os=W.os)(d:w'.tape=W.tape)(f:w'.output=W.output)(g:W.drawn<=w'.drawn)(i:W.heap.size<=w'.heap.size)(j:∀b,b<W.heap.size->w'.heap[b]?=W.heap[b]?):∃q a,w'=grow (W.drewN q) a:=by
 refine⟨w'.drawn - W.drawn,w'.heap.extract W.heap.size w'.heap.size,?_⟩;have e:w'.heap=W.heap++w'.heap.extract W.heap.size w'.heap.size:=by
  grind
 obtain⟨k,m,c,l,h⟩:=w';simp only at h1 d f g e;subst h1 d f;unfold grow World.drewN;simp only;rw[←e,show W.drawn+(c - W.drawn)=c by omega]
def yT{i6:Type} [Inhabited i6]{enc:i6->Tn}{e:Nat}(c:∀x,(enc x).length=e){l:List i6}{t:Nat}(j:t<l.length*e):(l.flatMap enc)[t]?=some (Go.Sort.flatK enc e l.toArray)[t]!:=by
 rw[Go.Sort.get_flatK enc e l.toArray t (by omega)];have b:0<e:=by
  grind
 have d:t / e<l.length:=Nat.div_lt_of_lt_mul (by grind);have g:=lW (e:=e) (enc:=enc) (l:=l) (λa _=>c a) (i:=t / e) (a:=l[t / e]) (FN d);have h:=It t b;have f:t=t / e*e+t%e:=by rw[Nat.mul_comm];exact(Nat.div_add_mod t e).symm
 grind
def Sn{i6:Type} [Inhabited i6]{enc:i6->Tn}{e:Nat}(n:∀x,(enc x).length=e)(y:∀x,∀v∈enc x,Am.scalar v=true) [D1]{mu:jn}{p:Pl}{w:TS}{l:List i6}(q:EJ mu p w.heap[p.b]? (.cells (l.flatMap enc) e true)):HoldsK enc e w p.b p.o l.toArray:=by
 obtain⟨_,_,_,c,t,r,f,s,g,h⟩:=q;obtain rfl:=g rfl;intro j m;rw[Go.Sort.size_flatK]at m;have d:=yT (enc:=enc) n (l:=l) (t:=j) (by omega);obtain⟨z,i,k⟩:=h j _ d;have a:Am.scalar (Go.Sort.flatK enc e l.toArray)[j]! = true:=by
  have u:=Cb d
  grind
 have:=cJ a k;subst this;exact⟨by simp[World.cell?,f,i],by simp[World.frozen?,f]⟩
def BC{C:ke}{d:Nat}{mu:jn}{H:Tu}{w:TS} [D1](y:WR C d mu H w){i6:Type} [Inhabited i6]{enc:i6->Tn}{e:Nat}(h:∀x,(enc x).length=e)(A:∀x,∀v∈enc x,Am.scalar v=true){id:Nat}{p:Pl}{l l':List i6}
  (hY:H[id]?=some (.cells (l.flatMap enc) e true)) (z:mu id=some p) (S:l'.length=l.length) (n:Nat) (os:Array Obj) :
  WR C d mu (H.set id (.cells (l'.flatMap enc) e true)) (sortWorldK enc e w p.b p.o n l'.toArray os)/\Ee H mu w (H.set id (.cells (l'.flatMap enc) e true)) mu (sortWorldK enc e w p.b p.o n l'.toArray os):=by
 obtain⟨T,f,N⟩:=y.obj id _ hY rfl;rw[z]at f;cases f;obtain⟨G,P,Q,c,t,r,s,I,J,R⟩:=N;have M:(l'.flatMap enc).length=l'.length*e:=aS λa _=>h a;have L:(l.flatMap enc).length=l.length*e:=aS λa _=>h a;have g:=y.set (w':=Go.Sort.putRowK enc e (Go.Sort.ahead w n) p.b p.o l'.toArray) (x:=.cells (Go.Sort.putCells (λv:Value=>v) p.o (Go.Sort.flatK enc e l'.toArray) c) t r) hY rfl z (by
   apply ad;intro i;show(w.heap.modify p.b _)[i]?=_;rw[Array.getElem?_modify,Yp];split
   next q=>
    subst q;rw[s,n_ (Is.1 s).1];rfl
   .rfl) rfl rfl rfl (.cells (l'.flatMap enc) e true) (λ_=>rfl) ⟨G,by simp_all,by
    rw[A5];intro v j;obtain⟨a,_,m⟩:=Gc.1 j;exact gY (A a v m),_,t,r,rfl,by simp[Go.Sort.putCells,I],J,λi v j=>by
    have q:i<l'.length*e:=by grind
    have K:=yT (enc:=enc) h (l:=l') q;rw[j]at K;obtain⟨u,O⟩ : ∃u,c[p.o+i]?=some u:=⟨c[p.o+i]'(by grind),qcn _⟩;refine⟨v,?_,?_⟩
    .simp only[Go.Sort.putCells,Array.getElem?_mapIdx,O,EA]
     simp_all
    .obtain⟨a,_,m⟩:=Gc.1 (Cb j);exact .scalar (A a v m)⟩ (Nat.le_add_right _ _)
 obtain⟨B,D⟩:=g;obtain⟨E,F⟩:=RQ (w':=sortWorldK enc e w p.b p.o n l'.toArray os) B ⟨rfl,rfl,rfl,by unfold sortWorldK grow;simp,λk h=>by
  unfold sortWorldK grow
  grind⟩ (x5 _)
 exact⟨E,D.trans F⟩
def OB{C:ke}(S:∀g vs,C.G g=some vs->vs.all Sr=true){i6:Type} [Inhabited i6]{enc:i6->Tn}{e:Nat}{s:i6->i6->Int}{g:TQ}(Y:∀x,∀v∈enc x,Am.scalar v=true)
  (X:∀x y,en C g [.agg ⟨enc x⟩,.agg ⟨enc y⟩] [] (.int .i64 (s x y)) []) [glo:D1] {a:Nat} {mu:jn} {H:Tu} {w:TS} (T:WR C a mu H w) {d_:Nat} (A:a<=d_) (off n:Nat):CmpLays C.P g #[] enc e s d_ off n w:=by
 intro m F l _ x y M;have d:∀b t,b<a->w.heap[b]?=some t->(sortWorldK enc e w d_ off m l F).heap[b]?=some t:=λb t V ht=>by
  unfold sortWorldK grow;simp only;rw[qcZ (by rw[show(Go.Sort.putRowK enc e (Go.Sort.ahead w m) d_ off l).heap.size=w.heap.size from Go.Sort.size_putRow _ _ _ _ _];grind)];show(w.heap.modify d_ _)[b]?=_
  grind
 generalize sortWorldK enc e w d_ off m l F=W at *;have r:WR C W.heap.size (λ_=>none) [] W:=
  ⟨λid o h=>by simp at h,λi j oi oj pi pj h=>by simp at h,λi o p h=>by simp at h,λi o p h=>by simp at h,λ_ _=>rfl,λg vs B=>by
   obtain⟨N,O,c,t,q,Q,R⟩:=T.D2 g vs B;have z:=d _ _ N Q;exact⟨(Is.1 z).1,O,c,t,q,z,sZ (S g vs B) R⟩⟩
 have k:∀x:i6,VR Cu (λ_=>none) (.agg ⟨enc x⟩) (.agg ⟨enc x⟩):=λx=>.agg rfl λi u v D E=>by
  rw[D]at E;cases E;exact .scalar (Y x u (Cb (by simpa using D)))
 obtain⟨v,Z,w',I,a2,f,a4,q,J,K,L⟩:=X x y glo W.heap.size (λ_=>none) W #[.agg (enc x).toArray,.agg (enc y).toArray] (x5 _) (t0.cons (k x) (t0.cons (k y) .nil)) r M;rw[show(#[Value.agg (enc x).toArray,Value.agg (enc y).toArray] ++ #[]) = #[Value.agg (enc x).toArray,Value.agg (enc y).toArray]by simp];exact⟨.returned v,w',q,⟨by rw[cJ rfl I],BH f.os f.tape f.output f.dr f.size λb U=>f.i_ b U I'⟩,J,K,L⟩
def Jv{i6:Type} [Inhabited i6](a:i6->i6->Int)(l:List i6):List i6:=(pdq (ltOf a) l.toArray 0 l.length (Lib.bitLen l.length) true true).toList
def wi{i6:Type} [Inhabited i6]{a:i6->i6->Int}(b:SWO (ltOf a))(l:List i6):PermIn 0 l.length l.toArray (Jv a l).toArray/\SortedIn (ltOf a) 0 l.length (Jv a l).toArray:=by
 have h:=pdq_sorts (ltOf a) b l.toArray 0 l.length (Lib.bitLen l.length) true true (CM _) (by simp) (Or.inl rfl);unfold Jv;simpa using h
def Rr{i6:Type} [Inhabited i6]{a:i6->i6->Int}(b:SWO (ltOf a))(l:List i6):(Jv a l).Perm l:=by
 have h:=(wi b l).1.2.2;have c:(Jv a l).length=l.length:=by
  have:=(wi b l).1.1;omega
 grind
def Rq{i6:Type} [Inhabited i6]{a:i6->i6->Int}(c:SWO (ltOf a))(l:List i6):(Jv a l).Pairwise λx y=>ltOf a y x=false:=by
 have f:(Jv a l).length=l.length:=by
  have:=(wi c l).1.1;omega
 rw[M8];intro i j d e b;have h:=(wi c l).2 i j (CM _) b (by omega);simpa[d,e]using h
def yd{C:ke}(hG:∀g vs,C.G g=some vs->vs.all Sr=true){z:Ren}(L:SlLaysF0.n6 C.P z){i6:Type} [Inhabited i6]{enc:i6->Tn}{e:Nat}(U:∀w,(isAgg (z.t 24)).run C.P w = .ok true w)(zE:∀w,(Go.sizeOf (z.t 24)).run C.P w = .ok e w)
  (E:∀x,(enc x).length=e) (u:∀x,∀v∈enc x,Am.scalar v=true) {c:i6->i6->Int} (O:SWO (ltOf c)) {g:TQ} (eg:∀args w,(callFunc g args).run C.P w = .ok (.enter g args) w)
  (hc:∀x y,en C g [.agg ⟨enc x⟩,.agg ⟨enc y⟩] [] (.int .i64 (c x y)) []) {H:Tu} {id n cx:Nat} {l:List i6} (hY:H[id]?=some (.cells (l.flatMap enc) e true)) (hn:n=l.length) (h0:0<n) (hl:n<4611686018427387904) :
  en C (z.f 6) [.slice (some ⟨id,0,le e⟩) n cx,.func (.func g) ⟨[]⟩ ⟨[]⟩] H (.tuple #[]) (H.set id (.cells ((Jv c l).flatMap enc) e true)):=by
 subst hn;intro ad M R w d hb k s Y;obtain⟨S,al,h1,h2,h3⟩:=k.Hl;obtain⟨T,an,rfl,h5,h6⟩:=h3.Hl;obtain rfl:=h6.unnil;have a:d = #[S,T]:=u9.1 h1;subst a;obtain⟨p,j,F,rfl⟩ : ∃p j,R id=some p/\S = .slice (some ⟨p.b,p.o,none⟩) l.length j:=by
  clear hY hl;generalize l.length=N at *;cases h2 with
  |scalar h=>simp[Am.scalar]at h
  |x9 h I ag hx=>simp_all
  |wb hx=>omega
 obtain⟨A,B,rfl,Q,D⟩ : ∃A B,T = .func (.func g) A B/\A.size=0/\B.size=0:=by
  cases h5 with
  |scalar h=>simp[Am.scalar]at h
  |func hf Q hb _ _=>grind
 obtain rfl:=qcF Q;obtain rfl:=qcF D;obtain⟨p',r,I⟩:=s.obj id _ hY rfl;rw[F]at r;cases r;have m:=AnyQ.slices_SortFunc_eq L e U zE enc E (λx v hv=>by
  have:=u x v hv;unfold Am.scalar at this;split at this<;>first|rfl|cases this) c O g #[] p.b p.o j l.toArray w eg (OB hG u hc s (s.own id _ p hY rfl F) p.o l.toArray.size) (Sn E u I) (jX rfl I) (by omega)
 obtain⟨e',w',fr,⟨rfl,n,os,rfl⟩,J,V,K⟩:=m Y;have q:(Jv c l).length=l.length:=by
  have:=(wi O l).1.1;omega
 obtain⟨W,X⟩:=BC (l':=Jv c l) s E u hY F q n os;have Z:(pdq (ltOf c) l.toArray 0 l.toArray.size (Lib.bitLen l.toArray.size) true true)=(Jv c l).toArray:=by simp[Jv]
 rw[Z]at J K;exact⟨.tuple #[],R,_,.tuple (by simp) rfl (λi x y h=>by simp at h),W,X,L.f6.enters rfl _ _,fr,J,V,K⟩
end
def em:Ren:=⟨fun|6=>69|15=>83|14=>102|28=>125|29=>126|20=>132|21=>133|22=>134|23=>135|24=>136|25=>137|26=>138|27=>139|46=>159|47=>145|48=>146|49=>160|50=>161|57=>169|n=>n,
 fun|22=>141|24=>71|25=>128|39=>56|53=>220|55=>222|46=>214|45=>213|50=>151|66=>242|70=>246|76=>269|77=>255|n=>n,λn=>n⟩
def x1(P:TI)(f:TQ):String:=match P.funcs[f]? with
 |some g=>g.name
 |none => ""
def Ol {P:TI} {f:TQ} {B:Func} (h1:(x1 P f == "runtime.NumGoroutine")=false) (a:P.funcs[f]?=some { B with name:=x1 P f }):Bears P f B:=⟨_,h1,a⟩
def hj:SlLaysF0.n6 Tryz.prog em:=by
 constructor
 all_goals first
  |kernel_rfl
  |exact Ol (by kernel_rfl) (by kernel_rfl)
  |exact λ_=>by kernel_rfl
end Go.Am
end

/-
  PART 7 OF THE PROOF (no conditions).
-/
import Derived.Test.YtiimabnndpeioaaGreatDoorSO6
import Derived.Shelf.SlSortCmp.WholeK
import Derived.Shelf.Sort.Plain
set_option linter.unusedSectionVars false
set_option linter.unusedSimpArgs false
set_option linter.unusedVariables false
set_option linter.constructorNameAsVariable false
set_option linter.defProp false
noncomputable section
set_option maxRecDepth 100000
set_option maxHeartbeats 16000000
namespace Go.Am
open Sx Go.Proofs
abbrev Io:=Nat×Nat×Ln
def Jv(p:Io):Tk:=[.int .i64 (Int.ofNat p.1),.int .i64 (Int.ofNat p.2.1),.int .u8 (Int.ofNat p.2.2.1),.int .i64 p.2.2.2]
def Bz(w v:Nat)(l:Ty)(G:TC)(r:Mv)(a k:Nat):Option Io:=match Aa w v a (eK (a%4) k)with
 |some b=>if a<b/\CH w v l a k=0 then some (a,b,ua (am (ae (G a) r) (sd w a)) (eT (ae (G a) r).1 (eK (a%4) k)))else none
 |none=>none
def Lg(w v:Nat)(l:Ty)(G:TC)(r:Mv)(a:Nat):List Io:=(List.range 3).filterMap (Bz w v l G r a)
def AJ(w v:Nat)(l:Ty)(G:TC)(r:Mv)(n:Nat):List Io:=(List.range n).flatMap (Lg w v l G r)
def uy{w v:Nat}{l:Ty}{G:TC}{r:Mv}{n:Nat}:AJ w v l G r (n+1)=AJ w v l G r n++Lg w v l G r n:=by
 unfold AJ;rw[UQ,MK];simp
def xL{w v:Nat}{l:Ty}{G:TC}{r:Mv}{a k:Nat}:((List.range k).filterMap (Bz w v l G r a)).length<=k:=EL (qcW _ _) (by simp)
def jV{w v:Nat}{l:Ty}{G:TC}{r:Mv}:∀ {n:Nat},(AJ w v l G r n).length<=3*n
 |0=>by simp[AJ]
 |n+1=>by
  rw[uy,A5];have a:=jV (w:=w) (v:=v) (l:=l) (G:=G) (r:=r) (n:=n);have b:(Lg w v l G r n).length<=3:=xL;omega
def jE{α:Type}{f:Nat->Option α}{k:Nat}:(List.range (k+1)).filterMap f=(List.range k).filterMap f++(f k).toList:=by
 rw[UQ,qcr];cases h:f k<;>simp[h]
def xM{w v:Nat}(L:S3 w v){l:Ty}{H:HL}{x xs:Value}(hl:LsH H x 3 zz l)(ax:aB xs=true)(hv:∀c∈l,VC w v c)(W:∀c∈l,c.2.2≠0)(hn:l.length<=1000){r:Mv}(hr:Av 10000 r){G:TC}(V:ConsO w v l G) :
  ∃z h',aD cc ab 56 ([.i (.ofNat w),.i (.ofNat v),.v x]++Al r++[.v xs]) (ka aa H) [.v z] (ka aa h')/\Pre H h'/\aB z=true/\LsH h' z 4 Jv (AJ w v l G r (4*w*v)):=by
 have Y:=L.sh;obtain⟨b1,b2,b3,b4⟩:=L.n;have hN:=Bj Y;obtain⟨a7,h1,c1,a2,N⟩:=lj L hl hv W hn (r:=r) (aN hr (by omega));have a3:=x56 (ls:=[.i (.ofNat w),.i (.ofNat v),.v x,.i (Int.ofNat r.1),.i r.2.1,.i r.2.2,.v xs]) (K:=λrs h'=>∃z,rs=[.v z]/\Pre H h'/\aB z=true/\LsH h' z 4 Jv (AJ w v l G r (4*w*v))) (H:=H) (kx (kx (rv hl.good (kx (kx (kx (rv ax ub))))))) (by
  unfold f56;simp only[xp];refine jw ?_;refine al c1 ?_;rcases a2 with⟨rfl,M⟩|⟨G',T,ad,rfl,B,rfl⟩
  ·exact absurd ⟨G,V.g,V.z⟩ M
  refine jw ?_;have af:A8 w v G' r=A8 w v G r:=by
   unfold A8;refine DV λc hc=>?_;rw[qD Y ad V (qad.1 hc)]
  have aE:LsH (o3 H (A8 w v G r) B T) (.slice (some ⟨H.length,0,pu 3⟩) (4*w*v) (4*w*v+1)) 3 tx (A8 w v G r):=cp bR KW (by simp[A8]);rw[af]at N ⊢;have c3:=ph L (hl.pre N) hv hn;refine al c3 ?_;refine jw ?_;generalize o3 H (A8 w v G r) B T=J at *;have ay:LsH (J++[A9 (Ak w v l)]) (.slice (some ⟨J.length,0,pu 1⟩) (12*w*v) (12*w*v+1)) 1 Cp (Ak w v l):=cp jC aA gw.symm;have X:Pre J (J++[A9 (Ak w v l)]):=⟨_,rfl⟩;have A:=aE.pre X;have a1:=N.trans X;generalize J++[A9 (Ak w v l)]=I at *;refine aR (σ:=HL×Value) (4*w*v) (λj s=>[.v s.2,.i (Int.ofNat j)]) (λ_ s=>s.1) (λj s=>Pre I s.1/\aB s.2=true/\MkL I.length s.1 s.2 4 Jv (AJ w v l G r j)) (j0:=0) (s0:=(I,.slice none 0 0)) rfl rfl (AM _) ⟨.refl _,rfl,.nil _ _ _ _⟩ ?_;rintro a ⟨h,z⟩ ha ⟨f,p,C⟩ a5 O;simp only at f p C ⊢;refine jw ?_;refine br (A.pre f) ?_;rw[show(A8 w v G r).length=4*w*v by simp[A8]];by_cases o:a<4*w*v
  case neg=>
   obtain rfl:a=4*w*v:=by omega
   rw[aM (zY _)];refine jw ?_;exact⟨z,rfl,a1.trans f,p,C.ls⟩
  rw[aJ o];refine jw ?_;refine aR (σ:=HL×Value) 3 (λk s=>[.v s.2,.i (Int.ofNat k)]) (λ_ s=>s.1) (λk s=>Pre I s.1/\aB s.2=true/\MkL I.length s.1 s.2 4 Jv (AJ w v l G r a++(List.range k).filterMap (Bz w v l G r a))) (j0:=0) (s0:=(h,z)) rfl rfl (AM _) ⟨f,p,by simpa using C⟩ ?_;clear f p C;rintro k ⟨h,z⟩ hk ⟨f,p,C⟩ R t;simp only at f p C ⊢;refine jw ?_;by_cases D:k<3
  case neg=>
   obtain rfl:k=3:=by omega
   rw[zQ (show(3:Int)<=Int.ofNat 3 from HZ _)];refine jw ?_;rw[aS (by omega)];exact O (h,z) o ⟨f,p,by rw[uy];exact C⟩
  rw[zV (show Int.ofNat k<3 by show(k:Int)<3;omega)];refine jw ?_;refine ai (uo L o D) ?_;have q:Bz w v l G r a k=none->R [.v z,.i (Int.ofNat k+1)] h:=λM=>t (h,z) D ⟨f,p,by rw[jE,M];simpa using C⟩;have E:=fq (a%4) k;cases F:Aa w v a (eK (a%4) k)with
  |none=>
   rw[show CY w v a k = -1 by unfold CY;rw[F]];refine jw ?_;rw[zV (show(-1:Int)<Int.ofNat a by have:=Cb a;show(-1:Int)<(a:Int);omega)];refine jw ?_;rw[aS (by omega)];exact q (by unfold Bz;rw[F])
  |some b=>
  rw[show CY w v a k=Int.ofNat b by unfold CY;rw[F]];obtain⟨U,g2,g3,g4,g5⟩:=dI Y o E F;refine jw ?_;by_cases ap:b<a
  ·rw[aJ ap];refine jw ?_;rw[aS (by omega)];exact q (by unfold Bz;rw[F];simp only;rw[po (by omega)])
  rw[aM (by omega)];refine jw ?_;rw[ze (by omega)];refine qs ?_;rw[lI (by omega)];refine qs ?_;refine aQ (ay.pre f) rfl (kw o D) ?_;rw[show Cp (CH w v l a k)=[.int .u8 (CH w v l a k)]from rfl];refine jw ?_;by_cases u:CH w v l a k=0
  case neg=>
   rw[AR u];refine jw ?_;rw[aS (by omega)];exact q (by unfold Bz;rw[F];simp only;rw[po (by omega)])
  rw[Aj u];refine jw ?_;have ar:AW l (min a b) (eK (a%4) k)=false:=by
   rw[←Cz,←lQ W];intro h;refine h ?_;unfold CH at u;rw[F]at u;exact u
  have ag:G b=G a:=by
   rw[V.g a _ b o E F];unfold BK;rw[po (by rw[ar];simp)]
  have y:Av 20000 (ae (G a) r):=aN (dm (V.ok a o) hr) (by omega);have S:=dh Y o;have rb:=dh Y U;have pa:=iA (G:=G) (r:=r) o;have pb:=iA (G:=G) (r:=r) U;rw[ag]at pb;have P:Bz w v l G r a k=some (a,b,ua (am (ae (G a) r) (sd w a)) (eT (ae (G a) r).1 (eK (a%4) k))):=by
   unfold Bz;rw[F];simp only;rw[mc ⟨by omega,u⟩]
  generalize ae (G a) r=m at *;have rm:=um y (c:=sd w a) (k:=1000) ⟨S.1,S.2.1,S.2.2.1,S.2.2.2.1⟩;have Z:=jK (m:=m) (c:=sd w a) y.1 (by obtain⟨_,U,g2,g3,g4,_⟩:=y;omega) S.2.2.2.2 (by omega);have Q:=jK (m:=m) (c:=sd w b) y.1 (by obtain⟨_,U,g2,g3,g4,_⟩:=y;omega) rb.2.2.2.2 (by omega);rw[g4,ge y.1 S.2.2.2.2 E]at Q;have bt:=GL (c:=am m (sd w a)) (e:=eT m.1 (eK (a%4) k)) rm.2.2.2.2 (kJ E) (by omega);have k1:=iH L o;have k2:=iH L U;rw[g4]at k2;generalize AB (am m (sd w a)) (eT m.1 (eK (a%4) k))=d at *;generalize ua (am m (sd w a)) (eT m.1 (eK (a%4) k))=ln at *;simp only[Ab,Al,Aw,Ap]at k1 k2 Z Q bt;refine aQ (A.pre f) rfl pa ?_;rw[show tx m=[.int .u8 (Int.ofNat m.1),.int .i64 m.2.1,.int .i64 m.2.2]from rfl];refine jw ?_;refine ai k1 ?_;refine jw ?_;refine ai Z ?_;refine jw ?_;refine aQ (A.pre f) rfl pb ?_;rw[show tx m=[.int .u8 (Int.ofNat m.1),.int .i64 m.2.1,.int .i64 m.2.2]from rfl];refine jw ?_;refine ai k2 ?_;refine jw ?_;refine ai Q ?_;refine jw ?_;refine ai bt ?_;refine jw ?_;have a6:=jV (w:=w) (v:=v) (l:=l) (G:=G) (r:=r) (n:=a);have a4:=xL (w:=w) (v:=v) (l:=l) (G:=G) (r:=r) (a:=a) (k:=k)
  refine K7 (h0:=I) (a:=((a,b,ln):Io)) f C rfl rfl rfl rfl (by
   unfold bh;rw[A5,Be (by omega),Be (by omega)];rfl) ?_
  intro z' h' a0 an hg _ _;refine jw ?_;refine ac hg ?_;refine qs ?_;rw[aS (by omega)];exact t (h',z') D ⟨a0,hg,by rw[jE,P,←AN];exact an⟩)
 obtain⟨rs,h',J,z,rfl,I,h5,h6⟩:=a3;exact⟨z,h',J,I,h5,h6⟩
def C5(l:Ln)(s:Bool)(g:Mv)(c:Cl):Mv:=if dg l (am g c)=s then ae g (Bb l)else g
def JQ{l:Ln}{s:Bool}{g:Mv}{c:Cl}(hg:g.1<8):(C5 l s g c).1<8:=by
 unfold C5;split
 ·exact fg
 ·exact hg
def Gp{c:Cl}{e:Nat}(a:c.2.2<4)(d:e<3):dg (ua c e) c≠dg (ua c e) (AB c e):=by
 obtain⟨x,y,q⟩:=c;simp only at a;have b:e=0∨e=1∨e=2:=by omega
 rcases BD a with rfl|rfl|rfl|rfl<;>rcases b with rfl|rfl|rfl
 all_goals
  intro h;simp[dg,AB,ua]at h
  try omega
def FH{c:Cl}{e:Nat}(a:c.2.2<4)(d:e<3):1<=(ua c e).1/\(ua c e).1<=4:=by
 obtain⟨x,y,q⟩:=c;simp only at a;have b:e=0∨e=1∨e=2:=by omega
 rcases BD a with rfl|rfl|rfl|rfl<;>rcases b with rfl|rfl|rfl<;>simp[ua]
def Ox{m:Mv}(h:m.1<8):ae (B5 m) m=AG:=by
 obtain⟨t,x,y⟩:=m;have h:t<8:=h;unfold ae B5 AG;rcases t8 h with rfl|rfl|rfl|rfl|rfl|rfl|rfl|rfl<;>simp[AK,mA,mB,mC,mD,CW]<;>omega
def yZ{a b:Mv}{c:Cl}(d:a.1<8)(e:b.1<8)(f:c.2.2<4):am (ae a b) c=am b (am a c):=by
 obtain⟨s,h,i⟩:=a;obtain⟨t,j,g⟩:=b;obtain⟨x,y,q⟩:=c;simp only at d e f;rcases t8 d with rfl|rfl|rfl|rfl|rfl|rfl|rfl|rfl<;>rcases t8 e with rfl|rfl|rfl|rfl|rfl|rfl|rfl|rfl
 all_goals rcases BD f with rfl|rfl|rfl|rfl
 all_goals simp[am,qT,mA,mB,mC,mD,ae,AK]
 all_goals first|done|omega|(constructor<;>omega)
def MF(w:Nat)(l:Ln)(s:Bool)(G:TC)(r:Mv)(c:Nat):Mv:=ae (C5 l s (ae (G c) r) (sd w c)) (B5 (C5 l s (ae (G 0) r) (sd w 0)))
def JP{w:Nat}{l:Ln}{s:Bool}{G:TC}{r:Mv}(c:Nat):ae (MF w l s G r c) (C5 l s (ae (G 0) r) (sd w 0))=C5 l s (ae (G c) r) (sd w c):=by
 have a:∀c,(C5 l s (ae (G c) r) (sd w c)).1<8:=λc=>JQ fg;have b:(B5 (C5 l s (ae (G 0) r) (sd w 0))).1<8:=by
  have:=a 0;generalize C5 l s (ae (G 0) r) (sd w 0)=m at *;unfold B5;simp only;rcases t8 this with h|h|h|h|h|h|h|h<;>rw[h]<;>simp[CW]
 unfold MF;rw[cu (a c) b (a 0),Ox (a 0),mX (a c)]
def Hm{w v:Nat}(P:Sh w v){l l':Ty}{G:TC}(hG:nc w v l G)(S:∀c,c<4*w*v->(G c).1<8){r:Mv}(hr:r.1<8){ln:Ln}(K:1<=ln.1/\ln.1<=4){s:Bool}
  (I:∀u e n,u<4*w*v->e<3->Aa w v u e=some n->u<n->(AW l' u e=true↔(AW l u e=true∨(AW l u e=false/\ua (am (ae (G u) r) (sd w u)) (eT (ae (G u) r).1 e)=ln)))) :
  nc w v l' (MF w ln s G r)/\MF w ln s G r 0=AG:=by
 have Q:∀c,(C5 ln s (ae (G c) r) (sd w c)).1<8:=λc=>JQ fg;refine⟨λc e n F i Y=>?_,Kd (Q 0)⟩;obtain⟨C,N,J,z,an⟩:=dI P F i Y;have x:(sd w c).2.2<4:=(dh P F).2.2.2.2;have ag:(sd w n).2.2<4:=(dh P C).2.2.2.2;have L:∀g,BK w l g c n e=if AW l (min c n) e=true then ae (Bb (ua (sd w c) e)) g else g:=λg=>by
  unfold BK;rcases Vu c n with h|h
  ·rw[C1 h]
  ·rw[Rz h,←J]
 have B:∀g,BK w l' g c n e=if AW l' (min c n) e=true then ae (Bb (ua (sd w c) e)) g else g:=λg=>by
  unfold BK;rcases Vu c n with h|h
  ·rw[C1 h]
  ·rw[Rz h,←J]
 have k:=hG c e n F i Y;rw[L]at k;rw[B];generalize O:Bb (ua (sd w c) e)=M at *;have j:M.1<8:=by rw[←O];exact uw _
 have T:ae M M=AG:=by rw[←O];exact HJ _
 have ad:(Bb ln).1<8:=uw _;have R:=S c F;have d:(ae (G c) r).1<8:=fg;have hi:(B5 (C5 ln s (ae (G 0) r) (sd w 0))).1<8:=by
  have:=Q 0;generalize C5 ln s (ae (G 0) r) (sd w 0)=m at *;unfold B5;simp only;rcases t8 this with h|h|h|h|h|h|h|h<;>rw[h]<;>simp[CW]
 have o:AW l' (min c n) e=true↔(AW l (min c n) e=true∨(AW l (min c n) e=false/\ua (am (ae (G (min c n)) r) (sd w (min c n))) (eT (ae (G (min c n)) r).1 e)=ln)):=by
  rcases Bi c n with h|h
  ·rw[C1 (by omega)];exact I c e n F i Y h
  ·rw[Rz h];exact I n e c C i N (by omega)
 have y:∀X:Mv,X.1<8->(C5 ln s (ae (G n) r) (sd w n)=ae M (C5 ln s (ae (G c) r) (sd w c)))->MF w ln s G r n=ae M (MF w ln s G r c):=λ_ _ h=>by
  unfold MF;rw[h,cu j (Q c) hi]
 by_cases q:AW l (min c n) e=true
 ·rw[mc (o.2 (.inl q))];rw[mc q]at k;refine y M j ?_;have hp:ae (G n) r=ae M (ae (G c) r):=by rw[k,cu j R hr]
  have V:am (ae (G n) r) (sd w n)=am (ae (G c) r) (sd w c):=by
   rw[hp,z,←O];exact gc d x i
  unfold C5;rw[V];split
  ·rw[hp,cu j d ad]
  ·exact hp
 ·rw[po q]at k;have H:AW l (min c n) e=false:=qcw.2 q;have W:G (min c n)=G c:=by
   rcases Vu c n with h|h
   ·rw[C1 h]
   ·rw[Rz h,k]
  have E:ua (am (ae (G (min c n)) r) (sd w (min c n))) (eT (ae (G (min c n)) r).1 e)=ua (am (ae (G c) r) (sd w c)) (eT (ae (G c) r).1 e):=by
   rw[W];rcases Vu c n with h|h
   ·rw[C1 h]
   ·rw[Rz h];have af:=vT (FH (c:=am (ae (G c) r) (sd w n)) gI (kJ (t:=(ae (G c) r).1) i)) (c:=am (ae (G c) r) (sd w c)) gI (kJ (t:=(ae (G c) r).1) i) ?_
    ·exact af
    ·have hb:sd w c=AB (sd w n) e:=(dI P C i N).2.2.2.1;have h1:=Gp (c:=am (ae (G c) r) (sd w n)) (e:=eT (ae (G c) r).1 e) gI (kJ i);rw[←ge d x i,←z];rw[←ge d ag i,←hb]at h1;exact BO h1
  rw[E]at o;by_cases f:ua (am (ae (G c) r) (sd w c)) (eT (ae (G c) r).1 e)=ln
  ·rw[mc (o.2 (.inr ⟨H,f⟩))];refine y M j ?_;have p:=Gp (c:=am (ae (G c) r) (sd w c)) (e:=eT (ae (G c) r).1 e) gI (kJ i);rw[f,←ge d x i]at p;have D:=HR d K x i p;rw[O]at D;rw[←z]at p;unfold C5;rw[k];generalize dg ln (am (ae (G c) r) (sd w c))=a at *;generalize dg ln (am (ae (G c) r) (sd w n))=b at *;have A:ae M (ae M (ae (G c) r))=ae (G c) r:=by rw[←cu j j d,T,jJ d]
   by_cases U:a=s
   ·rw[mc U,po (λh=>p (U.trans h.symm)),D,A]
   ·rw[po U,mc (by cases a<;>cases b<;>cases s<;>simp_all),D]
  ·have Z:¬AW l' (min c n) e=true:=λh=>by
    rcases o.1 h with h|h
    ·exact q h
    ·exact f h.2
   rw[po Z];have p:dg ln (am (ae (G c) r) (sd w c))=dg ln (am (ae (G c) r) (sd w n)):=by
    by_cases h:dg ln (am (ae (G c) r) (sd w c))=dg ln (am (ae (G c) r) (sd w n))
    ·exact h
    ·rw[z,ge d x i]at h;exact absurd (vT K gI (kJ i) h).symm f
   unfold MF
   congr 1
   unfold C5;rw[k,p]
def StL.at{h:HL}{x:Value}{w v:Nat}(k:StL h x (me w v)):∃M:List Dw,LsH h x 4 Ao M/\M.length=4*w*v/\∀i,i<4*w*v->∃y,M[i]?=some (sd w i,y)/\LsH h y 1 km [i]:=by
 obtain⟨M,f,b,g⟩:=k;rw[show(me w v).length=4*w*v by simp[me]]at b;refine⟨M,f,b,λi j=>?_⟩;obtain⟨⟨c,y⟩,d⟩:=aL (l:=M) (i:=i) (by omega);obtain⟨l,a,e⟩:=g i _ d;rw[Hk j]at a;cases a;exact⟨y,d,e⟩
def ofnn(n:Nat):(0:Int)<=Int.ofNat n:=Cb n
def Um{a b:Nat}(h:a<b):Int.ofNat a<Int.ofNat b:=qcd.2 h
def G9{a b:Cl}{K:Tm}:P1.eqs [(.i a.1,.i b.1),(.i a.2.1,.i b.2.1),(.i (Int.ofNat a.2.2),.i (Int.ofNat b.2.2))] (@hid _ ⟨K⟩)=K (decide (a=b)):=by
 show K (cj _)=_;have e:cj [(.i a.1,.i b.1),(.i a.2.1,.i b.2.1),(.i (Int.ofNat a.2.2),.i (Int.ofNat b.2.2))]=decide (a=b):=by
  rw[Ir];simp[cj,gG,qdD];intro _ _;omega
 rw[e]
def KK{c:Cl}(a:c.2.2<4):am AG c=c:=by
 obtain⟨x,y,q⟩:=c;simp only at a;rcases BD a with rfl|rfl|rfl|rfl<;>simp[am,AG,mA,mB,mC,mD,qT]
def zf{c:Cl}{e:Nat}(a:c.2.2<4)(d:e<3):(AB c e).2.2<4/\c.1 - 1<=(AB c e).1/\(AB c e).1<=c.1+1/\c.2.1 - 1<=(AB c e).2.1/\(AB c e).2.1<=c.2.1+1:=by
 obtain⟨x,y,q⟩:=c;simp only at a;have b:e=0∨e=1∨e=2:=by omega
 rcases BD a with rfl|rfl|rfl|rfl<;>rcases b with rfl|rfl|rfl<;>simp[AB]<;>omega
def dst(w c:Nat):Nat:=3*(c / 4%w+c / 4 / w)+[0,1,2,1].getD (c%4) 0 - (if c%4=3/\c / 4 / w=0/\c / 4%w≠0 then 2 else 0)
def Ij(w v c:Nat):Bool:=Nat.ble (dst w c) 14&&(Nat.beq c 0||(List.range 3).any λe=>match Aa w v c e with
 |some n=>Nat.beq (dst w n+1) (dst w c)
 |none=>false)
def MZ:∀w v:Nat,1<=w->w<=3->1<=v->v<=3->((List.range (4*w*v)).all λc=>Ij w v c)=true:=by
 have a:((List.range 3).all λw=>(List.range 3).all λv=>(List.range (4*(w+1)*(v+1))).all λc=>Ij (w+1) (v+1) c)=true:=by decide +kernel
 intro w v e f g h;have d:=qab.1 a (w - 1) (qad.2 (by omega));have b:=qab.1 d (v - 1) (qad.2 (by omega));rw[show w - 1+1=w by omega,show v - 1+1=v by omega]at b;exact b
def vI(d:Int)(a b:Cl):Prop:=a.1 - d<=b.1/\b.1<=a.1+d/\a.2.1 - d<=b.2.1/\b.2.1<=a.2.1+d
def S5{w v:Nat}(q:Sh w v){l:Ty}{G:TC}(o:ConsO w v l G){r:Mv}(y:r.1<8){c e n:Nat}(k:c<4*w*v)(i:e<3)(p:Aa w v c e=some n) :
  vI 1 (am (ae (G c) r) (sd w c)) (am (ae (G n) r) (sd w n)):=by
 obtain⟨t,u,m,d,x⟩:=dI q k i p;have j:(sd w c).2.2<4:=(dh q k).2.2.2.2;have b:(ae (G c) r).1<8:=fg;have a:=o.g c e n k i p;unfold BK at a;by_cases f:AW l (min c n) e=true
 ·rw[mc f]at a;have s:ua (sd w (min c n)) e=ua (sd w c) e:=by
   rcases Vu c n with h|h
   ·rw[C1 h]
   ·rw[Rz h,←m]
  rw[s]at a;have:am (ae (G n) r) (sd w n)=am (ae (G c) r) (sd w c):=by
   rw[a,d,cu (uw _) (o.ok c k).1 y];exact gc b j i
  rw[this];unfold vI;omega
 ·rw[po f]at a;rw[a,d,ge b j i];have:=zf (c:=am (ae (G c) r) (sd w c)) (e:=eT (ae (G c) r).1 e) gI (kJ i);unfold vI;omega
def Ka{w v:Nat}(b:S3 w v){l:Ty}{G:TC}(q:ConsO w v l G){r:Mv}(s:r.1<8):∀(d c:Nat),c<4*w*v->dst w c=d->vI (Int.ofNat d) (am (ae (G 0) r) (sd w 0)) (am (ae (G c) r) (sd w c)):=by
 have m:=b.sh;intro d
 induction d using Nat.strongRecOn with
 |_ d t=>
  intro c k z;have i:=qab.1 (MZ w v b.1 b.2.1 b.2.2.1 b.2.2.2) c (qad.2 k);unfold Ij at i;rw[uc,Ck]at i;rcases i.2 with o|p
  ·obtain rfl:=AE o;unfold vI;have:(0:Int)<=Int.ofNat d:=Cb d;omega
  ·obtain⟨e,g,a⟩:=qcm.1 p;have g:=qad.1 g;cases j:Aa w v c e with
   |none=>rw[j]at a;cases a
   |some n=>
    rw[j]at a;have a:=AE a;obtain⟨f,h,_⟩:=dI m k g j;have u:=t (dst w n) (by omega) n f rfl;have x:=S5 m q s f g h;have y:Int.ofNat d=Int.ofNat (dst w n)+1:=by
     show(d:Int)=(dst w n:Int)+1;omega
    unfold vI at *;omega
def rO{w v:Nat}(a:S3 w v){l:Ty}{G:TC}(e:ConsO w v l G){r:Mv}{k:Int}(b:Av k r){c:Nat}(f:c<4*w*v) :
  -(k+15)<=(am (ae (G c) r) (sd w c)).1/\(am (ae (G c) r) (sd w c)).1<=k+15/\-(k+15)<=(am (ae (G c) r) (sd w c)).2.1/\(am (ae (G c) r) (sd w c)).2.1<=k+15:=by
 have d:=qab.1 (MZ w v a.1 a.2.1 a.2.2.1 a.2.2.2) c (qad.2 f);unfold Ij at d;rw[uc]at d;have j:=qde d.1;have g:=Ka a e b.1 _ c f rfl;have i:-(k+1)<=(am (ae (G 0) r) (sd w 0)).1/\(am (ae (G 0) r) (sd w 0)).1<=k/\-(k+1)<=(am (ae (G 0) r) (sd w 0)).2.1/\(am (ae (G 0) r) (sd w 0)).2.1<=k:=by
  rw[e.z,jJ b.1,show sd w 0=(0,0,0)by simp[sd]];obtain⟨t,x,y⟩:=r;unfold Av at b;simp only at b;simp only[am,Int.mul_zero,Int.zero_add]
  repeat' split
  all_goals omega
 have h:Int.ofNat (dst w c)<=14:=by show(dst w c:Int)<=14;omega
 unfold vI at g;omega
def Kq{c:Cl}{e:Nat}{n:Int}(a:c.2.2<4)(f:e<3)(d:-n<=c.1/\c.1<=n/\-n<=c.2.1/\c.2.1<=n):Av (2*n+2) (Bb (ua c e))/\-(2*n+2)<=(ua c e).2/\(ua c e).2<=2*n+2:=by
 obtain⟨x,y,q⟩:=c;simp only at a d;have b:e=0∨e=1∨e=2:=by omega
 rcases BD a with rfl|rfl|rfl|rfl<;>rcases b with rfl|rfl|rfl
 all_goals
  simp[ua,Bb,Av];omega
def Gb{α:Type}{e kb:Nat}{enc:α->Tk}{h:HL}{x:Value}{new:List α}{m:Nat}{K:Ta}(hg:h[m]?=some (.o (.cells [] e true)))(i:LsH h x e enc new)(j:0<new.length)(f:new.length*kb<=140737488355328)(c:new.length<=140737488355328)
  (g:K [.slice (some ⟨h.length,0,pu e⟩) new.length 0] (h++[.o (.cells (new.flatMap enc) e true)])) :
  P1.heap (.ap cc e kb (.slice (some ⟨m,0,pu e⟩) 0 1) x) h (@hid _ ⟨K⟩):=by
 have d:bh (0+new.length) kb=true:=by
  rw[Br];unfold bh;rw[Be c,Be f];rfl
 have a:cut ([]:Tk) 0 (0*e)=some []:=Sx.cut_all (by simp);have b:BS cc e kb (.slice (some ⟨m,0,pu e⟩) 0 1) x (wb aa h) h.length=some ([.push (.cells ([]++new.flatMap enc) e true)],[.slice (some ⟨h.length,0,pu e⟩) (0+new.length) 0]):=by
  unfold BS;rw[qG i.2];simp only[ne_eq,not_true_eq_false,if_false];rw[bF hg];simp only[ne_eq,not_true_eq_false,if_false];rw[a];simp only;rw[po (by omega),mc d]
 refine bZ (show(Hp.ap cc e kb (.slice (some ⟨m,0,pu e⟩) 0 1) x).run _ _=_ from b) ?_;rw[Br];exact g
def AO(a b:Cl):Bool:=decide (b.2.1<a.2.1∨(a.2.1=b.2.1/\(b.1<a.1∨(a.1=b.1/\b.2.2<a.2.2))))
def GH{a b:Cl}:Cc 98 (Ab a++Ab b) [.i (if AO a b then 1 else 0)]:=by
 obtain⟨x,y,q⟩:=a;obtain⟨d,e,c⟩:=b;refine q98 rfl ?_;unfold YP;simp only[xp];simp only[Ab,Aw,Ap];refine jw ?_;have m:(Int.ofNat c<Int.ofNat q)↔c<q:=qcd;by_cases k:e<y
 ·rw[Ad k];refine jw ?_;rw[show AO (x,y,q) (d,e,c)=true from Bp (.inl k)];rfl
 rw[zU (by omega)];refine jw ?_;by_cases f:y=e
 case neg=>
  rw[zO f];refine jw ?_;rw[show AO (x,y,q) (d,e,c)=false from BV (by simp only;omega)];rfl
 rw[zT f];refine jw ?_;by_cases l:d<x
 ·rw[Ad l];refine jw ?_;rw[show AO (x,y,q) (d,e,c)=true from Bp (.inr ⟨f,.inl l⟩)];rfl
 rw[zU (by omega)];refine jw ?_;by_cases g:x=d
 case neg=>
  rw[zO g];refine jw ?_;rw[show AO (x,y,q) (d,e,c)=false from BV (by simp only;omega)];rfl
 rw[zT g];refine jw ?_;by_cases j:c<q
 ·rw[Ad (m.2 j)];refine jw ?_;rw[show AO (x,y,q) (d,e,c)=true from Bp (.inr ⟨f,.inr ⟨g,j⟩⟩)];rfl
 ·rw[zU (by have:=λh=>j (m.1 h);omega)];refine jw ?_;rw[show AO (x,y,q) (d,e,c)=false from BV (by simp only;omega)];rfl
def Dv(l:List Dw):Prop:=l.Pairwise λa b=>AO a.1 b.1=false
def yN{a b:Cl}:AO a b=false↔¬(b.2.1<a.2.1∨(a.2.1=b.2.1/\(b.1<a.1∨(a.1=b.1/\b.2.2<a.2.2)))):=by
 unfold AO;rw[decide_eq_false_iff_not]
def yO{a b:Cl}:AO a b=true↔(b.2.1<a.2.1∨(a.2.1=b.2.1/\(b.1<a.1∨(a.1=b.1/\b.2.2<a.2.2)))):=by
 unfold AO;rw[BF]
def L1{A B:List Dw}{x:Dw}(h:Dv (A++B))(h1:∀a∈A,AO a.1 x.1=false)(e:∀b∈B,AO b.1 x.1=true):Dv (A++x :: B):=by
 unfold Dv at *;rw[UE]at h ⊢;refine⟨h.1,qbb.2 ⟨λb c=>?_,h.2.1⟩,λa d b c=>?_⟩
 ·have:=yO.1 (e b c);exact yN.2 (by omega)
 ·rcases qar.1 c with rfl|c
  ·exact h1 a d
  ·exact h.2.2 a d b c
def L3{H:HL}{x:Value}{l:List Dw}(hx:LsH H x 4 Ao l)(h0:0<l.length)(hn:l.length<=1000)(N:∀s∈l,aB s.2=true) :
  ∃l' h' z,aD cc ab 59 [.v x] (ka aa H) [.v z] (ka aa h')/\Pre H h'/\LsH h' z 4 Ao l'/\l'.Perm l/\Dv l':=by
 have ad:=x59 (ls:=[.v x]) (K:=λrs h'=>∃z l',rs=[.v z]/\Pre H h'/\LsH h' z 4 Ao l'/\l'.Perm l/\Dv l') (H:=H) (rv hx.good ub) (by
  unfold f59;simp only[xp];refine jw ?_;refine Gb (e:=4) aA (hx.pre ⟨_,rfl⟩) h0 (by omega) (by omega) ?_;have u:Pre H (H++[HO.o (.cells [] 4 true)]):=⟨_,rfl⟩;generalize H++[HO.o (.cells [] 4 true)]=H1 at *;refine jw ?_;have hid:(H1++[HO.o (.cells (l.flatMap Ao) 4 true)])[H1.length]?=some (HO.o (.cells (l.flatMap Ao) 4 true)):=aA;have P:Pre H (H1++[HO.o (.cells (l.flatMap Ao) 4 true)]):=u.app _;have O:H.length<=H1.length:=u.len;generalize H1++[HO.o (.cells (l.flatMap Ao) 4 true)]=H2 at *;generalize H1.length=id at *;have q:=aq hid;have G:∀L:List Dw,L.length=l.length->LsH (td H2 id 4 Ao L) (.slice (some ⟨id,0,pu 4⟩) l.length 0) 4 Ao L:=λL h=>cp mG (bM q) h.symm;have u:td H2 id 4 Ao l=H2:=bC hid;refine ac (cp (cx:=0) mG hid rfl).good ?_;refine qs ?_;refine aR (σ:=List Dw) (max 1 l.length) (λj _=>[.i (Int.ofNat j)]) (λ_ L=>td H2 id 4 Ao L) (λj L=>L.Perm l/\1<=j/\Dv (L.take j)) (j0:=1) (s0:=l) rfl u.symm (by omega) ⟨MP _,zY _,?_⟩ ?_
  ·cases l with
   |nil=>exact .nil
   |cons a l=>exact qbb.2 ⟨λ_ h=>(by cases h),.nil⟩
  intro i L hi ⟨f,hi1,d⟩ self hself;have w:L.length=l.length:=f.length_eq;refine jw ?_;refine br (G L w) ?_;rw[w];by_cases Y:i<l.length
  case neg=>
   rw[aM (by omega)];refine jw ?_;rw[Cg (by omega)]at d;exact⟨_,L,rfl,gn P O,G L w,f,d⟩
  rw[aJ Y];refine jw ?_;obtain⟨x0,F⟩:=aL (l:=L) (i:=i) (by omega);have g:L=L.take i++x0 :: []++L.drop (i+1):=by
   conv=>lhs;rw[←Iu i L]
   rw[MO (by omega)];have:L[i]'(by omega)=x0:=by rw[A4 (by omega)]at F;exact AD F
   rw[this];simp
  refine eQ (m:=i) (λm ls h=>∃(A:List Dw) (x:Dw) (B R:List Dw),ls=[.i (Int.ofNat A.length)]/\m=A.length/\h=td H2 id 4 Ao (A++x :: B++R)/\(A++x :: B++R).Perm l/\Dv (A++B)/\(∀b∈B,AO b.1 x.1=true)/\A.length+B.length=i)
   ⟨L.take i,x0,[],L.drop (i+1),by rw[BN,C1 (by omega)],by rw[BN,C1 (by omega)],by rw[←g],by rw[←g];exact f,by simpa using d,λb M=>(by cases M),by rw[BN,C1 (by omega)];rfl⟩ ?_
  clear g F d f w;rintro m ls h ⟨A,x,B,R,rfl,rfl,rfl,f,d,hB,T⟩ I n;refine Hs ?_;refine jw ?_;have w:(A++x :: B++R).length=l.length:=f.length_eq;have p:(∀a∈A,AO a.1 x.1=false)->self [.i (Int.ofNat i+1)] (td H2 id 4 Ao (A++x :: B++R)):=λh=>hself _ (by omega) ⟨f,by omega,by
   rw[qcH (by simp;omega),Cg (by simp;omega)];exact L1 d h hB⟩
  rcases List.eq_nil_or_concat A with rfl|⟨c,y,rfl⟩
  ·rw[zU (show Int.ofNat ([]:List Dw).length<=0 from HZ _)];refine jw ?_;rw[aS (by omega)];exact p λa C=>(by cases C)
  rw[List.concat_eq_append]at *;have hk:(c++[y]).length=c.length+1:=by simp
  rw[hk]at T n ⊢;have D:AO y.1 x.1=false->∀a∈c++[y],AO a.1 x.1=false:=by
   intro h a C;rcases qas.1 C with C|C
   ·have h1:AO a.1 y.1=false:=by
     unfold Dv at d;rw[AN,UE]at d;exact d.2.2 a C y (by simp)
    have h1:=yN.1 h1;have h:=yN.1 h;exact yN.2 (by omega)
   ·rw[qav.1 C];exact h
  have S:(c++[y]++x :: B++R)[c.length]?=some y:=by simp
  have Q:(c++[y]++x :: B++R)[c.length+1]?=some x:=by
   rw[AN,Cd (by simp)];simp
  have t:=G _ w;have hg:=bM (l:=c++[y]++x :: B++R) (e:=4) (enc:=Ao) q;have W:aB y.2=true:=N y (f.mem_iff.1 (Af S));have V:aB x.2=true:=N x (f.mem_iff.1 (Af Q));have k:c.length+1<=4294967296:=by omega
  rw[Ad (show(0:Int)<Int.ofNat (c.length+1)by show(0:Int)<((c.length+1:Nat):Int);omega)];refine jw ?_;rw[gf (by omega) k];refine qs ?_;refine bB (cs:=[.int .i64 y.1.1,.int .i64 y.1.2.1,.int .u8 (Int.ofNat y.1.2.2)]) t rfl S rfl (by omega) ?_;refine jw ?_;refine bB (cs:=[.int .i64 x.1.1,.int .i64 x.1.2.1,.int .u8 (Int.ofNat x.1.2.2)]) t rfl Q rfl (by omega) ?_;refine jw ?_;have J:=GH (a:=y.1) (b:=x.1);simp only[Ab,Aw,Ap]at J;cases r:AO y.1 x.1 with
  |false=>
   rw[r]at J;refine ai J ?_;simp(disch:=omega)only[↓my,if_false,Bf];rw[aS (by omega)];exact p (D r)
  |true=>
   rw[r]at J;refine ai J ?_;simp(disch:=omega)only[↓my,if_true];have E:I [.i (Int.ofNat c.length)] (td H2 id 4 Ao (c++x :: (y :: B)++R)):=n c.length _ _ (by omega) ⟨c,x,y :: B,R,rfl,rfl,rfl,by
    refine List.Perm.trans ?_ f;simp only[AN,Aw,Ap];exact qcp _ (List.Perm.swap _ _ _),by rw[AN]at d;exact d,λb M=>by
    rcases qar.1 M with rfl|M
    ·exact r
    ·exact hB b M,by simp;omega⟩
   have Z:((c++[y]++x :: B++R).set c.length x).set (c.length+1) y=c++x :: (y :: B)++R:=by
    simp only[AN,Aw,Ap];rw[Ru _ _ (zY _),Ru _ _ (by omega),F8,show c.length+1 - c.length=1 by omega];rfl
   have X:((c++[y]++x :: B++R).set c.length x).length=l.length:=by rw[Bc,w]
   have af:=aq Q;have U:(td (td H2 id 4 Ao (c++[y]++x :: B++R)) id 4 Ao ((c++[y]++x :: B++R).set c.length x))[id]?=some (.o (.cells (((c++[y]++x :: B++R).set c.length x).flatMap Ao) 4 true)):=by
    rw[eh];exact bM q
   rw[gf (by omega) k];refine qs ?_;refine aQ t rfl Q ?_;rw[show Ao x=[.int .i64 x.1.1,.int .i64 x.1.2.1,.int .u8 (Int.ofNat x.1.2.2),x.2]from rfl];refine jw ?_;refine ac V ?_;refine qs ?_;rw[gf (by omega) k];refine qs ?_;refine aQ t rfl S ?_;rw[show Ao y=[.int .i64 y.1.1,.int .i64 y.1.2.1,.int .u8 (Int.ofNat y.1.2.2),y.2]from rfl];refine jw ?_;refine ac W ?_;refine qs ?_;refine dd (enc:=Ao) (i:=c.length) (a:=x) mG hg rfl (by omega) w rfl ?_;refine qs ?_;refine dd (enc:=Ao) (i:=c.length+1) (a:=y) mG U rfl (by omega) X rfl ?_;rw[eh,eh,Z];refine qs ?_;rw[gf (by omega) k];rw[qc2];exact E)
 obtain⟨rs,h',h2,z,l',rfl,h3,h4,h5,h6⟩:=ad;exact⟨l',h',z,h2,h3,h4,h5,h6⟩
abbrev zR:=Cl×List Nat
def EU(l:Ln)(s:Bool)(L:List zR):List zR:=L.filter λx=>!decide (dg l x.1=s)
def CS(l:Ln)(s:Bool)(L:List zR):List zR:=(L.filter λx=>decide (dg l x.1=s)).map λx=>(am (Bb l) x.1,x.2.reverse)
def mrg(o:Bool):List zR->zR->List zR
 | [],a=>[a]
 |x :: S,a=>if x.1=a.1 then(x.1,if o then x.2++a.2 else a.2++x.2) :: S else x :: mrg o S a
def FT{o:Bool}{a:zR}:∀ {S:List zR} {k:Nat} {x:zR},S[k]?=some x->x.1=a.1->(∀j,j<k->∀t,S[j]?=some t->t.1≠a.1)->mrg o S a=S.set k (x.1,if o then x.2++a.2 else a.2++x.2)
 | [],k,x,h,_,_=>by simp at h
 |y :: S,0,x,h,h1,_=>by
  simp at h;subst h;simp[mrg,h1]
 |y :: S,k+1,x,h,h1,b=>by
  have c:=b 0 (by omega) y rfl;simp only[mrg,po c,qcJ];rw[FT (by simpa using h) h1 λj e t d=>b (j+1) (by omega) t (by simpa using d)]
def xr{o:Bool}{a:zR}:∀ {S:List zR},(∀(j:Nat) t,S[j]?=some t->t.1≠a.1)->mrg o S a=S++[a]
 | [],_=>rfl
 |y :: S,h=>by
  have b:=h 0 y rfl;simp only[mrg,po b,Aw];rw[xr λj t c=>h (j+1) t (by simpa using c)]
def xq{o:Bool}{a:zR}:∀ {S:List zR},(mrg o S a).map Prod.fst=if a.1∈S.map Prod.fst then S.map Prod.fst else S.map Prod.fst++[a.1]
 | []=>by simp[mrg]
 |y :: S=>by
  unfold mrg;by_cases h:y.1=a.1
  ·rw[mc h];simp[h]
  ·rw[po h,AL,xq];have h':¬a.1=y.1:=λe=>h e.symm;by_cases b:a.1∈S.map Prod.fst
   ·rw[mc b,mc (by simp only[AL,qar];exact .inr b)];rfl
   ·rw[po b,po (by simp only[AL,qar];exact λc=>c.elim h' b)];rfl
def xt{o:Bool}{a:zR}:∀ {S:List zR},((mrg o S a).flatMap Prod.snd).Perm (S.flatMap Prod.snd++a.2)
 | []=>by simp[mrg]
 |y :: S=>by
  unfold mrg;by_cases h:y.1=a.1
  ·rw[mc h];simp only[C2];cases o
   ·simp only[Bf,if_false];rw[AN,AN];refine(qdd (l₁:=a.2)).trans ?_;rw[AN]
   ·simp only[if_true];rw[AN,AN];exact qcp _ qdd
  ·rw[po h];simp only[C2,AN];exact qcp _ xt
def vF{o:Bool}{a x:zR}:∀ {S:List zR},x∈mrg o S a->x∈S∨x=a∨∃y∈S,y.1=a.1/\x=(y.1,if o then y.2++a.2 else a.2++y.2)
 | [],h=>by
  simp[mrg]at h;exact .inr (.inl h)
 |y :: S,h=>by
  unfold mrg at h;by_cases h1:y.1=a.1
  ·rw[mc h1]at h;rcases qar.1 h with h|h
   ·exact .inr (.inr ⟨y,Ch,h1,h⟩)
   ·exact .inl (Bo _ h)
  ·rw[po h1]at h;rcases qar.1 h with h|h
   ·exact .inl (h▸Ch)
   ·rcases vF h with h|h|⟨z,d,b,c⟩
    ·exact .inl (Bo _ h)
    ·exact .inr (.inl h)
    ·exact .inr (.inr ⟨z,Bo _ d,b,c⟩)
structure StJ(img:Nat->Cl)(X:Tx)(L:List zR):Prop where
 nd:(L.map Prod.fst).Nodup
 at':∀s∈L,∀c∈s.2,img c=s.1
 ne:∀s∈L,s.2≠[]
 pm:(L.flatMap Prod.snd).Perm X
def StJ.mrg{f:Nat->Cl}{X:Tx}{S:List zR}(h:StJ f X S){o:Bool}{a:zR}(h1:∀c∈a.2,f c=a.1)(j:a.2≠[]):StJ f (X++a.2) (mrg o S a):=by
 refine⟨?_,λs d c b=>?_,λs d=>?_,xt.trans (h.pm.append_right _)⟩
 ·rw[xq];by_cases g:a.1∈S.map Prod.fst
  ·rw[mc g];exact h.nd
  ·rw[po g];rw[qb0];refine⟨h.nd,by simp,λx k y i e=>?_⟩;rw[qav]at i;subst i e;exact g k
 ·rcases vF d with d|rfl|⟨y,i,g,rfl⟩
  ·exact h.at' s d c b
  ·exact h1 c b
  ·simp only at b ⊢;have b:c∈y.2∨c∈a.2:=by
    cases o
    ·simp only[Bf,if_false]at b;exact(qas.1 b).symm
    ·simp only[if_true]at b;exact qas.1 b
   rcases b with b|b
   ·exact h.at' y i c b
   ·rw[g];exact h1 c b
 ·rcases vF d with d|rfl|⟨y,i,g,rfl⟩
  ·exact h.ne s d
  ·exact j
  ·simp only;cases o<;>simp[j]
def StJ.mrgs{d:Nat->Cl}{o:Bool}:∀ {A:List zR} {X:Tx} {S:List zR},StJ d X S->(∀a∈A,(∀c∈a.2,d c=a.1)/\a.2≠[])->StJ d (X++A.flatMap Prod.snd) (A.foldl (Go.Am.mrg o) S)
 | [],X,S,h,_=>by simpa using h
 |a :: A,X,S,h,h1=>by
  have e:=h1 a Ch;have:=StJ.mrgs (o:=o) (h.mrg (o:=o) e.1 e.2) λb f=>h1 b (Bo _ f);simpa[AN]using this
def vq{L:List zR}{p:zR->Bool}:((L.filter λx=>!p x).flatMap Prod.snd++(L.filter p).flatMap Prod.snd).Perm (L.flatMap Prod.snd):=by
 rw[←MK];refine List.Perm.flatMap_right _ ?_;exact List.perm_append_comm.trans (List.filter_append_perm p L)
def JZ{L:List zR}{f:Cl->Cl}:((L.map λx=>(f x.1,x.2.reverse)).flatMap Prod.snd).Perm (L.flatMap Prod.snd):=by
 induction L with
 |nil=>simp
 |cons a L b=>
  simp only[AL,C2];exact(List.reverse_perm _).append b
def He(l:Ln)(s o:Bool)(L:List zR):List zR:=(CS l s L).foldl (mrg o) (EU l s L)
def StJ.fold{f d:Nat->Cl}{X:Tx}{L:List zR}(h:StJ f X L){l:Ln}{s o:Bool}(k:∀c∈X,d c=if dg l (f c)=s then am (Bb l) (f c)else f c):StJ d X (He l s o L):=by
 have j:∀x∈L,∀c∈x.2,c∈X:=λx b c e=>h.pm.mem_iff.1 (qa1.2 ⟨x,b,e⟩);have m:StJ d ((EU l s L).flatMap Prod.snd) (EU l s L):=by
  refine⟨h.nd.sublist (List.Sublist.map _ List.filter_sublist),λx b c e=>?_,λx b=>?_,MP _⟩
  ·obtain⟨b,i⟩:=qaN.1 b;rw[k c (j x b c e),h.at' x b c e,po (by simpa using i)]
  ·exact h.ne x (qaN.1 b).1
 have g:=m.mrgs (o:=o) (A:=CS l s L) λa n=>by
  obtain⟨x,b,rfl⟩:=qaz.1 n;obtain⟨b,i⟩:=qaN.1 b;refine⟨λc e=>?_,by simpa using h.ne x b⟩;have e:c∈x.2:=by simpa using e
  rw[k c (j x b c e),h.at' x b c e,mc (by simpa using i)]
 refine⟨g.nd,g.at',g.ne,g.pm.trans ?_⟩;refine List.Perm.trans ?_ h.pm;refine List.Perm.trans (qcp _ JZ) ?_;exact vq
def StJ.perm{a:Nat->Cl}{X:Tx}{L d:List zR}(h:StJ a X L)(b:d.Perm L):StJ a X d:=
 ⟨(b.map _).nodup_iff.2 h.nd,λs c=>h.at' s (b.mem_iff.1 c),λs c=>h.ne s (b.mem_iff.1 c),(b.flatMap_right _).trans h.pm⟩
def jr{α β:Type}{f:α->β}{l':List β}{l:List α}(h:l'.Perm (l.map f)):∃m:List α,m.Perm l/\m.map f=l':=by
 generalize c:l.map f=k at h
 induction h generalizing l with
 |nil=>exact⟨[],by rw[qcV.1 c],rfl⟩
 |cons x _ p=>
  obtain⟨a,l,rfl,rfl,g⟩:=qdm.1 c;obtain⟨m,d,e⟩:=p g;exact⟨a :: m,d.cons a,by rw[AL,e]⟩
 |swap x y _=>
  obtain⟨a,l,rfl,rfl,g⟩:=qdm.1 c;obtain⟨b,l,rfl,rfl,rfl⟩:=qdm.1 g;exact⟨b :: a :: l,List.Perm.swap _ _ _,rfl⟩
 |trans _ _ i j=>
  obtain⟨m,d,e⟩:=j c;obtain⟨q,n,o⟩:=i e;exact⟨q,n.trans d,o⟩
def UY{e id n cx o k:Nat}{x:Int}(a:x=Int.ofNat k)(b:k<=n):CR e (.slice (some ⟨id,o,pu e⟩) n cx) none (some x) none=some (.slice (some ⟨id,o,pu e⟩) k cx):=by
 subst a;unfold CR;simp only;rw[po (by simp),mc (by simp[cV];omega)];simp[fJ,bT]
def UX{e id n cx o k:Nat}{x:Int}(a:x=Int.ofNat k)(b:k<=n):CR e (.slice (some ⟨id,o,pu e⟩) n cx) (some x) none none=some (.slice (some ⟨id,o+k*e,pu e⟩) (n - k) (cx - k)):=by
 subst a;unfold CR;simp only;rw[po (by simp),mc (by simp[cV];omega)];simp[fJ,bT]
section
variable {α:Type} {e:Nat} {enc:α->Tk} {l:List α} {h:HL} {v:Value}
def pX(b:∀a∈l,(enc a).length=e){k:Nat}(g:k<=l.length):(l.flatMap enc).take (k*e)=(l.take k).flatMap enc/\(l.flatMap enc).drop (k*e)=(l.drop k).flatMap enc:=by
 have c:l.flatMap enc=(l.take k).flatMap enc++(l.drop k).flatMap enc:=by rw[←MK,Iu]
 have d:((l.take k).flatMap enc).length=k*e:=by rw[ba (e:=e) λa f=>b a (Iv f),BN,C1 g]
 constructor
 ·rw[c,←d,List.take_left'];rfl
 ·rw[c,←d,List.drop_left'];rfl
def FM(s:LsH h v e enc l){k:Nat}(c:k<=l.length):∃x,CR e v none (some (Int.ofNat k)) none=some x/\LsH h x e enc (l.take k)/\blk x=blk v:=by
 obtain⟨b,q,⟨rfl,m⟩|⟨id,g,j,t,i,rfl,n,o⟩⟩:=s
 ·have r:=qa5.1 m;subst r;simp at c;subst c;exact⟨.slice none 0 0,rfl,LsH.nil h e enc,rfl⟩
 ·refine⟨_,UY rfl c,⟨λa d=>b a (Iv d),ba λa d=>b a (Iv d),.inr ⟨id,g,j,t,i,by rw[BN,C1 c],n,?_⟩⟩,rfl⟩;have f:0+k*e<=l.length*e:=by rw[Br];exact LB e c
  have p:=nz o f;rw[BN,C1 c,←(pX b c).1];simpa using p
def FL(s:LsH h v e enc l){k:Nat}(c:k<=l.length):∃x,CR e v (some (Int.ofNat k)) none none=some x/\LsH h x e enc (l.drop k)/\blk x=blk v:=by
 obtain⟨b,f,⟨rfl,n⟩|⟨id,i,m,t,j,rfl,o,p⟩⟩:=s
 ·have r:=qa5.1 n;subst r;simp at c;subst c;exact⟨.slice none 0 0,rfl,LsH.nil h e enc,rfl⟩
 ·refine⟨_,UX rfl c,⟨λa d=>b a (LA d),ba λa d=>b a (LA d),.inr ⟨id,i+k*e,m - k,t,j,by rw[MM],o,?_⟩⟩,rfl⟩;have g:k*e+(l.length - k)*e<=l.length*e:=by rw[←C3,Nat.add_sub_cancel' c];exact zY _
  have q:=nz p g;rw[MM,q,←(pX b c).2]
  congr 1
  refine Cg ?_;rw[MM,f,Nat.sub_mul];exact zY _
def OwnL.apL{n0 bytes:Nat}{x:Value}{new:List α}{K:Ta}(b:∀a,(enc a).length=e)(g:OwnL n0 h v e enc l)(c:n0<=h.length)(k:LsH h x e enc new)(i:(l.length+new.length)*bytes<=140737488355328)(d:l.length+new.length<=140737488355328)
  (f:∀v' h',OwnL n0 h' v' e enc (l++new)->aB v'=true->(∀(j:Nat) o,h[j]?=some o->Sx.blk v≠some j->h'[j]?=some o)->h.length<=h'.length->(Sx.blk v'=Sx.blk v∨∃j,Sx.blk v'=some j/\h.length<=j)->K [v'] h') :
  P1.heap (.ap cc e bytes v x) h (@hid _ ⟨K⟩):=
 g.ap b c (qG k.2) rfl (by unfold bh;rw[Be d,Be i];rfl) f
def OwnL.emp{n0 m:Nat}(a:h[m]?=some (.o (.cells [] e true)))(b:n0<=m):OwnL (α:=α) n0 h (.slice (some ⟨m,0,pu e⟩) 0 1) e enc []:=.inr ⟨m,1,rfl,b,a,.inr rfl⟩
end
def sL{u v:Value}{k:Nat}{l:List (Value×Nat×Value)}(h:Sx.disjN (Sx.adr u) (Sx.adrK k v)=true)(a:Sx.sepL l=some ()):Sx.sepL ((u,(k,v)) :: l)=some ():=by
 show(match Sx.disjN (Sx.adr u) (Sx.adrK k v)with
  |true=>Sx.sepL l
  |false=>none)=_
 rw[h];exact a
def rl{a:Tx}:Sx.disjN a []=true:=by
 induction a with
 |nil=>rfl
 |cons x a b=>
  show(match Sx.memN x []with
   |true=>false
   |false=>Sx.disjN a [])=true
  exact b
def nD{a b:Nat}(h:a≠b):Sx.disjN [a] [b]=true:=by
 have:Sx.memN a [b]=false:=by
  unfold Sx.memN;have:Nat.beq a b=false:=by
   cases c:Nat.beq a b with
   |true=>exact absurd (AE c) h
   |false=>rfl
  rw[this];rfl
 unfold Sx.disjN;rw[this];rfl
def nE{a b:Option Addr}{n c f d:Nat}(h:∀i,blk (.slice a n c)=some i->blk (.slice b f d)≠some i):Sx.disjN (Sx.adr (.slice a n c)) (Sx.adrK 0 (.slice b f d))=true:=by
 show Sx.disjN (Sx.adr (.slice a n c)) (Sx.adr (.slice b f d))=true;rcases a with _|a
 ·rfl
 rcases b with _|b
 ·exact rl
 have g:a.block≠b.block:=λe=>h a.block rfl (by rw[e];rfl);have k:∀(a:Addr) n c,Sx.adr (.slice (some a) n c)=[]∨Sx.adr (.slice (some a) n c)=[a.block]:=λa n c=>by
  unfold Sx.adr;simp only;split
  ·exact .inl rfl
  ·exact .inr rfl
 rcases k a n c with e|e<;>rcases k b f d with j|j<;>rw[e,j]
 ·rfl
 ·rfl
 ·exact rl
 ·exact nD g
def jP{α:Type}{h:HL}{v:Value}{e:Nat}{enc:α->Tk}{l:List α}(b:LsH h v e enc l):∃a n c,v = .slice a n c:=by
 obtain⟨_,_,⟨rfl,_⟩|⟨id,d,g,i,f,rfl,_⟩⟩:=b
 ·exact⟨_,_,_,rfl⟩
 ·exact⟨_,_,_,rfl⟩
def wH{u v:Value}(e:∃a n c,u = .slice a n c)(f:∃a n c,v = .slice a n c)(h:∀i,blk u=some i->blk v≠some i):Sx.disjN (Sx.adr u) (Sx.adrK 0 v)=true:=by
 obtain⟨a,n,c,rfl⟩:=e;obtain⟨b,m,d,rfl⟩:=f;exact nE h
def Jp{u v:Value}(e:∃a n c,v = .slice a n c):Sx.disjN (Sx.adr u) (Sx.adrK 1 v)=true:=by
 obtain⟨b,m,d,rfl⟩:=e;exact rl
def lA:Sx.sepL []=some ():=rfl
def xG{a b c d:Int}{K:Tm}(h1:a=c/\b=d->K true)(f:¬(a=c/\b=d)->K false):P1.eqs [(.i a,.i c),(.i b,.i d)] (@hid _ ⟨K⟩):=by
 by_cases h:a=c/\b=d
 ·obtain⟨rfl,rfl⟩:=h;show K (cj _);have e:cj [(Lf.i a,Lf.i a),(Lf.i b,Lf.i b)]=true:=by simp[cj,gG]
  rw[e];exact h1 ⟨rfl,rfl⟩
 ·rw[CL h];exact f h
def vQ{a b:Int}{K:Tm}(h1:a<b->K true)(c:b<=a->K false):P1.cmp .lss a b (@hid _ ⟨K⟩):=by
 rcases Int.lt_or_le a b with h|h
 ·rw[zV h];exact h1 h
 ·rw[zQ h];exact c h
def Gc{α:Type}{e cx len:Nat}{enc:α->Tk}(b:∀a,(enc a).length=e){h:HL}{id:Nat}{l:List α}{i o:Nat}{a a':α}{n:Int}{new:Tk}{K:Ta}(hg:h[id]?=some (.o (.cells (l.flatMap enc) e true)))(u:n=Int.ofNat i)(m:l[i]?=some a)(c:l.length=len)(B:o+new.length<=e)
  (f:enc a'=(enc a).take o++new++(enc a).drop (o+new.length)) (r:K [] (td h id e enc (l.set i a'))) :
  P1.opt (Ah e (.slice (some ⟨id,0,pu e⟩) len cx) n) (@hid _ ⟨λx=>P1.opt (Ag o x) (@hid _ ⟨λy=>P1.chk y (@hid _ ⟨P1.heap (.st y new) h (@hid _ ⟨K⟩)⟩)⟩)⟩):=by
 subst u c;have d:=aq m;have v:Ah e (.slice (some ⟨id,0,pu e⟩) l.length cx) (Int.ofNat i)=some (.pointer (some ⟨id,i*e,none⟩)):=by
  rw[tX];have q:0<=Int.ofNat i/\Int.ofNat i<(l.length:Int):=⟨Cb i,by show(i:Int)<l.length;omega⟩;simp only[mc q];have:¬(pu e=some 1):=by simp[pu]
  simp only[po this,Br];rfl
 refine ah v ?_;refine ah (x:=.pointer (some ⟨id,i*e+o,none⟩)) rfl ?_;refine ac (by simp[aB,noLoc,aP,bg,aW,aG,aw]) ?_;have s:=ba (e:=e) (enc:=enc) (l:=l) λa _=>b a;have t:i*e+e<=l.length*e:=by
  have:=LB e (show i+1<=l.length by omega);rw[C3,H0]at this;exact this
 have j:=fY b (l:=l) (i:=i) a d;rw[bC m]at j;have p:=fY b (l:=l) (i:=i) a' d;have hA:((l.flatMap enc).take (i*e)).length=i*e:=by rw[BN];omega
 have A:=b a;have k:(l.flatMap enc).take (i*e+o)++new++(l.flatMap enc).drop (i*e+o+new.length)=(l.set i a').flatMap enc:=by
  rw[←p,f];have w:(l.flatMap enc).take (i*e+o)=(l.flatMap enc).take (i*e)++(enc a).take o:=by
   conv=>lhs;rw[←j,AN]
   rw[qdi,Cg (by omega),hA,show i*e+o - i*e=o by omega,qdi,show o - (enc a).length=0 by omega,Vq,Ci]
  have z:(l.flatMap enc).drop (i*e+o+new.length)=(enc a).drop (o+new.length)++(l.flatMap enc).drop (i*e+e):=by
   conv=>lhs;rw[←j,AN]
   rw[Vo,Rs (by omega),Ap,hA,show i*e+o+new.length - i*e=o+new.length by omega,Vo,show o+new.length - (enc a).length=0 by omega,F9]
  rw[w,z];simp only[AN]
 have g:(Hp.st (.pointer (some ⟨id,i*e+o,none⟩)) new).run (wb aa h) h.length=some ([.set id (.cells ((l.set i a').flatMap enc) e true)],[]):=by
  show ES (.pointer (some ⟨id,i*e+o,none⟩)) new (wb aa h) h.length=_;unfold ES;simp only;rw[bF hg];simp only;unfold splice;rw[s,mc (by omega),k];rfl
 exact bZ g r
def DK{α β:Type}{e e':Nat}{enc:α->Tk}{a:β->Tk}{l:List α}{l':List β}{h:HL}{v v':Value}(r:LsH h v e enc l)(g:LsH h v' e' a l')(f:e≠e'){b:Nat}(j:blk v=some b):blk v'≠some b:=by
 intro d;obtain⟨_,_,⟨rfl,_⟩|⟨id,s,x,y,t,rfl,p,_⟩⟩:=r
 ·cases j
 obtain⟨_,_,⟨rfl,_⟩|⟨i,k,m,w,u,rfl,c,_⟩⟩:=g
 ·cases d
 have n:id=b:=by simpa[blk]using j
 have o:i=b:=by simpa[blk]using d
 subst n o;rw[p]at c;have:=AD c;injection this with this
 injection this with _ q
 exact f q
def K2{α:Type}{e:Nat}{enc:α->Tk}(b:∀a,(enc a).length=e){h:HL}{id cx n i o k:Nat}{R:List α}{a:α}(s:h[id]?=some (.o (.cells (R.flatMap enc) e true)))(m:R[i]?=some a)(v:n=R.length)(x:o+k<=e) :
  Ah e (.slice (some ⟨id,0,pu e⟩) n cx) (Int.ofNat i)=some (.pointer (some ⟨id,0+i*e,none⟩))/\Ag o (.pointer (some ⟨id,0+i*e,none⟩))=some (.pointer (some ⟨id,0+i*e+o,none⟩))/\Ptr h (.pointer (some ⟨id,0+i*e+o,none⟩)) (((enc a).drop o).take k):=by
 subst v;have u:=aq m;have g:Ah e (.slice (some ⟨id,0,pu e⟩) R.length cx) (Int.ofNat i)=some (.pointer (some ⟨id,0+i*e,none⟩)):=by
  rw[tX];have t:0<=Int.ofNat i/\Int.ofNat i<(R.length:Int):=⟨Cb i,by show(i:Int)<R.length;omega⟩;simp only[mc t];have:¬(pu e=some 1):=by simp[pu]
  simp only[po this];rfl
 have d:LsH h (.slice (some ⟨id,0,pu e⟩) R.length cx) e enc R:=by
  have q:=ba (e:=e) (enc:=enc) (l:=R) λa _=>b a;exact⟨λa _=>b a,q,.inr ⟨id,0,cx,_,true,rfl,s,Sx.cut_all q⟩⟩
 obtain⟨p,c,f⟩:=d.at m;rw[g]at c;cases c;obtain⟨y,r,w⟩:=f.fd o k (by rw[b];omega);have j:Ag o (.pointer (some ⟨id,0+i*e,none⟩))=some (.pointer (some ⟨id,0+i*e+o,none⟩)):=rfl;rw[j]at r;cases r;exact⟨g,j,w⟩
def cM(b o:Nat):aB (.pointer (some ⟨b,o,none⟩))=true:=by simp[aB,noLoc,aP,bg,aW,aG,aw]
def rn{v:Value}{b o:Nat}(f:∃a n c,v = .slice a n c)(h:∀i,blk v=some i->i≠b):Sx.disjN (Sx.adr v) (Sx.adrK 0 (.pointer (some ⟨b,o,none⟩)))=true:=by
 obtain⟨x,n,c,rfl⟩:=f;rcases x with _|x
 ·rfl
 have d:x.block≠b:=h x.block rfl;have e:Sx.adrK 0 (.pointer (some ⟨b,o,none⟩))=[b]:=rfl;rw[e];have g:Sx.adr (.slice (some x) n c)=[]∨Sx.adr (.slice (some x) n c)=[x.block]:=by
  unfold Sx.adr;simp only;split
  ·exact .inl rfl
  ·exact .inr rfl
 rcases g with e|e<;>rw[e]
 ·rfl
 ·exact nD d
def US:=And.intro @La (And.intro (@Rg _ _ cc ab aa) (And.intro (@Ro _ _ cc ab aa) (And.intro (@Rn _ _ cc ab aa) (And.intro (@Rq _ _ cc ab aa) (And.intro (@Rm _ _ cc ab aa) (And.intro (@Rk _ _ cc ab aa) (And.intro (@Rj _ _ cc ab aa) (And.intro (@Rl _ _ cc ab aa) (And.intro (@Ri _ _ cc ab aa) (And.intro (@DR _ _ cc ab aa) (And.intro (@DQ _ _ cc ab aa) (And.intro (@Rh _ _ cc ab aa) (And.intro (@Re _ _ cc ab aa) (And.intro (@F3 _ _ cc ab aa) (And.intro (@F2 _ _ cc ab aa) (@p_it))))))))))))))))
def EI{h1 h':HL}(c:∀(j:Nat) o,h1[j]?=some o->h'[j]?=some o):Pre h1 h':=by
 have d:h1.length<=h'.length:=by
  rcases Bi h'.length h1.length with h|h
  ·obtain⟨o,a⟩:=aL h;have:=aq (c _ o a);omega
  ·exact h
 refine⟨h'.drop h1.length,?_⟩;have:h'.take h1.length=h1:=by
  refine Ga λi=>?_;by_cases b:i<h1.length
  ·rw[qdK b];obtain⟨o,a⟩:=aL b;rw[a,c i o a]
  ·rw[Bd (by rw[BN];omega),Bd (by omega)]
 conv=>lhs;rw[←Iu h1.length h',this]
def bG{h1 h h':HL}(c:Pre h1 h)(b:∀(j:Nat) o,j<h1.length->h[j]?=some o->h'[j]?=some o):Pre h1 h':=EI λj o a=>b j o (aq a) (c.get a)
def rr(l:Ln):Tk:=[.int .u8 (Int.ofNat l.1),.int .i64 l.2]
def de(l:Ln):(rr l).length=2:=rfl
def OG{w v:Nat}(h3:S3 w v){l:Ty}{H:HL}{x xs:Value}(hl:LsH H x 3 zz l)(a7:aB xs=true)(hv:∀c∈l,VC w v c)(bs:∀c∈l,c.2.2≠0)(hn:l.length<=1000){r:Mv}(hr:Av 10000 r){G:TC}(hG:ConsO w v l G) :
  ∃z h' d,aD cc ab 21 ([.i (.ofNat w),.i (.ofNat v),.v x]++Al r++[.v xs]) (ka aa H) [.v z] (ka aa h')/\Pre H h'/\LsH h' z 2 rr d/\d.length<=1000/\∀y∈d,∃p∈AJ w v l G r (4*w*v),p.2.2=y:=by
 have hs:=h3.sh;obtain⟨b1,b2,b3,b4⟩:=h3.n;have hN:=Bj hs;obtain⟨z,h1,c1,bI,ca,hZ⟩:=xM h3 hl a7 hv bs hn hr hG;have b5:=jV (w:=w) (v:=v) (l:=l) (G:=G) (r:=r) (n:=4*w*v);have bS:=x21 (ls:=[.i (.ofNat w),.i (.ofNat v),.v x,.i (Int.ofNat r.1),.i r.2.1,.i r.2.2,.v xs]) (K:=λrs h'=>∃z d,rs=[.v z]/\Pre H h'/\LsH h' z 2 rr d/\d.length<=1000/\∀y∈d,∃p∈AJ w v l G r (4*w*v),p.2.2=y) (H:=H) (kx (kx (rv hl.good (kx (kx (kx (rv a7 ub))))))) (by
  unfold f21;simp only[xp];refine jw ?_;simp only[Al,Aw,Ap]at c1;refine al c1 ?_;refine jw ?_;generalize b0:AJ w v l G r (4*w*v)=P at *;refine aR (σ:=HL×Value) P.length (λj s=>[.v s.2,.i (Int.ofNat j)]) (λ_ s=>s.1) (λj s=>Pre h1 s.1/\∃d:List Ln,OwnL h1.length s.1 s.2 2 rr d/\d.length<=j/\∀y∈d,∃p∈P,p.2.2=y) (j0:=0) (s0:=(h1,.slice none 0 0)) rfl rfl (AM _) ⟨.refl _,[],.nil _ _ _ _,zY _,λy hy=>by cases hy⟩ ?_;rintro j ⟨h,o⟩ D ⟨A,d,hO,b9,Y⟩ bm V;simp only at A hO ⊢;refine jw ?_;refine br (hZ.pre A) ?_;by_cases X:j<P.length
  case neg=>
   rw[aM (by omega)];refine jw ?_;exact⟨o,d,rfl,bI.trans A,hO.ls de,by omega,Y⟩
  rw[aJ X];refine jw ?_;obtain⟨p,hp⟩:=aL X;have bP:=Af hp;refine bB (cs:=[.int .u8 (Int.ofNat p.2.2.1),.int .i64 p.2.2.2]) (hZ.pre A) rfl hp rfl (by omega) ?_;simp (disch:=omega) only[↓US,↓RB,↓RA];generalize hy:p.2.2=y at *;have a9:=A.len;have f:=hO.ls de;have b8:=f.good;have Z:∀k,k<=d.length->∀h' o' ,Pre h1 h'->OwnL h1.length h' o' 2 rr (d.take k++[y]++d.drop k)->bm [.v o',.i (Int.ofNat j+1)] h':=λk M h' o' bx bt=>V (h',o') X ⟨bx,_,bt,by simp;omega,λa C=>by
   rcases qas.1 C with C|C
   ·rcases qas.1 C with C|C
    ·exact Y a (Iv C)
    ·rw[qav]at C;exact⟨p,bP,hy.trans C.symm⟩
   ·exact Y a (LA C)⟩
  refine mT (λl h'=>∃k,k<=d.length/\l=[.i (Int.ofNat k)]/\h'=h) ?_ ?_
  case refine_2=>
   intro jj ap;refine eo d.length (λ_=>True) (j0:=0) rfl (AM _) trivial ?_;intro k M _ bX F;refine jw ?_;refine br f ?_;by_cases I:k<d.length
   case neg=>
    rw[aM (by omega)];refine jw ?_;exact ap _ _ ⟨k,M,rfl,rfl⟩
   rw[aJ I];refine jw ?_;obtain⟨a,C⟩:=aL I;refine bB (cs:=[.int .u8 (Int.ofNat a.1)]) f rfl C rfl (by omega) ?_;refine jw ?_;refine vQ (λ_=>?_) (λ_=>?_)
   ·simp(disch:=omega)only[↓my];rw[aS (by omega)];exact F I trivial
   refine jw ?_;refine bB (cs:=[.int .u8 (Int.ofNat a.1)]) f rfl C rfl (by omega) ?_;refine jw ?_;refine EH λt ht=>?_;cases t with
   |false=>
    refine jw ?_;exact ap _ _ ⟨k,M,rfl,rfl⟩
   |true=>
   refine jw ?_;refine bB (cs:=[.int .i64 a.2]) f rfl C rfl (by omega) ?_;refine jw ?_;refine vQ (λ_=>?_) (λ_=>?_)
   ·simp(disch:=omega)only[↓my];rw[aS (by omega)];exact F I trivial
   ·simp(disch:=omega)only[↓my];exact ap _ _ ⟨k,M,rfl,rfl⟩
  rintro l' h' ⟨k,M,rfl,a8⟩;rw[a8];clear a8 h';refine jw ?_;refine br f ?_;refine EH λt ht=>?_;cases t with
  |true=>
   refine jw ?_;obtain⟨x1,a1,E,ad⟩:=FM f M;obtain⟨x2,a2,Q,bn⟩:=FL f M;have S:∀b,blk o=some b->b<h.length:=λb L=>(hO.blk L).2;have hh:(h++[HO.o (.cells [] 2 true)]).length=h.length+1:=by simp
   have he:OwnL (α:=Ln) h1.length (h++[HO.o (.cells [] 2 true)]) (.slice (some ⟨h.length,0,pu 2⟩) 0 1) 2 rr []:=OwnL.emp aA a9;refine ah a1 ?_;refine ac E.good ?_;refine qs ?_;refine he.apL de (by omega) (E.pre ⟨_,rfl⟩) (by simp;omega) (by simp;omega) ?_;intro z1 m u af N bd _;have a3:=u.ls de;have ay:Pre h1 m:=bG (A.app _) λi o g q=>N i o q λe=>by have:=(he.blk e).1;omega
   have T:Pre h m:=bG (h1:=h) ⟨_,rfl⟩ λi o g q=>N i o q λe=>by
    have:h.length=i:=by simpa[blk]using e
    omega
   refine jw ?_;refine ac af ?_;refine qs ?_;refine u.ap1 (a:=y) de (by omega) rfl rfl rfl (by
    unfold bh;rw[Be (by simp;omega),Be (by simp;omega)];rfl) ?_
   intro z2 g2 R ag O be _;have B:∀b,blk z1=some b->h.length<=b/\b<m.length:=λb L=>by
    refine⟨?_,(u.blk L).2⟩;rcases ‹blk z1=blk _∨_› with e|⟨j',e,e'⟩
    ·rw[L]at e;have:b=h.length:=by simpa[blk]using e
     omega
    ·rw[L]at e;cases e;omega
   have aE:Pre h1 g2:=bG ay λi o g q=>O i o q λe=>by have:=(u.blk e).1;omega
   have U:Pre h g2:=bG T λi o g q=>O i o q λe=>by have:=(B _ e).1;omega
   refine jw ?_;refine ac ag ?_;refine qs ?_;refine ah a2 ?_;refine ac Q.good ?_;refine qs ?_;refine R.apL de (by omega) (Q.pre U) (by simp;omega) (by simp;omega) ?_;intro z3 g3 ax an ar bl _;have a0:Pre h1 g3:=bG aE λi o g q=>ar i o q λe=>by have:=(R.blk e).1;omega
   refine jw ?_;refine ac an ?_;refine qs ?_;have a5:=jP f;have a4:=jP E;have a6:=jP a3;have dA:∀n c W J,Sx.disjN (Sx.adr (.slice (some ⟨h.length,0,some 12⟩) n c)) (Sx.adrK 0 (.slice (some ⟨m.length,0,some 12⟩) W J))=true:=λn c W J=>nE λi g D=>by
    have e1:h.length=i:=by simpa[blk]using g
    have e2:m.length=i:=by simpa[blk]using D
    omega
   have dB:∀n c W J,Sx.disjN (Sx.adr (.slice (some ⟨m.length,0,some 12⟩) n c)) (Sx.adrK 0 (.slice (some ⟨h.length,0,some 12⟩) W J))=true:=λn c W J=>nE λi g D=>by
    have e1:m.length=i:=by simpa[blk]using g
    have e2:h.length=i:=by simpa[blk]using D
    omega
   have dC:∀n c,Sx.disjN (Sx.adr z1) (Sx.adrK 0 (.slice (some ⟨m.length,0,some 12⟩) n c))=true:=λn c=>wH a6 ⟨_,_,_,rfl⟩ λi g D=>by
    have e2:m.length=i:=by simpa[blk]using D
    have:=B i g;omega
   have dD:∀n c,Sx.disjN (Sx.adr (.slice (some ⟨m.length,0,some 12⟩) n c)) (Sx.adrK 0 x1)=true:=λn c=>wH ⟨_,_,_,rfl⟩ a4 λi g D=>by
    have e2:m.length=i:=by simpa[blk]using g
    have:=S i (ad▸D);omega
   refine ah (x:=()) (by
    repeat' (first|exact lA|refine sL ?_ ?_)
    all_goals first|exact Jp a5|exact dA _ _ _ _|exact dB _ _ _ _|exact dC _ _|exact dD _ _) ?_
   try simp(disch:=omega)only[↓my]
   try rw[aS (by omega)]
   try simp(disch:=omega)only[↓my]
   try rw[aS (by omega)]
   exact Z k M g3 z3 a0 (by simpa using ax)
  |false=>
   refine jw ?_;have I:k<d.length:=by
    have h5:=of_decide_eq_false ht.symm;have h6:¬k=d.length:=λe=>h5 (by rw[e]);omega
   obtain⟨a,C⟩:=aL I;refine aQ f rfl C ?_;rw[show rr a=[.int .u8 (Int.ofNat a.1),.int .i64 a.2]from rfl];refine jw ?_;refine xG (λb6=>?_) (λb7=>?_)
   ·simp(disch:=omega)only[↓my,Bs];rw[aS (by omega)];exact V (h,o) X ⟨A,d,hO,by omega,Y⟩
   simp(disch:=omega)only[↓my,Cv];obtain⟨x1,a1,E,ad⟩:=FM f M;obtain⟨x2,a2,Q,bn⟩:=FL f M;have S:∀b,blk o=some b->b<h.length:=λb L=>(hO.blk L).2;have hh:(h++[HO.o (.cells [] 2 true)]).length=h.length+1:=by simp
   have he:OwnL (α:=Ln) h1.length (h++[HO.o (.cells [] 2 true)]) (.slice (some ⟨h.length,0,pu 2⟩) 0 1) 2 rr []:=OwnL.emp aA a9;refine ah a1 ?_;refine ac E.good ?_;refine qs ?_;refine he.apL de (by omega) (E.pre ⟨_,rfl⟩) (by simp;omega) (by simp;omega) ?_;intro z1 m u af N bd _;have a3:=u.ls de;have ay:Pre h1 m:=bG (A.app _) λi o g q=>N i o q λe=>by have:=(he.blk e).1;omega
   have T:Pre h m:=bG (h1:=h) ⟨_,rfl⟩ λi o g q=>N i o q λe=>by
    have:h.length=i:=by simpa[blk]using e
    omega
   refine jw ?_;refine ac af ?_;refine qs ?_;refine u.ap1 (a:=y) de (by omega) rfl rfl rfl (by
    unfold bh;rw[Be (by simp;omega),Be (by simp;omega)];rfl) ?_
   intro z2 g2 R ag O be _;have B:∀b,blk z1=some b->h.length<=b/\b<m.length:=λb L=>by
    refine⟨?_,(u.blk L).2⟩;rcases ‹blk z1=blk _∨_› with e|⟨j',e,e'⟩
    ·rw[L]at e;have:b=h.length:=by simpa[blk]using e
     omega
    ·rw[L]at e;cases e;omega
   have aE:Pre h1 g2:=bG ay λi o g q=>O i o q λe=>by have:=(u.blk e).1;omega
   have U:Pre h g2:=bG T λi o g q=>O i o q λe=>by have:=(B _ e).1;omega
   refine jw ?_;refine ac ag ?_;refine qs ?_;refine ah a2 ?_;refine ac Q.good ?_;refine qs ?_;refine R.apL de (by omega) (Q.pre U) (by simp;omega) (by simp;omega) ?_;intro z3 g3 ax an ar bl _;have a0:Pre h1 g3:=bG aE λi o g q=>ar i o q λe=>by have:=(R.blk e).1;omega
   refine jw ?_;refine ac an ?_;refine qs ?_;have a5:=jP f;have a4:=jP E;have a6:=jP a3;have dA:∀n c W J,Sx.disjN (Sx.adr (.slice (some ⟨h.length,0,some 12⟩) n c)) (Sx.adrK 0 (.slice (some ⟨m.length,0,some 12⟩) W J))=true:=λn c W J=>nE λi g D=>by
    have e1:h.length=i:=by simpa[blk]using g
    have e2:m.length=i:=by simpa[blk]using D
    omega
   have dB:∀n c W J,Sx.disjN (Sx.adr (.slice (some ⟨m.length,0,some 12⟩) n c)) (Sx.adrK 0 (.slice (some ⟨h.length,0,some 12⟩) W J))=true:=λn c W J=>nE λi g D=>by
    have e1:m.length=i:=by simpa[blk]using g
    have e2:h.length=i:=by simpa[blk]using D
    omega
   have dC:∀n c,Sx.disjN (Sx.adr z1) (Sx.adrK 0 (.slice (some ⟨m.length,0,some 12⟩) n c))=true:=λn c=>wH a6 ⟨_,_,_,rfl⟩ λi g D=>by
    have e2:m.length=i:=by simpa[blk]using D
    have:=B i g;omega
   have dD:∀n c,Sx.disjN (Sx.adr (.slice (some ⟨m.length,0,some 12⟩) n c)) (Sx.adrK 0 x1)=true:=λn c=>wH ⟨_,_,_,rfl⟩ a4 λi g D=>by
    have e2:m.length=i:=by simpa[blk]using g
    have:=S i (ad▸D);omega
   refine ah (x:=()) (by
    repeat' (first|exact lA|refine sL ?_ ?_)
    all_goals first|exact Jp a5|exact dA _ _ _ _|exact dB _ _ _ _|exact dC _ _|exact dD _ _) ?_
   try simp(disch:=omega)only[↓my]
   try rw[aS (by omega)]
   try simp(disch:=omega)only[↓my]
   try rw[aS (by omega)]
   exact Z k M g3 z3 a0 (by simpa using ax))
 obtain⟨rs,h',h2,z,d,rfl,h3,h4,h5,h6⟩:=bS;exact⟨z,h',d,h2,h3,h4,h5,h6⟩
abbrev Sk:=Cl×Value×List Nat
def Ac(s:Sk):Tk:=bw s.1++[s.2.1]
def dj(s:Sk):(Ac s).length=4:=rfl
def CA(s:Sk):zR:=(s.1,s.2.2)
def Pcs(n0:Nat)(h:HL)(Q:List Sk):Prop:=(∀p∈Q,OwnL n0 h p.2.1 1 km p.2.2)/\Q.Pairwise λp q=>∀b,blk p.2.1=some b->blk q.2.1≠some b
def Pcs.nil(n0:Nat)(h:HL):Pcs n0 h []:=⟨λp a=>(by cases a),.nil⟩
def Pcs.perm{n0:Nat}{h:HL}{Q c:List Sk}(e:Pcs n0 h Q)(d:c.Perm Q):Pcs n0 h c:=
 ⟨λp h=>e.1 p (d.mem_iff.1 h),(d.pairwise_iff (λh b f a=>h b a f)).2 e.2⟩
def Pcs.keep{n0:Nat}{h h':HL}{Q:List Sk}(b:Pcs n0 h Q)(c:∀p∈Q,∀(j:Nat) o,h[j]?=some o->blk p.2.1=some j->h'[j]?=some o):Pcs n0 h' Q:=
 ⟨λp a=>(b.1 p a).keep (c p a),b.2⟩
def Pcs.cons{n0:Nat}{h:HL}{Q:List Sk}(a:Pcs n0 h Q){p:Sk}(d:OwnL n0 h p.2.1 1 km p.2.2)(c:∀q∈Q,∀b,blk p.2.1=some b->blk q.2.1≠some b):Pcs n0 h (p :: Q):=
 ⟨λq h=>by
  rcases qar.1 h with rfl|h
  ·exact d
  ·exact a.1 q h,qbb.2 ⟨c,a.2⟩⟩
def Pcs.low{n0:Nat}{h:HL}{Q:List Sk}(a:Pcs n0 h Q){b:Nat}(j:b<=n0):Pcs b h Q:=
 ⟨λp g=>by
  rcases a.1 p g with d|⟨id,c,e,i,f⟩
  ·exact .inl d
  ·exact .inr ⟨id,c,e,by omega,f⟩,a.2⟩
def aI{α β:Type}{n0 e e':Nat}{enc:α->Tk}{a:β->Tk}{l:List α}{l':List β}{h:HL}{v v':Value}(r:OwnL n0 h v e enc l)(g:OwnL n0 h v' e' a l')(f:e≠e'){b:Nat}(j:blk v=some b):blk v'≠some b:=by
 intro d;rcases r with⟨rfl,_⟩|⟨id,s,rfl,t,p,_⟩
 ·cases j
 rcases g with⟨rfl,_⟩|⟨i,k,rfl,o,c,_⟩
 ·cases d
 have m:id=b:=by simpa[blk]using j
 have n:i=b:=by simpa[blk]using d
 subst m n;rw[p]at c;have:=AD c;injection this with this
 injection this with _ q
 exact f q
structure FW(n0:Nat)(h:HL)(zs za zc:Value)(Ms Ma:List Sk)(C:Ty):Prop where
 os:OwnL n0 h zs 4 Ac Ms
 oa:OwnL n0 h za 4 Ac Ma
 oc:OwnL n0 h zc 3 zz C
 ne:∀b,blk zs=some b->blk za≠some b
 pc:Pcs n0 h (Ms++Ma)
section
variable {n0:Nat} {h h':HL} {zs za zc:Value} {Ms Ma:List Sk} {C:Ty}
def FW.frame(b:FW n0 h zs za zc Ms Ma C)(c:∀(j:Nat) o,h[j]?=some o->h'[j]?=some o):FW n0 h' zs za zc Ms Ma C:=
 ⟨b.os.keep λj o a _=>c j o a,b.oa.keep λj o a _=>c j o a,b.oc.keep λj o a _=>c j o a,b.ne,b.pc.keep λ_ _ j o a _=>c j o a⟩
def FW.pre(a:FW n0 h zs za zc Ms Ma C)(c:Pre h h'):FW n0 h' zs za zc Ms Ma C:=a.frame λ_ _ b=>c.get b
theorem FW.symm(a:FW n0 h zs za zc Ms Ma C):FW n0 h za zs zc Ma Ms C:=
 ⟨a.oa,a.os,a.oc,λb d c=>a.ne b c d,a.pc.perm qdd⟩
def FW.pne(a:FW n0 h zs za zc Ms Ma C){p:Sk}(e:p∈Ms++Ma){b:Nat}(d:blk p.2.1=some b):blk zs≠some b/\blk za≠some b/\blk zc≠some b:=
 have c:=a.pc.1 p e
 ⟨aI c a.os (by omega) d,aI c a.oa (by omega) d,aI c a.oc (by omega) d⟩
def FW.apS(d:FW n0 h zs za zc Ms Ma C){c:Cl}{y:Value}{ly:Tx}(q:OwnL n0 h y 1 km ly)(i:∀p∈Ms++Ma,∀b,blk y=some b->blk p.2.1≠some b){g:Value}(l:OwnL n0 h' g 4 Ac (Ms++[(c,y,ly)]))
  (k:∀(j:Nat) o,h[j]?=some o->blk zs≠some j->h'[j]?=some o) (t:blk g=blk zs∨∃j,blk g=some j/\h.length<=j):FW n0 h' g za zc (Ms++[(c,y,ly)]) Ma C:=by
 refine⟨l,d.oa.keep λj o f a=>k j o f λe=>d.ne j e a,d.oc.keep λj o f a=>k j o f λe=>aI d.os d.oc (by omega) e a,λb m n=>?_,?_⟩
 ·rcases t with e|⟨j,e,u⟩
  ·exact d.ne b (e▸m) n
  ·rw[e]at m;cases m;have:=(d.oa.blk n).2;omega
 ·have r:Pcs n0 h ((c,y,ly) :: (Ms++Ma)):=d.pc.cons q i;have s:=r.keep (h':=h') λp hp j o f a=>k j o f λe=>by
   rcases qar.1 hp with rfl|hp
   ·exact aI d.os q (by omega) e a
   ·exact(d.pne hp a).1 e
  refine s.perm ?_;rw[AN];exact List.perm_middle
end
def KZ{n0:Nat}{H:HL}{x:Value}{l:Ty}(h:OwnL n0 H x 3 zz l)(i:l.length<=1000) :
  ∃l' h',aD cc ab 61 [.v x] (ka aa H) [.v x] (ka aa h')/\l'.Perm l/\Cn l'/\OwnL n0 h' x 3 zz l'/\∀(j:Nat) o,H[j]?=some o->blk x≠some j->h'[j]?=some o:=by
 rcases h with⟨rfl,rfl⟩|⟨id,cx,rfl,d,b,f⟩
 ·refine⟨[],H,?_,MP _,.nil,.inl ⟨rfl,rfl⟩,λj o a _=>a⟩;exact xK x61 (rv rfl ub) (by
   unfold Yx;simp only[xp]
   repeat (first|simp(disch:=omega)only[↓my]|refine ah (x:=(0:Int)) rfl ?_|refine gD 2 ?_)
   trivial)
 ·obtain⟨l',c,c2,c3⟩:=HN (cx:=cx) b i;refine⟨l',_,c,c2,c3,.inr ⟨id,cx,by rw[c2.length_eq],d,bM (aq b),by rw[c2.length_eq];exact f⟩,λj o a g=>?_⟩;unfold td;rw[BL (λe=>g (by rw[e];rfl))];exact a
def Js(w v a b:Nat):Nat:=if Aa w v a 0=some b then 0 else if Aa w v a 1=some b then 1 else 2
def lK{w v:Nat}(l:Sh w v){a b e:Nat}(i:a<4*w*v)(m:e<3)(j:Aa w v a e=some b):Js w v a b=e:=by
 have o:=(dh l i).2.2.2.2;have f:∀g,g<3->Aa w v a g=some b->g=e:=λg d k=>by
  have c:=(dI l i m j).2.2.2.1;have n:=(dI l i d k).2.2.2.1;exact vH o d m (n.symm.trans c)
 unfold Js;by_cases h:Aa w v a 0=some b
 ·rw[mc h];exact f 0 (by omega) h
 rw[po h];by_cases c:Aa w v a 1=some b
 ·rw[mc c];exact f 1 (by omega) c
 rw[po c];have:e=0∨e=1∨e=2:=by omega
 rcases this with rfl|rfl|rfl
 ·exact absurd j h
 ·exact absurd j c
 ·rfl
def Jl(w v:Nat)(P:TC)(o:Bool)(p:Io):BJ:=(Int.ofNat p.1,Int.ofNat (Js w v p.1 p.2.1),if decide ((P p.1).1<4)=o then 2 else 1)
def Bm(w v:Nat)(P:TC)(o:Bool)(ln:Ln)(a:List Io):Ty:=(a.filter λp=>decide (p.2.2=ln)).map (Jl w v P o)
def ft(ln:Ln)(s:Bool)(L:List zR)(r:Mv)(j:Nat):Mv:=if 0∈(CS ln s (L.take j)).flatMap Prod.snd then ae r (Bb ln)else r
def Mi{ln:Ln}{s:Bool}{L:List zR}{j:Nat}{c:Cl}{ly:Tx}(h:L[j]?=some (c,ly)):EU ln s (L.take (j+1))=EU ln s (L.take j)++(if dg ln c=s then []else [(c,ly)]):=by
 unfold EU;rw[Dm,h,qdz];simp only[Vs,ML,qds];by_cases a:dg ln c=s
 ·simp[a]
 ·simp[a]
def IP{ln:Ln}{s:Bool}{L:List zR}{j:Nat}{c:Cl}{ly:Tx}(h:L[j]?=some (c,ly)):CS ln s (L.take (j+1))=CS ln s (L.take j)++(if dg ln c=s then [(am (Bb ln) c,ly.reverse)]else []):=by
 unfold CS;rw[Dm,h,qdz,Cw];simp only[Vs,ML,qds];by_cases a:dg ln c=s
 ·simp[a]
 ·simp[a]
def ZV{h:HL}{z:Value}{b:List Sk}(c:LsH h z 4 Ac b):LsH h z 4 Ao (b.map λs=>(s.1,s.2.1)):=by
 refine⟨λa _=>rfl,?_⟩;have:(b.map λs:Sk=>((s.1,s.2.1):Dw)).flatMap Ao=b.flatMap Ac:=by
  rw[UO];rfl
 rw[this,AZ];exact c.2
def ls54{h:HL}{z:Value}{b:List Sk}(d:LsH h z 4 Ao (b.map λs=>(s.1,s.2.1))):LsH h z 4 Ac b:=by
 refine⟨λa _=>rfl,?_⟩;have:(b.map λs:Sk=>((s.1,s.2.1):Dw)).flatMap Ao=b.flatMap Ac:=by
  rw[UO];rfl
 have c:=d.2;rw[this,AZ]at c;exact c
def Pcs.sub{n0:Nat}{h:HL}{Q a:List Sk}(b:Pcs n0 h Q)(c:a.Sublist Q):Pcs n0 h a:=⟨λp d=>b.1 p (c.mem d),b.2.sublist c⟩
def dM{α:Type}{a q:α}:∀ {l:List α} {k:Nat},l[k]?=some q->(l.set k a).Perm (a :: l.eraseIdx k)
 | [],k,h=>by simp at h
 |b :: l,0,h=>MP _
 |b :: l,k+1,h=>by
  simp only[Ip]at h;simp only[qcJ,List.eraseIdx_cons_succ];exact((dM h).cons b).trans (List.Perm.swap _ _ _)
def stp{n0:Nat}{h g:HL}{J O T v':Value}{d P Mr:List Sk}{C:Ty}{a q:Sk}{k id cx:Nat}{c:Tx}(w:J = .slice (some ⟨id,0,pu 4⟩) d.length cx)(m:n0<=id)(hid:h[id]?=some (.o (.cells (d.flatMap Ac) 4 true)))(y:cx=0∨cx=d.length+1)
  (F:OwnL n0 h O 4 Ac P) (z:OwnL n0 h T 3 zz C) (L:blk O≠some id) (M:Pcs n0 h (d++a :: Mr)) (K:d[k]?=some q) (S:OwnL n0 g v' 1 km c) (R:∀(j:Nat) o,h[j]?=some o->blk q.2.1≠some j->g[j]?=some o) (W:∀b,blk v'=some b->blk q.2.1=some b∨h.length<=b) :
  g[id]?=some (.o (.cells (d.flatMap Ac) 4 true))/\OwnL n0 (td g id 4 Ac (d.set k (q.1,v',c))) J 4 Ac (d.set k (q.1,v',c))/\OwnL n0 (td g id 4 Ac (d.set k (q.1,v',c))) O 4 Ac P/\OwnL n0 (td g id 4 Ac (d.set k (q.1,v',c))) T 3 zz C/\Pcs n0 (td g id 4 Ac (d.set k (q.1,v',c))) (d.set k (q.1,v',c)++Mr)/\∀(j:Nat) o,j<n0->h[j]?=some o->(td g id 4 Ac (d.set k (q.1,v',c)))[j]?=some o:=by
 have s:Pcs n0 h (d++Mr):=M.sub (List.Sublist.append_left (qc4 _ _) _);have N:q∈d++Mr:=qas.2 (.inl (Af K));have u:=s.1 q N;have r:OwnL n0 h J 4 Ac d:=.inr ⟨id,cx,w,m,hid,y⟩;have v:blk J=some id:=by rw[w];rfl
 have l:g[id]?=some (.o (.cells (d.flatMap Ac) 4 true)):=R _ _ hid λe=>aI u r (by omega) e v;have G:OwnL n0 g J 4 Ac d:=.inr ⟨id,cx,w,m,l,y⟩;have i:∀(j:Nat) o,h[j]?=some o->blk q.2.1≠some j->j≠id->(td g id 4 Ac (d.set k (q.1,v',c)))[j]?=some o:=λj o n U V=>by
  unfold td;rw[BL (BO V)];exact R j o n U
 have t:(d++Mr).Perm (q :: (d.eraseIdx k++Mr)):=by
  have:=(dM (a:=q) K).append_right Mr
  rwa [bC K]at this
 have x:=s.perm t.symm;have I:=qbb.1 x.2;refine⟨l,.inr ⟨id,cx,by rw[Bc];exact w,m,bM (aq l),by rw[Bc];exact y⟩,F.keep λj o n f=>i j o n (λe=>aI u F (by omega) e f) (λe=>L (e▸f)),z.keep λj o n f=>i j o n (λe=>aI u z (by omega) e f) (λe=>aI r z (by omega) v (by rw[f,e])),?_,λj o X n=>i j o n (λe=>by
  have:=(u.blk e).1;omega) (by omega)⟩
 have A:Pcs n0 (td g id 4 Ac (d.set k (q.1,v',c))) (d.eraseIdx k++Mr):=by
  have Q:Pcs n0 h (d.eraseIdx k++Mr):=x.sub (qc4 _ _);refine Q.keep λp H j o n f=>i j o n (λe=>I.1 p H j e f) λe=>?_;subst e;exact aI (Q.1 p H) r (by omega) f v
 have E:OwnL n0 (td g id 4 Ac (d.set k (q.1,v',c))) v' 1 km c:=S.keep λj o n f=>by
  unfold td;rw[BL (λe=>aI S G (by omega) f (by rw[v,e]))];exact n
 refine(A.cons (p:=(q.1,v',c)) E λp H b D B=>?_).perm ((dM K).append_right Mr);simp only at D;rcases W b D with e|Y
 ·exact I.1 p H b e B
 ·have:=((s.1 p (t.mem_iff.2 (Bo _ H))).blk B).2;omega
def KM{o:Bool}{a:zR}:∀ {S:List zR},mrg o S a≠[]
 | []=>by simp[mrg]
 |y :: S=>by
  unfold mrg;split<;>simp
def vG{o:Bool}:∀ {A S:List zR},S≠[]->A.foldl (mrg o) S≠[]
 | [],S,h=>h
 |a :: A,S,_=>by
  rw[Is];exact vG KM
def SI{ln:Ln}{s o:Bool}{L:List zR}(h:L≠[]):He ln s o L≠[]:=by
 unfold He;by_cases b:EU ln s L=[]
 ·cases hA:CS ln s L with
  |cons a A=>
   rw[Is];exact vG KM
  |nil=>
   exfalso;cases L with
   |nil=>exact h rfl
   |cons x L=>
    unfold EU at b;unfold CS at hA;rw[qcV]at hA;rw[List.filter_eq_nil_iff]at b hA;have c:=b x Ch;have d:=hA x Ch;simp at c d;exact d c
 ·exact vG b
def kZ{w v:Nat}{l:Ty}{G:TC}{r:Mv}{n:Nat}{p:Io}(h:p∈AJ w v l G r n):p.1<n/\∃k,k<3/\Aa w v p.1 (eK (p.1%4) k)=some p.2.1/\p.1<p.2.1/\CH w v l p.1 k=0/\p.2.2=ua (am (ae (G p.1) r) (sd w p.1)) (eT (ae (G p.1) r).1 (eK (p.1%4) k)):=by
 unfold AJ at h;obtain⟨a,e,i⟩:=qa1.1 h;have e:=qad.1 e;obtain⟨k,f,c⟩:=qaG.1 i;have f:=qad.1 f;unfold Bz at c;cases g:Aa w v a (eK (a%4) k)with
 |none=>rw[g]at c;cases c
 |some b=>
  rw[g]at c;simp only at c;by_cases d:a<b/\CH w v l a k=0
  ·rw[mc d]at c;cases c;exact⟨e,k,f,g,d.1,d.2,rfl⟩
  ·rw[po d]at c;cases c
def HG{w v:Nat}{P:TC}{o:Bool}{ln:Ln}{a:List Io}{j:Nat}{p:Io}(h:a[j]?=some p):Bm w v P o ln (a.take (j+1))=Bm w v P o ln (a.take j)++(if p.2.2=ln then [Jl w v P o p]else []):=by
 unfold Bm;rw[Dm,h,qdz,Cw];simp only[Vs,ML,qds];by_cases b:p.2.2=ln
 ·simp[b]
 ·simp[b]
def ID(w v:Nat)(l:Ty)(G:TC)(r:Mv)(L:List zR)(ln:Ln)(s o:Bool)(H:HL)(e:TB)(h':HL):Prop:=
 ∃z d l' c,e=[.i (.ofNat w),.i (.ofNat v),.v z,.i (Int.ofNat (ft ln s L r L.length).1),.i (ft ln s L r L.length).2.1,.i (ft ln s L r L.length).2.2,.v d]/\Pre H h'/\
  LsH h' z 3 zz l'/\l'.Perm (l++Bm w v (λa=>ae (G a) r) o ln (AJ w v l G r (4*w*v)))/\Cn l'/\LsH h' d 4 Ac c/\Pcs H.length h' c/\(c.map CA).Perm (He ln s o L)/\c.Pairwise λa b=>AO a.1 b.1=false
def J1{w v:Nat}(h3:S3 w v){l:Ty}{H:HL}{x xs:Value}(hl:LsH H x 3 zz l)(hv:∀c∈l,VC w v c)(e0:∀c∈l,c.2.2≠0)(hn:l.length<=800){r:Mv}(hr:Av 10000 r){G:TC}(hG:ConsO w v l G)
  {L:List zR} (hL:StL H xs L) (hh:0<L.length) (il:L.length<=100) (hu:∀a∈L,a.1.2.2<4/\-20000<=a.1.1/\a.1.1<=20000/\-20000<=a.1.2.1/\a.1.2.1<=20000) (dn:∀a∈L,a.2≠[]/\a.2.length<=100)
  {ln:Ln} (fb:1<=ln.1/\ln.1<=4) (hK:-10000<=ln.2/\ln.2<=10000) (s o:Bool) :
  ∃rs h',aD cc ab 22 ([.i (.ofNat w),.i (.ofNat v),.v x]++Al r++[.v xs,.i (.ofNat ln.1),.i ln.2,.i (if s then 1 else 0),.b o]) (ka aa H) rs (ka aa h')/\ID w v l G r L ln s o H rs h':=by
 have hs:=h3.sh;obtain⟨b1,b2,b3,b4⟩:=h3.n;have hN:=Bj hs;obtain⟨M,hM,hO,hm⟩:=hL;have cm:=yY fb (by omega:-100000<=ln.2/\ln.2<=100000);have bS:Av 20000 (Bb ln):=xz (n:=10000) hK;have cf:=yk (aN hr (by omega)) (aN bS (by omega));exact x22 (ls:=[.i (.ofNat w),.i (.ofNat v),.v x,.i (Int.ofNat r.1),.i r.2.1,.i r.2.2,.v xs,.i (.ofNat ln.1),.i ln.2,.i (if s then 1 else 0),.b o]) (K:=ID w v l G r L ln s o H) (H:=H) (kx (kx (rv hl.good (kx (kx (kx (rv hM.good (kx (kx (kx (glsB ub))))))))))) (by
  unfold f22;simp only[xp];refine jw ?_;refine ai cm ?_;simp only[Al,Ab,Aw,Ap]at cf ⊢;refine jw ?_;refine(OwnL.emp (α:=BJ) (enc:=zz) (n0:=H.length) aA (zY _)).apL (λ_=>rfl) (by simp) (hl.pre ⟨_,rfl⟩) (by simp;omega) (by simp;omega) ?_;intro zc h0 C hC e4 hY _;rw[Ap]at C;have hQ:Pre H h0:=bG ⟨_,rfl⟩ λi o R ho=>e4 i o ho λe=>by
   have:H.length=i:=by simpa[blk]using e
   omega
  refine jw ?_;refine ac hC ?_;refine qs ?_;generalize fs:Bb ln=m at *;refine aR (σ:=HL×Value×Value×List Sk×List Sk) L.length (λj t=>[.v t.2.1,.v t.2.2.1,.i (Int.ofNat j),.i (.ofNat w),.i (.ofNat v),.v zc,.i (Int.ofNat (ft ln s L r j).1),.i (ft ln s L r j).2.1,.i (ft ln s L r j).2.2,.v (.slice none 0 0)]) (λ_ t=>t.1)
   (λj t=>Pre H t.1/\FW H.length t.1 t.2.1 t.2.2.1 zc t.2.2.2.1 t.2.2.2.2 l/\t.2.2.2.1.map CA=EU ln s (L.take j)/\t.2.2.2.2.map CA=CS ln s (L.take j))
   (j0:=0) (s0:=(h0,.slice none 0 0,.slice none 0 0,[],[])) (by simp[ft,CS]) rfl (AM _) ⟨hQ,⟨.nil _ _ _ _,.nil _ _ _ _,C,(λb f=>by cases f),.nil _ _⟩,rfl,rfl⟩ ?_
  rintro j ⟨h,zs,za,Ms,Ma⟩ X ⟨E,hf,O,ap⟩ a6 D;simp only at E hf O ap ⊢;refine jw ?_;refine br (hM.pre E) ?_;rw[hO];by_cases J:j<L.length
  case neg=>
   rw[aM (by omega)];refine jw ?_;obtain rfl:j=L.length:=by omega
   clear D J;rw[Ly]at O ap;have ax:Ms.length<=100:=by
    have:=congrArg List.length O;rw[AZ]at this;have h2:(EU ln s L).length<=L.length:=Vr _ _;omega
   have fn:Ma.length<=100:=by
    have:=congrArg List.length ap;rw[AZ]at this;have h2:(CS ln s L).length<=L.length:=by
     unfold CS;rw[AZ];exact Vr _ _
    omega
   have d0:∀a∈Ma,a.2.2.length<=100:=λa ha=>by
    have h1:CA a∈CS ln s L:=ap▸qaz.2 ⟨a,ha,rfl⟩;obtain⟨b,f,ds⟩:=qaz.1 h1;have h3:=(dn b (qaN.1 f).1).2;have h4:=congrArg (λx:zR=>x.2.length) ds;simp only[List.length_reverse]at h4;have:(CA a).2=a.2.2:=rfl;rw[this]at h4;omega
   refine aR (σ:=HL×Value×List Sk) Ma.length (λi t=>[.v t.2.1,.i (Int.ofNat i)]) (λ_ t=>t.1)
    (λi t=>Pre H t.1/\OwnL H.length t.1 t.2.1 4 Ac t.2.2/\OwnL H.length t.1 za 4 Ac Ma/\OwnL H.length t.1 zc 3 zz l/\(∀b,blk t.2.1=some b->blk za≠some b)/\Pcs H.length t.1 (t.2.2++Ma.drop i)/\t.2.2.map CA=((CS ln s L).take i).foldl (mrg o) (EU ln s L)/\t.2.2.length<=100+i/\∀q∈t.2.2,q.2.2.length<=100+100*i)
    (j0:=0) (s0:=(h,zs,Ms)) rfl rfl (AM _) ⟨E,hf.os,hf.oa,hf.oc,hf.ne,by simpa using hf.pc,by simpa using O,by simpa using ax,λq hq=>by
     have h1:CA q∈EU ln s L:=O▸qaz.2 ⟨q,hq,rfl⟩;exact(dn _ (qaN.1 h1).1).2⟩ ?_
   clear E hf O ax;rintro i ⟨h,zs,Ms⟩ R ⟨E,ay,a2,C,ar,V,O,ax,a5⟩ a6 D;simp only at E ay a2 C ar V O ax a5 ⊢;refine jw ?_;have bt:=a2.ls dj;have bx:=ay.ls dj;refine br bt ?_;by_cases J:i<Ma.length
   case neg=>
    rw[aM (by omega)];refine jw ?_;obtain rfl:i=Ma.length:=by omega
    clear D J;have h9:(CS ln s L).length=Ma.length:=by rw[←ap,AZ]
    rw[Cg (by omega)]at O;rw[List.drop_length,Ci]at V;have f0:0<Ms.length:=by
     have:=congrArg List.length O;rw[AZ]at this;rw[this];exact qbe.2 (SI (ln:=ln) (s:=s) (o:=o) (L:=L) λe=>by subst e;simp at hh)
    obtain⟨l4,h4,zS,c4,cd,ec,gv,g5⟩:=L3 (ZV bx) (by simpa using f0) (by rw[AZ];omega) (λt ht=>by
     obtain⟨q,hq,rfl⟩:=qaz.1 ht;exact(V.1 q hq).good aU)
    refine al c4 ?_;refine jw ?_;obtain⟨a7,cS,rfl⟩:=jr gv;have ec:=ls54 ec;have cA:=E.trans cd;obtain⟨i4,h5,c5,bd,d7⟩:=lj h3 (hl.pre cA) hv e0 (by omega) (r:=r) (aN hr (by omega));simp only[Al,Aw,Ap]at c5;refine al c5 ?_;rcases bd with⟨rfl,bI⟩|⟨G',T,el,rfl,B,rfl⟩
    ·exact absurd ⟨G,hG.g,hG.z⟩ bI
    refine jw ?_;have em:A8 w v G' r=A8 w v G r:=by
     unfold A8;refine DV λc hc=>?_;rw[qD hs el hG (qad.1 hc)]
    have a1:LsH (o3 h4 (A8 w v G r) B T) (.slice (some ⟨h4.length,0,pu 3⟩) (4*w*v) (4*w*v+1)) 3 tx (A8 w v G r):=cp bR KW (by simp[A8]);rw[em]at d7 ⊢;generalize ip:h4.length=bP at *;generalize o3 h4 (A8 w v G r) B T=h5 at *;have cC:=cA.trans d7;obtain⟨zP,h6,c6,d8,ih,U⟩:=xM h3 (hl.pre cC) hM.good hv e0 (by omega) hr hG;simp only[Al,Aw,Ap]at c6;refine al c6 ?_;refine jw ?_;have cD:=cC.trans d8;have bX:=d7.trans d8;have gl:=λp (E:p∈AJ w v l G r (4*w*v))=>kZ E;have im:=jV (w:=w) (v:=v) (l:=l) (G:=G) (r:=r) (n:=4*w*v);have a0:∀b,blk zc=some b->b≠bP:=λb f=>by
     have:=(C.blk f).2;have:=cd.len;omega
    have ct:OwnL H.length h6 zc 3 zz l:=C.keep λj d X _=>(cd.trans bX).get X;have cK:Pcs H.length h6 a7:=(V.keep λp _ j d X _=>(cd.trans bX).get X).perm cS;have dk:=ec.pre bX;have co:=a1.pre d8;unfold ID;generalize AJ w v l G r (4*w*v)=ps at *;generalize b5:ft ln s L r L.length=rt at *;clear c4 c5 c6 bx bt ay a2 ar C V hm el em;refine aR (σ:=HL×Value) ps.length (λj t=>[.i (Int.ofNat j),.i (.ofNat w),.i (.ofNat v),.v t.2,.i (Int.ofNat rt.1),.i rt.2.1,.i rt.2.2,.v zS]) (λ_ t=>t.1)
     (λj t=>Pre H t.1/\OwnL H.length t.1 t.2 3 zz (l++Bm w v (λa=>ae (G a) r) o ln (ps.take j))/\LsH t.1 zS 4 Ac a7/\Pcs H.length t.1 a7/\LsH t.1 zP 4 Jv ps/\LsH t.1 (.slice (some ⟨bP,0,pu 3⟩) (4*w*v) (4*w*v+1)) 3 tx (A8 w v G r)/\∀b,blk t.2=some b->b≠bP)
     (j0:=0) (s0:=(h6,zc)) rfl rfl (AM _) ⟨cD,by simpa[Bm]using ct,dk,cK,U,co,a0⟩ ?_
    clear cD ct dk cK U co a0;rintro j ⟨g,zc⟩ X ⟨b0,C,ag,af,U,a1,a0⟩ a6 D;simp only at b0 C ag af U a1 a0 ⊢;have iX:(Bm w v (λa=>ae (G a) r) o ln (ps.take j)).length<=j:=by
     unfold Bm;rw[AZ];refine EL (Vr _ _) ?_;rw[BN];omega
    have hz:(l++Bm w v (λa=>ae (G a) r) o ln (ps.take j)).length<=950:=by
     rw[A5];omega
    refine jw ?_;refine br U ?_;by_cases J:j<ps.length
    case neg=>
     obtain rfl:j=ps.length:=by omega
     rw[aM (zY _)];refine jw ?_;rw[Ly]at C hz;obtain⟨l8,h8,c8,gx,g6,gb,dD⟩:=KZ C (by omega);refine al c8 ?_;refine jw ?_;have hR:Pre H h8:=bG b0 λi d R ho=>dD i d ho λe=>by
      have:=(C.blk e).1;omega
     refine⟨zc,zS,l8,a7,by rw[←b5]<;>rfl,hR,gb.ls (λ_=>rfl),gx,g6,ag.keep λi d R f=>dD i d R λe=>DK (e:=3) (e':=4) (C.ls λ_=>rfl) ag (by decide) e f,af.keep λp E i d R f=>dD i d R λe=>aI C (af.1 p E) (by omega) e f,?_,?_⟩
     ·show(a7.map CA).Perm (List.foldl (mrg o) (EU ln s L) (CS ln s L));rw[←O];exact cS.map _
     ·have:=qbj.1 (show(a7.map λt:Sk=>((t.1,t.2.1):Dw)).Pairwise _ from g5);exact this
    rw[aJ J];refine jw ?_;obtain⟨p,E⟩:=aL J;obtain⟨d9,k,hk,go,bd,i1,i0⟩:=gl p (Af E);have a3:=HG (w:=w) (v:=v) (P:=λa=>ae (G a) r) (o:=o) (ln:=ln) E;refine bB (cs:=[.int .u8 (Int.ofNat p.2.2.1),.int .i64 p.2.2.2]) U rfl E rfl (by omega) ?_;refine jw ?_;refine xG (λex=>?_) (λar=>?_)
    case refine_2=>
     simp(disch:=omega)only[↓my,Cv];rw[aS (by omega)];refine D (g,zc) J ⟨b0,?_,ag,af,U,a1,a0⟩;rw[a3,po,Ci]
     ·exact C
     ·intro e;exact ar (by rw[e];exact⟨rfl,rfl⟩)
    simp(disch:=omega)only[↓my,Bs];have hT:p.2.2=ln:=DY (by exact Dn ex.1) ex.2;rw[mc hT]at a3;refine bB (cs:=[.int .i64 (Int.ofNat p.1)]) U rfl E rfl (by omega) ?_;refine jw ?_;have hS:(A8 w v G r)[p.1]?=some (ae (G p.1) r):=iA d9;refine bB (cs:=[.int .u8 (Int.ofNat (ae (G p.1) r).1)]) a1 rfl hS rfl (by omega) ?_;refine jw ?_;have ef:=Ju h3 d9 hk go;have ev:Js w v p.1 p.2.1=eK (p.1%4) k:=lK hs d9 (fq _ _) go;rw[←ev]at ef;have a4:∀kd:Int,kd=(if decide ((ae (G p.1) r).1<4)=o then 2 else 1)->∀z2 Q,OwnL H.length Q z2 3 zz ((l++Bm w v (λa=>ae (G a) r) o ln (ps.take j))++[((Int.ofNat p.1,Int.ofNat (Js w v p.1 p.2.1),kd):BJ)])->(∀(i:Nat) d,g[i]?=some d->blk zc≠some i->Q[i]?=some d)->(blk z2=blk zc∨∃i,blk z2=some i/\g.length<=i)->a6 [.i (Int.ofNat j+1),.i (.ofNat w),.i (.ofNat v),.v z2,.i (Int.ofNat rt.1),.i rt.2.1,.i rt.2.2,.v zS] Q:=by
     intro kd hI z2 Q F A ds;refine D (Q,z2) J ⟨bG b0 λi d R ho=>A i d ho λe=>by
      have:=(C.blk e).1;omega,?_,ag.keep λi d R f=>A i d R λe=>DK (e:=3) (e':=4) (C.ls λ_=>rfl) ag (by decide) e f,af.keep λp E i d R f=>A i d R λe=>aI C (af.1 p E) (by omega) e f,U.keep λi d R f=>A i d R λe=>DK (e:=3) (e':=4) (C.ls λ_=>rfl) U (by decide) e f,a1.keep λi d R f=>A i d R λe=>a0 i e ?_,λb f=>?_⟩
     ·rw[a3,←AN];have:Jl w v (λa=>ae (G a) r) o p=(Int.ofNat p.1,Int.ofNat (Js w v p.1 p.2.1),kd):=by
       unfold Jl;rw[hI]
      rw[this];exact F
     ·have:bP=i:=by simpa[blk]using f
      exact this.symm
     ·simp only at f;rcases ds with e|⟨i,e,cb⟩
      ·exact a0 b (e▸f)
      ·rw[e]at f;cases f;have:=a1.blkLt (i:=bP) rfl;omega
    by_cases g7:(ae (G p.1) r).1<4
    case' pos=>rw[zV (show Int.ofNat (ae (G p.1) r).1<4 by show((ae (G p.1) r).1:Int)<4;omega)]
    case' neg=>rw[zQ (show(4:Int)<=Int.ofNat (ae (G p.1) r).1 by show(4:Int)<=((ae (G p.1) r).1:Int);omega)]
    case' pos=>have hd:=Bp g7
    case' neg=>have hd:=BV g7
    all_goals
     rw[hd]at a4;cases o
    all_goals
     try rw[DS rfl]
     simp(disch:=omega)only[↓my,Bs,Cv];refine bB (cs:=[.int .i64 (Int.ofNat p.1)]) U rfl E rfl (by omega) ?_;refine jw ?_;refine bB (cs:=[.int .i64 (Int.ofNat p.1)]) U rfl E rfl (by omega) ?_;refine jw ?_;refine bB (cs:=[.int .i64 (Int.ofNat p.2.1)]) U rfl E rfl (by omega) ?_;refine jw ?_;refine ai ef ?_;refine jw ?_;refine C.ap1 (a:=((Int.ofNat p.1,Int.ofNat (Js w v p.1 p.2.1),_):BJ)) (λ_=>rfl) (by have:=b0.len;omega) rfl rfl rfl (by
      unfold bh;rw[Be (by omega),Be (by omega)];rfl) ?_
     intro z2 Q F Y A ad I;refine jw ?_;refine ac Y ?_;refine qs ?_;rw[aS (by omega)];exact a4 _ rfl z2 Q F A I
   rw[aJ J];refine jw ?_;obtain⟨a,ha⟩:=aL J;have dB:Ma.drop i=a :: Ma.drop (i+1):=by
    rw[MO J]
    congr 1
    rw[A4 J]at ha;exact AD ha
   have hg:(CS ln s L)[i]?=some (CA a):=by
    rw[←ap,AU,ha];rfl
   have be:((CS ln s L).take (i+1)).foldl (mrg o) (EU ln s L)=mrg o (Ms.map CA) (CA a):=by
    rw[Dm,hg,qcM,←O];rfl
   rw[dB]at V;have dr:=d0 a (Af ha);refine aR (σ:=HL×List Sk×Bool) Ms.length (λk t=>[.b t.2.2,.i (Int.ofNat k)]) (λ_ t=>t.1)
    (λk t=>(t.2.2=false/\t.1=h/\t.2.1=Ms/\∀j,j<k->∀q,Ms[j]?=some q->q.1≠a.1)∨(t.2.2=true/\Pre H t.1/\OwnL H.length t.1 zs 4 Ac t.2.1/\OwnL H.length t.1 za 4 Ac Ma/\OwnL H.length t.1 zc 3 zz l/\Pcs H.length t.1 (t.2.1++Ma.drop (i+1))/\t.2.1.map CA=mrg o (Ms.map CA) (CA a)/\t.2.1.length=Ms.length/\∀q∈t.2.1,q.2.2.length<=100+100*(i+1)))
    (j0:=0) (s0:=(h,Ms,false)) rfl rfl (AM _) (.inl ⟨rfl,rfl,rfl,λj X=>by omega⟩) ?_
   rintro k ⟨g,M2,fd⟩ hk cn b6 S;simp only at cn ⊢;refine jw ?_;rcases cn with⟨rfl,rfl,rfl,bI⟩|⟨rfl,W,cy,f5,ga,gs,f1,ia,fu⟩
   case inr=>
    refine br (cy.ls dj) ?_;have a4:a6 [.v zs,.i (Int.ofNat i+1)] g:=D (g,zs,M2) J ⟨W,cy,f5,ga,ar,gs,by rw[be];exact f1,by show M2.length<=_;omega,fu⟩;refine vQ (λ_=>?_) (λ_=>?_)
    all_goals
     simp(disch:=omega)only[↓my,Bs];rw[aS (by omega)];exact a4
   refine br bx ?_;by_cases an:k<M2.length
   case neg=>
    rw[aM (by omega)];simp(disch:=omega)only[↓my,Cv];have b9:=V.1 a (qas.2 (.inr Ch));have b8:=b9.good aU;refine aQ bt rfl ha ?_;rw[show Ac a=[.int .i64 a.1.1,.int .i64 a.1.2.1,.int .u8 (Int.ofNat a.1.2.2),a.2.1]from rfl];refine jw ?_;refine ac b8 ?_;refine qs ?_;refine ay.ap1 (a:=a) dj (by have:=E.len;omega) rfl rfl rfl (by
     unfold bh;rw[Be (by omega),Be (by omega)];rfl) ?_
    intro z2 Q F Y A ad I;refine jw ?_;refine ac Y ?_;refine qs ?_;rw[aS (by omega)];have bd:=E.len;refine D (Q,z2,M2++[a]) J ⟨bG E λj d X ho=>A j d ho λe=>by
     have:=(ay.blk e).1;omega,F,a2.keep λj d X f=>A j d X λe=>ar j e f,C.keep λj d X f=>A j d X λe=>aI ay C (by omega) e f,λb f a8=>?_,?_,?_,by rw[A5];simp;omega,λq hq=>?_⟩
    ·rcases I with e|⟨j,e,cb⟩
     ·exact ar b (e▸f) a8
     ·simp only at f;rw[e]at f;cases f;have:=(a2.blk a8).2;omega
    ·rw[AN];exact V.keep λp E j d X f=>A j d X λe=>aI ay (V.1 p E) (by omega) e f
    ·rw[be,xr]
     ·rw[Cw];rfl
     ·intro j t ht;rw[AU]at ht;cases hx:M2[j]? with
      |none=>rw[hx]at ht;cases ht
      |some q=>
       rw[hx]at ht;cases ht;exact bI j (by have:=aq hx;omega) q hx
    ·rcases qas.1 hq with hq|hq
     ·have:=a5 q hq;omega
     ·rw[qav]at hq;subst hq;omega
   rw[aJ an];simp(disch:=omega)only[↓my,Cv];obtain⟨q,hq⟩:=aL an;refine bB (cs:=[.int .i64 q.1.1,.int .i64 q.1.2.1,.int .u8 (Int.ofNat q.1.2.2)]) bx rfl hq rfl (by omega) ?_;refine jw ?_;refine bB (cs:=[.int .i64 a.1.1,.int .i64 a.1.2.1,.int .u8 (Int.ofNat a.1.2.2)]) bt rfl ha rfl (by omega) ?_;refine jw ?_;rw[G9];by_cases he:q.1=a.1
   case neg=>
    rw[BV he];simp(disch:=omega)only[↓my,Cv];rw[aS (by omega)];exact S (g,M2,false) an (.inl ⟨rfl,rfl,rfl,λj X t ht=>by
     by_cases e:j=k
     ·subst e;rw[hq]at ht;cases ht;exact he
     ·exact bI j (by omega) t ht⟩)
   rw[Bp he];simp(disch:=omega)only[↓my,Bs];have g0:=Af hq;have ea:=V.1 q (qas.2 (.inl g0));have b9:=V.1 a (qas.2 (.inr Ch));have gy:=ea.good aU;have b8:=b9.good aU;have dr:=b9.ls aU;have ib:=a5 q g0;have bd:=E.len;have ci:∀(id cx:Nat) (v':Value) (Q:HL) (bm:Tx),zs = .slice (some ⟨id,0,pu 4⟩) M2.length cx->H.length<=id->g[id]?=some (.o (.cells (M2.flatMap Ac) 4 true))->(cx=0∨cx=M2.length+1)->OwnL H.length Q v' 1 km bm->(∀(j:Nat) d,g[j]?=some d->blk q.2.1≠some j->Q[j]?=some d)->(∀b,blk v'=some b->blk q.2.1=some b∨g.length<=b)->bm=(if o then q.2.2++a.2.2 else a.2.2++q.2.2)->
     Q[id]?=some (.o (.cells (M2.flatMap Ac) 4 true))/\b6 [.b true,.i (Int.ofNat k+1)] (td Q id 4 Ac (M2.set k (q.1,v',bm))):=by
    intro id cx v' Q bm c1 c2 c3 c4 c5 c6 c7 c8;obtain⟨d1,d2,d3,d4,d5,d6⟩:=stp (Mr:=Ma.drop (i+1)) (a:=a) c1 c2 c3 c4 a2 C (λe=>ar id (by rw[c1];rfl) e) V hq c5 c6 c7;refine⟨d1,S (_,M2.set k (q.1,v',bm),true) an (.inr ⟨rfl,bG E d6,d2,d3,d4,d5,?_,by simp,λt ht=>?_⟩)⟩
    ·rw[LC,FT (a:=CA a) (x:=CA q) (k:=k) (by rw[AU,hq];rfl) he,c8]
     ·rfl
     ·intro j X t ht;rw[AU]at ht;cases hx:M2[j]? with
      |none=>rw[hx]at ht;cases ht
      |some q'=>
       rw[hx]at ht;cases ht;exact bI j X q' hx
    ·rcases Rw ht with ht|ht
     ·have:=a5 t ht;omega
     ·subst ht;show bm.length<=_;rw[c8];split<;>rw[A5]<;>omega
   obtain⟨id,cx,hV,cl,hid,eu⟩ : ∃id cx,zs = .slice (some ⟨id,0,pu 4⟩) M2.length cx/\H.length<=id/\g[id]?=some (.o (.cells (M2.flatMap Ac) 4 true))/\(cx=0∨cx=M2.length+1):=by
    rcases ay with⟨_,e⟩|h
    ·subst e;simp at an
    ·exact h
   subst hV;cases o with
   |true=>
    refine jw ?_;refine bB (cs:=[q.2.1]) bx rfl hq rfl (by omega) ?_;refine jw ?_;refine ac gy ?_;refine qs ?_;refine bB (cs:=[a.2.1]) bt rfl ha rfl (by omega) ?_;refine jw ?_;refine ac b8 ?_;refine qs ?_;refine ea.apL aU bd dr (by omega) (by omega) ?_;intro v' Q F Y A ad I;obtain⟨d1,d2⟩:=ci id cx v' Q _ rfl cl hid eu F A (λb f=>I.elim (λe=>.inl (e▸f)) λ⟨j,e,cb⟩=>.inr (by rw[f]at e;cases e;exact cb)) rfl;refine jw ?_;refine ac Y ?_;refine qs ?_;refine Gc (a':=((q.1,v',q.2.2++a.2.2):Sk)) dj d1 rfl hq rfl (by simp) rfl ?_;refine jw ?_;rw[aS (by omega)];exact d2
   |false=>
    refine jw ?_;obtain⟨hW,g9,g8,hD,ck,_⟩ : ∃id cx,za = .slice (some ⟨id,0,pu 4⟩) Ma.length cx/\H.length<=id/\g[id]?=some (.o (.cells (Ma.flatMap Ac) 4 true))/\(cx=0∨cx=Ma.length+1):=by
     rcases a2 with⟨_,e⟩|h
     ·subst e;simp at J
     ·exact h
    have ix:id≠hW:=λe=>ar id rfl (by rw[g8,e];rfl);subst g8;have iv:=aq hid;have h7:=aq ck;have ca:Pre g (g++[HO.o (.cells [] 1 true)]):=⟨_,rfl⟩;obtain⟨w1,w2,w3⟩:=K2 (o:=3) (k:=1) (cx:=g9) (n:=Ma.length) dj (ca.get ck) ha rfl (by omega);refine ah w1 (ah w2 (ac (cM _ _) ?_));refine cQ w3 rfl ?_;rw[show((Ac a).drop 3).take 1=[a.2.1]from rfl];refine jw ?_;refine ac b8 ?_;refine qs ?_;have hB:OwnL (α:=Nat) H.length (g++[HO.o (.cells [] 1 true)]) (.slice (some ⟨g.length,0,pu 1⟩) 0 1) 1 km []:=OwnL.emp aA bd;refine hB.apL aU (by simp;omega) (dr.pre ca) (by simp;omega) (by simp;omega) ?_;intro v1 Q F eA A ad I;rw[Ap]at F;have bs:∀(j:Nat) d,g[j]?=some d->Q[j]?=some d:=λj d X=>A j d (ji X) λe=>by
     have e':g.length=j:=by simpa[blk]using e
     have:=aq X;omega
    have Z:Pre g Q:=EI bs;refine jw ?_;refine ac eA ?_;refine qs ?_;obtain⟨u1,u2,u3⟩:=K2 (o:=3) (k:=1) (cx:=cx) (n:=M2.length) dj (bs _ _ hid) hq rfl (by omega);refine ah u1 (ah u2 (ac (cM _ _) ?_));refine cQ u3 rfl ?_;rw[show((Ac q).drop 3).take 1=[q.2.1]from rfl];refine jw ?_;refine ac gy ?_;refine qs ?_;refine F.apL aU (by have:=Z.len;omega) ((ea.ls aU).pre Z) (by omega) (by omega) ?_;intro v2 g3 hP eB hH hZ es;have eb:∀b,blk v1=some b->g.length<=b:=λb f=>by
     rcases I with e|⟨j,e,e'⟩
     ·rw[f]at e;have:b=g.length:=by simpa[blk]using e
      omega
     ·rw[f]at e;cases e;simp at e';omega
    have e5:∀(j:Nat) d,g[j]?=some d->g3[j]?=some d:=λj d X=>hH j d (bs j d X) λe=>by
     have:=eb j e;have:=aq X;omega
    have hy:∀b,blk v2=some b->blk q.2.1=some b∨g.length<=b:=λb f=>by
     rcases es with e'|⟨j,e',cb⟩
     ·exact .inr (eb b (e'▸f))
     ·rw[f]at e';cases e';exact .inr (by have:=Z.len;omega)
    obtain⟨d1,d2⟩:=ci id cx v2 g3 _ rfl cl hid eu hP (λj d X _=>e5 j d X) hy rfl;refine jw ?_;refine ac eB ?_;refine qs ?_;refine Gc (a':=((q.1,v2,a.2.2++q.2.2):Sk)) dj d1 rfl hq rfl (by simp) rfl ?_;refine qs ?_;have hX:=jP (F.ls aU);have n1:∀b,g.length≠id:=λ_=>by omega
    refine ah (x:=()) (by
     refine sL (rn ⟨_,_,_,rfl⟩ λi R=>?_) (sL (rn ⟨_,_,_,rfl⟩ λi R=>?_) (sL (rn ⟨_,_,_,rfl⟩ λi R=>?_) (sL (rn hX λi R=>?_) lA)))
     ·have e:g.length=i:=by simpa[blk]using R
      omega
     ·have e:g.length=i:=by simpa[blk]using R
      omega
     ·have e:g.length=i:=by simpa[blk]using R
      omega
     ·have:=eb i R;omega) ?_
    refine qs ?_;rw[aS (by omega)];exact d2
  rw[aJ J];refine jw ?_;obtain⟨⟨c,y⟩,fr⟩:=aL (l:=M) (i:=j) (by omega);obtain⟨N,b7,bl⟩:=hm j _ fr;simp only at b7 bl;have et:=Af b7;have dA:=hu _ et;have cr:=dn _ et;simp only at dA cr;have ax:Ms.length<=100:=by
   have:=congrArg List.length O;rw[AZ]at this;have h2:(EU ln s (L.take j)).length<=(L.take j).length:=Vr _ _;rw[BN]at h2;omega
  have fn:Ma.length<=100:=by
   have:=congrArg List.length ap;rw[AZ]at this;have h2:(CS ln s (L.take j)).length<=(L.take j).length:=by
    unfold CS;rw[AZ];exact Vr _ _
   rw[BN]at h2;omega
  have dT:=E.len;have hU:=bl.good;refine aQ (hM.pre E) rfl fr ?_;rw[show Ao (c,y)=[.int .i64 c.1,.int .i64 c.2.1,.int .u8 (Int.ofNat c.2.2),y]from rfl];refine jw ?_;refine ac hU ?_;refine qs ?_;have ei:=LU (l:=ln) (c:=c) fb (by omega) dA.1 (by omega);simp only[Ab,Aw,Ap]at ei;refine ai ei ?_;refine jw ?_;have e1:=Mi (ln:=ln) (s:=s) b7;have e2:=IP (ln:=ln) (s:=s) b7;have g4:(if dg ln c then(1:Int)else 0)=(if s then 1 else 0)↔dg ln c=s:=by
   cases dg ln c<;>cases s<;>simp
  have i2:Pre H h:=E;by_cases aE:dg ln c=s
  case neg=>
   rw[AR (λe=>aE (g4.1 e))];refine jw ?_;have he:OwnL (α:=Nat) H.length (h++[HO.o (.cells [] 1 true)]) (.slice (some ⟨h.length,0,pu 1⟩) 0 1) 1 km []:=OwnL.emp aA dT;refine he.apL aU (by simp;omega) (bl.pre (E.app _)) (by simp;omega) (by simp;omega) ?_;intro y1 g1 f4 ca hF fa en;rw[Ap]at f4;have hJ:∀(i:Nat) d,h[i]?=some d->g1[i]?=some d:=λi d R=>hF i d (ji R) λe=>by
    have:h.length=i:=by simpa[blk]using e
    have:=aq R;omega
   have W:Pre h g1:=EI hJ;refine jw ?_;refine ac ca ?_;refine qs ?_;have bn:=hf.pre W;refine bn.os.ap1 (a:=((c,y1,N):Sk)) dj (by simp at fa;omega) rfl rfl rfl (by
    unfold bh;rw[Be (by omega),Be (by omega)];rfl) ?_
   intro z2 Q F Y A ad I;have hw:∀b,blk y1=some b->h.length<=b:=λb f=>by
    rcases en with e|⟨i,e,e'⟩
    ·rw[f]at e;have:b=h.length:=by simpa[blk]using e
     omega
    ·rw[f]at e;cases e;simp at e';omega
   have dC:=bn.apS (c:=c) f4 (λp E b f a8=>by
    have k1:=hw b f;have k2:=((hf.pc.1 p E).blk a8).2;omega) F A I
   have Z:Pre H Q:=bG (E.trans W) λi d R ho=>A i d ho λe=>by
    have:=(hf.os.blk e).1;omega
   refine jw ?_;refine ac Y ?_;refine qs ?_;rw[aS (by omega)];have b5:ft ln s L r j=ft ln s L r (j+1):=by
    unfold ft;rw[e2,po aE,Ci]
   rw[b5];exact D (Q,z2,za,Ms++[(c,y1,N)],Ma) J ⟨Z,dC,by
    rw[Cw,O,e1,po aE];rfl,by rw[ap,e2,po aE,Ci]⟩
  rw[Aj (g4.2 aE)];refine jw ?_;refine br (bl.pre E) ?_;have it:0<N.length:=qbe.2 cr.1;refine qs ?_;rw[F4 (by show -9223372036854775808<=(N.length:Int) - 1;omega) (by show(N.length:Int) - 1<=9223372036854775807;omega)];refine qs ?_;refine aR (σ:=HL×Value) N.length (λk t=>[.v t.2,.i ((N.length:Int) - 1 - (k:Int)),.i (.ofNat w),.i (.ofNat v),.v zc,.i (Int.ofNat (if 0∈N.reverse.take k then ae r m else ft ln s L r j).1),.i (if 0∈N.reverse.take k then ae r m else ft ln s L r j).2.1,.i (if 0∈N.reverse.take k then ae r m else ft ln s L r j).2.2,.v (.slice none 0 0)]) (λ_ t=>t.1)
   (λk t=>Pre h t.1/\OwnL h.length t.1 t.2 1 km (N.reverse.take k)) (j0:=0) (s0:=(h,.slice none 0 0)) (by simp) rfl (AM _) ⟨.refl _,.nil _ _ _ _⟩ ?_
  rintro k ⟨g,u⟩ hk ⟨W,a9⟩ b6 S;simp only at W a9 ⊢;refine jw ?_;by_cases an:k<N.length
  case pos=>
   rw[Ca (show(0:Int)<=(N.length:Int) - 1 - (k:Int)by omega)];refine jw ?_;obtain⟨id,hid⟩:=aL (l:=N) (i:=N.length - 1 - k) (by omega);have eL:N.reverse[k]?=some id:=by rw[List.getElem?_reverse an];exact hid
   have be:N.reverse.take (k+1)=N.reverse.take k++[id]:=by rw[Dm,eL];rfl
   have c0:(N.length:Int) - 1 - (k:Int)=Int.ofNat (N.length - 1 - k):=by
    show _=((N.length - 1 - k:Nat):Int);omega
   refine aQ ((bl.pre E).pre W) c0 hid ?_;rw[show km id=[.int .i64 (Int.ofNat id)]from rfl];refine jw ?_;refine a9.ap1 (a:=id) aU W.len rfl rfl rfl (by
    unfold bh;rw[BN,Be (by omega),Be (by omega)];rfl) ?_
   intro u2 Q F Y A ad I;have Z:Pre h Q:=bG W λi d R ho=>A i d ho λe=>by
    have:=(a9.blk e).1;omega
   refine jw ?_;refine ac Y ?_;refine qs ?_;refine aQ ((bl.pre E).pre Z) c0 hid ?_;rw[show km id=[.int .i64 (Int.ofNat id)]from rfl];refine jw ?_;rw[←be]at F;have f2:(N.length:Int) - 1 - (k:Int) - 1=(N.length:Int) - 1 - ((k+1:Nat):Int):=by omega
   by_cases h0:id=0
   ·subst h0;rw[zT (show Int.ofNat 0=0 from rfl)];refine jw ?_;refine ai cf ?_;refine jw ?_;rw[f2];have:=S (Q,u2) an ⟨Z,F⟩;simp only at this;rw[mc (by rw[be];simp)]at this;exact this
   ·rw[zO (show ¬Int.ofNat id=0 from λe=>h0 (by exact Dn e))];refine jw ?_;rw[f2];have:=S (Q,u2) an ⟨Z,F⟩;simp only at this;have hE:0∈N.reverse.take (k+1)↔0∈N.reverse.take k:=by
     rw[be,qas,qav];exact⟨λh=>h.elim (λh=>h) λh=>absurd h.symm h0,.inl⟩
    rw[ite_cond_congr (propext hE)]at this;exact this
  obtain rfl:k=N.length:=by omega
  rw[AY (show(N.length:Int) - 1 - (N.length:Int)<0 by omega)];refine jw ?_;rw[Cg (by simp)]at a9 ⊢;have eg:=jK (m:=m) (c:=c) bS.1 (by obtain⟨_,q1,q2,q3,q4,_⟩:=bS;omega) dA.1 (by omega);simp only[Ab,Al,Aw,Ap]at eg;refine ai eg ?_;refine jw ?_;have bn:=(hf.pre W).symm;refine bn.os.ap1 (a:=((am m c,u,N.reverse):Sk)) dj (by have:=W.len;omega) rfl rfl rfl (by
   unfold bh;rw[Be (by omega),Be (by omega)];rfl) ?_
  intro z2 Q F Y A ad I;have gd:OwnL H.length g u 1 km N.reverse:=by
   rcases a9 with e|⟨id,cx,e1,e2,e3⟩
   ·exact .inl e
   ·exact .inr ⟨id,cx,e1,by omega,e3⟩
  have dC:=(bn.apS (c:=am m c) gd (λp E b f a8=>by
   have k1:=(a9.blk f).1;have k2:=((hf.symm.pc.1 p E).blk a8).2;omega) F A I).symm
  have Z:Pre H Q:=bG (E.trans W) λi d R ho=>A i d ho λe=>by
   have:=(hf.oa.blk e).1;omega
  refine jw ?_;refine ac Y ?_;refine qs ?_;rw[aS (by omega)];have b5:(if 0∈N.reverse then ae r m else ft ln s L r j)=ft ln s L r (j+1):=by
   unfold ft;rw[e2,mc aE,MK,fs];simp only[C2,List.flatMap_nil,Ci,qas,List.mem_reverse];by_cases q1:0∈N<;>by_cases q2:0∈(CS ln s (L.take j)).flatMap Prod.snd<;>simp[q1,q2]
  rw[b5];exact D (Q,zs,z2,Ms,Ma++[(am m c,u,N.reverse)]) J ⟨Z,dC,by rw[O,e1,mc aE,Ci],by
   rw[Cw,ap,e2,mc aE,fs];rfl⟩)
def Jj{w v:Nat}(a:S3 w v){l:Ty}{G:TC}(o:nc w v l G)(q:G 0=AG):ConsO w v l G:=by
 have p:=a.sh;have m:∀(d c:Nat),c<4*w*v->dst w c=d->Av (20*(d:Int)) (G c):=by
  intro d
  induction d using Nat.strongRecOn with
  |_ d x=>
   intro c h u;have f:=qab.1 (MZ w v a.1 a.2.1 a.2.2.1 a.2.2.2) c (qad.2 h);unfold Ij at f;rw[uc,Ck]at f;rcases f.2 with s|t
   ·obtain rfl:=AE s;rw[q];exact xA (by omega)
   ·obtain⟨e,i,g⟩:=qcm.1 t;have i:=qad.1 i;cases k:Aa w v c e with
    |none=>rw[k]at g;cases g
    |some n=>
     rw[k]at g;have g:=AE g;obtain⟨b,j,_⟩:=dI p h i k;have r:=x (dst w n) (by omega) n b rfl;rw[o n e c b i j];exact aN (wy p b i j r (by omega)) (by omega)
 refine⟨o,q,λc h=>?_⟩;have f:=qab.1 (MZ w v a.1 a.2.1 a.2.2.1 a.2.2.2) c (qad.2 h);unfold Ij at f;rw[uc]at f;have u:=qde f.1;exact aN (m _ c h rfl) (by omega)
def Kx{l:Ty}(h:Cn l)(d:(l.map bD).Nodup):l.Pairwise λa b=>Da a b=true:=by
 have g:l.Pairwise λa b=>bD a≠bD b:=qbj.1 d;refine(List.Pairwise.and h g).imp λ{a b} c=>?_;obtain⟨f,i⟩:=c;have f:=yM.1 f;unfold Da;rw[Ck,uc];simp only[BF];have j:¬(a.1=b.1/\a.2.1=b.2.1):=λe=>i (by unfold bD;rw[e.1,e.2]);omega
structure FSt(w v:Nat)(k:Int)(l:Ty)(r:Mv)(G:TC)(L:List zR):Prop where
 vk:∀c∈l,VK w v c
 so:l.Pairwise λa b=>Da a b=true
 co:ConsO w v l G
 rk:Av k r
 st:StJ (λc=>am (ae (G c) r) (sd w c)) (List.range (4*w*v)) L
 ss:L.Pairwise λa b=>AO b.1 a.1=true
def VK.k0{w v:Nat}{c:BJ}(h:VK w v c):c.2.2≠0:=by have:=h.2;omega
def Ux{w v:Nat}(y:Sh w v){l:Ty}{G:TC}{r:Mv}:(AJ w v l G r (4*w*v)).Pairwise λp q=>¬(p.1=q.1/\p.2.1=q.2.1):=by
 unfold AJ;rw[qdc];have m:∀a p,p∈Lg w v l G r a->p.1=a/\∃k,k<3/\Bz w v l G r a k=some p:=λa p e=>by
  obtain⟨k,D,c⟩:=qaG.1 e;refine⟨?_,k,qad.1 D,c⟩;unfold Bz at c;split at c
  ·split at c
   ·cases c;rfl
   ·cases c
  ·cases c
 refine⟨λa n=>?_,?_⟩
 ·have n:=qad.1 n;unfold Lg;rw[UI];have u:(List.range 3).Pairwise λi j=>i<j:=Rt;refine(qdb.1 u).imp λ{i j} s=>?_;obtain⟨o,t,E⟩:=s;have o:=qad.1 o;have t:=qad.1 t;intro p e q g f;have e:Bz w v l G r a i=some p:=e;have g:Bz w v l G r a j=some q:=g;have d:∀k p,Bz w v l G r a k=some p->Aa w v a (eK (a%4) k)=some p.2.1:=λk p h=>by
   unfold Bz at h;cases z:Aa w v a (eK (a%4) k)with
   |none=>rw[z]at h;cases h
   |some b=>
    rw[z]at h;simp only at h;split at h
    ·cases h;rfl
    ·cases h
  have x:=d i p e;have c:=d j q g;rw[f.2]at x;have A:=lK y n (fq _ _) x;have B:=lK y n (fq _ _) c;have e3:eK (a%4) i=eK (a%4) j:=A.symm.trans B;have:i=j:=by rw[←md (q:=a%4) o,e3,md t]
  omega
 ·have u:(List.range (4*w*v)).Pairwise λi j=>i<j:=Rt;refine u.imp λ{a b} C p e q g f=>?_;have:=(m a p e).1;have:=(m b q g).1;omega
def Q5{w v:Nat}(g:S3 w v){k:Int}{l:Ty}{r:Mv}{G:TC}(h:ConsO w v l G)(q:Av k r){p:Io}(j:p∈AJ w v l G r (4*w*v)):(1<=p.2.2.1/\p.2.2.1<=4)/\-(2*k+32)<=p.2.2.2/\p.2.2.2<=2*k+32/\Av (2*k+32) (Bb p.2.2):=by
 obtain⟨b,i,s,m,o,n,a⟩:=kZ j;have f:eT (ae (G p.1) r).1 (eK (p.1%4) i)<3:=kJ (fq _ _);have d:=Kq (c:=am (ae (G p.1) r) (sd w p.1)) (e:=eT (ae (G p.1) r).1 (eK (p.1%4) i)) gI f (rO g h q b);rw[←a]at d;refine⟨by rw[a];exact FH gI f,by omega,by omega,aN d.1 (by omega)⟩
def Kg{w v:Nat}{l:Ty}{u k n:Nat}(b:Aa w v u (eK (u%4) k)=some n)(a:u<n):CH w v l u k=B6 l u (eK (u%4) k):=by
 unfold CH;rw[b];simp only;rw[C1 (by omega)]
def FSt.keys{w v:Nat}(M:S3 w v){k:Int}{l:Ty}{r:Mv}{G:TC}{L:List zR}(h:FSt w v k l r G L){ln:Ln}{o:Bool}{u e n:Nat}(J:u<4*w*v)(H:e<3)(D:Aa w v u e=some n)(s:u<n) :
  ((Int.ofNat u,Int.ofNat e):Ku)∈(Bm w v (λa=>ae (G a) r) o ln (AJ w v l G r (4*w*v))).map bD↔(AW l u e=false/\ua (am (ae (G u) r) (sd w u)) (eT (ae (G u) r).1 e)=ln):=by
 have I:=M.sh;have j:∀c∈l,c.2.2≠0:=λc A=>(h.vk c A).k0;constructor
 ·intro O;obtain⟨c,A,b⟩:=qaz.1 O;unfold Bm at A;obtain⟨p,t,rfl⟩:=qaz.1 A;obtain⟨t,m⟩:=qaN.1 t;have m:=of_decide_eq_true m;obtain⟨F,i,P,y,z,f,x⟩:=kZ t;have C:=lK I F (fq _ _) y;unfold bD Jl at b;simp only[Pz]at b;have B:p.1=u:=Dn b.1;have q:Js w v p.1 p.2.1=e:=Dn b.2;rw[C]at q;subst B;rw[q]at x;refine⟨?_,x.symm.trans m⟩;rw[←Cz,←lQ j];intro E;rw[Kg y z,q]at f;exact E f
 ·rintro⟨d,N⟩;have g:eK (u%4) (eK (u%4) e)=e:=md H;have f:Bz w v l G r u (eK (u%4) e)=some (u,n,ln):=by
   unfold Bz;rw[g,D];simp only;have K:CH w v l u (eK (u%4) e)=0:=by
    rw[Kg (n:=n) (by rw[g];exact D) s,g];rcases Int.lt_or_le 0 (B6 l u e)with B|B
    ·have:=(lQ (l:=l) j (u:=u) (e:=e)).1 (by omega);rw[this]at d;cases d
    ·rcases Int.lt_or_le (B6 l u e) 0 with q|q
     ·have:=(lQ (l:=l) j (u:=u) (e:=e)).1 (by omega);rw[this]at d;cases d
     ·omega
   rw[mc ⟨s,K⟩,N]
  have t:((u,n,ln):Io)∈AJ w v l G r (4*w*v):=by
   unfold AJ;exact qa1.2 ⟨u,qad.2 J,qaG.2 ⟨eK (u%4) e,qad.2 (fq _ _),f⟩⟩
  refine qaz.2 ⟨Jl w v (λa=>ae (G a) r) o (u,n,ln),?_,?_⟩
  ·unfold Bm;exact qaz.2 ⟨_,qaN.2 ⟨t,Bp rfl⟩,rfl⟩
  ·unfold bD Jl;simp only;rw[lK I J H D]
def nX{a b:Cl}(h:AO a b=false)(c:a≠b):AO b a=true:=by
 have h:=yN.1 h;refine yO.2 ?_;obtain⟨x,y,q⟩:=a;obtain⟨f,g,d⟩:=b;simp only at h ⊢;have i:¬(x=f/\y=g/\q=d):=λe=>c (by rw[e.1,e.2.1,e.2.2]);omega
def FSt.fold{w v:Nat}(K:S3 w v){k:Int}(hk:0<=k){l:Ty}{r:Mv}{G:TC}{L:List zR}(h:FSt w v k l r G L){ln:Ln}{s o:Bool}(ad:∃p∈AJ w v l G r (4*w*v),p.2.2=ln)
  {l':Ty} (t:l'.Perm (l++Bm w v (λa=>ae (G a) r) o ln (AJ w v l G r (4*w*v)))) (a0:Cn l') {U:List zR} (P:U.Perm (He ln s o L)) (ay:U.Pairwise λa b=>AO a.1 b.1=false) :
  FSt w v (3*k+32) l' (ft ln s L r L.length) (MF w ln s G r) U:=by
 have I:=K.sh;obtain⟨p0,an,R⟩:=ad;have Y:=Q5 K h.co h.rk an;rw[R]at Y;have O:=Y.2.2.2;have X:∀c,c<4*w*v->(G c).1<8:=λc d=>(h.co.ok c d).1;have m:=Hm (l':=l') I h.co.g X h.rk.1 Y.1 (s:=s) λu e n hu he hn H=>by
  have h1:=h.keys K (ln:=ln) (o:=o) hu he hn H;rw[show AW l' u e=decide (((Int.ofNat u,Int.ofNat e):Ku)∈l'.map bD)from rfl,BF,(t.map bD).mem_iff,Cw,qas,h1];rw[show(AW l u e=true)=(((Int.ofNat u,Int.ofNat e):Ku)∈l.map bD)by unfold AW;rw[BF]]
 have Z:=Jj K m.1 m.2;have hN:0<4*w*v:=(Bj I).1;have ax:ft ln s L r L.length=C5 ln s (ae (G 0) r) (sd w 0):=by
  unfold ft C5;rw[Ly,h.co.z,jJ h.rk.1];have B:0∈(CS ln s L).flatMap Prod.snd↔dg ln (am r (sd w 0))=s:=by
   have C:∀x∈L,∀c∈x.2,c=0->x.1=am r (sd w 0):=λx E c d J=>by
    have:=h.st.at' x E c d;simp only[J,h.co.z]at this;rw[jJ h.rk.1]at this;exact this.symm
   constructor
   ·intro hm;obtain⟨a,V,J⟩:=qa1.1 hm;obtain⟨x,E,rfl⟩:=qaz.1 V;obtain⟨E,a2⟩:=qaN.1 E;have A:0∈x.2:=by simpa using J
    rw[←C x E 0 A rfl];exact of_decide_eq_true a2
   ·intro aE;have J:0∈L.flatMap Prod.snd:=h.st.pm.mem_iff.2 (qad.2 hN);obtain⟨x,E,A⟩:=qa1.1 J;refine qa1.2 ⟨(am (Bb ln) x.1,x.2.reverse),qaz.2 ⟨x,qaN.2 ⟨E,Bp ?_⟩,rfl⟩,by simpa using A⟩;rw[C x E 0 A rfl];exact aE
  by_cases d:dg ln (am r (sd w 0))=s
  ·rw[mc (B.2 d),mc d]
  ·rw[po (λe=>d (B.1 e)),po d]
 have a1:StJ (λc=>am (ae (MF w ln s G r c) (ft ln s L r L.length)) (sd w c)) (List.range (4*w*v)) (He ln s o L):=h.st.fold λc d=>by
  have d:=qad.1 d;have hq:(sd w c).2.2<4:=(dh I d).2.2.2.2;rw[ax,JP];unfold C5;split
  ·rw[yZ fg (uw _) hq]
  ·rfl
 have D:=a1.perm P;have T:∀c∈Bm w v (λa=>ae (G a) r) o ln (AJ w v l G r (4*w*v)),VK w v c:=λc d=>by
  unfold Bm at d;obtain⟨p,t,rfl⟩:=qaz.1 d;obtain⟨t,_⟩:=qaN.1 t;obtain⟨y,i,hi,f,Q,a4,P⟩:=kZ t;have N:=lK I y (fq _ _) f;have a3:(Jl w v (λa=>ae (G a) r) o p).2.2=1∨(Jl w v (λa=>ae (G a) r) o p).2.2=2:=by
   unfold Jl;simp only;split
   ·exact .inr rfl
   ·exact .inl rfl
  refine⟨⟨p.1,Js w v p.1 p.2.1,p.2.1,rfl,rfl,y,by rw[N];exact fq _ _,by rw[N];exact f,Q,by omega,by omega⟩,by omega,by omega⟩
 have af:((l++Bm w v (λa=>ae (G a) r) o ln (AJ w v l G r (4*w*v))).map bD).Nodup:=by
  rw[Cw,qb0];refine⟨kR h.so,?_,λa V b F e=>?_⟩
  ·unfold Bm;rw[D9,List.Nodup,qbj];refine(qdb.1 ((Ux I (l:=l) (G:=G) (r:=r)).filter _)).imp λ{p q} ap e=>?_;obtain⟨t,hq,ag⟩:=ap;obtain⟨y,i,hi,f,_⟩:=kZ (qaN.1 t).1;obtain⟨ar,j,hj,S,_⟩:=kZ (qaN.1 hq).1;simp only[Function.comp,bD,Jl,Pz]at e;have e1:p.1=q.1:=Dn e.1;have W:Js w v p.1 p.2.1=Js w v q.1 q.2.1:=Dn e.2;rw[lK I y (fq _ _) f,lK I ar (fq _ _) S]at W;rw[e1]at f W;rw[W,S]at f;exact ag ⟨e1,(AD f).symm⟩
  ·subst e;obtain⟨c,d,rfl⟩:=qaz.1 F;obtain⟨⟨u,e,n,q1,q2,hu,he,hn,H,_⟩,_⟩:=T c d;have hk:bD c=((Int.ofNat u,Int.ofNat e):Ku):=by unfold bD;rw[q1,q2]
   rw[hk]at V F;have:=((h.keys K hu he hn H).1 F).1;unfold AW at this;exact of_decide_eq_false this V
 refine⟨λc d=>?_,Kx a0 ((t.map bD).nodup_iff.2 af),Z,?_,D,?_⟩
 ·rcases qas.1 (t.mem_iff.1 d)with d|d
  ·exact h.vk c d
  ·exact T c d
 ·unfold ft;split
  ·exact aN (dm h.rk O) (by omega)
  ·exact aN h.rk (by omega)
 ·have h2:U.Pairwise λa b=>a.1≠b.1:=qbj.1 D.nd;exact(List.Pairwise.and ay h2).imp λ{a b} M=>nX M.1 M.2
def Mc{n0:Nat}{h:HL}{z:Value}{a:List Sk}(e:LsH h z 4 Ac a)(d:Pcs n0 h a):StL h z (a.map CA):=by
 refine⟨a.map λs=>(s.1,s.2.1),ZV e,by simp,λi m b=>?_⟩;rw[AU]at b;cases c:a[i]? with
 |none=>rw[c]at b;cases b
 |some q=>
  rw[c]at b;cases b;exact⟨q.2.2,by rw[AU,c];rfl,(d.1 q (Af c)).ls aU⟩
def Km{L:List zR}(h:∀s∈L,s.2≠[]):L.length<=(L.flatMap Prod.snd).length:=by
 induction L with
 |nil=>simp
 |cons a L c=>
  rw[C2,A5,CT];have d:=qbe.2 (h a Ch);have e:=c λs b=>h s (Bo _ b);omega
def Kn{L:List zR}{a:zR}(h:a∈L):a.2.length<=(L.flatMap Prod.snd).length:=by
 induction L with
 |nil=>cases h
 |cons b L c=>
  rw[C2,A5];rcases qar.1 h with rfl|h
  ·omega
  ·have:=c h;omega
section
variable {w v:Nat} {k:Int} {l:Ty} {r:Mv} {G:TC} {L:List zR}
def FSt.tot(h:FSt w v k l r G L):(L.flatMap Prod.snd).length=4*w*v:=by rw[h.st.pm.length_eq,qc6]
def FSt.lenL(h:FSt w v k l r G L):L.length<=4*w*v:=by have:=Km h.st.ne;rw[h.tot]at this;exact this
def FSt.lenP(h:FSt w v k l r G L){a:zR}(b:a∈L):a.2.length<=4*w*v:=by have:=Kn b;rw[h.tot]at this;exact this
def FSt.pos(c:S3 w v)(h:FSt w v k l r G L):0<L.length:=by
 have d:=(Bj c.sh).1;have b:=h.tot;cases L with
 |nil=>simp at b;omega
 |cons a L=>simp
def FSt.idlt(h:FSt w v k l r G L){a:zR}(b:a∈L){c:Nat}(d:c∈a.2):c<4*w*v:=qad.1 (h.st.pm.mem_iff.1 (qa1.2 ⟨a,b,d⟩))
def FSt.cell(d:S3 w v)(h:FSt w v k l r G L){a:zR}(e:a∈L):a.1.2.2<4/\-(k+15)<=a.1.1/\a.1.1<=k+15/\-(k+15)<=a.1.2.1/\a.1.2.1<=k+15:=by
 obtain⟨c,g⟩:=List.exists_mem_of_ne_nil _ (h.st.ne a e);have f:am (ae (G c) r) (sd w c)=a.1:=h.st.at' a e c g;have b:=rO d h.co h.rk (h.idlt e g);rw[f]at b;have d:a.1.2.2<4:=by rw[←f];exact gI
 exact⟨d,b.1,b.2.1,b.2.2.1,b.2.2.2⟩
def FSt.mono(h:FSt w v k l r G L){a:Int}(b:k<=a):FSt w v a l r G L:=⟨h.vk,h.so,h.co,aN h.rk b,h.st,h.ss⟩
end
def tabO(w n:Nat):Bool:=(List.range n).all λj=>(List.range j).all λi=>AO (sd w j) (sd w i)
def allO:∀w:Nat,1<=w->w<=3->tabO w 36=true:=by
 have a:((List.range 3).all λw=>tabO (w+1) 36)=true:=by decide +kernel
 intro w b c;have:=qab.1 a (w - 1) (qad.2 (by omega))
 rwa [show w - 1+1=w by omega]at this
def ord_c{w v:Nat}(a:S3 w v){i j:Nat}(b:i<j)(g:j<4*w*v):AO (sd w j) (sd w i)=true:=by
 obtain⟨c,d,e,f⟩:=a.n;have:=qab.1 (allO w a.1 a.2.1) j (qad.2 (by omega));exact qab.1 this i (qad.2 b)
def J3{w v:Nat}(o:S3 w v):FSt w v 0 [] AG (λ_=>AG) (me w v):=by
 have k:=o.sh;have f:(me w v).Pairwise λa b=>AO b.1 a.1=true:=by
  unfold me;rw[qbj];have p:(List.range (4*w*v)).Pairwise λi j=>i<j:=Rt;exact(qdb.1 p).imp λ{a b} h=>ord_c o h.2.2 (qad.1 h.2.1)
 refine⟨λc d=>(by cases d),.nil,⟨λc e n _ _ _=>?_,rfl,λc _=>xA (by omega)⟩,xA (by omega),⟨?_,λs m c d=>?_,λs k=>?_,?_⟩,f⟩
 ·unfold BK AW;simp
 ·rw[List.Nodup,qbj];refine f.imp λ{a b} h e=>?_;have:=yO.1 h;rw[e]at this;omega
 ·obtain⟨i,g,rfl⟩:=qaz.1 m;have g:=qad.1 g;have d:c=i:=by simpa using d
  subst d;show am (ae AG AG) (sd w c)=sd w c;rw[mX (by decide),KK (dh k g).2.2.2.2]
 ·obtain⟨i,g,rfl⟩:=qaz.1 k;simp
 ·have:(me w v).flatMap Prod.snd=List.range (4*w*v):=by
   unfold me;rw[UO]
   induction List.range (4*w*v)with
   |nil=>rfl
   |cons a l q=>rw[C2,q];rfl
  rw[this]
def Oj{w v:Nat}(m:S3 w v){H:HL} :
  ∃x h' d,aD cc ab 20 [.i (.ofNat w),.i (.ofNat v)] (ka aa H) [.i (.ofNat w),.i (.ofNat v),.v jo,.i 0,.i 0,.i 0,.v x] (ka aa h')/\Pre H h'/\LsH h' x 4 Ac d/\Pcs H.length h' d/\d.map CA=me w v:=by
 have U:=m.sh;obtain⟨Y,Z,b3,b4⟩:=m.n;have hN:=Bj U;have I:=u20 (ls:=[.i (.ofNat w),.i (.ofNat v)]) (K:=λM h'=>∃x d,M=[.i (.ofNat w),.i (.ofNat v),.v jo,.i 0,.i 0,.i 0,.v x]/\Pre H h'/\LsH h' x 4 Ac d/\Pcs H.length h' d/\d.map CA=me w v) (H:=H) rfl (by
  unfold f20;simp only[xp];refine jw ?_;refine aR (σ:=HL×Value×List Sk) (4*w*v) (λj s=>[.i (Int.ofNat j),.i (.ofNat w),.i (.ofNat v),.v jo,.i 0,.i 0,.i 0,.v s.2.1]) (λ_ s=>s.1)
   (λj s=>Pre H s.1/\FW H.length s.1 s.2.1 (.slice none 0 0) (.slice none 0 0) s.2.2 [] []/\s.2.2.map CA=(List.range j).map λi=>(sd w i,[i]))
   (j0:=0) (s0:=(H,.slice none 0 0,[])) rfl rfl (AM _) ⟨.refl _,⟨.nil _ _ _ _,.nil _ _ _ _,.nil _ _ _ _,(λb z=>by cases z),.nil _ _⟩,rfl⟩ ?_
  rintro j ⟨h,x,d⟩ hj ⟨y,l,f⟩ N k;simp only at y l f ⊢;refine jw ?_;rw[Q8 (by omega)];refine qs ?_;rw[qn (by omega)];refine qs ?_;by_cases g:j<4*w*v
  case neg=>
   obtain rfl:j=4*w*v:=by omega
   rw[aM (zY _)];refine jw ?_;exact⟨x,d,rfl,y,l.os.ls dj,by simpa using l.pc,f⟩
  rw[aJ g];refine jw ?_;refine ai (iH m g) ?_;unfold Ab;refine jw ?_;have S:d.length=j:=by
   have:=congrArg List.length f;simpa using this
  have D:=y.len;have u:Pre h (h++[HO.o (.cells [.int .i64 (Int.ofNat j)] 1 true)]):=⟨_,rfl⟩;have r:=l.pre u;refine r.os.ap1 (a:=((sd w j,.slice (some ⟨h.length,0,pu 1⟩) 1 2,[j]):Sk)) dj (by simp;omega) rfl rfl rfl (by
   unfold bh;rw[Be (by omega),Be (by omega)];rfl) ?_
  intro X J E C t L q;have V:OwnL H.length (h++[HO.o (.cells [.int .i64 (Int.ofNat j)] 1 true)]) (.slice (some ⟨h.length,0,pu 1⟩) 1 2) 1 km [j]:=.inr ⟨h.length,2,rfl,D,aA,.inr rfl⟩;have B:=r.apS (c:=sd w j) V (λp F b z A=>by
   have e:h.length=b:=by simpa[blk]using z
   have:=((l.pc.1 p F).blk A).2;omega) E t q
  have G:Pre H J:=bG (y.trans u) λi W hi T=>t i W T λe=>by
   have:=(l.os.blk e).1;omega
  refine jw ?_;refine ac C ?_;refine qs ?_;rw[aS (by omega)];exact k (J,X,d++[_]) g ⟨G,B,by
   rw[Cw,f,UQ,Cw];rfl⟩)
 obtain⟨M,h',O,x,d,rfl,m,P,Q,R⟩:=I;exact⟨x,h',d,O,m,P,Q,R⟩
structure StH(w v:Nat)(n0:Nat)(h:HL)(k:Int)(z:Value)(r:Mv)(zs:Value)(l:Ty)(G:TC)(Ms:List Sk):Prop where
 cr:LsH h z 3 zz l
 st:FSt w v k l r G (Ms.map CA)
 ss:LsH h zs 4 Ac Ms
 pc:Pcs n0 h Ms
def StH.pre{w v n0:Nat}{h h':HL}{k:Int}{z:Value}{r:Mv}{d:Value}{l:Ty}{G:TC}{c:List Sk}(a:StH w v n0 h k z r d l G c)(b:Pre h h'):StH w v n0 h' k z r d l G c:=
 ⟨a.cr.pre b,a.st,a.ss.pre b,a.pc.keep λ_ _ _ _ e _=>b.get e⟩
def kB:Nat->Int
 |0=>0
 |n+1=>3*kB n+32
def Q3{j:Nat}(h:j<=5):0<=kB j/\kB j<=3872:=by
 have:j=0∨j=1∨j=2∨j=3∨j=4∨j=5:=by omega
 rcases this with rfl|rfl|rfl|rfl|rfl|rfl<;>simp[kB]
def Kh{j:Nat}(h:j<=4):kB j<=1280:=by
 have:j=0∨j=1∨j=2∨j=3∨j=4:=by omega
 rcases this with rfl|rfl|rfl|rfl|rfl<;>simp[kB]
def Hn{w v n0:Nat}(m:S3 w v){h:HL}{j:Nat}(T:j<=4){z N:Value}{r:Mv}{l:Ty}{G:TC}{P:List Sk}(d:StH w v n0 h (kB j) z r N l G P)(J:n0<=h.length)(hl:l.length<=108*j){ln:Ln}(I:∃p∈AJ w v l G r (4*w*v),p.2.2=ln)(s o:Bool) :
  ∃D C f l' O k h',aD cc ab 22 ([.i (.ofNat w),.i (.ofNat v),.v z]++Al r++[.v N,.i (.ofNat ln.1),.i ln.2,.i (if s then 1 else 0),.b o]) (ka aa h) [.i (.ofNat w),.i (.ofNat v),.v D,.i (Int.ofNat C.1),.i C.2.1,.i C.2.2,.v f] (ka aa h')/\Pre h h'/\StH w v n0 h' (kB (j+1)) D C f l' O k/\l'.length<=108*(j+1):=by
 obtain⟨W,X,Y,Z⟩:=m.n;have F:=Q3 (show j<=5 by omega);have M:=Kh T;obtain⟨V,q,g⟩:=I;have L:=Q5 m d.st.co d.st.rk q;rw[g]at L;have y:=d.st.vk;obtain⟨rs,h',c,S⟩:=J1 m d.cr (λc E=>(y c E).1) (λc E=>(y c E).k0) (by omega) (aN d.st.rk (by omega)) d.st.co (Mc d.ss d.pc) (d.st.pos m) (by have:=d.st.lenL;omega) (λa B=>by have:=d.st.cell m B;omega) (λa B=>⟨d.st.st.ne a B,by have:=d.st.lenP B;omega⟩) L.1 (by omega) s o;obtain⟨D,f,l',k,rfl,U,H,e,K,A,t,u,x⟩:=S;have R:=d.st.fold m (s:=s) (o:=o) F.1 ⟨V,q,g⟩ e K u (qbj.2 x);refine⟨D,_,f,l',_,k,h',c,U,⟨H,R,A,t.low J⟩,?_⟩;have Q:=e.length_eq;rw[A5]at Q;have h2:(Bm w v (λa=>ae (G a) r) o ln (AJ w v l G r (4*w*v))).length<=(AJ w v l G r (4*w*v)).length:=by
  unfold Bm;rw[AZ];exact Vr _ _
 have h4:=jV (w:=w) (v:=v) (l:=l) (G:=G) (r:=r) (n:=4*w*v);omega
def HS{l:Tx}{i j:Nat}{a b:Nat}(c:l[i]?=some a)(d:l[j]?=some b):((l.set i b).set j a).Perm l:=by
 have e:=aq c;have f:=aq d;have:=List.set_set_perm e f;rw[A4 e]at c;rw[A4 f]at d;cases c;cases d;exact this
def StJ.setp{i:Nat->Cl}{X:Tx}{L:List zR}(h:StJ i X L){k:Nat}{c:Cl}{ly b:Tx}(g:L[k]?=some (c,ly))(j:b.Perm ly):StJ i X (L.set k (c,b)):=by
 have m:=Af g;have f:(L.set k (c,b)).map Prod.fst=L.map Prod.fst:=by
  rw[LC];exact bC (by rw[AU,g];rfl)
 refine⟨by rw[f];exact h.nd,λs d x n=>?_,λs d=>?_,?_⟩
 ·rcases Rw d with d|rfl
  ·exact h.at' s d x n
  ·exact h.at' _ m x (j.mem_iff.1 n)
 ·rcases Rw d with d|rfl
  ·exact h.ne s d
  ·intro e;simp only at e;subst e;exact h.ne _ m j.symm.eq_nil
 ·refine List.Perm.trans ?_ h.pm;have o:=(dM (a:=(c,b)) g).flatMap_right Prod.snd;have l:=(dM (a:=(c,ly)) g).flatMap_right Prod.snd;rw[bC g]at l;refine o.trans (List.Perm.trans ?_ l.symm);rw[C2,C2];exact j.append_right _
def FSt.setp{w v:Nat}{k:Int}{l:Ty}{r:Mv}{G:TC}{L:List zR}(h:FSt w v k l r G L){i:Nat}{c:Cl}{ly d:Tx}(g:L[i]?=some (c,ly))(j:d.Perm ly):FSt w v k l r G (L.set i (c,d)):=by
 refine⟨h.vk,h.so,h.co,h.rk,h.st.setp g j,?_⟩;have e:(L.set i (c,d)).map Prod.fst=L.map Prod.fst:=by
  rw[LC];exact bC (by rw[AU,g];rfl)
 have f:(L.map Prod.fst).Pairwise λa b=>AO b a=true:=qbj.2 h.ss;rw[←e]at f;exact qbj.1 f
def Hj{a:List Sk}{m:Nat}{q:Sk}(c:a[m]?=some q){b:Tx}:(a.set m (q.1,q.2.1,b)).flatMap Ac=a.flatMap Ac:=by
 rw[qdP,qdP,LC]
 congr 1
 exact bC (by rw[AU,c];rfl)
def StH.put{w v n0:Nat}{h:HL}{k:Int}{z:Value}{r:Mv}{L:Value}{l:Ty}{G:TC}{s:List Sk}(n:StH w v n0 h k z r L l G s){m:Nat}{q:Sk}(t:s[m]?=some q){id cx:Nat}(K:q.2.1 = .slice (some ⟨id,0,pu 1⟩) q.2.2.length cx)(hid:h[id]?=some (.o (.cells (q.2.2.flatMap km) 1 true)))(u:n0<=id)(D:cx=0∨cx=q.2.2.length+1){d:Tx}(H:d.Perm q.2.2) :
  StH w v n0 (td h id 1 km d) k z r L l G (s.set m (q.1,q.2.1,d)):=by
 have J:=n.pc.1 q (Af t);have y:=J.ls aU;have B:blk q.2.1=some id:=by rw[K];rfl
 have E:∀(j:Nat) o,h[j]?=some o->j≠id->(td h id 1 km d)[j]?=some o:=λj o g F=>by
  unfold td;rw[BL (BO F)];exact g
 refine⟨n.cr.keep λj o g f=>E j o g λe=>DK (e:=3) (e':=1) n.cr y (by decide) f (by rw[B,e]),?_,?_,?_⟩
 ·rw[LC];exact n.st.setp (c:=q.1) (ly:=q.2.2) (by rw[AU,t];rfl) H
 ·have A:=n.ss.keep (h':=td h id 1 km d) λj o g f=>E j o g λe=>DK (e:=4) (e':=1) n.ss y (by decide) f (by rw[B,e]);refine⟨λa _=>rfl,?_⟩;rw[Hj t,Bc];exact A.2
 ·have I:s.Perm (q :: s.eraseIdx m):=by
   have:=dM (a:=q) t
   rwa [bC t]at this
  have A:=n.pc.perm I.symm;have x:=qbb.1 A.2;have M:Pcs n0 (td h id 1 km d) (s.eraseIdx m):=(A.sub (qc4 _ _)).keep λp i j o g f=>E j o g λe=>x.1 p i id B (by rw[f,e]);refine(M.cons (p:=(q.1,q.2.1,d)) ?_ λp i b C=>x.1 p i b C).perm (dM t);exact .inr ⟨id,cx,by rw[H.length_eq];exact K,u,bM (aq hid),by rw[H.length_eq];exact D⟩
def VB(w v:Nat)(H:HL)(c:TB)(h':HL):Prop:=
 ∃z r a l G b,c=[.i (.ofNat w),.i (.ofNat v),.v z,.i (Int.ofNat r.1),.i r.2.1,.i r.2.2,.v a]/\Pre H h'/\l.length<=432/\StH w v H.length h' 1280 z r a l G b
def R9{a:Int}(h:0<=a/\a<=255):a%2=(if decide (a%2=1)then 1 else 0):=by
 by_cases b:a%2=1
 ·rw[Bp b,mc rfl];exact b
 ·rw[BV b,po (by simp)];omega
def sF{a:Int}{n:Nat}(h:0<=a)(b:0<n):a.toNat%n<n/\a%Int.ofNat n=Int.ofNat (a.toNat%n):=by
 refine⟨H3 _ b,?_⟩;obtain⟨m,rfl⟩:=Vm h;rfl
def PL{P O:Int}(b5:0<=P/\P<=255)(b0:0<=O/\O<=255){H:HL}{xf xw:Value}{Fl Sw:List P7}(hF:LsH H xf 3 pz Fl)(a5:∀a∈Fl,EG a)(hS:LsH H xw 3 pz Sw)(a6:∀a∈Sw,EG a) :
  ∃w v rs h',S3 w v/\aD cc ab 6 [.i P,.i O,.v xf,.v xw] (ka aa H) rs (ka aa h')/\VB w v H rs h':=by
 obtain⟨W,hW⟩ : ∃W:Nat,1+P%3=Int.ofNat W:=⟨(1+P%3).toNat,by show _=(((1+P%3).toNat:Nat):Int);omega⟩;obtain⟨V,hV⟩ : ∃V:Nat,1+O%3=Int.ofNat V:=⟨(1+O%3).toNat,by show _=(((1+O%3).toNat:Nat):Int);omega⟩;have M:S3 W V:=by
  have a1:1+P%3=(W:Int):=hW;have a2:1+O%3=(V:Int):=hV;exact⟨by omega,by omega,by omega,by omega⟩
 obtain⟨b1,b2,b3,b4⟩:=M.n;have hN:=Bj M.sh;refine⟨W,V,?_⟩;obtain⟨x0,X,U,c0,bn,bI,ax,ag⟩:=Oj M (H:=H);have a0:StH W V H.length X (kB 0) jo AG x0 [] (λ_=>AG) U:=⟨.nil _ _ _,by rw[ag];exact J3 M,bI,ax⟩;have bP:=x6 (ls:=[.i P,.i O,.v xf,.v xw]) (K:=VB W V H) (H:=H) (kx (kx (rv hF.good (rv hS.good ub)))) (by
  unfold f6;simp only[xp];simp (disch:=omega) only[↓US,↓RB,↓RA];rw[hW,hV];refine al c0 ?_;simp (disch:=omega) only[↓US,↓RB,↓RA];refine mT (λls h=>∃z r L l G g,ls=[.i (.ofNat W),.i (.ofNat V),.v z,.i (Int.ofNat r.1),.i r.2.1,.i r.2.2,.v L]/\Pre H h/\l.length<=432/\StH W V H.length h 1280 z r L l G g) ?_ ?_
  case refine_2=>
   intro jj E;refine aR (σ:=HL×Value×Mv×Value×List BJ×(Nat->Mv)×List Sk) 4 (λj t=>[.i (Int.ofNat j),.i (.ofNat W),.i (.ofNat V),.v t.2.1,.i (Int.ofNat t.2.2.1.1),.i t.2.2.1.2.1,.i t.2.2.1.2.2,.v t.2.2.2.1]) (λ_ t=>t.1)
    (λj t=>Pre H t.1/\t.2.2.2.2.1.length<=108*j/\StH W V H.length t.1 (kB j) t.2.1 t.2.2.1 t.2.2.2.1 t.2.2.2.2.1 t.2.2.2.2.2.1 t.2.2.2.2.2.2)
    (j0:=0) (s0:=(X,jo,AG,x0,[],(λ_=>AG),U)) rfl rfl (AM _) ⟨bn,by simp,a0⟩ ?_
   rintro j ⟨h,z,r,L,l,G,g⟩ hj ⟨d,F,b⟩ a4 f;simp only at d F b ⊢;have ad:=Kh hj;have A:∀h',Pre h h'->jj [.i (.ofNat W),.i (.ofNat V),.v z,.i (Int.ofNat r.1),.i r.2.1,.i r.2.2,.v L] h':=λh' I=>E _ _ ⟨z,r,L,l,G,g,rfl,d.trans I,by omega,let q:=b.pre I;⟨q.cr,q.st.mono ad,q.ss,q.pc⟩⟩;refine jw ?_;refine br (hF.pre d) ?_;by_cases s:j<Fl.length
   case neg=>
    rw[aM (by omega)];refine jw ?_;exact A h (.refl _)
   rw[aJ s];refine jw ?_;by_cases bd:j<4
   case neg=>
    rw[zQ (show(4:Int)<=Int.ofNat j by show(4:Int)<=(j:Int);omega)];refine jw ?_;exact A h (.refl _)
   rw[zV (show Int.ofNat j<4 by show(j:Int)<4;omega)];refine jw ?_;have bX:=Q3 (show j<=5 by omega);obtain⟨zl,h1,k,c1,B,S,bm,bl⟩:=OG M b.cr (b.ss.good) (λc hc=>(b.st.vk c hc).1) (λc hc=>(b.st.vk c hc).k0) (by omega) (aN b.st.rk (by omega)) b.st.co;simp only[Al,Aw,Ap]at c1;refine al c1 ?_;refine jw ?_;refine br S ?_;by_cases X:k.length=0
   ·rw[zT (show Int.ofNat k.length=0 by rw[X];rfl)];refine jw ?_;exact A h1 B
   rw[zO (show ¬Int.ofNat k.length=0 from λe=>X (Dn e))];refine jw ?_;obtain⟨a,D⟩:=aL s;obtain⟨k1,k2,k3,k4,k5,k6⟩:=a5 a (Af D);have Q:=(hF.pre d).pre B;refine qA (o:=0) (cs:=[.int .u8 a.1]) Q rfl D (by omega) rfl ?_;refine jw ?_;refine br S ?_;obtain⟨u,x⟩:=sF k1 (show 0<k.length by omega);rw[A2 (by omega) (show(0:Int)<Int.ofNat k.length by show(0:Int)<(k.length:Int);omega)];rw[x];refine qs ?_;obtain⟨y,hy⟩:=aL u;refine aQ S rfl hy ?_;rw[show rr y=[.int .u8 (Int.ofNat y.1),.int .i64 y.2]from rfl];refine jw ?_;refine qA (o:=1) (cs:=[.int .u8 a.2.1]) Q rfl D (by omega) rfl ?_;refine jw ?_;refine qA (o:=2) (cs:=[.int .u8 a.2.2]) Q rfl D (by omega) rfl ?_;refine jw ?_;rw[R9 ⟨k3,k4⟩];obtain⟨z',r',bS,l',G',p,h2,c2,bs,a3,af⟩:=Hn M (j:=j) (by omega) (b.pre B) (by have:=(d.trans B).len;omega) F (bl y (Af hy)) (decide (a.2.1%2=1)) (decide (a.2.2%2=1));simp only[Al,Aw,Ap]at c2;refine EH λt ht=>?_;subst ht;refine al c2 ?_;refine jw ?_;rw[aS (by omega)];exact f (h2,z',r',bS,l',G',p) bd ⟨(d.trans B).trans bs,af,a3⟩
  rintro ls h ⟨z,r,L,l,G,g,rfl,d,F,b⟩;simp (disch:=omega) only[↓US,↓RB,↓RA];refine mT (λls h'=>∃p,ls=[]/\Pre H h'/\StH W V H.length h' 1280 z r L l G p) ?_ ?_
  ·rintro ls h' ⟨p,rfl,I,aE⟩;refine jw ?_;exact⟨z,r,L,l,G,p,rfl,I,F,aE⟩
  intro jj E;refine aR (σ:=HL×List Sk) 6 (λj t=>[.i (Int.ofNat j)]) (λ_ t=>t.1) (λj t=>Pre H t.1/\StH W V H.length t.1 1280 z r L l G t.2) (j0:=0) (s0:=(h,g)) rfl rfl (AM _) ⟨d,b⟩ ?_;clear d b;rintro j ⟨h,g⟩ hj ⟨d,b⟩ a4 f;simp only at d b ⊢;refine jw ?_;refine br (hS.pre d) ?_;by_cases s:j<Sw.length
  case neg=>
   rw[aM (by omega)];refine jw ?_;exact E _ _ ⟨g,rfl,d,b⟩
  rw[aJ s];refine jw ?_;by_cases be:j<6
  case neg=>
   rw[zQ (show(6:Int)<=Int.ofNat j by show(6:Int)<=(j:Int);omega)];refine jw ?_;exact E _ _ ⟨g,rfl,d,b⟩
  rw[zV (show Int.ofNat j<6 by show(j:Int)<6;omega)];refine jw ?_;obtain⟨a,D⟩:=aL s;obtain⟨k1,k2,k3,k4,k5,k6⟩:=a6 a (Af D);have R:=hS.pre d;refine qA (o:=0) (cs:=[.int .u8 a.1]) R rfl D (by omega) rfl ?_;refine jw ?_;refine br b.ss ?_;have an:0<g.length:=by have:=b.st.pos M;rwa [AZ]at this
  obtain⟨u,x⟩:=sF k1 an;rw[A2 (by omega) (show(0:Int)<Int.ofNat g.length by show(0:Int)<(g.length:Int);omega)];rw[x];refine qs ?_;generalize a.1.toNat%g.length=m at *;obtain⟨q,hq⟩:=aL u;have ay:=b.pc.1 q (Af hq);have C:=ay.ls aU;have bx:=C.good;refine bB (cs:=[q.2.1]) b.ss rfl hq rfl (by omega) ?_;refine jw ?_;refine ac bx ?_;refine qs ?_;refine qA (o:=1) (cs:=[.int .u8 a.2.1]) R rfl D (by omega) rfl ?_;refine jw ?_;have bt:(g.map CA)[m]?=some (q.1,q.2.2):=by rw[AU,hq];rfl
  have J:0<q.2.2.length:=qbe.2 (b.st.st.ne _ (Af bt));refine br C ?_;obtain⟨Y,a8⟩:=sF k3 J;rw[A2 (by omega) (show(0:Int)<Int.ofNat q.2.2.length by show(0:Int)<(q.2.2.length:Int);omega)];rw[a8];refine qs ?_;refine qA (o:=2) (cs:=[.int .u8 a.2.2]) R rfl D (by omega) rfl ?_;refine jw ?_;refine br C ?_;obtain⟨Z,a9⟩:=sF k5 J;rw[A2 (by omega) (show(0:Int)<Int.ofNat q.2.2.length by show(0:Int)<(q.2.2.length:Int);omega)];rw[a9];refine qs ?_;generalize a.2.1.toNat%q.2.2.length=i1 at *;generalize a.2.2.toNat%q.2.2.length=i2 at *;obtain⟨n1,ap⟩:=aL Y;obtain⟨T,ar⟩:=aL Z;refine aQ C rfl ar ?_;rw[show km T=[.int .i64 (Int.ofNat T)]from rfl];refine jw ?_;refine aQ C rfl ap ?_;rw[show km n1=[.int .i64 (Int.ofNat n1)]from rfl];refine jw ?_;obtain⟨id,cx,hv,N,hid,a7⟩ : ∃id cx,q.2.1 = .slice (some ⟨id,0,pu 1⟩) q.2.2.length cx/\H.length<=id/\h[id]?=some (.o (.cells (q.2.2.flatMap km) 1 true))/\(cx=0∨cx=q.2.2.length+1):=by
   rcases ay with⟨_,e⟩|h
   ·rw[e]at J;simp at J
   ·exact h
  rw[hv];refine dd (enc:=km) (l:=q.2.2) (i:=i1) (a:=T) aU hid rfl Y rfl rfl ?_;refine qs ?_;refine dd (enc:=km) (l:=q.2.2.set i1 T) (i:=i2) (a:=n1) aU (bM (aq hid)) rfl (by simpa using Z) (by simp) rfl ?_;rw[eh];refine qs ?_;rw[aS (by omega)];exact f (td h id 1 km ((q.2.2.set i1 T).set i2 n1),g.set m (q.1,q.2.1,(q.2.2.set i1 T).set i2 n1)) be ⟨gn d N,b.put hq hv hid N a7 (HS ap ar)⟩)
 obtain⟨rs,h',h2,h4⟩:=bP;exact⟨rs,h',M,h2,h4⟩
def Ae(a b:Int):Int:=if a<b then -1 else if b<a then 1 else 0
def Cy:TA->Int
 | []=>0
 |a :: l=>if a=0 then Cy l else a
def NL(p:Int×Int):Tk:=[.int .i64 p.1,.int .i64 p.2]
def Jw(p:Int×Int):(NL p).length=2:=rfl
def Q9(a:Int):Cc 92 [.i a] [.b false]:=by
 refine q92 rfl ?_;unfold YN;simp only[xp];simp(disch:=omega)only[↓my]
def Jg(a b:Int):Cc 47 [.i a,.i b] [.i (Ae a b)]:=by
 refine q47 rfl ?_;unfold Yu;simp only[xp]
 repeat (first|simp(disch:=omega)only[↓my]|refine ai (Q9 a) ?_|refine ai (Q9 b) ?_)
 unfold Ae;by_cases c:a<b
 ·simp(disch:=omega)only[↓my];simp[c]
 ·by_cases d:b<a
  ·simp(disch:=omega)only[↓my];simp[c,d]
  ·simp(disch:=omega)only[↓my];simp[c,d]
def xF{l:TA}{j:Nat}{a:Int}(b:l[j]?=some a):Cy (l.drop j)=if a=0 then Cy (l.drop (j+1))else a:=by
 rw[MO (aq b)];have c:l[j]'(aq b)=a:=by rw[A4 (aq b)]at b;exact AD b
 rw[c];rfl
def Uq{h:HL}{x:Value}{l:List (Int×Int)}(f:LsH h x 2 NL l)(m:l.length<=1000) :
  aD cc ab 71 [.v x] (ka aa h) [.i (Cy (l.map λp=>Ae p.1 p.2))] (ka aa h):=by
 exact xK x71 (rv f.good ub) (by
  unfold f71;simp only[xp];refine jw ?_;refine br f ?_;refine eo l.length (λj=>Cy (l.map λp=>Ae p.1 p.2)=Cy ((l.map λp=>Ae p.1 p.2).drop j)) (j0:=0) rfl (AM _) rfl ?_;intro j n d k c;refine jw ?_;by_cases b:j<l.length
  ·rw[aJ b];refine jw ?_;obtain⟨p,g⟩:=aL b;refine aQ f rfl g ?_;unfold NL
   repeat (first|simp(disch:=omega)only[↓my]|refine ai (Jg p.1 p.2) ?_)
   rw[xF (a:=Ae p.1 p.2) (by rw[AU,g];rfl)]at d;by_cases e:Ae p.1 p.2=0
   ·rw[Aj e];refine jw ?_;rw[aS (by omega)];rw[mc e]at d;exact c b d
   ·rw[AR e];refine jw ?_;rw[po e]at d;exact⟨by rw[d],by trivial⟩
  ·obtain rfl:j=l.length:=by omega
   rw[aM (zY _)];refine jw ?_;refine⟨?_,by trivial⟩;rw[d,Rs (by rw[AZ];exact zY _)];rfl)
def GP{x y q x' y' q':Int}(b:0<=q/\q<=255)(a:0<=q'/\q'<=255):Cc 30 [.i x,.i y,.i q,.i x',.i y',.i q'] [.i (Cy [Ae y y',Ae x x',Ae q q'])]:=by
 refine q30 rfl ?_;unfold Yq;simp only[xp];refine jw ?_;refine al (h':=[]++[HO.o (.cells [.int .i64 y,.int .i64 y',.int .i64 x,.int .i64 x',.int .i64 q,.int .i64 q'] 2 true)]) (Uq (l:=[(y,y'),(x,x'),(q,q')]) ?_ (by simp)) ?_
 ·exact vK (h:=[]) (e:=2) (enc:=NL) (l:=[(y,y'),(x,x'),(q,q')]) Jw (by rfl)
 ·simp(disch:=omega)only[↓my];rfl
def E9(n:Int):Tk:=[.int .i64 n]
def or_c{h:HL}{x:Value}{l:TA}(e:LsH h x 1 E9 l)(k:l.length<=1000) :
  aD cc ab 29 [.v x] (ka aa h) [.i (Cy l)] (ka aa h):=by
 exact xK x29 (rv e.good ub) (by
  unfold f29;simp only[xp];refine jw ?_;refine br e ?_;refine eo l.length (λj=>Cy l=Cy (l.drop j)) (j0:=0) rfl (AM _) rfl ?_;intro j m c g b;refine jw ?_;by_cases a:j<l.length
  ·rw[aJ a];refine jw ?_;obtain⟨p,f⟩:=aL a;refine aQ e rfl f ?_;rw[show E9 p=[.int .i64 p]from rfl];refine jw ?_;rw[xF f]at c;by_cases d:p=0
   ·rw[Aj d];refine jw ?_;rw[aS (by omega)];rw[mc d]at c;exact b a c
   ·rw[AR d];refine jw ?_;rw[po d]at c;exact⟨by rw[c],by trivial⟩
  ·obtain rfl:j=l.length:=by omega
   rw[aM (zY _)];refine jw ?_;refine⟨?_,by trivial⟩;rw[c,Rs (zY _)];rfl)
def Bh(a b:Cl):Int:=Cy [Ae a.2.1 b.2.1,Ae a.1 b.1,Ae (Int.ofNat a.2.2) (Int.ofNat b.2.2)]
def So(a b:Nat):Ae (Int.ofNat a) (Int.ofNat b)=if a<b then -1 else if b<a then 1 else 0:=by
 unfold Ae;by_cases h:a<b
 ·rw[mc (show Int.ofNat a<Int.ofNat b from qcd.2 h),mc h]
 ·rw[po (show ¬Int.ofNat a<Int.ofNat b from λe=>h (qcd.1 e)),po h];by_cases h:b<a
  ·rw[mc (show Int.ofNat b<Int.ofNat a from qcd.2 h),mc h]
  ·rw[po (show ¬Int.ofNat b<Int.ofNat a from λe=>h (qcd.1 e)),po h]
def Je(a b:Cl):0<Bh a b↔AO a b=true:=by
 obtain⟨x,y,q⟩:=a;obtain⟨u,v,r⟩:=b;rw[yO];unfold Bh;simp only[Cy,So];unfold Ae;split<;>split<;>(try split)<;>(try split)<;>(try split)<;>(try split)<;>(try split)<;>(try split)<;>(try split)<;>omega
def tC(a b:Cl):Bh a b<0↔AO b a=true:=by
 obtain⟨x,y,q⟩:=a;obtain⟨u,v,r⟩:=b;rw[yO];unfold Bh;simp only[Cy,So];unfold Ae;split<;>split<;>(try split)<;>(try split)<;>(try split)<;>(try split)<;>(try split)<;>(try split)<;>(try split)<;>omega
def jz{a b:Cl}(c:a.2.2<4)(d:b.2.2<4):Cc 30 (Ab a++Ab b) [.i (Bh a b)]:=
 GP (x:=a.1) (y:=a.2.1) (q:=Int.ofNat a.2.2) (x':=b.1) (y':=b.2.1) (q':=Int.ofNat b.2.2) ⟨Cb _,by show(a.2.2:Int)<=255;omega⟩ ⟨Cb _,by show(b.2.2:Int)<=255;omega⟩
def UA{q e:Nat}(b:q<4)(a:e<3):mh SN 4 [(Int.ofNat q,17),(Int.ofNat e,3)] 3=some [.int .i64 (AB (0,0,q) e).1,.int .i64 (AB (0,0,q) e).2.1,.int .u8 (Int.ofNat (AB (0,0,q) e).2.2)]:=by
 obtain rfl|rfl|rfl|rfl:q=0∨q=1∨q=2∨q=3:=by omega
 all_goals obtain rfl|rfl|rfl:e=0∨e=1∨e=2:=by omega
 all_goals kernel_rfl
def OW{c:Cl}{e:Nat}(a:c.2.2<4)(d:e<3):AB c e=((AB (0,0,c.2.2) e).1+c.1,(AB (0,0,c.2.2) e).2.1+c.2.1,(AB (0,0,c.2.2) e).2.2)/\-1<=(AB (0,0,c.2.2) e).1/\(AB (0,0,c.2.2) e).1<=1/\-1<=(AB (0,0,c.2.2) e).2.1/\(AB (0,0,c.2.2) e).2.1<=1:=by
 obtain⟨x,y,q⟩:=c;simp only at a;have b:e=0∨e=1∨e=2:=by omega
 rcases BD a with rfl|rfl|rfl|rfl<;>rcases b with rfl|rfl|rfl
 all_goals
  simp[AB]
  try omega
def Z1{c:Cl}{e:Nat}(k:c.2.2<4)(m:e<3)(l:-4096<=c.1/\c.1<=4096/\-4096<=c.2.1/\c.2.1<=4096):Cc 51 (Ab c++[.i (Int.ofNat e)]) (if D4 (AB c e)then Ab (AB c e)++[.i 0]else [.i 0,.i 0,.i 0,.i 3]):=by
 have b:=wC (c:=c) ⟨l.1,l.2.1,l.2.2.1,l.2.2.2,k⟩;have a:=wB (c:=AB c e) (zf k m).1;have n:=UA k m;obtain⟨f,p,q,r,s⟩:=OW k m;generalize AB (0,0,c.2.2) e=d at *;rw[f]at a ⊢;have g:BM 4 (Int.ofNat c.2.2)=some ():=by
  rcases BD k with h|h|h|h<;>rw[h]<;>rfl
 have j:BM 3 (Int.ofNat e)=some ():=by
  have o:e=0∨e=1∨e=2:=by omega
  rcases o with h|h|h<;>rw[h]<;>rfl
 refine q51 rfl ?_;unfold Ve;simp only[xp];simp only[Ab,Aw,Ap]at b a ⊢;refine jw ?_;refine ai b ?_;refine jw ?_;rw[zU (show Int.ofNat e<=2 by show(e:Int)<=2;omega)];refine jw ?_;refine ah g ?_;refine ah j ?_;refine ah n ?_;refine jw ?_;refine ai a ?_;cases D4 (d.1+c.1,d.2.1+c.2.1,d.2.2)with
 |true=>simp(disch:=omega)only[↓my,if_true];rfl
 |false=>simp(disch:=omega)only[↓my,if_false,Bf]
end Go.Am
namespace Go.Am
namespace Sx
section
variable [Val] [Kno] {C:Cfg} {Sg:Tc} {T:Tq}
variable {κ:Type} [DecidableEq κ] (kc:κ->Tk) {kk:TE} (hd:∀a b,zW kk (kc a) (kc b)=some (decide (a=b)))
include hd
theorem JV(k:κ):∀ {a:Th} {ks:List κ} (i:Nat),a.map (·.key)=ks.map (λk=>.agg ⟨kc k⟩)->iT kk (kc k) a i=some ((ks.idxOf? k).map (i + ·))
 | [],[],i,_=>rfl
 | [],_ :: _,i,h=>by simp at h
 |_ :: _,[],i,h=>by simp at h
 |e :: a,q :: ks,i,h=>by
  simp only[AL,Df]at h;have d:=JV k (i+1) h.2;have c:iT kk (kc k) (e :: a) i=if k=q then some (some i)else iT kk (kc k) a (i+1):=by
   simp only[iT,h.1];rw[hd];by_cases b:k=q<;>simp[b]
  rw[c,List.idxOf?_cons];by_cases b:k=q
  ·subst b;simp
  ·rw[po b,d,po (by simp;exact λe=>b e.symm),Option.map_map]
   congr 2
   funext j
   simp only[Function.comp];omega
variable {kt:TJ} (h1:zZ C.P kt=some true) (h2:flatK C.P 10000 kt=some kk) (h3:∀a,∃r,gH kk (kc a) (kc a)=some r)
include h1 h2 h3
omit hd in
theorem Q4(k:κ):DH C.P kt (.agg ⟨kc k⟩)=true:=by
 obtain⟨r,a⟩:=h3 k;unfold DH;simp only[h1,h2,a]
omit h3 hd in
theorem JU(k:κ){a:Th}{r:To}(b:iT kk (kc k) a 0=some r):tO C.P kt (.agg ⟨kc k⟩) a=some r:=by
 unfold tO;simp only[h1,h2,mK,b]
end
end Sx
namespace Sx
section
variable [Val] [Kno] {C:Cfg} {Sg:Tc} {T:Tq}
variable {κ:Type} [DecidableEq κ] (kc:κ->Tk) {kk:TE} (hd:∀a b,zW kk (kc a) (kc b)=some (decide (a=b)))
def MapV(h:HL)(id:Nat)(b:List (κ×Value)):Prop:=∃a c,h[id]?=some (.o (.map a c))/\a.map (λe=>(e.key,e.val))=b.map λp=>(.agg ⟨kc p.1⟩,p.2)
def MapV.keep{h h':HL}{id:Nat}{a:List (κ×Value)}(g:MapV kc h id a)(f:∀o,h[id]?=some o->h'[id]?=some o):MapV kc h' id a:=by
 obtain⟨b,c,d,e⟩:=g;exact⟨b,c,f _ d,e⟩
def MapV.lt{h:HL}{id:Nat}{d:List (κ×Value)}(b:MapV kc h id d):id<h.length:=by
 obtain⟨e,c,a,_⟩:=b;exact aq a
def MapV.keys{a:Th}{b:List (κ×Value)}(h:a.map (λe=>(e.key,e.val))=b.map λp=>(.agg ⟨kc p.1⟩,p.2)):a.map (·.key)=(b.map Prod.fst).map λk=>.agg ⟨kc k⟩:=by
 have:=congrArg (List.map Prod.fst) h;rw[D9,D9]at this;rw[D9];exact this
variable {kt:TJ} (h1:zZ C.P kt=some true) (h2:flatK C.P 10000 kt=some kk) (h3:∀a,∃r,gH kk (kc a) (kc a)=some r)
include hd h1 h2 h3
theorem RC{h:HL}{id:Nat}{a:List (κ×Value)}{z:Value}{K:Te}(F:MapV kc h id a)(k:κ){v:Value}(H:v = .agg ⟨kc k⟩)(I:∀cs,z≠.agg cs)(E:∀p∈a,∀cs,p.2≠.agg cs)
  (h0:k∉a.map Prod.fst->K [z]) (D:∀(i:Nat) u,a[i]?=some (k,u)->K [u]) :
  (PH C Sg T).peek (.fn (DL C kt false z (.map (some id)) v false)) h (@hid _ ⟨K⟩):=by
 subst H;obtain⟨b,c,x,g⟩:=F;have r:∀u:Value,(∀cs,u≠.agg cs)->gP false u=some [u]:=λu G=>by
  unfold gP;cases u<;>first|rfl|exact absurd rfl (G _)
 have f:∃cs,DL C kt false z (.map (some id)) (.agg ⟨kc k⟩) false (wb T h)=some cs/\K cs:=by
  unfold DL;rw[Q4 kc h1 h2 h3 k];simp only[Bs,Bf,if_false];rw[xi x];simp only;rw[JU kc h1 h2 k (JV kc hd k 0 (MapV.keys kc g))];cases t:(a.map Prod.fst).idxOf? k with
  |none=>
   refine⟨[z],?_,h0 (qdM.1 t)⟩;simp[r z I]
  |some j=>
   obtain⟨B,m,_⟩:=List.idxOf?_eq_some_iff.1 t;have w:b.length=a.length:=by
    have:=congrArg List.length g;simpa using this
   have l:j<a.length:=by simpa using B
   have s:b[j]?=some (b[j]'(by omega)):=A4 _;have d:a[j]?=some a[j]:=A4 _;have q:(b.map (λe=>(e.key,e.val)))[j]?=(a.map λp=>((.agg ⟨kc p.1⟩ : Value),p.2))[j]?:=by rw[g]
   rw[AU,AU,s,d]at q;have y:(b[j]'(by omega)).val=a[j].2:=by
    have:=AD q;exact congrArg Prod.snd this
   have o:fA b j=some a[j].2:=by
    unfold fA;rw[s];simp[y]
   have n:a[j].1=k:=by simpa using m
   refine⟨[a[j].2],?_,D j _ (by rw[d,←n])⟩;simp only[BB,Br];rw[o];simp[r _ (E _ (qdg l))]
 obtain⟨cs,e,A⟩:=f;exact gj e A
theorem r_muV{h:HL}{id:Nat}{b:List (κ×Value)}{u:Value}{K:Ta}(j:MapV kc h id b)(k:κ)(i:k∉b.map Prod.fst){v:Value}(l:v = .agg ⟨kc k⟩)(g:∀o,MapV kc (h.set id o) id (b++[(k,u)])->K [] (h.set id o)) :
  (PH C Sg T).heap (.fn (HF C kt (.map (some id)) v u)) h (@hid _ ⟨K⟩):=by
 subst l;obtain⟨f,c,d,e⟩:=j;have a:(Hp.fn (HF C kt (.map (some id)) (.agg ⟨kc k⟩) u)).run (wb T h) h.length=some ([.set id (.map (f++[{ key:=.agg ⟨kc k⟩,val:=u,born:=c }]) (c+1))],[]):=by
  show HF C kt (.map (some id)) (.agg ⟨kc k⟩) u (wb T h) h.length=_;unfold HF;simp only;rw[Q4 kc h1 h2 h3 k];simp only[Bs,Bf,if_false];rw[xi d];simp only;rw[JU kc h1 h2 k (JV kc hd k 0 (MapV.keys kc e)),qdM.2 i];rfl
 exact bZ a (g _ ⟨_,_,CQ (aq d),by simp[e]⟩)
end
section
variable [Val] [Kno] {C:Cfg} {T:Tq}
abbrev K6:=K3×K3
def E4(k:K6):Tk:=Xp k.1++Xp k.2
abbrev kk6:TE:=[.i .i64,.i .i64,.i .u8,.i .i64,.i .i64,.i .u8]
def El(a b:K6):zW kk6 (E4 a) (E4 b)=some (decide (a=b)):=by
 have p:dF .i64 .i64=true:=rfl;have q:dF .u8 .u8=true:=rfl;obtain⟨⟨g,i,c⟩,j,k,d⟩:=a;obtain⟨⟨l,m,e⟩,n,o,f⟩:=b;simp only[E4,Xp,Aw,Ap,zW,p,q,rx,Pz];have e3:decide (Int.ofNat c=Int.ofNat e)=decide (c=e):=decide_eq_decide.2 ⟨λh=>Dn h,λh=>by rw[h]⟩;have r:decide (Int.ofNat d=Int.ofNat f)=decide (d=f):=decide_eq_decide.2 ⟨λh=>Dn h,λh=>by rw[h]⟩;rw[e3,r];by_cases s:g=l<;>by_cases t:i=m<;>by_cases u:c=e<;>by_cases v:j=n<;>by_cases w:k=o<;>by_cases x:d=f<;>simp[s,t,u,v,w,x]
def vm(a:K6):∃r,gH kk6 (E4 a) (E4 a)=some r:=by
 have b:dF .i64 .i64=true:=rfl;have c:dF .u8 .u8=true:=rfl;simp only[E4,Xp,Aw,Ap,gH,b,c,rx];exact⟨_,rfl⟩
end
end Sx
end Go.Am
namespace Go.Am
open Sx Go.Proofs
def OL(c:BJ)(a b:Int):Bool:=decide (c.1<a)||(decide (c.1=a)&&decide (c.2.1<b))
def kS{c:BJ}{a b:Int}:OL c a b=true↔c.1<a∨(c.1=a/\c.2.1<b):=by
 simp only[OL,Ck,uc,BF]
def Pa{c:BJ}{a b:Int}(h:0<=c.1/\c.1<=1000/\0<=a/\a<=1000/\0<=c.2.1/\c.2.1<=255/\0<=b/\b<=255):∃d:Int,Cc 127 [.i c.1,.i c.2.1,.i a,.i b] [.i d]/\(d<0↔OL c a b=true)/\(d=0↔c.1=a/\c.2.1=b):=by
 by_cases e:c.1=a
 ·refine⟨c.2.1 - b,?_,by rw[kS];omega,by omega⟩;refine Pw rfl ?_;unfold DD;simp only[xp];simp(disch:=omega)only[↓my]
 ·refine⟨c.1 - a,?_,by rw[kS];omega,by omega⟩;refine Pw rfl ?_;unfold DD;simp only[xp];simp(disch:=omega)only[↓my]
def Fj{c:BJ}{a b:Int}(h:0<=c.1/\c.1<=1000/\0<=a/\a<=1000/\0<=c.2.1/\c.2.1<=255/\0<=b/\b<=255):∃d:Int,Cc 175 [.i c.1,.i c.2.1,.i c.2.2,.i a,.i b] [.i d]/\(d<0↔OL c a b=true)/\(d=0↔c.1=a/\c.2.1=b):=by
 obtain⟨d,g,e,f⟩:=Pa h;refine⟨d,?_,e,f⟩;refine q175 rfl ?_;unfold JO;simp only[xp]
 repeat (first|simp(disch:=omega)only[↓my]|refine ai (yp c) ?_|refine ai g ?_)
abbrev Xw:Value:=.func (.func 175) ⟨[]⟩ ⟨[]⟩
def SP:aB Xw=true:=rfl
def Ut{a:Int}{K:Ts}(h0:0<=a)(f:K (a / 2)):P1.shf .shr .u64 a .u64 1 (@hid _ ⟨K⟩):=by
 refine s_shf (vX 0) (K:=λn=>if n=a / 2 then yes else none) (λn b=>?_) ?_
 ·by_cases e:n=a / 2
  ·rw[e];exact f
  ·simp only[po e]at b;cases b
 ·have c:∀(K:Int->RT),(BA ab aa (D1 0)).shf .shr .u64 a .u64 1 K=LS .shr .u64 a .u64 1 K:=λ_=>rfl;rw[c];have d:OD 0 1=true:=rfl;unfold LS;rw[d];simp only;rw[jD];have:a.fdiv (2 ^ min (1:Int).toNat IntKind.u64.bits)=a / 2:=by
   show a.fdiv 2=a / 2;exact Int.fdiv_eq_ediv_of_nonneg a (by omega)
  rw[this,mc rfl]
def oF{a:Int}{K:Ts}(h1:0<=a)(c:a<=9223372036854775807)(b:K a):P1.conv .u64 a (@hid _ ⟨K⟩):=by
 show K (IntKind.wrap .u64 a);have:IntKind.wrap .u64 a=a:=by
  simp only[IntKind.wrap,IntKind.bits,IntKind.signed,qd2,Bf,if_false];omega
 rw[this];exact b
def EM(c:BJ):Prop:=0<=c.1/\c.1<=1000/\0<=c.2.1/\c.2.1<=255/\0<=c.2.2/\c.2.2<=255
def At(l:Ty)(a b:Int)(i:Nat):Prop:=i<=l.length/\(∀(k:Nat) c,l[k]?=some c->k<i->OL c a b=true)/\∀(k:Nat) c,l[k]?=some c->i<=k->OL c a b=false
def BU(l:Ty)(a b:Int)(i:Nat):Bool:=match l[i]? with
 |some c=>decide (c.1=a)&&decide (c.2.1=b)
 |none=>false
def IL{l:Ty}(h:BT l=true):∀(n i:Nat) a b,l[i]?=some a->l[i+n+1]?=some b->Da a b=true
 |0,i,a,b,e,d=>iG.1 h i a b e d
 |n+1,i,a,b,e,d=>by
  obtain⟨c,f⟩:=aL (l:=l) (i:=i+n+1) (by have:=aq d;omega);have g:=IL h n i a c e f;have j:=iG.1 h (i+n+1) c b f (by rw[show i+n+1+1=i+(n+1)+1 by omega];exact d);simp only[Da,Ck,uc,BF]at g j ⊢;omega
def Ec{l:Ty}(h:BT l=true){i j:Nat}{a b:BJ}(e:i<j)(c:l[i]?=some a)(d:l[j]?=some b):Da a b=true:=
 IL h (j - i - 1) i a b c (by rw[show i+(j - i - 1)+1=j by omega];exact d)
def Xm{h:HL}{x:Value}{l:Ty}(z:LsH h x 3 zz l)(y:∀c∈l,EM c)(U:l.length<=1000)(p:BT l=true){a b:Int}(V:0<=a/\a<=1000/\0<=b/\b<=255) :
  ∃i:Nat,At l a b i/\aD cc ab 174 [.v x,.i a,.i b,.v Xw] (ka aa h) [.i (Int.ofNat i),.b (BU l a b i)] (ka aa h):=by
 obtain⟨N,s,P,i,rfl,rfl,Q⟩:=x174 (K:=λN s=>∃i:Nat,N=[.i (Int.ofNat i),.b (BU l a b i)]/\s=h/\At l a b i) (H:=h) (rv z.good (kx (kx (rv SP ub)))) (by
  unfold Oh;simp only[xp];refine jw ?_;refine br z ?_;refine eQ (m:=l.length) (λm M s=>∃i j:Nat,M=[.i (Int.ofNat i),.i (Int.ofNat j)]/\s=h/\i<=j/\j<=l.length/\m=j - i/\(∀(k:Nat) c,l[k]?=some c->k<i->OL c a b=true)/\∀(k:Nat) c,l[k]?=some c->j<=k->OL c a b=false) ⟨0,l.length,rfl,rfl,by omega,by omega,by omega,λk c _ y=>by omega,λk c f y=>by have:=aq f;omega⟩ ?_;rintro m M s ⟨i,j,rfl,rfl,T,w,rfl,o,n⟩ O g;refine Hs ?_;refine jw ?_;by_cases G:i<j
  ·rw[aJ G];refine jw ?_;rw[B9 (by show -9223372036854775808<=(i:Int)+j;omega) (by show(i:Int)+j<=9223372036854775807;omega)];refine oF (by show 0<=(i:Int)+j;omega) (by show(i:Int)+j<=9223372036854775807;omega) ?_;refine Ut (by show 0<=(i:Int)+j;omega) ?_;have u:(Int.ofNat i+Int.ofNat j) / 2=Int.ofNat ((i+j) / 2):=by simp
   rw[u];rw[K8 (by show -9223372036854775808<=(((i+j) / 2:Nat):Int);omega) (by show(((i+j) / 2:Nat):Int)<=9223372036854775807;omega)];obtain⟨c,f⟩:=aL (l:=l) (i:=(i+j) / 2) (by omega);have I:=y c (Af f);unfold EM at I;refine aQ z rfl f ?_;unfold zz;refine jw ?_;obtain⟨d,D,B,C⟩:=Fj (c:=c) (a:=a) (b:=b) (by omega);refine oE (rg (D _) rfl [.agg [.i .i64 c.1,.i .u8 c.2.1,.i .u8 c.2.2],.agg [.i .i64 a,.i .u8 b]] rfl rfl) ?_;refine jw ?_;by_cases t:d<0
   ·have L:=B.1 t;refine jw ?_;rw[aS (by omega)];refine jw ?_;refine g (j - ((i+j) / 2+1)) _ _ (by omega) ⟨(i+j) / 2+1,j,rfl,rfl,by omega,w,rfl,λk e r F=>?_,n⟩;rcases Bi k ((i+j) / 2)with q|q
    ·have:=Ec p q r f;rw[kS]at L ⊢;simp only[Da,Ck,uc,BF]at this;omega
    ·obtain rfl:k=(i+j) / 2:=by omega
     rw[f]at r;cases r;exact L
   ·have J:OL c a b=false:=by
     rw[←Cz];intro S;exact t (B.2 S)
    refine jw ?_;refine g ((i+j) / 2 - i) _ _ (by omega) ⟨i,(i+j) / 2,rfl,rfl,by omega,by omega,rfl,o,λk e r F=>?_⟩;rcases Bi ((i+j) / 2) k with q|q
    ·have:=Ec p q f r;rw[←Cz,kS]at J ⊢;simp only[Da,Ck,uc,BF]at this;omega
    ·obtain rfl:k=(i+j) / 2:=by omega
     rw[f]at r;cases r;exact J
  ·obtain rfl:i=j:=by omega
   rw[aM (zY _)];refine jw ?_;by_cases E:i<l.length
   ·rw[aJ E];refine jw ?_;obtain⟨c,f⟩:=aL E;have I:=y c (Af f);unfold EM at I;refine aQ z rfl f ?_;unfold zz;refine jw ?_;obtain⟨d,D,B,C⟩:=Fj (c:=c) (a:=a) (b:=b) (by omega);refine oE (rg (D _) rfl [.agg [.i .i64 c.1,.i .u8 c.2.1,.i .u8 c.2.2],.agg [.i .i64 a,.i .u8 b]] rfl rfl) ?_;refine jw ?_;by_cases A:d=0
    ·have:=C.1 A;rw[zT A];refine jw ?_;exact⟨i,by simp[BU,f,this.1,this.2],by trivial,w,o,n⟩
    ·have R:¬(c.1=a/\c.2.1=b):=λq=>A (C.2 q);rw[zO A];refine jw ?_;refine⟨i,?_,by trivial,w,o,n⟩;have:BU l a b i=false:=by
      simp only[BU,f];rw[←Cz];simpa using R
     rw[this]
   ·rw[aM (by omega)];refine jw ?_;refine⟨i,?_,by trivial,w,o,n⟩;have:BU l a b i=false:=by
     simp only[BU,Bd (Nat.not_lt.1 E)]
    rw[this])
 exact⟨i,Q,P⟩
def SJ{h:HL}{x:Value}{l:Ty}(f:LsH h x 3 zz l)(n:∀c∈l,EM c)(o:l.length<=1000)(d:BT l=true){a b:Int}(p:0<=a/\a<=1000/\0<=b/\b<=255) :
  ∃i:Nat,At l a b i/\aD cc ab 138 [.v x,.i a,.i b] (ka aa h) [.i (Int.ofNat i),.b (BU l a b i)] (ka aa h):=by
 obtain⟨i,m,k⟩:=Xm f n o d p;obtain⟨g,e,j,rfl,rfl⟩:=x138 (K:=λg e=>g=[.i (Int.ofNat i),.b (BU l a b i)]/\e=h) (H:=h) (rv f.good (kx (kx ub))) (by
  unfold Oc;simp only[xp]
  repeat (first|simp(disch:=omega)only[↓my]|refine al k ?_)
  trivial)
 exact⟨i,m,j⟩
def G8(a b:Int)(c:BJ):Bool:=decide (c.1=a)&&decide (c.2.1=b)
def jN(l:Ty)(a b:Int):Int:=match l.find? (G8 a b)with
 |some c=>c.2.2
 |none=>0
def OC{l:Ty}{a b:Int}{i:Nat}(h:At l a b i)(f:BT l=true):(BU l a b i=true->∃c,l[i]?=some c/\jN l a b=c.2.2)/\(BU l a b i=false->jN l a b=0):=by
 obtain⟨B,x,y⟩:=h;have m:∀(k:Nat) c,l[k]?=some c->G8 a b c=true->k=i:=by
  intro k c g n;simp only[G8,uc,BF]at n;rcases Nat.lt_trichotomy k i with q|q|q
  ·have:=x k c g q;rw[kS]at this;omega
  ·exact q
  ·obtain⟨d,t⟩:=aL (l:=l) (i:=i) (by have:=aq g;omega);have v:=Ec f q t g;have w:=y i d t (zY _);rw[←Cz,kS]at w;simp only[Da,Ck,uc,BF]at v;omega
 have j:BU l a b i=true↔∃c,l[i]?=some c/\G8 a b c=true:=by
  unfold BU G8;cases e:l[i]? with
  |none=>simp
  |some c=>simp
 unfold jN;cases o:l.find? (G8 a b)with
 |none=>
  have s:=qdA.1 o;constructor
  ·intro z;obtain⟨c,g,n⟩:=j.1 z;exact absurd n (s c (Af g))
  ·intro _;rfl
 |some c=>
  have u:=List.find?_some o;obtain⟨k,p⟩:=Dd (qcR o);have r:=m k c p u;subst r;constructor
  ·intro _;exact⟨c,p,rfl⟩
  ·intro A;have:=j.2 ⟨c,p,u⟩;rw[A]at this;cases this
structure Pat(w v:Nat)(l:Ty):Prop where
 sheet:1<=w/\w<=5/\1<=v/\v<=5
 rng:∀c∈l,EM c
 len:l.length<=1000
 ok:CD (.ofNat w) (.ofNat v) l=0
def Pat.sm{w v:Nat}{l:Ty}(h:Pat w v l):Do (.ofNat w) (.ofNat v):=by
 have:=h.sheet;unfold Do;simp only[D8];omega
def Pat.asc{w v:Nat}{l:Ty}(h:Pat w v l):BT l=true:=by
 have:=h.ok;unfold CD at this;split at this
 ·cases this
 ·split at this
  ·cases this
  ·split at this
   ·assumption
   ·cases this
def Pat.check{w v:Nat}{l:Ty}(h:Pat w v l){H:HL}{x:Value}(b:LsH H x 3 zz l):aD cc ab 99 [.i (.ofNat w),.i (.ofNat v),.v x] (ka aa H) [.i 0] (ka aa H):=by
 have:=Nx h.sm b (λc a=>by
  have:=h.rng c a;unfold EM at this;unfold okC;omega) (by have:=h.len;omega)
 rw[h.ok]at this;exact this
def S6{w v:Nat}{l:Ty}(g:Pat w v l){H:HL}{x:Value}(h:LsH H x 3 zz l){c e n:Nat}(C:c<4*w*v)(D:e<3)(F:Aa w v c e=some n)(G:n<=1000) :
  aD cc ab 68 [.i (.ofNat w),.i (.ofNat v),.v x,.i (.ofNat c),.i (.ofNat e)] (ka aa H) [.i (jN l (.ofNat (min c n)) (.ofNat e)),.i 0] (ka aa H):=by
 have f:=g.sheet;have d:=EC (qL w v f.1 f.2.1 f.2.2.1 f.2.2.2) C D;unfold DO at d;rw[F]at d;simp only at d;obtain⟨i,E,q⟩:=SJ h g.rng g.len g.asc (a:=.ofNat (min c n)) (b:=.ofNat e) (by simp only[D8];omega);obtain⟨I,J⟩:=OC E g.asc;obtain⟨m,j,s,z,A⟩:=x106 (K:=λm j=>m=[.i (.ofNat (min c n)),.i (.ofNat e),.i (.ofNat i),.b (BU l (.ofNat (min c n)) (.ofNat e) i),.i 0]/\j=H) (H:=H) (kx (kx (rv h.good (kx (kx ub))))) (by
  unfold N4;simp only[xp]
  repeat (first|simp(disch:=omega)only[↓my]|refine al (g.check h) ?_|refine ai d ?_|refine al q ?_)
  trivial)
 rw[z,A]at s;obtain⟨L,M,t,e3,B⟩:=x68 (K:=λm j=>m=[.i (jN l (.ofNat (min c n)) (.ofNat e)),.i 0]/\j=H) (H:=H) (kx (kx (rv h.good (kx (kx ub))))) (by
  unfold f68;simp only[xp]
  repeat (first|simp(disch:=omega)only[↓my]|refine al s ?_)
  cases u:BU l (.ofNat (min c n)) (.ofNat e) i with
  |false=>
   simp(disch:=omega)only[↓my,Cv];rw[J u];trivial
  |true=>
   obtain⟨y,p,r⟩:=I u
   repeat (first|simp(disch:=omega)only[↓my,Bs]|refine bB (o:=2) (k:=1) (cs:=[.int .u8 y.2.2]) h rfl p rfl (by omega) ?_)
   rw[r];trivial)
 rw[e3,B]at t;exact t
abbrev Pq:=Nat×Nat
abbrev Lq:=Nat×Nat×Nat
def gX(p:Pq):Tk:=[.int .i64 (Int.ofNat p.1),.int .i64 (Int.ofNat p.2)]
def gW(p:Lq):Tk:=[.int .u8 (Int.ofNat p.1),.int .i64 (Int.ofNat p.2.1),.int .i64 (Int.ofNat p.2.2)]
def eY(p:Pq):(gX p).length=2:=rfl
def cE(p:Lq):(gW p).length=3:=rfl
def nJ(k:K6):Tk:=E4 k
def fH(k:K6):(nJ k).length=6:=rfl
structure En where
 a:Cl
 b:Cl
 id:Nat
 vp:Value
 vl:Value
 ve:Value
 ps:List Pq
 ls:List Lq
 es:List Nat
def aF(q:En):Tk:=bw q.a++bw q.b++[q.vp,q.vl,q.ve]
structure EnH(n1:Nat)(h:HL)(q:En):Prop where
 idn:n1<=q.id
 bl:h[q.id]?=some (.o (.cells (aF q) 9 true))
 op:OwnL n1 h q.vp 2 gX q.ps
 ol:OwnL n1 h q.vl 3 gW q.ls
 oe:OwnL n1 h q.ve 1 km q.es
def aprt(p q:En):Prop:=p.id≠q.id/\∀b,(blk p.vp=some b->blk q.vp≠some b)/\(blk p.vl=some b->blk q.vl≠some b)/\(blk p.ve=some b->blk q.ve≠some b)
theorem aprt.symm{p q:En}(h:aprt p q):aprt q p:=⟨BO h.1,λb=>⟨λa c=>(h.2 b).1 c a,λa c=>(h.2 b).2.1 c a,λa c=>(h.2 b).2.2 c a⟩⟩
def wd(q:En):K6:=(q.a,q.b)
structure BC where
 w:Nat
 v:Nat
 xc:Value
 pl:Value
 im:Value
 hg:Value
 bm:Nat
 mm:Nat
 n1:Nat
def bE(c:BC)(a:Value):Tk:=[.int .i64 (Int.ofNat c.w),.int .i64 (Int.ofNat c.v),c.xc,c.pl,c.im,c.hg,.map (some c.mm),a]
structure Bld(c:BC)(hS h:HL)(kv:Value)(Q:List En):Prop where
 low:∀(j:Nat) o,j<c.n1->j≠c.bm->j≠c.mm->hS[j]?=some o->h[j]?=some o
 bl:h[c.bm]?=some (.o (.cells (bE c kv) 8 true))
 mp:∃ps,ps.Perm (Q.map λq=>(wd q,te q.id))/\MapV E4 h c.mm ps
 ky:OwnL c.n1 h kv 6 nJ (Q.map wd)
 en:∀q∈Q,EnH c.n1 h q
 ap:Q.Pairwise aprt
 nd:(Q.map wd).Nodup
 bn:c.bm<c.n1
 mn:c.mm<c.n1
 ne:c.bm≠c.mm
 sz:c.n1<=h.length
def EnH.keep{e:Nat}{h h':HL}{q:En}(c:EnH e h q)(d:∀(j:Nat) o,h[j]?=some o->(j=q.id∨blk q.vp=some j∨blk q.vl=some j∨blk q.ve=some j)->h'[j]?=some o):EnH e h' q:=
 ⟨c.idn,d _ _ c.bl (.inl rfl),c.op.keep λj o b a=>d j o b (.inr (.inl a)),c.ol.keep λj o b a=>d j o b (.inr (.inr (.inl a))),c.oe.keep λj o b a=>d j o b (.inr (.inr (.inr a)))⟩
def Co(q:En)(j:Nat):Prop:=j=q.id∨blk q.vp=some j∨blk q.vl=some j∨blk q.ve=some j
def EnH.lt{c:Nat}{h:HL}{q:En}(b:EnH c h q){j:Nat}(a:Co q j):c<=j/\j<h.length:=by
 rcases a with rfl|a|a|a
 ·exact⟨b.idn,aq b.bl⟩
 ·exact b.op.blk a
 ·exact b.ol.blk a
 ·exact b.oe.blk a
def Dp(h:HL)(j:Nat):To:=match h[j]? with
 |some (.o (.cells _ e _))=>some e
 |_=>none
def cN{α:Type}{n0 e:Nat}{enc:α->Tk}{l:List α}{h:HL}{v:Value}(d:OwnL n0 h v e enc l){j:Nat}(a:blk v=some j):Dp h j=some e:=by
 rcases d with⟨rfl,_⟩|⟨id,f,rfl,g,c,_⟩
 ·cases a
 ·have b:id=j:=by simpa[blk]using a
  subst b;unfold Dp;rw[c]
def eS{h:HL}{j:Nat}{cs:Tk}{e:Nat}{a:Bool}(b:h[j]?=some (.o (.cells cs e a))):Dp h j=some e:=by
 unfold Dp;rw[b]
def Bld.grow{c:BC}{f h h':HL}{g:Value}{Q:List En}(a:Bld c f h g Q)(b:Pre h h'):Bld c f h' g Q:=
 ⟨λj o i k l m=>b.get (a.low j o i k l m),b.get a.bl,a.mp.elim λr d=>⟨r,d.1,d.2.keep _ λo n=>b.get n⟩,a.ky.keep λj o e _=>b.get e,λq p=>(a.en q p).keep λj o e _=>b.get e,a.ap,a.nd,a.bn,a.mn,a.ne,by have:=a.sz;have:=b.len;omega⟩
def Bld.new{c:BC}{C h h':HL}{A kv':Value}{Q:List En}(d:Bld c C h A Q){a b:Cl}(F:(a,b)∉Q.map wd){id:Nat}(hid:h.length<=id)(H:h'[id]?=some (.o (.cells (aF ⟨a,b,id,.slice none 0 0,.slice none 0 0,.slice none 0 0,[],[],[]⟩) 9 true)))
  (G:∃r,r.Perm (Q.map λq=>(wd q,te q.id))/\MapV E4 h' c.mm (r++[((a,b),te id)])) (w:OwnL c.n1 h' kv' 6 nJ (Q.map wd++[(a,b)])) (u:h'[c.bm]?=some (.o (.cells (bE c kv') 8 true)))
  (g:∀(j:Nat) o,h[j]?=some o->j≠c.bm->j≠c.mm->blk A≠some j->h'[j]?=some o) (J:h.length<=h'.length) :
  Bld c C h' kv' (Q++[⟨a,b,id,.slice none 0 0,.slice none 0 0,.slice none 0 0,[],[],[]⟩]):=by
 have l:∀q∈Q,∀j,Co q j->j≠c.bm/\j≠c.mm/\blk A≠some j:=λq f j i=>by
  have B:=(d.en q f).lt i;have s:=d.bn;have t:=d.mn;refine⟨by omega,by omega,λe=>?_⟩;have k:=cN d.ky e;have n:=d.en q f;rcases i with rfl|i|i|i
  ·rw[eS n.bl]at k;cases k
  ·rw[cN n.op i]at k;cases k
  ·rw[cN n.ol i]at k;cases k
  ·rw[cN n.oe i]at k;cases k
 have D:=d.sz;refine⟨λj o B s t E=>g j o (d.low j o B s t E) s t λe=>by
  have:=(d.ky.blk e).1;omega,u,G.elim λr m=>⟨r++[((a,b),te id)],(by rw[Cw];exact m.1.append_right _),m.2⟩,by rw[Cw];exact w,λq f=>?_,?_,?_,d.bn,d.mn,d.ne,by omega⟩
 ·rcases qas.1 f with f|f
  ·refine(d.en q f).keep λj o i v=>?_;obtain⟨L,M,N⟩:=l q f j v;exact g j o i L M N
  ·rw[qav]at f;subst f;exact⟨by show c.n1<=id;omega,H,.nil _ _ _ _,.nil _ _ _ _,.nil _ _ _ _⟩
 ·rw[UE];refine⟨d.ap,by simp,λp I q f=>?_⟩;rw[qav]at f;subst f;refine⟨?_,λb=>⟨λ_ h=>(by cases h),λ_ h=>(by cases h),λ_ h=>(by cases h)⟩⟩;have:=((d.en p I).lt (.inl rfl)).2;show p.id≠id;omega
 ·rw[Cw,qb0];refine⟨d.nd,by simp,λx K y z e=>?_⟩;have z:y=(a,b):=by simpa[wd]using z
  subst z e;exact F K
def Ud{Q:List En}(d:(Q.map wd).Nodup){q q':En}(h1:q∈Q)(f:q'∈Q)(e:wd q=wd q'):q=q':=by
 obtain⟨i,a⟩:=Dd h1;obtain⟨j,c⟩:=Dd f;have h:(Q.map wd)[i]?=(Q.map wd)[j]?:=by
  rw[AU,AU,a,c];simp only[BB,e]
 have b:i=j:=(List.getElem?_inj (by simpa using aq a) d).1 h;subst b;rw[a]at c;exact AD c
def Nu{m:Nat}{h:HL}{p q:En}(g:EnH m h p)(i:EnH m h q)(l:aprt p q){j:Nat}(b:Co p j):¬Co q j:=by
 intro a;have n:Dp h j=some 9/\j=p.id∨Dp h j=some 2/\blk p.vp=some j∨Dp h j=some 3/\blk p.vl=some j∨Dp h j=some 1/\blk p.ve=some j:=by
  rcases b with rfl|b|b|b
  ·exact .inl ⟨eS g.bl,rfl⟩
  ·exact .inr (.inl ⟨cN g.op b,b⟩)
  ·exact .inr (.inr (.inl ⟨cN g.ol b,b⟩))
  ·exact .inr (.inr (.inr ⟨cN g.oe b,b⟩))
 have o:Dp h j=some 9/\j=q.id∨Dp h j=some 2/\blk q.vp=some j∨Dp h j=some 3/\blk q.vl=some j∨Dp h j=some 1/\blk q.ve=some j:=by
  rcases a with rfl|a|a|a
  ·exact .inl ⟨eS i.bl,rfl⟩
  ·exact .inr (.inl ⟨cN i.op a,a⟩)
  ·exact .inr (.inr (.inl ⟨cN i.ol a,a⟩))
  ·exact .inr (.inr (.inr ⟨cN i.oe a,a⟩))
 have k:=l.2 j;rcases n with⟨f,c⟩|⟨f,c⟩|⟨f,c⟩|⟨f,c⟩<;>rcases o with⟨e,d⟩|⟨e,d⟩|⟨e,d⟩|⟨e,d⟩
 all_goals first
  |(rw[f]at e;cases e;done)
  |exact l.1 (c.symm.trans d)
  |exact k.1 c d
  |exact k.2.1 c d
  |exact k.2.2 c d
def Lv{R:En->En->Prop}(d:∀ {a b},R a b->R b a):∀ {Q:List En} {i:Nat} {q q':En},Q.Pairwise R->Q[i]?=some q->(∀p∈Q.eraseIdx i,R q p->R q' p)->(Q.set i q').Pairwise R
 | [],_,_,_,_,h,_=>by simp at h
 |a :: Q,0,q,q',e,h,f=>by
  simp at h;subst h;have e:=qbb.1 e;exact qbb.2 ⟨λp c=>f p c (e.1 p c),e.2⟩
 |a :: Q,i+1,q,q',e,h,f=>by
  simp only[Ip]at h;have e:=qbb.1 e;refine qbb.2 ⟨λp c=>?_,Lv d e.2 h λp c=>f p (by simp[c])⟩;rcases Rw c with c|rfl
  ·exact e.1 p c
  ·exact d (f a (by simp) (d (e.1 q (Af h))))
def Bld.upd{c:BC}{I h h':HL}{J:Value}{Q:List En}(g:Bld c I h J Q){i:Nat}{q q':En}(w:Q[i]?=some q)(x:wd q'=wd q)(hid:q'.id=q.id)(M:EnH c.n1 h' q')
  (u:∀b,(blk q'.vp=some b->blk q.vp=some b∨h.length<=b)/\(blk q'.vl=some b->blk q.vl=some b∨h.length<=b)/\(blk q'.ve=some b->blk q.ve=some b∨h.length<=b))
  (d:∀(j:Nat) o,h[j]?=some o->¬Co q j->h'[j]?=some o) (P:h.length<=h'.length):Bld c I h' J (Q.set i q'):=by
 have H:=Af w;have l:=g.en q H;have m:∀j,j<c.n1->¬Co q j:=λj A e=>by
  have:=(l.lt e).1;omega
 have AQ:∀ {β:Type} (f:En->β),f q'=f q->(Q.set i q').map f=Q.map f:=λf N=>by
  rw[LC,N];exact bC (by rw[AU,w];rfl)
 have y:(Q.set i q').map wd=Q.map wd:=AQ wd x;have E:((Q.set i q').map λq=>(wd q,te q.id))=Q.map λq=>(wd q,te q.id):=AQ (λq=>(wd q,te q.id)) (by simp only[x,hid]);have v:Q.Perm (q :: Q.eraseIdx i):=by
  have:=dM (a:=q) w
  rwa [bC w]at this
 have G:=qbb.1 ((v.pairwise_iff λh=>h.symm).1 g.ap);refine⟨λj o s n K L=>d j o (g.low j o s n K L) (m j s),d _ _ g.bl (m _ g.bn),?_,?_,λp F=>?_,?_,by rw[y];exact g.nd,g.bn,g.mn,g.ne,by have:=g.sz;omega⟩
 ·rw[E];exact g.mp.elim λR z=>⟨R,z.1,z.2.keep _ λo O=>d _ _ O (m _ g.mn)⟩
 ·rw[y];refine g.ky.keep λj o A C=>d j o A λe=>?_;have t:=cN g.ky C;rcases e with rfl|e|e|e
  ·rw[eS l.bl]at t;cases t
  ·rw[cN l.op e]at t;cases t
  ·rw[cN l.ol e]at t;cases t
  ·rw[cN l.oe e]at t;cases t
 ·have r:=(dM (a:=q') w).mem_iff.1 F;rcases qar.1 r with rfl|r
  ·exact M
  ·have k:=g.en p (v.mem_iff.2 (Bo _ r));exact k.keep λj o A D=>d j o A (Nu k l (G.1 p r).symm D)
 ·refine Lv (λh=>h.symm) g.ap w λp F B=>?_;have k:=g.en p (v.mem_iff.2 (Bo _ F));refine⟨by rw[hid];exact B.1,λb=>⟨λs n=>?_,λs n=>?_,λs n=>?_⟩⟩
  ·rcases(u b).1 s with e|e
   ·exact(B.2 b).1 e n
   ·have:=(k.op.blk n).2;omega
  ·rcases(u b).2.1 s with e|e
   ·exact(B.2 b).2.1 e n
   ·have:=(k.ol.blk n).2;omega
  ·rcases(u b).2.2 s with e|e
   ·exact(B.2 b).2.2 e n
   ·have:=(k.oe.blk n).2;omega
def ed{h:HL}{b e o n:Nat}{cs:Tk}(d:h[b]?=some (.o (.cells cs e true)))(f:o+n<=cs.length):Ptr h (.pointer (some ⟨b,0+o,none⟩)) ((cs.drop o).take n):=by
 obtain⟨p,a,c⟩:=(dK d).fd o n f;have e:Ag o (te b)=some (.pointer (some ⟨b,0+o,none⟩)):=rfl;rw[e]at a;cases a;exact c
def NH{a b o c:Nat}(h:a≠b):Sx.disjN (Sx.adr (.pointer (some ⟨a,o,none⟩))) (Sx.adrK 0 (.pointer (some ⟨b,c,none⟩)))=true:=nD h
def AX(x y:Cl):K6:=if AO x y then(y,x)else(x,y)
def gg(k:K6)(id:Nat):En:=⟨k.1,k.2,id,.slice none 0 0,.slice none 0 0,.slice none 0 0,[],[],[]⟩
def LF{c:BC}{w h:HL}{A:Value}{Q:List En}(m:Bld c w h A Q){k:K6}{i:Nat}{q:En}(o:Q[i]?=some q)(n:wd q=k){v:Value}(z:v = .agg ⟨E4 k⟩){K:Te}(t:K [te q.id]) :
  P1.peek (.fn (DL cc 92 false (.pointer none) (.map (some c.mm)) v false)) h (@hid _ ⟨K⟩):=by
 obtain⟨C,g,b⟩:=m.mp;refine RC E4 El (by kernel_rfl) (by kernel_rfl) vm b k z (λr e=>by cases e) (λp y r e=>?_) (λx=>?_) λB u a=>?_
 ·obtain⟨j,_,rfl⟩:=qaz.1 (g.mem_iff.1 y);cases e
 ·refine absurd ?_ x;refine(g.map Prod.fst).mem_iff.2 ?_;rw[D9];exact qaz.2 ⟨q,Af o,n⟩
 ·obtain⟨j,d,e⟩:=qaz.1 (g.mem_iff.1 (Af a));have s:wd j=k:=congrArg Prod.fst e;have l:te j.id=u:=congrArg Prod.snd e;have f:=Ud m.nd d (Af o) (s.trans n.symm);rw[f]at l;rw[←l];exact t
def at_c{c:BC}{P h:HL}{D:Value}{Q:List En}(m:Bld c P h D Q)(hQ:Q.length<=1000){x y:Cl}(hx:x.2.2<4)(hy:y.2.2<4) :
  ∃(h':HL) (kv':Value) (d:List En) (i:Nat) (q:En),aD cc ab 66 ([.v (te c.bm)]++Ab x++Ab y) (ka aa h) [.v (te q.id)] (ka aa h')/\Bld c P h' kv' d/\d[i]?=some q/\wd q=AX x y/\h.length<=h'.length/\(d=Q∨(AX x y∉Q.map wd/\∃id,d=Q++[gg (AX x y) id])):=by
 have a5:=x66 (ls:=[.v (te c.bm),.i x.1,.i x.2.1,.i (Int.ofNat x.2.2),.i y.1,.i y.2.1,.i (Int.ofNat y.2.2)]) (K:=λrs h'=>∃(kv':Value) (d:List En) (i:Nat) (q:En),rs=[.v (te q.id)]/\Bld c P h' kv' d/\d[i]?=some q/\wd q=AX x y/\h.length<=h'.length/\(d=Q∨(AX x y∉Q.map wd/\∃id,d=Q++[gg (AX x y) id]))) (H:=h) (rv (aY _) (kx (kx (kx (kx (kx (kx ub))))))) (by
  unfold f66;simp only[xp];simp (disch:=omega) only[↓US,↓RB,↓RA];have cm:=jz hx hy;simp only[Ab,Aw,Ap]at cm;refine ai cm ?_;simp (disch:=omega) only[↓US,↓RB,↓RA];have hg:=Je x y;by_cases C:AO x y=true
  case' pos=>rw[Ad (hg.2 C)]
  case' neg=>rw[zU (Int.not_lt.1 λe=>C (hg.1 e))]
  case' pos=>have hk:AX x y=(y,x):=mc C
  case' neg=>have hk:AX x y=(x,y):=po C
  all_goals
   refine mT (λl h'=>h'=h/\l=[.i (AX x y).1.1,.i (AX x y).1.2.1,.i (Int.ofNat (AX x y).1.2.2),.i (AX x y).2.1,.i (AX x y).2.2.1,.i (Int.ofNat (AX x y).2.2.2)]) ?_ ?_
  case' pos.refine_2=>
   intro jj M;refine jw ?_;exact M _ _ ⟨rfl,by rw[hk]⟩
  case' neg.refine_2=>
   intro jj M;refine jw ?_;exact M _ _ ⟨rfl,by rw[hk]⟩
  all_goals
   rintro l h' ⟨e1,rfl⟩;rw[e1];clear e1;generalize AX x y=k at *;refine jw ?_;refine dW (ds:=[.map (some c.mm)]) m.bl (by simp[bE]) rfl ?_;refine jw ?_;refine ac rfl ?_;refine qs ?_;have bP:aB (.map (some c.mm))=true:=rfl;have bx:∀kv' d (g:HL),Bld c P g kv' d->g[c.bm]?=some (.o (.cells (bE c kv') 8 true)):=λkv' d g m=>m.bl;have w:∀(g:HL) (kv':Value) (d:List En) (i:Nat) (q:En),Bld c P g kv' d->d[i]?=some q->wd q=k->h.length<=g.length->(d=Q∨(k∉Q.map wd/\∃id,d=Q++[gg k id]))->
     P1.opt (zN (te c.bm)) (@hid _ ⟨λx50=>P1.chk x50 (@hid _ ⟨P1.opt (Ag 6 x50) (@hid _ ⟨λan=>P1.chk an (@hid _ ⟨P1.peek (.lg cc 1 an) g (@hid _ ⟨λa6=>P1.ucV a6 (@hid _ ⟨λap a7=>P1.chk ap (@hid _ ⟨P1.uc0 a7 (@hid _ ⟨P1.peek (.fn (DL cc 92 false (.pointer none) ap (.agg ⟨E4 k⟩) false)) g (@hid _ ⟨λa8=>P1.ucV a8 (@hid _ ⟨λx56 a9=>P1.chk x56 (@hid _ ⟨P1.uc0 a9 (@hid _ ⟨∃(kv':Value) (d:List En) (i:Nat) (q:En),[Lf.v x56]=[.v (te q.id)]/\Bld c P g kv' d/\d[i]?=some q/\wd q=k/\h.length<=g.length/\(d=Q∨(k∉Q.map wd/\∃id,d=Q++[gg k id]))⟩)⟩)⟩)⟩)⟩)⟩)⟩)⟩)⟩)⟩)⟩)⟩):=by
    intro g kv' d i q f B t a0 a3;refine dW (ds:=[.map (some c.mm)]) f.bl (by simp[bE]) rfl ?_;refine jw ?_;refine ac rfl ?_;refine qs ?_;refine LF f B t rfl ?_;refine jw ?_;refine ac (aY _) ?_;refine qs ?_;exact⟨kv',d,i,q,rfl,f,B,t,a0,a3⟩
   by_cases s:k∈Q.map wd
   ·obtain⟨q,a4,t⟩:=qaz.1 s;obtain⟨i,Z⟩:=Dd a4;refine LF m Z t rfl ?_;refine jw ?_;refine ac (aY _) ?_;refine qs ?_;refine ah (x:=false) rfl ?_;refine jw ?_;exact w h D Q i q m Z t (zY _) (.inl rfl)
   obtain⟨b0,af,U⟩:=m.mp;refine RC E4 El (by kernel_rfl) (by kernel_rfl) vm U k rfl (λcs e=>by cases e) (λp hp cs e=>?_) (λ_=>?_) λi' u ax=>?_
   ·obtain⟨q',_,rfl⟩:=qaz.1 (af.mem_iff.1 hp);cases e
   case refine_3=>
    obtain⟨q',B,e⟩:=qaz.1 (af.mem_iff.1 (Af ax));exact absurd (qaz.2 ⟨q',B,congrArg Prod.fst e⟩) s
   refine jw ?_;refine ac rfl ?_;refine qs ?_;refine ah (x:=true) rfl ?_;refine jw ?_;refine ah (x:=te c.bm) rfl (ac (aY _) (ah (x:=.pointer (some ⟨c.bm,0+6,none⟩)) rfl (ac (cM _ _) ?_)));refine cQ (ed (o:=6) (n:=1) m.bl (by simp[bE])) rfl ?_;rw[show((bE c D).drop 6).take 1=[.map (some c.mm)]from rfl];refine jw ?_;refine ac rfl ?_;refine qs ?_;have bt:=m.bn;have bS:=m.mn;have bX:=m.sz;have Y:Pre h (h++[HO.o (.cells (aF (gg k h.length)) 9 true)]):=⟨_,rfl⟩;have z:=m.grow Y;obtain⟨bd,ag,V⟩:=z.mp;have T:(h++[HO.o (.cells (aF (gg k h.length)) 9 true)])[h.length]?=some (.o (.cells (aF (gg k h.length)) 9 true)):=aA;refine r_muV E4 El (by kernel_rfl) (by kernel_rfl) vm (h:=h++[HO.o (.cells (aF (gg k h.length)) 9 true)]) V k (λhm=>s (by have:=(ag.map Prod.fst).mem_iff.1 hm;rw[D9]at this;exact this)) rfl λo a1=>?_;have aE:(h++[HO.o (.cells (aF (gg k h.length)) 9 true)]).length=h.length+1:=by simp
   have G:((h++[HO.o (.cells (aF (gg k h.length)) 9 true)]).set c.mm o)[h.length]?=some (.o (.cells (aF (gg k h.length)) 9 true)):=aV T (by omega);have E:((h++[HO.o (.cells (aF (gg k h.length)) 9 true)]).set c.mm o)[c.bm]?=some (.o (.cells (bE c D) 8 true)):=aV z.bl (BO m.ne);have r:OwnL c.n1 ((h++[HO.o (.cells (aF (gg k h.length)) 9 true)]).set c.mm o) D 6 nJ (Q.map wd):=z.ky.keep λj O L J=>aV L (by have:=(z.ky.blk J).1;omega);have ay:∀(j:Nat) O,h[j]?=some O->j≠c.mm->((h++[HO.o (.cells (aF (gg k h.length)) 9 true)]).set c.mm o)[j]?=some O:=λj O L a2=>aV (Y.get L) (BO a2);have bI:((h++[HO.o (.cells (aF (gg k h.length)) 9 true)]).set c.mm o).length=h.length+1:=by rw[Bc,aE]
   generalize (h++[HO.o (.cells (aF (gg k h.length)) 9 true)]).set c.mm o=R at *;refine ah (x:=()) (sL (NH (by omega)) lA) ?_;refine ah (x:=te c.bm) rfl (ac (aY _) (ah (x:=.pointer (some ⟨c.bm,0+7,none⟩)) rfl (ac (cM _ _) ?_)));refine cQ (ed (o:=7) (n:=1) E (by simp[bE])) rfl ?_;rw[show((bE c D).drop 7).take 1=[D]from rfl];refine jw ?_;refine ac (r.good fH) ?_;refine qs ?_;refine r.ap1 (a:=k) fH (by omega) rfl rfl rfl (by
    unfold bh;rw[AZ,Be (by omega),Be (by omega)];rfl) ?_
   intro kv' g W ar A bs be;refine jw ?_;refine ac ar ?_;refine qs ?_;have I:∀b,blk D=some b->c.n1<=b:=λb f=>(r.blk f).1;have F:g[c.bm]?=some (.o (.cells (bE c D) 8 true)):=A _ _ E λe=>by have:=I _ e;omega
   refine ah (x:=te c.bm) rfl (ac (aY _) (ah (x:=.pointer (some ⟨c.bm,0+7,none⟩)) rfl (ac (cM _ _) ?_)));have ad:(Hp.st (.pointer (some ⟨c.bm,0+7,none⟩)) [kv']).run (wb aa g) g.length=some ([.set c.bm (.cells (bE c kv') 8 true)],[]):=by
    show ES (.pointer (some ⟨c.bm,0+7,none⟩)) [kv'] (wb aa g) g.length=_;unfold ES;simp only;rw[bF F];simp only;unfold splice;rw[mc (by simp[bE])];rfl
   refine bZ ad ?_;show P1.opt _ _;have N:∀b,blk kv'=some b->c.n1<=b:=λb f=>(W.blk f).1;have S:=m.new (h':=g.set c.bm (.o (.cells (bE c kv') 8 true))) (kv':=kv') (a:=k.1) (b:=k.2) s (id:=h.length) (zY _) (aV (A _ _ G λe=>by
     have hs:=cN r e;rw[eS G]at hs;cases hs) (by omega)) ⟨bd,ag,a1.keep _ λo' X=>aV (A _ _ X λe=>by have:=I _ e;omega) (m.ne)⟩ (W.keep λj O L J=>aV L (by have:=N _ J;omega)) (fc F) (λj O L h1 R h3=>aV (A _ _ (ay j O L R) h3) (BO h1)) (by rw[Bc];omega)
   refine ah (x:=()) (sL (by
    show Sx.disjN [R.length] [c.bm]=true;exact nD (by omega)) lA) ?_
   refine qs ?_;exact w _ kv' _ Q.length (gg k h.length) S (by simp[gg]) rfl (by show h.length<=(List.set g c.bm _).length;rw[Bc];omega) (.inr ⟨s,h.length,rfl⟩))
 obtain⟨rs,h',R,kv',d,i,q,rfl,h3⟩:=a5;exact⟨h',kv',d,i,q,R,h3⟩
def RG(w v c:Nat):Bool:=match c with
 |0=>true
 |c+1=>jv 30 (Ab (sd w c)++Ab (sd w (c+1))) [.i (-1)]
def RJ(w v c:Nat):Bool:=(List.range 3).all λe=>jv 51 (Ab (sd w c)++[.i (Int.ofNat e)]) (Ab (AB (sd w c) e)++[.i 0])
def VG:∀w v:Nat,1<=w->w<=3->1<=v->v<=3->((List.range (4*w*v)).all λc=>RG w v c&&RJ w v c)=true:=by
 have a:((List.range 3).all λw=>(List.range 3).all λv=>(List.range (4*(w+1)*(v+1))).all λc=>RG (w+1) (v+1) c&&RJ (w+1) (v+1) c)=true:=by kernel_rfl
 intro w v e f g h;have d:=qab.1 a (w - 1) (qad.2 (by omega));have b:=qab.1 d (v - 1) (qad.2 (by omega));rw[show w - 1+1=w by omega,show v - 1+1=v by omega]at b;exact b
def ng_c{w v c e:Nat}(h:S3 w v)(a:c<4*w*v)(b:e<3):Cc 51 (Ab (sd w c)++[.i (Int.ofNat e)]) (Ab (AB (sd w c) e)++[.i 0]):=by
 have:=qab.1 (VG w v h.1 h.2.1 h.2.2.1 h.2.2.2) c (qad.2 a);rw[uc]at this;have:=qab.1 this.2 e (qad.2 b);exact ep this rfl (by kernel_rfl) rfl
def Xq{h:HL}{b n i:Nat}(c:h[b]?=some (.o (.cells [.int .i64 (Int.ofNat n)] 1 true)))(d:i<n):aD cc ab 93 [.i (Int.ofNat i),.v (te b)] (ka aa h) [.b false] (ka aa h):=by
 have a:=dK c;exact xK x93 (kx (rv a.good ub)) (by
  unfold f93;simp only[xp];refine jw ?_;rw[zQ (ofnn _)];refine jw ?_;refine cQ a rfl ?_;refine jw ?_;rw[AY (Um d)];simp(disch:=omega)only[↓my];trivial)
def st1_c{h:HL}{d e i:Nat}{ix y:Value}{I:List Cl}{c a:Cl}(k:h[d]?=some (.o (.cells [ix] 1 true)))(l:h[e]?=some (.o (.cells [.int .i64 c.1,.int .i64 c.2.1,.int .u8 (Int.ofNat c.2.2),y] 4 true)))(f:LsH h ix 3 bw I)(m:I[i]?=some a) :
  aD cc ab 50 [.i (Int.ofNat i),.v (te d),.v (te e)] (ka aa h) [.b (!decide (a=c))] (ka aa h):=by
 have g:=dK k;have j:=dK l;exact xK x50 (kx (rv g.good (rv j.good ub))) (by
  unfold f50;simp only[xp];refine jw ?_;refine cQ g rfl ?_;refine jw ?_;refine ac f.good ?_;refine qs ?_;refine aQ f rfl m ?_;rw[show bw a=[.int .i64 a.1,.int .i64 a.2.1,.int .u8 (Int.ofNat a.2.2)]from rfl];refine jw ?_;refine iz (ds:=[.int .i64 c.1,.int .i64 c.2.1,.int .u8 (Int.ofNat c.2.2)]) j (by simp) rfl ?_;refine jw ?_;rw[G9]
  try simp(disch:=omega)only[↓my]
  trivial)
structure Sm where
 k:K6
 ps:List Pq
 ls:List Lq
 es:List Nat
def Ay(q:En):Sm:=⟨wd q,q.ps,q.ls,q.es⟩
def A7(w:Nat)(P:TC)(id e:Nat):Cl:=am (P id) (AB (sd w id) e)
def Ar(w:Nat)(P:TC)(id:Nat):Cl:=am (P id) (sd w id)
def Bk(w:Nat)(P:TC)(k:K6)(id:Nat):Nat:=if Ar w P id=k.2 then 1 else 0
abbrev _root_.Tz:=Nat->Nat
def Ce(w v:Nat)(l:Ty)(P:TC)(hg:Tz)(id e:Nat)(s:Sm):Sm:=match Aa w v id e with
 |none=>{ s with es:=s.es++[id] }
 |some n=>if n<id then s
  else if jN l (.ofNat (min id n)) (.ofNat e)=0 then(if Bk w P s.k id=0 then { s with ps:=s.ps++[(id,n)] } else { s with ps:=s.ps++[(n,id)] })
  else if hg id<hg n then { s with ls:=s.ls++[(Bk w P s.k id,id,n)] } else { s with ls:=s.ls++[(Bk w P s.k id,n,id)] }
def U7{w v:Nat}{l:Ty}{P:TC}{hg:Tz}{id e:Nat}{s:Sm}:(Ce w v l P hg id e s).k=s.k:=by
 unfold Ce
 repeat' split
 all_goals rfl
def fR(k:K6)(Q:List Sm):List Sm:=if k∈Q.map (·.k)then Q else Q++[⟨k,[],[],[]⟩]
def ir(w v:Nat)(l:Ty)(P:TC)(hg:Tz)(Q:List Sm)(id e:Nat):List Sm:=
 (fR (AX (Ar w P id) (A7 w P id e)) Q).map λs=>if s.k=AX (Ar w P id) (A7 w P id e)then Ce w v l P hg id e s else s
def FO{k:K6}{f:Sm->Sm}:∀ {Q:List Sm} {i:Nat} {s:Sm},(Q.map (·.k)).Nodup->Q[i]?=some s->s.k=k->Q.map (λs=>if s.k=k then f s else s)=Q.set i (f s)
 | [],_,_,_,h,_=>by simp at h
 |a :: Q,0,s,b,h,c=>by
  simp at h;subst h;rw[AL,qbU]at b;rw[AL,mc c,qc1]
  congr 1
  conv=>rhs;rw[←qd4 Q]
  refine DV λt d=>?_;rw[po]
  ·rfl
  ·intro e;exact b.1 (qaz.2 ⟨t,d,e.trans c.symm⟩)
 |a :: Q,i+1,s,b,h,c=>by
  rw[AL,qbU]at b;simp only[Ip]at h;rw[AL,po,qcJ,FO b.2 h c];intro e;exact b.1 (qaz.2 ⟨s,Af h,c.trans e.symm⟩)
structure CtxB(c:BC)(hS:HL)(l:Ty)(G:TC)(r:Mv)(hg:Tz):Prop where
 h3:S3 c.w c.v
 n1:c.n1=hS.length
 sb:Dp hS c.bm=some 8
 sm:Dp hS c.mm=none
 pl:LsH hS c.pl 3 tx (A8 c.w c.v G r)
 im:LsH hS c.im 3 bw (Fz c.w c.v G r)
 hg:LsH hS c.hg 1 km ((List.range (4*c.w*c.v)).map hg)
 xc:LsH hS c.xc 3 zz l
 pat:Pat c.w c.v l
 gok:ConsO c.w c.v l G
 rok:Av 4000 r
 vok:allV c.w G r (4*c.w*c.v)
 nok:∀id e,id<4*c.w*c.v->e<3->D4 (am (ae (G id) r) (AB (sd c.w id) e))=true
def vB{α:Type}{e:Nat}{enc:α->Tk}{l:List α}{h:HL}{v:Value}(d:LsH h v e enc l){j:Nat}(a:blk v=some j):Dp h j=some e:=by
 obtain⟨_,_,⟨rfl,_⟩|⟨id,f,i,k,g,rfl,c,_⟩⟩:=d
 ·cases a
 ·have b:id=j:=by simpa[blk]using a
  subst b;exact eS c
def Bld.ls{c:BC}{d h:HL}{n:Value}{Q:List En}(k:Bld c d h n Q){l:Ty}{G:TC}{r:Mv}{hg:Tz}(f:CtxB c d l G r hg){α:Type}{e:Nat}{enc:α->Tk}{L:List α}{v:Value}(g:LsH d v e enc L)(m:e≠8):LsH h v e enc L:=
 g.keep λj o i a=>k.low j o (by rw[f.n1];exact aq i) (λb=>by
  have:=vB g a;rw[b,f.sb]at this;exact m (AD this).symm) (λb=>by
  have:=vB g a;rw[b,f.sm]at this;cases this) i
def Rb(q:En):Prop:=(q.ps=[]->q.vp = .slice none 0 0)/\(q.ls=[]->q.vl = .slice none 0 0)/\(q.es=[]->q.ve = .slice none 0 0)
def bndE(B:Nat)(q:En):Prop:=(q.ps.length<=B/\q.ls.length<=B/\q.es.length<=B)/\Rb q
def bndE.mono{B B':Nat}{q:En}(h:bndE B q)(e:B<=B'):bndE B' q:=by
 obtain⟨⟨b,c,d⟩,a⟩:=h;exact⟨⟨by omega,by omega,by omega⟩,a⟩
def Mt{k:K6}{Q a:List En}{i:Nat}{q:En}(f:a[i]?=some q)(d:wd q=k)(c:a=Q∨(k∉Q.map wd/\∃id,a=Q++[gg k id])):a.map Ay=fR k (Q.map Ay):=by
 have b:(Q.map Ay).map (·.k)=Q.map wd:=by rw[D9];rfl
 unfold fR;rw[b];rcases c with rfl|⟨e,id,rfl⟩
 ·rw[mc (qaz.2 ⟨q,Af f,d⟩)]
 ·rw[po e,Cw];rfl
def TZ{c:BC}{hS h:HL}{kv:Value}{Q:List En}{l:Ty}{G:TC}{r:Mv}{hg:Tz}(Y:CtxB c hS l G r hg)(d:Bld c hS h kv Q)(hQ:Q.length<=900){B:Nat}(hB:B<=900)(a3:∀q∈Q,bndE B q){id e:Nat}(I:id<4*c.w*c.v)(he:e<3) :
  ∃(h':HL) (kv':Value) (V:List En),aD cc ab 26 [.v (te c.bm),.i (Int.ofNat id),.i (Int.ofNat e)] (ka aa h) [] (ka aa h')/\Bld c hS h' kv' V/\V.map Ay=ir c.w c.v l (λn=>ae (G n) r) hg (Q.map Ay) id e/\V.length<=Q.length+1/\(∀q∈V,bndE (B+1) q)/\h.length<=h'.length:=by
 have h3:=Y.h3;have hs:=h3.sh;obtain⟨b1,b2,b3,b4⟩:=h3.n;have bX:=x26 (ls:=[.v (te c.bm),.i (Int.ofNat id),.i (Int.ofNat e)]) (K:=λrs h'=>∃(kv':Value) (V:List En),rs=[]/\Bld c hS h' kv' V/\V.map Ay=ir c.w c.v l (λn=>ae (G n) r) hg (Q.map Ay) id e/\V.length<=Q.length+1/\(∀q∈V,bndE (B+1) q)/\h.length<=h'.length) (H:=h) (rv (aY _) (kx (kx ub))) (by
  unfold f26;simp only[xp];refine jw ?_;have ar:∀ {g:HL} {kv':Value} {V:List En},Bld c hS g kv' V->∀ {K:Te},K [.int .i64 (Int.ofNat c.w),.int .i64 (Int.ofNat c.v)]->P1.opt (zN (te c.bm)) (@hid _ ⟨λx=>P1.chk x (@hid _ ⟨P1.opt (Ag 0 x) (@hid _ ⟨λy=>P1.chk y (@hid _ ⟨P1.opt (Ag 0 y) (@hid _ ⟨λz=>P1.chk z (@hid _ ⟨P1.peek (.lg cc 2 z) g (@hid _ ⟨K⟩)⟩)⟩)⟩)⟩)⟩)⟩):=λbs K hK=>
   ah (x:=te c.bm) rfl (ac (aY _) (ah (x:=.pointer (some ⟨c.bm,0+0,none⟩)) rfl (ac (cM _ _) (ah (x:=.pointer (some ⟨c.bm,0+0,none⟩)) rfl (ac (cM _ _) (cQ (ed (o:=0) (n:=2) bs.bl (by simp[bE])) rfl hK))))))
  refine ar d ?_;refine jw ?_;refine ai (Eg (qL c.w c.v hs.1 hs.2.1 hs.2.2.1 hs.2.2.2) I) ?_;unfold Dz;refine jw ?_;have ng:=ng_c h3 I he;simp only[Ab,sd,Aw,Ap]at ng;refine ai ng ?_;refine jw ?_;have a9:=d.ls Y Y.pl (by decide);have a5:=d.ls Y Y.im (by decide);refine dW (ds:=[c.pl]) d.bl (by simp[bE]) rfl ?_;refine jw ?_;refine ac a9.good ?_;refine qs ?_;refine aQ a9 rfl (iA I) ?_;have b0:Av 16384 (ae (G id) r):=aN (dm (Y.gok.ok id I) Y.rok) (by omega);have bI:=dh hs I;have b5:=zf (c:=sd c.w id) (e:=e) bI.2.2.2.2 he;have b6:(sd c.w id).1<=100/\(sd c.w id).2.1<=100/\0<=(sd c.w id).1/\0<=(sd c.w id).2.1:=by
   have d1:id / 4%c.w<=id / 4:=qd7 _ _;have d2:id / 4 / c.w<=id / 4:=qdt _ _;refine⟨qdy.2 (show id / 4%c.w<=100 by omega),qdy.2 (show id / 4 / c.w<=100 by omega),Cb _,Cb _⟩
  have mv:=KL b0 (c:=AB (sd c.w id) e) (by omega);have bS:=Y.nok id e I he;have b7:=(Y.vok id I).2;rw[mc bS]at mv;rw[show tx (ae (G id) r)=[.int .u8 (Int.ofNat (ae (G id) r).1),.int .i64 (ae (G id) r).2.1,.int .i64 (ae (G id) r).2.2]from rfl];refine jw ?_;have bx:(am (ae (G id) r) (AB (sd c.w id) e)).2.2<4:=gI;have bt:(am (ae (G id) r) (sd c.w id)).2.2<4:=gI;simp only[sd]at mv;simp only[Ab,Al,Aw,Ap]at mv;refine ai mv ?_;refine jw ?_;refine dW (ds:=[c.im]) d.bl (by simp[bE]) rfl ?_;refine jw ?_;refine ac a5.good ?_;refine qs ?_;refine aQ a5 rfl (rL I) ?_;rw[show bw (am (ae (G id) r) (sd c.w id))=[.int .i64 (am (ae (G id) r) (sd c.w id)).1,.int .i64 (am (ae (G id) r) (sd c.w id)).2.1,.int .u8 (Int.ofNat (am (ae (G id) r) (sd c.w id)).2.2)]from rfl];refine jw ?_;obtain⟨h1,a1,Q1,i,q,c1,D,T,a6,a7,aE⟩:=at_c d (by omega) bt bx;simp only[Ab,Aw,Ap]at c1;refine al c1 ?_;refine jw ?_;have bP:=Mt T a6 aE;have a2:Q1.length<=Q.length+1:=by
   rcases aE with rfl|⟨_,_,rfl⟩<;>simp
  have af:∀q∈Q1,bndE B q:=λq hq=>by
   rcases aE with rfl|⟨_,j,rfl⟩
   ·exact a3 q hq
   ·rcases qas.1 hq with hq|hq
    ·exact a3 q hq
    ·rw[qav]at hq;subst hq;exact⟨⟨AM _,AM _,AM _⟩,λ_=>rfl,λ_=>rfl,λ_=>rfl⟩
  have be:=Af T;have W:=af q be;have a4:=W;unfold bndE at a4;have f:=D.en q be;have N:∀(x:Value) (g:HL),g[q.id]?=some (.o (.cells (aF q) 9 true))->OwnL c.n1 g (.slice (some ⟨q.id,0,pu 9⟩) 1 0) 9 (λ_:Unit=>aF q) [()]:=λx g hx=>.inr ⟨q.id,0,rfl,f.idn,by simpa using hx,.inl rfl⟩;have m:=N (.bool true) h1 f.bl;have a8:((Q1.map Ay).map (·.k)).Nodup:=by
   rw[D9];exact D.nd
  have bd:(Q1.map Ay)[i]?=some (Ay q):=by rw[AU,T];rfl
  have ag:ir c.w c.v l (λn=>ae (G n) r) hg (Q.map Ay) id e=(Q1.map Ay).set i (Ce c.w c.v l (λn=>ae (G n) r) hg id e (Ay q)):=by
   unfold ir;show(fR (AX (am (ae (G id) r) (sd c.w id)) (am (ae (G id) r) (AB (sd c.w id) e))) (Q.map Ay)).map _=_;rw[←bP];exact FO a8 bd a6
  have S:∀(q':En) (h':HL),wd q'=wd q->Ay q'=Ce c.w c.v l (λn=>ae (G n) r) hg id e (Ay q)->Bld c hS h' a1 (Q1.set i q')->bndE (B+1) q'->h1.length<=h'.length->
    ∃(kv':Value) (V:List En),True/\Bld c hS h' kv' V/\V.map Ay=ir c.w c.v l (λn=>ae (G n) r) hg (Q.map Ay) id e/\V.length<=Q.length+1/\(∀q∈V,bndE (B+1) q)/\h.length<=h'.length:=by
   intro q' h' e1 e2 e3 e4 e5;refine⟨a1,Q1.set i q',trivial,e3,?_,by rw[Bc];exact a2,λt ht=>?_,by omega⟩
   ·rw[ag,LC,e2]
   ·rcases Rw ht with ht|rfl
    ·have:=af t ht;exact this.mono (by omega)
    ·exact e4
  refine ar D ?_;refine jw ?_;have nb:=ZZ hs I he;unfold uq at nb;refine ai nb ?_;clear ng mv nb c1;cases hx:Aa c.w c.v id e with
  |none=>
   refine jw ?_;refine dW (ds:=[q.ve]) f.bl (by simp[aF,bw]) rfl ?_;refine jw ?_;refine ac (f.oe.good aU) ?_;refine qs ?_;refine f.oe.ap1 (a:=id) aU (by have:=D.sz;omega) rfl rfl rfl (by
    unfold bh;rw[Be (by omega),Be (by omega)];rfl) ?_
   intro U Z M O p A J;refine jw ?_;refine ac O ?_;refine qs ?_;have s:blk q.ve≠some q.id:=λe=>aI f.oe m (by decide) e rfl;refine jU (b:=q.id) (p _ _ f.bl s) (by simp[aF,bw]) ?_;refine qs ?_
   exact S ⟨q.a,q.b,q.id,q.vp,q.vl,U,q.ps,q.ls,q.es++[id]⟩ _ rfl (by unfold Ce Ay;rw[hx];rfl) (D.upd T rfl rfl ⟨f.idn,fc (p _ _ f.bl s),f.op.keep λj F C d=>aV (p j F C λe=>aI f.oe f.op (by decide) e d) (λe=>aI (e:=2) (e':=9) f.op m (by decide) d (by rw[←e];rfl)),f.ol.keep λj F C d=>aV (p j F C λe=>aI f.oe f.ol (by decide) e d) (λe=>aI (e:=3) (e':=9) f.ol m (by decide) d (by rw[←e];rfl)),M.keep λj F C d=>aV C (λe=>aI (n0:=c.n1) (e:=1) (e':=9) M (N U Z (p _ _ f.bl s)) (by decide) d (by rw[←e];rfl))⟩ (λb=>⟨λd=>.inl d,λd=>.inl d,λd=>J.elim (λe=>.inl (e▸d)) λ⟨j,e,R⟩=>.inr (by simp only at d;rw[d]at e;cases e;exact R)⟩) (λj F C L=>aV (p j F C λe=>L (.inr (.inr (.inr e)))) (λe=>L (.inl e.symm))) (by rw[Bc];exact A)) (by have u:=W;unfold bndE Rb at u ⊢;simp only[A5,UJ];refine⟨by omega,?_,?_,?_⟩<;>first|exact u.2.1|exact u.2.2.1|exact u.2.2.2|(intro e;simp at e)) (by rw[Bc];exact A)
  |some n=>
  refine jw ?_;by_cases ay:n<id
  ·rw[aJ ay];refine jw ?_;have a0:Ce c.w c.v l (λn=>ae (G n) r) hg id e (Ay q)=Ay q:=by
    unfold Ce;rw[hx];simp only;rw[mc ay]
   refine⟨a1,Q1,by first|rfl|trivial,D,?_,a2,λt ht=>?_,a7⟩
   ·rw[ag,a0,bC bd]
   ·have:=af t ht;exact this.mono (by omega)
  rw[aM (by omega)];refine jw ?_;obtain⟨g1,Z,g3,g4,g5⟩:=dI hs I he hx;have bn:=D.ls Y Y.xc (by decide);have ax:=D.ls Y Y.im (by decide);have X:=D.ls Y Y.hg (by decide);refine dW (ds:=[.int .i64 (Int.ofNat c.w),.int .i64 (Int.ofNat c.v),c.xc]) D.bl (by simp[bE]) rfl ?_;refine jw ?_;refine ac bn.good ?_;refine qs ?_;refine al (S6 Y.pat bn I he hx (by omega)) ?_;refine jw ?_;refine dW (ds:=[c.im]) D.bl (by simp[bE]) rfl ?_;refine jw ?_;refine ac ax.good ?_;refine qs ?_;refine aQ ax rfl (rL I) ?_;rw[show bw (am (ae (G id) r) (sd c.w id))=[.int .i64 (am (ae (G id) r) (sd c.w id)).1,.int .i64 (am (ae (G id) r) (sd c.w id)).2.1,.int .u8 (Int.ofNat (am (ae (G id) r) (sd c.w id)).2.2)]from rfl];refine jw ?_;refine dW (ds:=[.int .i64 q.b.1,.int .i64 q.b.2.1,.int .u8 (Int.ofNat q.b.2.2)]) f.bl (by simp[aF,bw]) rfl ?_;refine jw ?_;rw[G9];have E:Ce c.w c.v l (λn=>ae (G n) r) hg id e (Ay q)=if jN l (.ofNat (min id n)) (.ofNat e)=0 then(if Bk c.w (λn=>ae (G n) r) (wd q) id=0 then { Ay q with ps:=q.ps++[(id,n)] } else { Ay q with ps:=q.ps++[(n,id)] })
    else if hg id<hg n then { Ay q with ls:=q.ls++[(Bk c.w (λn=>ae (G n) r) (wd q) id,id,n)] } else { Ay q with ls:=q.ls++[(Bk c.w (λn=>ae (G n) r) (wd q) id,n,id)] }:=by
   unfold Ce;rw[hx];simp only;rw[po ay];rfl
  have ad:Bk c.w (λn=>ae (G n) r) (wd q) id=if am (ae (G id) r) (sd c.w id)=q.b then 1 else 0:=rfl
  have an:∀j,j<4*c.w*c.v->((List.range (4*c.w*c.v)).map hg)[j]?=some (hg j):=λj C=>by rw[AU,HX C];rfl
  by_cases ap:am (ae (G id) r) (sd c.w id)=q.b
  ·rw[Bp ap];rw[mc ap]at ad;rw[ad]at E;refine jw ?_;by_cases P:jN l (.ofNat (min id n)) (.ofNat e)=0
   ·rw[zT P];rw[mc P,po (by decide)]at E;simp(disch:=omega)only[↓my]
    try rw[zT P]
    refine qs ?_;refine dW (ds:=[q.vp]) f.bl (by simp[aF,bw]) rfl ?_;refine jw ?_;refine ac (f.op.good eY) ?_;refine qs ?_;refine f.op.ap1 (a:=((n,id):Pq)) eY (by have:=D.sz;omega) rfl rfl rfl (by
     unfold bh;rw[Be (by omega),Be (by omega)];rfl) ?_
    intro U Z M O p A J;refine jw ?_;refine ac O ?_;refine qs ?_;have s:blk q.vp≠some q.id:=λe=>aI f.op m (by decide) e rfl;refine jU (b:=q.id) (p _ _ f.bl s) (by simp[aF,bw]) ?_;refine qs ?_
    exact S ⟨q.a,q.b,q.id,U,q.vl,q.ve,q.ps++[((n,id):Pq)],q.ls,q.es⟩ _ rfl (by rw[E];rfl) (D.upd T rfl rfl ⟨f.idn,fc (p _ _ f.bl s),M.keep λj F C d=>aV C (λe=>aI (n0:=c.n1) (e:=2) (e':=9) M (N U Z (p _ _ f.bl s)) (by decide) d (by rw[←e];rfl)),f.ol.keep λj F C d=>aV (p j F C λe=>aI f.op f.ol (by decide) e d) (λe=>aI (e:=3) (e':=9) f.ol m (by decide) d (by rw[←e];rfl)),f.oe.keep λj F C d=>aV (p j F C λe=>aI f.op f.oe (by decide) e d) (λe=>aI (e:=1) (e':=9) f.oe m (by decide) d (by rw[←e];rfl))⟩ (λb=>⟨λd=>J.elim (λe=>.inl (e▸d)) λ⟨j,e,R⟩=>.inr (by simp only at d;rw[d]at e;cases e;exact R),λd=>.inl d,λd=>.inl d⟩) (λj F C L=>aV (p j F C λe=>L (.inr (.inl e))) (λe=>L (.inl e.symm))) (by rw[Bc];exact A)) (by have u:=W;unfold bndE Rb at u ⊢;simp only[A5,UJ];refine⟨by omega,?_,?_,?_⟩<;>first|exact u.2.1|exact u.2.2.1|exact u.2.2.2|(intro e;simp at e)) (by rw[Bc];exact A)
   ·rw[zO P];rw[po P]at E;simp(disch:=omega)only[↓my]
    try rw[zO P]
    refine qs ?_;refine dW (ds:=[c.hg]) D.bl (by simp[bE]) rfl ?_;refine jw ?_;refine ac X.good ?_;refine qs ?_;refine aQ X rfl (an id I) ?_;rw[show km (hg id)=[.int .i64 (Int.ofNat (hg id))]from rfl];refine jw ?_;refine dW (ds:=[c.hg]) D.bl (by simp[bE]) rfl ?_;refine jw ?_;refine ac X.good ?_;refine qs ?_;refine aQ X rfl (an n g1) ?_;rw[show km (hg n)=[.int .i64 (Int.ofNat (hg n))]from rfl];refine jw ?_;by_cases hh:hg id<hg n
    ·rw[aJ hh];rw[mc hh]at E;refine jw ?_;refine dW (ds:=[q.vl]) f.bl (by simp[aF,bw]) rfl ?_;refine jw ?_;refine ac (f.ol.good cE) ?_;refine qs ?_;refine f.ol.ap1 (a:=((1,id,n):Lq)) cE (by have:=D.sz;omega) rfl rfl rfl (by
      unfold bh;rw[Be (by omega),Be (by omega)];rfl) ?_
     intro U Z M O p A J;refine jw ?_;refine ac O ?_;refine qs ?_;have s:blk q.vl≠some q.id:=λe=>aI f.ol m (by decide) e rfl;refine jU (b:=q.id) (p _ _ f.bl s) (by simp[aF,bw]) ?_;refine qs ?_
     exact S ⟨q.a,q.b,q.id,q.vp,U,q.ve,q.ps,q.ls++[((1,id,n):Lq)],q.es⟩ _ rfl (by rw[E];rfl) (D.upd T rfl rfl ⟨f.idn,fc (p _ _ f.bl s),f.op.keep λj F C d=>aV (p j F C λe=>aI f.ol f.op (by decide) e d) (λe=>aI (e:=2) (e':=9) f.op m (by decide) d (by rw[←e];rfl)),M.keep λj F C d=>aV C (λe=>aI (n0:=c.n1) (e:=3) (e':=9) M (N U Z (p _ _ f.bl s)) (by decide) d (by rw[←e];rfl)),f.oe.keep λj F C d=>aV (p j F C λe=>aI f.ol f.oe (by decide) e d) (λe=>aI (e:=1) (e':=9) f.oe m (by decide) d (by rw[←e];rfl))⟩ (λb=>⟨λd=>.inl d,λd=>J.elim (λe=>.inl (e▸d)) λ⟨j,e,R⟩=>.inr (by simp only at d;rw[d]at e;cases e;exact R),λd=>.inl d⟩) (λj F C L=>aV (p j F C λe=>L (.inr (.inr (.inl e)))) (λe=>L (.inl e.symm))) (by rw[Bc];exact A)) (by have u:=W;unfold bndE Rb at u ⊢;simp only[A5,UJ];refine⟨by omega,?_,?_,?_⟩<;>first|exact u.2.1|exact u.2.2.1|exact u.2.2.2|(intro e;simp at e)) (by rw[Bc];exact A)
    ·rw[aM (by omega)];rw[po hh]at E;refine jw ?_;refine dW (ds:=[q.vl]) f.bl (by simp[aF,bw]) rfl ?_;refine jw ?_;refine ac (f.ol.good cE) ?_;refine qs ?_;refine f.ol.ap1 (a:=((1,n,id):Lq)) cE (by have:=D.sz;omega) rfl rfl rfl (by
      unfold bh;rw[Be (by omega),Be (by omega)];rfl) ?_
     intro U Z M O p A J;refine jw ?_;refine ac O ?_;refine qs ?_;have s:blk q.vl≠some q.id:=λe=>aI f.ol m (by decide) e rfl;refine jU (b:=q.id) (p _ _ f.bl s) (by simp[aF,bw]) ?_;refine qs ?_
     exact S ⟨q.a,q.b,q.id,q.vp,U,q.ve,q.ps,q.ls++[((1,n,id):Lq)],q.es⟩ _ rfl (by rw[E];rfl) (D.upd T rfl rfl ⟨f.idn,fc (p _ _ f.bl s),f.op.keep λj F C d=>aV (p j F C λe=>aI f.ol f.op (by decide) e d) (λe=>aI (e:=2) (e':=9) f.op m (by decide) d (by rw[←e];rfl)),M.keep λj F C d=>aV C (λe=>aI (n0:=c.n1) (e:=3) (e':=9) M (N U Z (p _ _ f.bl s)) (by decide) d (by rw[←e];rfl)),f.oe.keep λj F C d=>aV (p j F C λe=>aI f.ol f.oe (by decide) e d) (λe=>aI (e:=1) (e':=9) f.oe m (by decide) d (by rw[←e];rfl))⟩ (λb=>⟨λd=>.inl d,λd=>J.elim (λe=>.inl (e▸d)) λ⟨j,e,R⟩=>.inr (by simp only at d;rw[d]at e;cases e;exact R),λd=>.inl d⟩) (λj F C L=>aV (p j F C λe=>L (.inr (.inr (.inl e)))) (λe=>L (.inl e.symm))) (by rw[Bc];exact A)) (by have u:=W;unfold bndE Rb at u ⊢;simp only[A5,UJ];refine⟨by omega,?_,?_,?_⟩<;>first|exact u.2.1|exact u.2.2.1|exact u.2.2.2|(intro e;simp at e)) (by rw[Bc];exact A)
  ·rw[BV ap];rw[po ap]at ad;rw[ad]at E;refine jw ?_;by_cases P:jN l (.ofNat (min id n)) (.ofNat e)=0
   ·rw[zT P];rw[mc P,mc rfl]at E;simp(disch:=omega)only[↓my]
    try rw[zT P]
    refine qs ?_;refine dW (ds:=[q.vp]) f.bl (by simp[aF,bw]) rfl ?_;refine jw ?_;refine ac (f.op.good eY) ?_;refine qs ?_;refine f.op.ap1 (a:=((id,n):Pq)) eY (by have:=D.sz;omega) rfl rfl rfl (by
     unfold bh;rw[Be (by omega),Be (by omega)];rfl) ?_
    intro U Z M O p A J;refine jw ?_;refine ac O ?_;refine qs ?_;have s:blk q.vp≠some q.id:=λe=>aI f.op m (by decide) e rfl;refine jU (b:=q.id) (p _ _ f.bl s) (by simp[aF,bw]) ?_;refine qs ?_
    exact S ⟨q.a,q.b,q.id,U,q.vl,q.ve,q.ps++[((id,n):Pq)],q.ls,q.es⟩ _ rfl (by rw[E];rfl) (D.upd T rfl rfl ⟨f.idn,fc (p _ _ f.bl s),M.keep λj F C d=>aV C (λe=>aI (n0:=c.n1) (e:=2) (e':=9) M (N U Z (p _ _ f.bl s)) (by decide) d (by rw[←e];rfl)),f.ol.keep λj F C d=>aV (p j F C λe=>aI f.op f.ol (by decide) e d) (λe=>aI (e:=3) (e':=9) f.ol m (by decide) d (by rw[←e];rfl)),f.oe.keep λj F C d=>aV (p j F C λe=>aI f.op f.oe (by decide) e d) (λe=>aI (e:=1) (e':=9) f.oe m (by decide) d (by rw[←e];rfl))⟩ (λb=>⟨λd=>J.elim (λe=>.inl (e▸d)) λ⟨j,e,R⟩=>.inr (by simp only at d;rw[d]at e;cases e;exact R),λd=>.inl d,λd=>.inl d⟩) (λj F C L=>aV (p j F C λe=>L (.inr (.inl e))) (λe=>L (.inl e.symm))) (by rw[Bc];exact A)) (by have u:=W;unfold bndE Rb at u ⊢;simp only[A5,UJ];refine⟨by omega,?_,?_,?_⟩<;>first|exact u.2.1|exact u.2.2.1|exact u.2.2.2|(intro e;simp at e)) (by rw[Bc];exact A)
   ·rw[zO P];rw[po P]at E;simp(disch:=omega)only[↓my]
    try rw[zO P]
    refine qs ?_;refine dW (ds:=[c.hg]) D.bl (by simp[bE]) rfl ?_;refine jw ?_;refine ac X.good ?_;refine qs ?_;refine aQ X rfl (an id I) ?_;rw[show km (hg id)=[.int .i64 (Int.ofNat (hg id))]from rfl];refine jw ?_;refine dW (ds:=[c.hg]) D.bl (by simp[bE]) rfl ?_;refine jw ?_;refine ac X.good ?_;refine qs ?_;refine aQ X rfl (an n g1) ?_;rw[show km (hg n)=[.int .i64 (Int.ofNat (hg n))]from rfl];refine jw ?_;by_cases hh:hg id<hg n
    ·rw[aJ hh];rw[mc hh]at E;refine jw ?_;refine dW (ds:=[q.vl]) f.bl (by simp[aF,bw]) rfl ?_;refine jw ?_;refine ac (f.ol.good cE) ?_;refine qs ?_;refine f.ol.ap1 (a:=((0,id,n):Lq)) cE (by have:=D.sz;omega) rfl rfl rfl (by
      unfold bh;rw[Be (by omega),Be (by omega)];rfl) ?_
     intro U Z M O p A J;refine jw ?_;refine ac O ?_;refine qs ?_;have s:blk q.vl≠some q.id:=λe=>aI f.ol m (by decide) e rfl;refine jU (b:=q.id) (p _ _ f.bl s) (by simp[aF,bw]) ?_;refine qs ?_
     exact S ⟨q.a,q.b,q.id,q.vp,U,q.ve,q.ps,q.ls++[((0,id,n):Lq)],q.es⟩ _ rfl (by rw[E];rfl) (D.upd T rfl rfl ⟨f.idn,fc (p _ _ f.bl s),f.op.keep λj F C d=>aV (p j F C λe=>aI f.ol f.op (by decide) e d) (λe=>aI (e:=2) (e':=9) f.op m (by decide) d (by rw[←e];rfl)),M.keep λj F C d=>aV C (λe=>aI (n0:=c.n1) (e:=3) (e':=9) M (N U Z (p _ _ f.bl s)) (by decide) d (by rw[←e];rfl)),f.oe.keep λj F C d=>aV (p j F C λe=>aI f.ol f.oe (by decide) e d) (λe=>aI (e:=1) (e':=9) f.oe m (by decide) d (by rw[←e];rfl))⟩ (λb=>⟨λd=>.inl d,λd=>J.elim (λe=>.inl (e▸d)) λ⟨j,e,R⟩=>.inr (by simp only at d;rw[d]at e;cases e;exact R),λd=>.inl d⟩) (λj F C L=>aV (p j F C λe=>L (.inr (.inr (.inl e)))) (λe=>L (.inl e.symm))) (by rw[Bc];exact A)) (by have u:=W;unfold bndE Rb at u ⊢;simp only[A5,UJ];refine⟨by omega,?_,?_,?_⟩<;>first|exact u.2.1|exact u.2.2.1|exact u.2.2.2|(intro e;simp at e)) (by rw[Bc];exact A)
    ·rw[aM (by omega)];rw[po hh]at E;refine jw ?_;refine dW (ds:=[q.vl]) f.bl (by simp[aF,bw]) rfl ?_;refine jw ?_;refine ac (f.ol.good cE) ?_;refine qs ?_;refine f.ol.ap1 (a:=((0,n,id):Lq)) cE (by have:=D.sz;omega) rfl rfl rfl (by
      unfold bh;rw[Be (by omega),Be (by omega)];rfl) ?_
     intro U Z M O p A J;refine jw ?_;refine ac O ?_;refine qs ?_;have s:blk q.vl≠some q.id:=λe=>aI f.ol m (by decide) e rfl;refine jU (b:=q.id) (p _ _ f.bl s) (by simp[aF,bw]) ?_;refine qs ?_
     exact S ⟨q.a,q.b,q.id,q.vp,U,q.ve,q.ps,q.ls++[((0,n,id):Lq)],q.es⟩ _ rfl (by rw[E];rfl) (D.upd T rfl rfl ⟨f.idn,fc (p _ _ f.bl s),f.op.keep λj F C d=>aV (p j F C λe=>aI f.ol f.op (by decide) e d) (λe=>aI (e:=2) (e':=9) f.op m (by decide) d (by rw[←e];rfl)),M.keep λj F C d=>aV C (λe=>aI (n0:=c.n1) (e:=3) (e':=9) M (N U Z (p _ _ f.bl s)) (by decide) d (by rw[←e];rfl)),f.oe.keep λj F C d=>aV (p j F C λe=>aI f.ol f.oe (by decide) e d) (λe=>aI (e:=1) (e':=9) f.oe m (by decide) d (by rw[←e];rfl))⟩ (λb=>⟨λd=>.inl d,λd=>J.elim (λe=>.inl (e▸d)) λ⟨j,e,R⟩=>.inr (by simp only at d;rw[d]at e;cases e;exact R),λd=>.inl d⟩) (λj F C L=>aV (p j F C λe=>L (.inr (.inr (.inl e)))) (λe=>L (.inl e.symm))) (by rw[Bc];exact A)) (by have u:=W;unfold bndE Rb at u ⊢;simp only[A5,UJ];refine⟨by omega,?_,?_,?_⟩<;>first|exact u.2.1|exact u.2.2.1|exact u.2.2.2|(intro e;simp at e)) (by rw[Bc];exact A))
 obtain⟨rs,h',h2,kv',V,rfl,h4⟩:=bX;exact⟨h',kv',V,h2,h4⟩
end Go.Am
namespace Go.Am
open Sx Go.Proofs Go.Shelf Go.Lib Go.Sort
section
variable [Val]
def MB [Glo]{C:Cfg}{a:Nat}{mu:kl}{H:Tp}{w w':World}(h:WR C a mu H w)(d:Go.RowKit.Below w.heap.size w w')(n:w.drawn<=w'.drawn):WR C a mu H w'/\Evo H mu w H mu w':=by
 refine⟨⟨λid o k f=>?_,h.inj,h.own,h.ro,h.dom,λg r q=>?_⟩,⟨zY _,λ_ _=>rfl,d.size,λb l _=>d.block b l,λb h=>.inr h,d.os,d.tape,d.output,n⟩⟩
 ·obtain⟨p,i,j⟩:=h.obj id o k f;exact⟨p,i,by rw[d.block _ (iu f j)];exact j⟩
 ·obtain⟨k,f,c,e,m,i,j⟩:=h.glob g r q;exact⟨k,f,c,e,m,by rw[d.block _ (qaP.1 i).1];exact i,j⟩
def zL{W w':World}(h1:w'.os=W.os)(d:w'.tape=W.tape)(f:w'.output=W.output)(h:W.drawn<=w'.drawn)(l:W.heap.size<=w'.heap.size)(j:∀b,b<W.heap.size->w'.heap[b]?=W.heap[b]?):∃q a,w'=grow (W.drewN q) a:=by
 refine⟨w'.drawn - W.drawn,w'.heap.extract W.heap.size w'.heap.size,?_⟩;have e:w'.heap=W.heap++w'.heap.extract W.heap.size w'.heap.size:=by
  apply qcI;intro i;rw[Array.getElem?_append];split
  next g=>exact j i g
  next g=>
   rw[Array.getElem?_extract];split
   ·congr 1;omega
   ·rw[Rr (by omega)]
 obtain⟨m,o,c,n,k⟩:=w';simp only at h1 d f h e;subst h1 d f;unfold grow World.drewN;simp only;rw[←e,show W.drawn+(c - W.drawn)=c by omega]
def rG{α:Type} [Inhabited α]{enc:α->Tk}{e:Nat}(b:∀x,(enc x).length=e){l:List α}{t:Nat}(d:t<l.length*e):(l.flatMap enc)[t]?=some (Go.Sort.flatK enc e l.toArray)[t]!:=by
 rw[Go.Sort.get_flatK enc e l.toArray t (by simpa using d)];have n:0<e:=by
  rcases qdB e with h|h
  ·subst h;simp at d
  ·exact h
 have g:t / e<l.length:=Nat.div_lt_of_lt_mul (by rw[Nat.mul_comm];exact d);have k:=kP (e:=e) (enc:=enc) (l:=l) (λa _=>b a) (i:=t / e) (a:=l[t / e]) (A4 g);have c:=H3 t n;have j:t=t / e*e+t%e:=by rw[Nat.mul_comm];exact(Nat.div_add_mod t e).symm
 have f:((l.flatMap enc).drop (t / e*e))[t%e]?=(enc l[t / e])[t%e]?:=by
  rw[←k,Iw,mc c]
 rw[HY,←j]at f;rw[f];have m:(l.toArray)[t / e]! = l[t / e]:=by simp[g]
 rw[m,A4 (by rw[b];exact c),List.getElem!_eq_getElem?_getD,A4 (by rw[b];exact c)];rfl
def wX{α:Type} [Inhabited α]{enc:α->Tk}{e:Nat}(r:∀x,(enc x).length=e)(y:∀x,∀v∈enc x,Am.scalar v=true) [Glo]{mu:kl}{p:Pl}{w:World}{l:List α}(u:objR mu p w.heap[p.b]? (.cells (l.flatMap enc) e true)):HoldsK enc e w p.b p.o l.toArray:=by
 obtain⟨_,_,_,c,t,z,g,A,i,k⟩:=u;obtain rfl:=i rfl;intro j h;rw[Go.Sort.size_flatK]at h;have f:=rG (enc:=enc) r (l:=l) (t:=j) (by simpa using h);obtain⟨B,m,n⟩:=k j _ f;have d:Am.scalar (Go.Sort.flatK enc e l.toArray)[j]! = true:=by
  have s:=Af f;obtain⟨a,_,q⟩:=qa1.1 s;exact y a _ q
 have:=cI d n;subst this;exact⟨by simp[World.cell?,g,m],by simp[World.frozen?,g]⟩
def qH{C:Cfg}{d:Nat}{mu:kl}{H:Tp}{w:World} [Glo](E:WR C d mu H w){α:Type} [Inhabited α]{enc:α->Tk}{e:Nat}(g:∀x,(enc x).length=e)(I:∀x,∀v∈enc x,Am.scalar v=true){id:Nat}{p:Pl}{l l':List α}
  (hid:H[id]?=some (.cells (l.flatMap enc) e true)) (G:mu id=some p) (F:l'.length=l.length) (n:Nat) (os:Array Obj) :
  WR C d mu (H.set id (.cells (l'.flatMap enc) e true)) (sortWorldK enc e w p.b p.o n l'.toArray os)/\Evo H mu w (H.set id (.cells (l'.flatMap enc) e true)) mu (sortWorldK enc e w p.b p.o n l'.toArray os):=by
 obtain⟨T,m,P⟩:=E.obj id _ hid rfl;rw[G]at m;cases m;obtain⟨N,z,R,c,t,y,A,B,O,S⟩:=P;have j:(l'.flatMap enc).length=l'.length*e:=ba λa _=>g a;have h:(l.flatMap enc).length=l.length*e:=ba λa _=>g a;have q:=E.set (w':=Go.Sort.putRowK enc e (Go.Sort.ahead w n) p.b p.o l'.toArray) (x:=.cells (Go.Sort.putCells (λv:Value=>v) p.o (Go.Sort.flatK enc e l'.toArray) c) t y) hid rfl G (by
   apply qcI;intro i;show(w.heap.modify p.b _)[i]?=_;rw[qc8,Rv];split
   next f=>
    subst f;rw[A,mc (qaP.1 A).1];rfl
   ·rfl) rfl rfl rfl (.cells (l'.flatMap enc) e true) (λ_=>rfl) ⟨N,by rw[j,F,←h];exact z,by
    rw[qab];intro v r;obtain⟨a,_,s⟩:=qa1.1 r;exact gt (I a v s),_,t,y,rfl,by simp[Go.Sort.putCells,B],O,λi v r=>by
    have f:i<l'.length*e:=by rw[←j];exact(qbh.1 r).1
    have D:=rG (enc:=enc) g (l:=l') f;rw[r]at D;obtain⟨u,Q⟩ : ∃u,c[p.o+i]?=some u:=⟨c[p.o+i]'(by rw[B];rw[h]at z;rw[F]at f;omega),MN _⟩;refine⟨v,?_,?_⟩
    ·simp only[Go.Sort.putCells,Array.getElem?_mapIdx,Q,BB];rw[mc ⟨by omega,by rw[Go.Sort.size_flatK];simpa using f⟩,show p.o+i - p.o=i by omega,←AD D]
    ·obtain⟨a,_,s⟩:=qa1.1 (Af r);exact .scalar (I a v s)⟩ (qdR _ _)
 obtain⟨J,K⟩:=q;obtain⟨L,M⟩:=MB (w':=sortWorldK enc e w p.b p.o n l'.toArray os) J ⟨rfl,rfl,rfl,by unfold sortWorldK grow;simp,λk g=>by
  unfold sortWorldK grow;simp only;rw[qcO g]⟩ (zY _)
 exact⟨L,K.trans M⟩
def srt{α:Type} [Inhabited α](a:α->α->Int)(l:List α):List α:=(pdq (ltOf a) l.toArray 0 l.length (Lib.bitLen l.length) true true).toList
def uO{α:Type} [Inhabited α]{a:α->α->Int}(b:SWO (ltOf a))(l:List α):PermIn 0 l.length l.toArray (srt a l).toArray/\SortedIn (ltOf a) 0 l.length (srt a l).toArray:=by
 have h:=pdq_sorts (ltOf a) b l.toArray 0 l.length (Lib.bitLen l.length) true true (AM _) (by simp) (Or.inl rfl);unfold srt;simpa using h
def iQ{α:Type} [Inhabited α]{a:α->α->Int}(b:SWO (ltOf a))(l:List α):(srt a l).Perm l:=by
 have h:=(uO b l).1.2.2;have c:(srt a l).length=l.length:=by
  have:=(uO b l).1.1;simpa using this
 simpa[List.extract_eq_take_drop,c,Cg]using h
def sO{α:Type} [Inhabited α]{a:α->α->Int}(c:SWO (ltOf a))(l:List α):(srt a l).Pairwise λx y=>ltOf a y x=false:=by
 have f:(srt a l).length=l.length:=by
  have:=(uO c l).1.1;simpa using this
 rw[qby];intro i j d e b;have h:=(uO c l).2 i j (AM _) b (by omega);simpa[d,e]using h
end
def RE(S:Tt)(i:Nat)(o:HObj):HObj:=match S i,o with
 |true,.cells a e _=>.cells a e false
 |_,_=>.dead
def Ix(S:Tt)(H:Tp):Tp:=H.mapIdx (RE S)
def oP{S:Tt}{H:Tp}{i:Nat}{o:HObj}(h:(Ix S H)[i]?=some o):∃a,H[i]?=some a/\o=RE S i a:=by
 unfold Ix at h;rw[List.getElem?_mapIdx]at h;cases b:H[i]? with
 |none=>rw[b]at h;cases h
 |some a=>
  rw[b]at h;exact⟨a,rfl,(AD h).symm⟩
def uE{S:Tt}{i:Nat}{o:HObj}(h:(RE S i o).alive=true):S i=true/\∃vs e rw,o = .cells vs e rw/\RE S i o = .cells vs e false:=by
 unfold RE at h ⊢;split at h
 next a=>
  exact⟨a,_,_,_,rfl,rfl⟩
 ·cases h
def oQ{S:Tt}{i:Nat}{o:HObj}:(RE S i o).owned=false:=by
 unfold RE;split<;>rfl
section
variable [Val]
def GW{C:Cfg}{α:Type} [Inhabited α]{enc:α->Tk}{e:Nat}{cf:α->α->Int}{g:TK}(hs:∀x,∀v∈enc x,Am.scalar v=true)
  {S:Tt} {H:Tp} {caps:Tk} (hc:∀x y,∃H',dO C g ([.agg ⟨enc x⟩,.agg ⟨enc y⟩]++caps) (Ix S H) (.int .i64 (cf x y)) H') [glo:Glo] {f:Nat} {mu:kl} {w:World} (B:WR C f mu H w) {D:Tk} (Y:VRs Az mu caps D)
  {id:Nat} {vs:Tk} {p:Pl} (hid:H[id]?=some (.cells vs e true)) (hp:mu id=some p) (T:S id=false) (off n:Nat) (hG:∀g vs,C.G g=some vs->vs.all MG=true):CmpLays C.P g ⟨D⟩ enc e cf p.b off n w:=by
 intro m Q E _ x y cs;have ap:f<=p.b:=B.own id _ p hid rfl hp;have a:∀b t,b≠p.b->w.heap[b]?=some t->(sortWorldK enc e w p.b off m E Q).heap[b]?=some t:=λb t X ht=>by
  unfold sortWorldK grow;simp only;rw[qcO (by rw[show(Go.Sort.putRowK enc e (Go.Sort.ahead w m) p.b off E).heap.size=w.heap.size from Go.Sort.size_putRow _ _ _ _ _];exact(qaP.1 ht).1)];show(w.heap.modify p.b _)[b]?=_;rw[qc8,po (BO X)];exact ht
 have ar:w.heap.size<=(sortWorldK enc e w p.b off m E Q).heap.size:=size_sortWorldK_c enc e w p.b off m E Q;generalize sortWorldK enc e w p.b off m E Q=W at *;have l:∀(i:Nat) o q,H[i]?=some o->S i=true->o.alive=true->mu i=some q->W.heap[q.b]?=w.heap[q.b]?/\q.b<w.heap.size:=λi o q K I s A=>by
  obtain⟨q',M,hr⟩:=B.obj i o K s;rw[A]at M;cases M;have z:=iu s hr;have ad:i≠id:=λe=>by subst e;rw[T]at I;cases I
  have V:=B.inj id i _ _ p q hid K rfl s (BO ad) hp A;exact⟨by rw[a _ _ (BO V) (MN z),MN z],z⟩
 have U:WR C W.heap.size mu (Ix S H) W:=by
  refine⟨λi o h s=>?_,λi j oi oj pi pj h h' L=>?_,λi o p h L=>?_,λi o q h s _ A=>?_,λi K=>B.dom i ?_,λg vs hg=>?_⟩
  ·obtain⟨O,r,rfl⟩:=oP h;obtain⟨k,an,e',ag,rfl,N⟩:=uE s;obtain⟨q,A,hr⟩:=B.obj i _ r rfl;refine⟨q,A,?_⟩;rw[N,(l i _ q r k rfl A).1];obtain⟨R,a2,d,c,t,F,a4,a5,_,a7⟩:=hr;exact⟨R,a2,d,c,t,F,a4,a5,(λh=>(by cases h)),a7⟩
  ·obtain⟨O,_,rfl⟩:=oP h;rw[oQ]at L;cases L
  ·obtain⟨O,_,rfl⟩:=oP h;rw[oQ]at L;cases L
  ·obtain⟨O,r,rfl⟩:=oP h;obtain⟨k,an,e',ag,rfl,N⟩:=uE s;have:=(l i _ q r k rfl A).2;omega
  ·unfold Ix at K;simpa using K
  ·obtain⟨r,k,c,t,F,N,h4⟩:=B.glob g vs hg;have h5:=a _ _ (by omega) N;exact⟨(qaP.1 h5).1,k,c,t,F,h5,h4⟩
 have af:∀b,¬Own mu (Ix S H) b:=by
  rintro b ⟨i,o,q,r,k,_⟩;obtain⟨O,_,rfl⟩:=oP r;rw[oQ]at k;cases k
 have J:∀x:α,VR Az mu (.agg ⟨enc x⟩) (.agg ⟨enc x⟩):=λx=>.agg rfl λi u v hu hv=>by
  rw[hu]at hv;cases hv;exact .scalar (hs x u (Af (by simpa using hu)))
 obtain⟨H',Z⟩:=hc x y;obtain⟨v,ax,w',R,a2,d,a4,F,b1,b2,b3⟩:=Z glo W.heap.size mu W (#[.agg (enc x).toArray,.agg (enc y).toArray]++⟨D⟩) (zY _) (by
  have:(#[Value.agg (enc x).toArray,Value.agg (enc y).toArray]++(⟨D⟩ : Array Value)).toList=Value.agg (enc x).toArray :: Value.agg (enc y).toArray :: D:=by simp
  rw[this];exact VRs.cons (J x) (VRs.cons (J y) Y)) U cs
 exact⟨.returned v,w',F,⟨by rw[cI rfl R],zL d.os d.tape d.output d.dr d.size λb V=>d.keep b V (af b)⟩,b1,b2,b3⟩
def uL{C:Cfg}(hG:∀g vs,C.G g=some vs->vs.all MG=true){ρ:Ren}(L:SlLaysF0.n6 C.P ρ){α:Type} [Inhabited α]{enc:α->Tk}{e:Nat}(Y:∀w,(isAgg (ρ.t 24)).run C.P w = .ok true w)(zE:∀w,(Go.sizeOf (ρ.t 24)).run C.P w = .ok e w)
  (F:∀x,(enc x).length=e) (u:∀x,∀v∈enc x,Am.scalar v=true) {c:α->α->Int} (T:SWO (ltOf c)) {g:TK} (eg:∀args w,(callFunc g args).run C.P w = .ok (.enter g args) w)
  {S:Tt} {H:Tp} {caps:Tk} (hc:∀x y,∃H',dO C g ([.agg ⟨enc x⟩,.agg ⟨enc y⟩]++caps) (Ix S H) (.int .i64 (c x y)) H') {id n cx:Nat} {l:List α} (hid:H[id]?=some (.cells (l.flatMap enc) e true)) (A:S id=false) (hn:n=l.length) (h0:0<n) (V:n<4611686018427387904) :
  dO C (ρ.f 6) [.slice (some ⟨id,0,pu e⟩) n cx,.func (.func g) ⟨[]⟩ ⟨caps⟩] H (.tuple #[]) (H.set id (.cells ((srt c l).flatMap enc) e true)):=by
 subst hn;intro ad R M w d U k B cs;obtain⟨W,ag,h1,h2,h3⟩:=k.uncons;obtain⟨X,an,rfl,h5,h6⟩:=h3.uncons;obtain rfl:=h6.unnil;have a:d = #[W,X]:=qbk.1 h1;subst a;obtain⟨p,j,I,rfl⟩ : ∃p j,M id=some p/\W = .slice (some ⟨p.b,p.o,none⟩) l.length j:=by
  clear hid V;generalize l.length=N at *;cases h2 with
  |scalar h=>simp[Am.scalar]at h
  |hslice h J af K=>exact⟨_,_,h,rfl⟩
  |hslice0 K=>omega
 obtain⟨z,s,rfl,D,E⟩ : ∃z s,X = .func (.func g) z s/\z.size=0/\VRs Az M caps s.toList:=by
  cases h5 with
  |scalar h=>simp[Am.scalar]at h
  |func hf D U h7 h8=>exact⟨_,_,rfl,D.symm,⟨by simpa using U,λi x y K hy=>h8 i x y (by simpa using K) (by simpa using hy)⟩⟩
 obtain rfl:=Array.eq_empty_of_size_eq_zero D;obtain⟨p',r,J⟩:=B.obj id _ hid rfl;rw[I]at r;cases r;have m:=AnyQ.slices_SortFunc_eq L e Y zE enc F (λx v hv=>by
  have:=u x v hv;unfold Am.scalar at this;split at this<;>first|rfl|cases this) c T g s p.b p.o j l.toArray w eg (GW u hc B E hid I A p.o l.toArray.size hG) (wX F u J) (iu rfl J) (by simpa using V)
 obtain⟨e',w',fr,⟨rfl,n,os,rfl⟩,O,Z,Q⟩:=m cs;have q:(srt c l).length=l.length:=by
  have:=(uO T l).1.1;simpa using this
 obtain⟨c1,c2⟩:=qH (l':=srt c l) B F u hid I q n os;have e2:(pdq (ltOf c) l.toArray 0 l.toArray.size (Lib.bitLen l.toArray.size) true true)=(srt c l).toArray:=by simp[srt]
 rw[e2]at O Q;exact⟨.tuple #[],M,_,.tuple (by simp) rfl (λi x y h=>by simp at h),c1,c2,L.f6.enters rfl _ _,fr,O,Z,Q⟩
end
section
variable [Val]
def gV(x:Int):Tk:=[.int .i64 x]
def JY{l:TA}{k:Nat}(b:k<l.length):(Go.Sort.flatK gV 1 l.toArray)[k]! = Value.int .i64 (l.toArray)[k]!:=by
 have c:=rG (enc:=gV) (e:=1) (λ_=>rfl) (l:=l) (t:=k) (by omega);have d:(l.flatMap gV)[k]?=some (.int .i64 l[k]):=by
  have:∀(l:TA) (k:Nat) (b:k<l.length),(l.flatMap gV)[k]?=some (.int .i64 l[k]):=by
   intro l
   induction l with
   |nil=>intro k b;simp at b
   |cons a l g=>
    intro k b;rw[C2];cases k with
    |zero=>rfl
    |succ k=>
     show(Value.int .i64 a :: l.flatMap gV)[k+1]?=_;rw[Ip,g k (by simpa using b)];rfl
  exact this l k b
 rw[d]at c;have f:=(AD c).symm;rw[f];simp[b]
def Lu{w:World}{b o:Nat}{l:TA}:putRow (Value.int .i64) w b o l.toArray=putRowK gV 1 w b o l.toArray:=by
 unfold putRowK putRow
 congr 1
 funext c
 apply qcI;intro k;simp only[Go.Sort.putCells,Array.getElem?_mapIdx];cases c[k]? with
 |none=>rfl
 |some x=>
  simp only[BB];have a:(Go.Sort.flatK gV 1 l.toArray).size=l.toArray.size:=by rw[Go.Sort.size_flatK];omega
  rw[a];by_cases h:o<=k/\k<o+l.toArray.size
  ·rw[mc h,mc h];have d:k - o<l.length:=by have:=h.2;simp at this;omega
   rw[JY d];rfl
  ·rw[po h,po h]
def Ou{w:World}{b o:Nat}{l:TA}(h:HoldsK gV 1 w b o l.toArray):Holds (Value.int .i64) w b o l.toArray:=by
 intro j d;have a:(Go.Sort.flatK gV 1 l.toArray).size=l.toArray.size:=by rw[Go.Sort.size_flatK];omega
 have c:=h j (by rw[a];exact d);have e:j<l.length:=by simpa using d
 rw[JY e]at c;exact c
def ER(l:TA):TA:=l.mergeSort λx y=>decide (x<=y)
def uN(l:TA):(ER l).Perm l:=List.mergeSort_perm _ _
def Ie(l:TA):(ER l).Pairwise λx y=>x<=y:=by
 have:=List.pairwise_mergeSort (le:=λx y:Int=>decide (x<=y)) (λa b c d e=>by
  rw[BF]at *;omega) (λa b=>by
  rw[Ck,BF,BF];omega) l
 exact this.imp λh=>of_decide_eq_true h
def uM{C:Cfg}{ρ:Ren}(L:Lays.n189 C.P ρ)(O:∀args w,(callFunc (ρ.f 189) args).run C.P w = .ok (.enter (ρ.f 189) args) w){H:Tp}{id n cx:Nat}{l:TA}(hid:H[id]?=some (.cells (l.flatMap gV) 1 true))(W:n=l.length)(h0:0<n)(A:n<4611686018427387904) :
  dO C (ρ.f 189) [.slice (some ⟨id,0,pu 1⟩) n cx] H (.tuple #[]) (H.set id (.cells ((ER l).flatMap gV) 1 true)):=by
 subst W;intro R t F w c hb e u K;obtain⟨G,Z,S,T,U⟩:=e.uncons;obtain rfl:=U.unnil;have a:c = #[G]:=qbk.1 S;subst a;obtain⟨p,d,B,rfl⟩ : ∃p d,F id=some p/\G = .slice (some ⟨p.b,p.o,none⟩) l.length d:=by
  clear hid A;generalize l.length=N at *;have E:pu 1≠some 1:=by simp[pu]
  generalize pu 1=tg at *;cases T with
  |scalar h=>simp[Am.scalar]at h
  |hslice h m V Y=>exact⟨_,_,h,rfl⟩
  |hslice0 Y=>omega
  |gslice=>exact absurd rfl E
  |gslice0=>exact absurd rfl E
 have z:∀x:Int,(gV x).length=1:=λ_=>rfl;have D:∀x:Int,∀v∈gV x,Am.scalar v=true:=λx v X=>by
  rw[qav.1 X];rfl
 obtain⟨p',k,m⟩:=u.obj id _ hid rfl;rw[B]at k;cases k;have g:=Any.slices_Sort_int L p.b p.o d l w (Ou (wX z D m)) (iu rfl m) A;obtain⟨e',w',Q,⟨rfl,n,q,rfl⟩,r,I,s⟩:=g K;have j:(ER l).length=l.length:=(uN l).length_eq;obtain⟨J,c2⟩:=qH (l':=ER l) u z D hid B j n q;have M:grow (putRow (Value.int .i64) (Go.Sort.ahead w n) p.b p.o (l.mergeSort λx y=>decide (x<=y)).toArray) q=sortWorldK gV 1 w p.b p.o n (ER l).toArray q:=by
  unfold sortWorldK;rw[Lu];rfl
 rw[M]at r s;exact⟨.tuple #[],F,_,.tuple (by simp) rfl (λi x y h=>by simp at h),J,c2,O _ _,Q,r,I,s⟩
end
def Z2(P:TD)(f:TK):String:=match P.funcs[f]? with
 |some g=>g.name
 |none => ""
def mt {P:TD} {f:TK} {B:Func} (h1:(Z2 P f == "runtime.NumGoroutine")=false) (a:P.funcs[f]?=some { B with name:=Z2 P f }):Bears P f B:=⟨_,h1,a⟩
def renK:Ren:=⟨fun|6=>27|15=>70|14=>69|28=>115|29=>116|20=>107|21=>108|22=>109|23=>110|24=>111|25=>112|26=>113|27=>114|46=>139|47=>140|48=>141|49=>142|50=>143|57=>176|n=>n,
 fun|22=>83|24=>92|25=>94|39=>155|53=>200|55=>202|46=>193|45=>192|50=>197|66=>234|70=>238|76=>263|77=>222|n=>n,λn=>n⟩
def layK:SlLaysF0.n6 Tryz.prog renK:=by
 constructor
 all_goals first
  |kernel_rfl
  |exact mt (by kernel_rfl) (by kernel_rfl)
  |exact λ_=>by kernel_rfl
def renP:Ren:=⟨fun|6=>72|15=>70|14=>117|28=>115|29=>116|20=>144|21=>145|22=>146|23=>147|24=>148|25=>149|26=>150|27=>151|46=>177|47=>140|48=>141|49=>178|50=>179|57=>186|n=>n,
 fun|22=>49|24=>112|25=>158|39=>155|53=>200|55=>202|46=>193|45=>192|50=>197|66=>234|70=>238|76=>263|77=>222|n=>n,λn=>n⟩
def layP:SlLaysF0.n6 Tryz.prog renP:=by
 constructor
 all_goals first
  |kernel_rfl
  |exact mt (by kernel_rfl) (by kernel_rfl)
  |exact λ_=>by kernel_rfl
def renO:Ren:=⟨fun|6=>74|15=>70|14=>118|28=>115|29=>116|20=>152|21=>153|22=>154|23=>155|24=>156|25=>157|26=>158|27=>159|46=>180|47=>140|48=>141|49=>181|50=>182|57=>187|n=>n,
 fun|22=>50|24=>115|25=>161|39=>155|53=>200|55=>202|46=>193|45=>192|50=>197|66=>234|70=>238|76=>263|77=>222|n=>n,λn=>n⟩
def layO:SlLaysF0.n6 Tryz.prog renO:=by
 constructor
 all_goals first
  |kernel_rfl
  |exact mt (by kernel_rfl) (by kernel_rfl)
  |exact λ_=>by kernel_rfl
def renI:Ren:=⟨fun|189=>77|125=>70|257=>120|128=>115|129=>116|294=>160|295=>161|296=>162|297=>163|298=>164|299=>165|216=>166|300=>167|301=>168|328=>183|329=>140|330=>141|331=>184|332=>185|215=>92|343=>188|n=>n,
 fun|28=>51|46=>155|51=>200|53=>202|183=>193|182=>192|131=>197|218=>234|222=>238|228=>263|229=>222|n=>n,λn=>n⟩
def layI:Lays.n189 Tryz.prog renI:=by
 constructor
 all_goals first
  |kernel_rfl
  |exact mt (by kernel_rfl) (by kernel_rfl)
  |exact λ_=>by kernel_rfl
def MR(S:Tt)(h:HL):HL:=(Ix S (ka aa h)).map HO.o
def qQ{S:Tt}{h:HL}:ka aa (MR S h)=Ix S (ka aa h):=by
 unfold MR ka;rw[D9]
 conv=>rhs;rw[←qd4 (Ix S (List.map (BR aa) h))]
 rfl
def vW{S:Tt}{h:HL}{i:Nat}{vs:Tk}{e:Nat}{a:Bool}(c:h[i]?=some (.o (.cells vs e a)))(b:S i=true):(MR S h)[i]?=some (.o (.cells vs e false)):=by
 unfold MR Ix ka;rw[AU,List.getElem?_mapIdx,AU,c];simp only[BB,BR,RE,b]
def L2{α:Type} [Inhabited α]{enc:α->Tk}{e:Nat}{ρ:Ren}(L:SlLaysF0.n6 cc.P ρ)(m:∀w,(isAgg (ρ.t 24)).run cc.P w = .ok true w)(u:∀w,(Go.sizeOf (ρ.t 24)).run cc.P w = .ok e w)(r:∀x,(enc x).length=e)(s:∀x,∀v∈enc x,Am.scalar v=true)
  {a:α->α->Int} (p:SWO (ltOf a)) {g:TK} (n:∀args w,(callFunc g args).run cc.P w = .ok (.enter g args) w) {S:Tt} {H:HL} {caps:Tk} (j:aB (.func (.func g) ⟨[]⟩ ⟨caps⟩)=true)
  (q:∀x y,∃H',dO cc g ([.agg ⟨enc x⟩,.agg ⟨enc y⟩]++caps) (Ix S (ka aa H)) (.int .i64 (a x y)) H') {id cx:Nat} {J:List α} (hid:H[id]?=some (.o (.cells (J.flatMap enc) e true))) (i:S id=false) (h0:0<J.length) (z:J.length<=100000)
  (l:ab (ρ.f 6)=some ⟨[lv,lv],[]⟩) (k:CZ (ρ.f 6)=none) :
  aD cc ab (ρ.f 6) [.v (.slice (some ⟨id,0,pu e⟩) J.length cx),.v (.func (.func g) ⟨[]⟩ ⟨caps⟩)] (ka aa H) [] (ka aa (H.set id (.o (.cells ((srt a J).flatMap enc) e true)))):=by
 have b:(ka aa H)[id]?=some (.cells (J.flatMap enc) e true):=by
  unfold ka;rw[AU,hid];rfl
 have c:=uL (C:=cc) rJ L (enc:=enc) (e:=e) m u r s p n q (cx:=cx) b i rfl h0 (by omega);have d:(ka aa H).set id (.cells ((srt a J).flatMap enc) e true)=ka aa (H.set id (.o (.cells ((srt a J).flatMap enc) e true))):=by
  rw[th];rfl
 rw[d]at c;exact⟨⟨[lv,lv],[]⟩,[.leaf (.v (.slice (some ⟨id,0,pu e⟩) J.length cx)),.leaf (.v (.func (.func g) ⟨[]⟩ ⟨caps⟩))],[],l,⟨rfl,rfl,λy h=>by
  simp only[qar,Px,or_false]at h;rcases h with rfl|rfl
  ·exact az (show aB (.slice (some ⟨id,0,pu e⟩) J.length cx)=true by simp[aB,noLoc,aP,bg,aW,aG,aw,pu])
  ·exact az j⟩,⟨rfl,rfl,λy h=>by cases h⟩,⟨0,.inr ⟨.inl k,c⟩⟩⟩
def jO{α β:Type}{f:α->β}:∀ {l:List β},(∀b∈l,∃a,f a=b)->∃d:List α,d.map f=l
 | [],_=>⟨[],rfl⟩
 |b :: l,h=>by
  obtain⟨a,rfl⟩:=h b Ch;obtain⟨d,rfl⟩:=jO λc e=>h c (Bo _ e);exact⟨a :: d,rfl⟩
def wq{α:Type}{b:α->α->Int}{R:α->α->Prop}(h:∀x y,b x y<0↔R x y)(f:∀x,¬R x x)(i:∀x y z,R x y->R y z->R x z)(g:∀x y z,¬R x y->¬R y z->¬R x z):SWO (ltOf b):=by
 have c:∀x y,ltOf b x y=true↔R x y:=λx y=>by
  unfold ltOf;rw[BF];exact h x y
 have a:∀x y,ltOf b x y=false↔¬R x y:=λx y=>by
  rw[←c x y];cases ltOf b x y<;>simp
 exact⟨λx=>(a x x).2 (f x),λx y z d e=>(c x z).2 (i x y z ((c x y).1 d) ((c y z).1 e)),λx y z d e=>(a x z).2 (g x y z ((a x y).1 d) ((a y z).1 e))⟩
def cmpI_l{a b:Int}:Ae a b<0↔a<b:=by
 unfold Ae
 repeat' split
 all_goals omega
end Go.Am
end

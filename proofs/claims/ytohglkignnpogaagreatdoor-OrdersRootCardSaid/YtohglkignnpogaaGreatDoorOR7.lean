import Derived.Test.YtohglkignnpogaaGreatDoorOR6
set_option linter.all false
noncomputable section
set_option maxRecDepth 100000
set_option maxHeartbeats 16000000
open Int(ofNat)
open List(range replicate)
namespace Go.Am
open Sx Go.Proofs
def WO(c:EJ)(a b:Int):Bool:=decide (c.1<a)||(decide (c.1=a)&&decide (c.2.1<b))
def kR{c:EJ}{a b:Int}:WO c a b=true↔c.1<a∨(c.1=a/\c.2.1<b):=by
 simp only[WO,GN,te,E6]
def MB{c:EJ}{a b:Int}(h:0<=c.1/\c.1<=1000/\0<=a/\a<=1000/\0<=c.2.1/\c.2.1<=255/\0<=b/\b<=255):∃d:Int,Cc 17 [.i c.1,.i c.2.1,.i a,.i b] [.i d]/\(d<0↔WO c a b=true)/\(d=0↔c.1=a/\c.2.1=b):=by
 by_cases e:c.1=a
 .refine⟨c.2.1 - b,?_,by rw[kR];omega,a_⟩;refine q17 rfl ?_;unfold Zd;simp only[ub];simp(disch:=omega)only[↓n9]
 .refine⟨c.1 - a,?_,by rw[kR];omega,a_⟩;refine q17 rfl ?_;unfold Zd;simp only[ub];simp(disch:=omega)only[↓n9]
def LL{c:EJ}{a b:Int}(h:0<=c.1/\c.1<=1000/\0<=a/\a<=1000/\0<=c.2.1/\c.2.1<=255/\0<=b/\b<=255):∃d:Int,Cc 144 [.i c.1,.i c.2.1,.i c.2.2,.i a,.i b] [.i d]/\(d<0↔WO c a b=true)/\(d=0↔c.1=a/\c.2.1=b):=by
 obtain⟨d,g,e,f⟩:=MB h;refine⟨d,?_,e,f⟩;refine q144 rfl ?_;unfold UJ;simp only[ub]
 repeat (first|simp(disch:=omega)only[↓n9]|refine aj (sZ c) ?_|refine aj g ?_)
abbrev eB:Value:=.func (.func 144) ⟨[]⟩ ⟨[]⟩
def oS:aI eB=true:=rfl
def r5{a:Int}{K:Tw}(h0:0<=a)(d:K (a / 2)):P1.HB .shr .u64 a .u64 1 (@i' _ ⟨K⟩):=by
 refine s_shf (yZ 0) (K:=λn=>if n=a / 2 then yes else none) (λn f=>?_) ?_
 .by_cases e:n=a / 2
  .rw[e];exact d
  simp_all
 .have b:∀(K:Int->RT),(BA ac aa (Jy 0)).HB .shr .u64 a .u64 1 K=S_ .shr .u64 a .u64 1 K:=λ_=>rfl;rw[b];have c:WF 0 1=true:=rfl;unfold S_;rw[c];simp only;rw[lH];have:a.fdiv (2 ^ min (1:Int).toNat IntKind.u64.bits)=a / 2:=by
   show a.fdiv 2=a / 2
   grind
  rw[this,qs rfl]
def ME{a:Int}{K:Tw}(h1:0<=a)(c:a<=9223372036854775807)(b:K a):P1.conv .u64 a (@i' _ ⟨K⟩):=by
 show K (IntKind.wrap .u64 a);have:IntKind.wrap .u64 a=a:=by
  simp only[IntKind.wrap,IntKind.bits,IntKind.signed,Bool.false_and,Fh,if_false];omega
 rw[this];exact b
def Jw(c:EJ):Prop:=0<=c.1/\c.1<=1000/\0<=c.2.1/\c.2.1<=255/\0<=c.2.2/\c.2.2<=255
def At(l:TD)(a b:Int)(i:Nat):Prop:=i<=l.length/\(∀(k:Nat) c,l[k]?=some c->k<i->WO c a b=true)/\∀(k:Nat) c,l[k]?=some c->i<=k->WO c a b=false
def F5(l:TD)(a b:Int)(i:Nat):Bool:=match l[i]? with
 |some c=>decide (c.1=a)&&decide (c.2.1=b)
 |none=>false
def PG{l:TD}(h:F3 l=true):∀(n i:Nat) a b,l[i]?=some a->l[i+n+1]?=some b->FX a b=true
 |0,i,a,b,d,e=>jE.1 h i a b d e
 |n+1,i,a,b,d,e=>by
  obtain⟨c,f⟩:=am (l:=l) (i:=i+n+1) i_;have g:=PG h n i a c d f;have j:=jE.1 h (i+n+1) c b f a_;simp only[FX,GN,te,E6]at g j ⊢;omega
def J1{l:TD}(h:F3 l=true){i j:Nat}{a b:EJ}(d:i<j)(c:l[i]?=some a)(e:l[j]?=some b):FX a b=true:=
 PG h (j - i - 1) i a b c i_
def s9{h:HL}{x:TR}{l:TD}(w:q9 h x 3 mi l)(u:∀c∈l,Jw c)(T:l.length<=1000)(p:F3 l=true){a b:Int}(U:0<=a/\a<=1000/\0<=b/\b<=255) :
  ∃i:Nat,At l a b i/\aF cc ac 143 [.v x,.i a,.i b,.v eB] (h9 aa h) [.i (ofNat i),.b (F5 l a b i)] (h9 aa h):=by
 obtain⟨L,r,N,i,rfl,rfl,O⟩:=x143 (K:=λL r=>∃i:Nat,L=[.i (ofNat i),.b (F5 l a b i)]/\r=h/\At l a b i) (H:=h) (pP w.h_ (mc (mc (pP oS t0)))) (by
  unfold Wo;simp only[ub];refine e_ ?_;refine bw w ?_;refine aH (m:=l.length) (λm J r=>∃i j:Nat,J=[.i (ofNat i),.i (ofNat j)]/\r=h/\i<=j/\j<=l.length/\m=j - i/\(∀(k:Nat) c,l[k]?=some c->k<i->WO c a b=true)/\∀(k:Nat) c,l[k]?=some c->j<=k->WO c a b=false) ⟨0,l.length,rfl,rfl,a_,a_,a_,λk c _ u=>a_,λk c g u=>j_⟩ ?_;rintro m J r ⟨i,j,rfl,rfl,Q,t,rfl,o,n⟩ M f;refine Ei ?_;refine e_ ?_;by_cases F:i<j
  .rw[aO F];refine e_ ?_;rw[Gi i_ i_];refine ME i_ i_ ?_;refine r5 i_ ?_;have s:(ofNat i+ofNat j) / 2=ofNat ((i+j) / 2):=c_;rw[s];rw[R1 i_ i_];obtain⟨c,g⟩:=am (l:=l) (i:=(i+j) / 2) a_;have G:=u c (A9 g);unfold Jw at G;refine aQ w rfl g ?_;unfold mi;refine e_ ?_;obtain⟨d,A,I,z⟩:=LL (c:=c) (a:=a) (b:=b) a_;refine jt (tF (A _) rfl [.agg [.i .i64 c.1,.i .u8 c.2.1,.i .u8 c.2.2],.agg [.i .i64 a,.i .u8 b]] rfl rfl) ?_;refine e_ ?_;by_cases B:d<0
   .have R:=I.1 B;refine e_ ?_;rw[aU a_];refine e_ ?_;refine f (j - ((i+j) / 2+1)) _ _ a_ ⟨(i+j) / 2+1,j,rfl,rfl,a_,t,rfl,λk e C E=>?_,n⟩;rcases HG k ((i+j) / 2)with q|q
    .have:=J1 p q C g;rw[kR]at R ⊢;simp only[FX,GN,te,E6]at this;omega
    grind
   .have P:WO c a b=false:=by
     simp_all
    refine e_ ?_;refine f ((i+j) / 2 - i) _ _ a_ ⟨i,(i+j) / 2,rfl,rfl,a_,a_,rfl,o,λk e C E=>?_⟩;rcases HG ((i+j) / 2) k with q|q
    .have:=J1 p q g C;rw[←Hz,kR]at P ⊢;simp only[FX,GN,te,E6]at this;omega
    grind
  .obtain rfl:i=j:=a_;rw[aN (B8 _)];refine e_ ?_;by_cases D:i<l.length
   .rw[aO D];refine e_ ?_;obtain⟨c,g⟩:=am D;have G:=u c (A9 g);unfold Jw at G;refine aQ w rfl g ?_;unfold mi;refine e_ ?_;obtain⟨d,A,I,z⟩:=LL (c:=c) (a:=a) (b:=b) a_;refine jt (tF (A _) rfl [.agg [.i .i64 c.1,.i .u8 c.2.1,.i .u8 c.2.2],.agg [.i .i64 a,.i .u8 b]] rfl rfl) ?_;refine e_ ?_;by_cases y:d=0
    .have:=z.1 y;rw[t_ y];refine e_ ?_;exact⟨i,by simp[F5,g,this.1,this.2],D',t,o,n⟩
    .have S:¬(c.1=a/\c.2.1=b):=λq=>y (z.2 q);rw[xk y];refine e_ ?_;refine⟨i,?_,D',t,o,n⟩;have:F5 l a b i=false:=by
      simp only[F5,g]
      simp_all
     rw[this]
   .rw[aN a_];refine e_ ?_;refine⟨i,?_,D',t,o,n⟩;have:F5 l a b i=false:=by
     simp only[F5,Hy (Nat.not_lt.1 D)]
    rw[this])
 exact⟨i,O,N⟩
def mS{h:HL}{x:TR}{l:TD}(f:q9 h x 3 mi l)(n:∀c∈l,Jw c)(o:l.length<=1000)(d:F3 l=true){a b:Int}(p:0<=a/\a<=1000/\0<=b/\b<=255) :
  ∃i:Nat,At l a b i/\aF cc ac 137 [.v x,.i a,.i b] (h9 aa h) [.i (ofNat i),.b (F5 l a b i)] (h9 aa h):=by
 obtain⟨i,m,k⟩:=s9 f n o d p;obtain⟨g,e,j,rfl,rfl⟩:=x137 (K:=λg e=>g=[.i (ofNat i),.b (F5 l a b i)]/\e=h) (H:=h) (pP f.h_ (mc (mc t0))) (by
  unfold Wn;simp only[ub]
  repeat (first|simp(disch:=omega)only[↓n9]|refine ak k ?_)
  simp_all)
 exact⟨i,m,j⟩
def LF(a b:Int)(c:EJ):Bool:=decide (c.1=a)&&decide (c.2.1=b)
def cP(l:TD)(a b:Int):Int:=match l.find? (LF a b)with
 |some c=>c.2.2
 |none=>0
def WE{l:TD}{a b:Int}{i:Nat}(h:At l a b i)(e:F3 l=true):(F5 l a b i=true->∃c,l[i]?=some c/\cP l a b=c.2.2)/\(F5 l a b i=false->cP l a b=0):=by
 obtain⟨u,p,r⟩:=h;have m:∀(k:Nat) c,l[k]?=some c->LF a b c=true->k=i:=by
  intro k c f s;simp only[LF,te,E6]at s;rcases qdk k i with q|q|q
  .have:=p k c f q;rw[kR]at this;omega
  .exact q
  .obtain⟨d,g⟩:=am (l:=l) (i:=i) i_;have n:=J1 e q g f;have o:=r i d g (B8 _);rw[←Hz,kR]at o;simp only[FX,GN,te,E6]at n;omega
 have t:F5 l a b i=true↔∃c,l[i]?=some c/\LF a b c=true:=by
  unfold F5 LF
  grind
 unfold cP;cases j:l.find? (LF a b)with
 |none=>
  grind
 |some c=>
  have w:=hN j;obtain⟨k,v⟩:=FK (b2 j)
  grind
structure Pd(w v:Nat)(l:TD):Prop where
 sheet:1<=w/\w<=5/\1<=v/\v<=5
 KM:∀c∈l,Jw c
 len:l.length<=1000
 ok:Hh (.ofNat w) (.ofNat v) l=0
def Pd.sm{w v:Nat}{l:TD}(h:Pd w v l):JC (.ofNat w) (.ofNat v):=by
 have:=h.sheet;unfold JC
 grind
def Pd.asc{w v:Nat}{l:TD}(h:Pd w v l):F3 l=true:=by
 have:=h.ok;unfold Hh at this
 grind
def Pd.check{w v:Nat}{l:TD}(h:Pd w v l){H:HL}{x:TR}(b:q9 H x 3 mi l):aF cc ac 27 [.i (.ofNat w),.i (.ofNat v),.v x] (h9 aa H) [.i 0] (h9 aa H):=by
 have:=VN h.sm b (λc a=>by
  have:=h.KM c a;unfold Jw at this;unfold ej;omega) (by have:=h.len;omega)
 rw[h.ok]at this;exact this
def hH{w v:Nat}{l:TD}(g:Pd w v l){H:HL}{x:TR}(h:q9 H x 3 mi l){c e n:Nat}(z:c<4*w*v)(A:e<3)(D:y0 w v c e=some n)(E:n<=1000) :
  aF cc ac 83 [.i (.ofNat w),.i (.ofNat v),.v x,.i (.ofNat c),.i (.ofNat e)] (h9 aa H) [.i (cP l (.ofNat (min c n)) (.ofNat e)),.i 0] (h9 aa H):=by
 have f:=g.sheet;have d:=Kx (sW w v f.1 f.2.1 f.2.2.1 f.2.2.2) z A;unfold Jm at d;rw[D]at d;simp only at d;obtain⟨i,B,q⟩:=mS h g.KM g.len g.asc (a:=.ofNat (min c n)) (b:=.ofNat e) i_;obtain⟨F,L⟩:=WE B g.asc;obtain⟨m,j,r,t,u⟩:=x117 (K:=λm j=>m=[.i (.ofNat (min c n)),.i (.ofNat e),.i (.ofNat i),.b (F5 l (.ofNat (min c n)) (.ofNat e) i),.i 0]/\j=H) (H:=H) (mc (mc (pP h.h_ (mc (mc t0))))) (by
  unfold Wi;simp only[ub]
  repeat (first|simp(disch:=omega)only[↓n9]|refine ak (g.check h) ?_|refine aj d ?_|refine ak q ?_)
  simp_all)
 rw[t,u]at r;obtain⟨G,I,J,e3,e4⟩:=x83 (K:=λm j=>m=[.i (cP l (.ofNat (min c n)) (.ofNat e)),.i 0]/\j=H) (H:=H) (mc (mc (pP h.h_ (mc (mc t0))))) (by
  unfold f83;simp only[ub]
  repeat (first|simp(disch:=omega)only[↓n9]|refine ak r ?_)
  cases y:F5 l (.ofNat (min c n)) (.ofNat e) i with
  |false=>
   simp(disch:=omega)only[↓n9,FT]
   simp_all
  |true=>
   obtain⟨s,p,C⟩:=F y
   repeat (first|simp(disch:=omega)only[↓n9,EX]|refine dK (o:=2) (k:=1) (cs:=[.int .u8 s.2.2]) h rfl p rfl a_ ?_)
   simp_all)
 simp_all
def r_(x y:Cl):K6:=if DX x y then(y,x)else(x,y)
abbrev FR:=List K6×List (List K2)
def DA(k:K6)(s:FR):FR:=if k∈s.1 then s else(s.1++[k],s.2++[[],[],[]])
def GF(j:Nat)(p:K2)(s:FR):FR:=(s.1,s.2.set j (s.2.getD j []++[p]))
def fE(w v:Nat)(l:TD)(P:TH)(id e:Nat)(s:FR):FR:=
 let a:=ar (P id) (pu w id)
 let b:=ar (P id) (EO (pu w id) e)
 let s:=DA (r_ a b) s
 let i:=s.1.idxOf (r_ a b)
 match y0 w v id e with
 |none=>s
 |some n=>if n<id then s else
  if cP l (ofNat (min id n)) (ofNat e)=0 then GF (3*i) (if DX a b then(n,id)else(id,n)) s
  else GF (3*i+(if DX a b then 2 else 1)) (id,n) s
def Fx(pn:Ti)(w v:Nat)(l:TD)(P:TH)(V:Tx)(id e:Nat):Prop:=
 ∀n,y0 w v id e=some n->¬n<id->cP l (ofNat (min id n)) (ofNat e)≠0->cP l (ofNat (min id n)) (ofNat e)≠3->v7 V (HN pn (cP l (ofNat (min id n)) (ofNat e)) id n (decide ((P id).1<4)))=true
def Ee(w v:Nat)(l:TD)(P:TH)(n:Nat):FR:=(range n).foldl (λs id=>(range 3).foldl (λs e=>fE w v l P id e s) s) ([],[])
def Sm.look{o:Nat}{h:HL}{f:Nat}{kv:TR}{ks:List K6}{is:TC}{vs:Tn}{ls:List (List K2)}(d:Sm o h f kv ks is vs ls)(k:K6){v:TR}(n:v = .agg ⟨Lq k⟩){K:Tf}(h0:k∉ks->K [.pointer none])(h1:∀(i:Nat) id,ks[i]?=some k->is[i]?=some id->K [kb id]) :
  P1.ma (.fn (Gr cc 177 false (.pointer none) (.map (some f)) v false)) h (@i' _ ⟨K⟩):=by
 have q:∀(i:Nat) p,(ks.zip (is.map kb))[i]?=some p->∃id,ks[i]?=some p.1/\is[i]?=some id/\p.2=kb id:=λi p c=>by
  grind
 refine SH Lq Qo d_ d_ LI d.mp k n (λg e=>by cases e) (λp c g e=>?_) (λm=>h0 λj=>m ?_) λi u a=>?_
 .obtain⟨i,a⟩:=FK c
  grind
 .obtain⟨i,a⟩:=FK j;obtain⟨id,b⟩:=am (l:=is) (i:=i) (by rw[d.il];exact ai a);refine DJ.2 ⟨(k,kb id),A9 (i:=i) (qdf.2 ⟨a,?_⟩),rfl⟩
  simp_all
 grind
def Sm.put_key{l:Nat}{h g:HL}{a:Nat}{kv:TR}{ks:List K6}{is:TC}{vs:Tn}{ls:List (List K2)}(i:Sm l h a kv ks is vs ls){k:K6}(d:k∉ks){v u:TR}(j:v = .agg ⟨Lq k⟩)(c:∀o,h[a]?=some o->g[a]?=some o){K:Tb}(b:∀o,Ek Lq (g.set a o) a (ks.zip (is.map kb)++[(k,u)])->K [] (g.set a o)) :
  P1.heap (.fn (G5 cc 177 (.map (some a)) v u)) g (@i' _ ⟨K⟩):=by
 refine SI Lq Qo d_ d_ LI (i.mp.ka _ c) k (λe=>d ?_) j b;obtain⟨p,f,rfl⟩:=DJ.1 e;exact(List.of_mem_zip f).1
def H8(l:Ln)(s:Bool)(g:Mv)(c:Cl):Mv:=if eh l (ar g c)=s then af g (Do l)else g
def QH{l:Ln}{s:Bool}{g:Mv}{c:Cl}(a:g.1<8):(H8 l s g c).1<8:=by
 unfold H8;split
 .exact bR
 .exact a
def M7{c:Cl}{e:Nat}(a:c.2.2<4)(d:e<3):eh (q8 c e) c≠eh (q8 c e) (EO c e):=by
 obtain⟨x,y,q⟩:=c;simp only at a;have b:e=0∨e=1∨e=2:=a_;rcases FE a with rfl|rfl|rfl|rfl<;>rcases b with rfl|rfl|rfl
 all_goals
  intro h;simp[eh,EO,q8]at h
  try omega
def Mc{c:Cl}{e:Nat}(a:c.2.2<4)(d:e<3):1<=(q8 c e).1/\(q8 c e).1<=4:=by
 obtain⟨x,y,q⟩:=c;simp only at a;have b:e=0∨e=1∨e=2:=a_;rcases FE a with rfl|rfl|rfl|rfl<;>rcases b with rfl|rfl|rfl<;>simp[q8]
def L2{m:Mv}(h:m.1<8):af (E4 m) m=CW:=by
 obtain⟨t,x,y⟩:=m;have h:t<8:=h;unfold af E4 CW;rcases t8 h with rfl|rfl|rfl|rfl|rfl|rfl|rfl|rfl<;>simp[DE,mA,mB,mC,mD,Hm]<;>omega
def eH{a b:Mv}{c:Cl}(d:a.1<8)(e:b.1<8)(f:c.2.2<4):ar (af a b) c=ar b (ar a c):=by
 obtain⟨s,h,i⟩:=a;obtain⟨t,j,g⟩:=b;obtain⟨x,y,q⟩:=c;simp only at d e f;rcases t8 d with rfl|rfl|rfl|rfl|rfl|rfl|rfl|rfl<;>rcases t8 e with rfl|rfl|rfl|rfl|rfl|rfl|rfl|rfl
 all_goals rcases FE f with rfl|rfl|rfl|rfl
 all_goals simp[ar,qT,mA,mB,mC,mD,af,DE]
 all_goals omega
def QE(w:Nat)(l:Ln)(s:Bool)(G:TH)(r:Mv)(c:Nat):Mv:=af (H8 l s (af (G c) r) (pu w c)) (E4 (H8 l s (af (G 0) r) (pu w 0)))
def QF{w:Nat}{l:Ln}{s:Bool}{G:TH}{r:Mv}(c:Nat):af (QE w l s G r c) (H8 l s (af (G 0) r) (pu w 0))=H8 l s (af (G c) r) (pu w c):=by
 have a:∀c,(H8 l s (af (G c) r) (pu w c)).1<8:=λc=>QH bR;have b:(E4 (H8 l s (af (G 0) r) (pu w 0))).1<8:=by
  have:=a 0;generalize H8 l s (af (G 0) r) (pu w 0)=m at *;unfold E4;simp only;rcases t8 this with h|h|h|h|h|h|h|h<;>rw[h]<;>simp[Hm]
 unfold QE;rw[aW (a c) b (a 0),L2 (a 0),iC (a c)]
def Uv{w v:Nat}(K:Sh w v){l l':TD}{G:TH}(hG:mz w v l G)(O:∀c,c<4*w*v->(G c).1<8){r:Mv}(hr:r.1<8){ln:Ln}(D:1<=ln.1/\ln.1<=4){s:Bool}
  (ad:∀u e n,u<4*w*v->e<3->y0 w v u e=some n->u<n->(Dy l' u e=true↔(Dy l u e=true∨(Dy l u e=false/\q8 (ar (af (G u) r) (pu w u)) (eT (af (G u) r).1 e)=ln)))) :
  mz w v l' (QE w ln s G r)/\QE w ln s G r 0=CW:=by
 have L:∀c,(H8 ln s (af (G c) r) (pu w c)).1<8:=λc=>QH bR;refine⟨λc e n J j hn=>?_,wz (L 0)⟩;obtain⟨F,T,ag,y,al⟩:=cQ K J j hn;have p:(pu w c).2.2<4:=(dS K J).2.2.2.2;have Z:(pu w n).2.2<4:=(dS K F).2.2.2.2;have E:∀g,E_ w l g c n e=if Dy l (min c n) e=true then af (Do (q8 (pu w c) e)) g else g:=λg=>by
  unfold E_
  grind
 have A:∀g,E_ w l' g c n e=if Dy l' (min c n) e=true then af (Do (q8 (pu w c) e)) g else g:=λg=>by
  unfold E_
  grind
 have k:=hG c e n J j hn;rw[E]at k;rw[A];generalize I:Do (q8 (pu w c) e)=M at *;have f:M.1<8:=by rw[←I];exact lW _
 have P:af M M=CW:=by rw[←I];exact OD _
 have V:(Do ln).1<8:=lW _;have N:=O c J;have d:(af (G c) r).1<8:=bR;have hi:(E4 (H8 ln s (af (G 0) r) (pu w 0))).1<8:=by
  have:=L 0;generalize H8 ln s (af (G 0) r) (pu w 0)=m at *;unfold E4;simp only;rcases t8 this with h|h|h|h|h|h|h|h<;>rw[h]<;>simp[Hm]
 have o:Dy l' (min c n) e=true↔(Dy l (min c n) e=true∨(Dy l (min c n) e=false/\q8 (ar (af (G (min c n)) r) (pu w (min c n))) (eT (af (G (min c n)) r).1 e)=ln)):=by
  grind
 have x:∀X:Mv,X.1<8->(H8 ln s (af (G n) r) (pu w n)=af M (H8 ln s (af (G c) r) (pu w c)))->QE w ln s G r n=af M (QE w ln s G r c):=λ_ _ h=>by
  unfold QE;rw[h,aW f (L c) hi]
 by_cases z:Dy l (min c n) e=true
 .rw[qs (o.2 (.inl z))];rw[qs z]at k;refine x M f ?_;have W:af (G n) r=af M (af (G c) r):=by rw[k,aW f N hr]
  have R:ar (af (G n) r) (pu w n)=ar (af (G c) r) (pu w c):=by
   rw[W,y,←I];exact ik d p j
  unfold H8;rw[R];split
  .rw[W,aW f d V]
  .exact W
 .rw[rv z]at k;have C:Dy l (min c n) e=false:=qcK.2 z;have S:G (min c n)=G c:=by
   grind
  have B:q8 (ar (af (G (min c n)) r) (pu w (min c n))) (eT (af (G (min c n)) r).1 e)=q8 (ar (af (G c) r) (pu w c)) (eT (af (G c) r).1 e):=by
   rw[S];rcases Nat.le_total c n with h|h
   .rw[XS h]
   .rw[qdr h];have Y:=yR (Mc (c:=ar (af (G c) r) (pu w n)) dR (mJ (t:=(af (G c) r).1) j)) (c:=ar (af (G c) r) (pu w c)) dR (mJ (t:=(af (G c) r).1) j) ?_
    .exact Y
    .have hb:pu w c=EO (pu w n) e:=(cQ K F j T).2.2.2.1;have h1:=M7 (c:=ar (af (G c) r) (pu w n)) (e:=eT (af (G c) r).1 e) dR (mJ j);rw[←io d p j,←y];rw[←io d Z j,←hb]at h1;exact Ej h1
  rw[B]at o;by_cases i:q8 (ar (af (G c) r) (pu w c)) (eT (af (G c) r).1 e)=ln
  .rw[qs (o.2 (.inr ⟨C,i⟩))];refine x M f ?_;have q:=M7 (c:=ar (af (G c) r) (pu w c)) (e:=eT (af (G c) r).1 e) dR (mJ j);rw[i,←io d p j]at q;have H:=OL d D p j q;rw[I]at H;rw[←y]at q;unfold H8;rw[k];generalize eh ln (ar (af (G c) r) (pu w c))=a at *;generalize eh ln (ar (af (G c) r) (pu w n))=b at *;have Q:af M (af M (af (G c) r))=af (G c) r:=by rw[←aW f f d,P,jH d]
   by_cases ha:a=s
   .grind
   .rw[rv ha,qs (by cases a<;>cases b<;>cases s<;>simp_all),H]
  .have U:¬Dy l' (min c n) e=true:=λh=>by
    simp_all
   rw[rv U];have q:eh ln (ar (af (G c) r) (pu w c))=eh ln (ar (af (G c) r) (pu w n)):=by
    by_cases h:eh ln (ar (af (G c) r) (pu w c))=eh ln (ar (af (G c) r) (pu w n))
    .exact h
    .rw[y,io d p j]at h;exact absurd (yR D dR (mJ j) h).symm i
   unfold QE
   congr 1
   unfold H8;rw[k,q]
def eqsC{a b:Cl}{K:Tp}:P1.eqs [(.i a.1,.i b.1),(.i a.2.1,.i b.2.1),(.i (ofNat a.2.2),.i (ofNat b.2.2))] (@i' _ ⟨K⟩)=K (decide (a=b)):=by
 show K (cu _)=_;have e:cu [(.i a.1,.i b.1),(.i a.2.1,.i b.2.1),(.i (ofNat a.2.2),.i (ofNat b.2.2))]=decide (a=b):=by
  rw[OP];simp[cu,iM,ay];omega
 rw[e]
def uF{c:Cl}(a:c.2.2<4):ar CW c=c:=by
 obtain⟨x,y,q⟩:=c;simp only at a;rcases FE a with rfl|rfl|rfl|rfl<;>simp[ar,CW,mA,mB,mC,mD,qT]
def Jn{c:Cl}{e:Nat}(a:c.2.2<4)(d:e<3):(EO c e).2.2<4/\c.1 - 1<=(EO c e).1/\(EO c e).1<=c.1+1/\c.2.1 - 1<=(EO c e).2.1/\(EO c e).2.1<=c.2.1+1:=by
 obtain⟨x,y,q⟩:=c;simp only at a;have b:e=0∨e=1∨e=2:=a_;rcases FE a with rfl|rfl|rfl|rfl<;>rcases b with rfl|rfl|rfl<;>simp[EO]<;>omega
def dst(w c:Nat):Nat:=3*(c / 4%w+c / 4 / w)+[0,1,2,1].getD (c%4) 0 - (if c%4=3/\c / 4 / w=0/\c / 4%w≠0 then 2 else 0)
def K0(w v c:Nat):Bool:=Nat.ble (dst w c) 14&&(Nat.beq c 0||(range 3).any λe=>match y0 w v c e with
 |some n=>Nat.beq (dst w n+1) (dst w c)
 |none=>false)
def PC:∀w v:Nat,1<=w->w<=3->1<=v->v<=3->((range (4*w*v)).all λc=>K0 w v c)=true:=by
 have a:((range 3).all λw=>(range 3).all λv=>(range (4*(w+1)*(v+1))).all λc=>K0 (w+1) (v+1) c)=true:=by decide +kernel
 intro w v d e f g;have b:=A_.1 a (w - 1) (CY.2 a_);have h:=A_.1 b (v - 1) (CY.2 a_)
 simp_all
def yF(d:Int)(a b:Cl):Prop:=a.1 - d<=b.1/\b.1<=a.1+d/\a.2.1 - d<=b.2.1/\b.2.1<=a.2.1+d
def gE{w v:Nat}(o:Sh w v){l:TD}{G:TH}(k:A2 w v l G){r:Mv}(x:r.1<8){c e n:Nat}(j:c<4*w*v)(h:e<3)(m:y0 w v c e=some n) :
  yF 1 (ar (af (G c) r) (pu w c)) (ar (af (G n) r) (pu w n)):=by
 obtain⟨s,t,p,d,u⟩:=cQ o j h m;have i:(pu w c).2.2<4:=(dS o j).2.2.2.2;have b:(af (G c) r).1<8:=bR;have a:=k.g c e n j h m;unfold E_ at a;by_cases f:Dy l (min c n) e=true
 .rw[qs f]at a;have q:q8 (pu w (min c n)) e=q8 (pu w c) e:=by
   grind
  rw[q]at a;have:ar (af (G n) r) (pu w n)=ar (af (G c) r) (pu w c):=by
   rw[a,d,aW (lW _) (k.ok c j).1 x];exact ik b i h
  rw[this];unfold yF;omega
 .rw[rv f]at a;rw[a,d,io b i h];have:=Jn (c:=ar (af (G c) r) (pu w c)) (e:=eT (af (G c) r).1 e) dR (mJ h);unfold yF;omega
def Q2{w v:Nat}(b:S3 w v){l:TD}{G:TH}(q:A2 w v l G){r:Mv}(s:r.1<8):∀(d c:Nat),c<4*w*v->dst w c=d->yF (ofNat d) (ar (af (G 0) r) (pu w 0)) (ar (af (G c) r) (pu w c)):=by
 have m:=b.sh;intro d
 induction d using Nat.strongRecOn with
 |_ d t=>
  intro c k z;have i:=A_.1 (PC w v b.1 b.2.1 b.2.2.1 b.2.2.2) c (CY.2 k);unfold K0 at i;rw[te,GN]at i;rcases i.2 with o|p
  .obtain rfl:=Ey o;unfold yF
   grind
  .obtain⟨e,g,a⟩:=p8.1 p;have g:=CY.1 g;cases j:y0 w v c e with
   |none=>rw[j]at a;cases a
   |some n=>
    rw[j]at a;have a:=Ey a;obtain⟨f,h,_⟩:=cQ m k g j;have u:=t (dst w n) a_ n f rfl;have x:=gE m q s f g h;have y:ofNat d=ofNat (dst w n)+1:=by
     grind
    unfold yF at *;omega
def ur{w v:Nat}(a:S3 w v){l:TD}{G:TH}(e:A2 w v l G){r:Mv}{k:Int}(b:DV k r){c:Nat}(f:c<4*w*v) :
  -(k+15)<=(ar (af (G c) r) (pu w c)).1/\(ar (af (G c) r) (pu w c)).1<=k+15/\-(k+15)<=(ar (af (G c) r) (pu w c)).2.1/\(ar (af (G c) r) (pu w c)).2.1<=k+15:=by
 have d:=A_.1 (PC w v a.1 a.2.1 a.2.2.1 a.2.2.2) c (CY.2 f);unfold K0 at d;rw[te]at d;have j:=Nat.le_of_ble_eq_true d.1;have g:=Q2 a e b.1 _ c f rfl;have i:-(k+1)<=(ar (af (G 0) r) (pu w 0)).1/\(ar (af (G 0) r) (pu w 0)).1<=k/\-(k+1)<=(ar (af (G 0) r) (pu w 0)).2.1/\(ar (af (G 0) r) (pu w 0)).2.1<=k:=by
  rw[e.z,jH b.1,show pu w 0=(0,0,0)by simp[pu]];obtain⟨t,x,y⟩:=r;unfold DV at b;simp only at b;simp only[ar,Int.mul_zero,Int.zero_add];omega
 have h:ofNat (dst w c)<=14:=i_;unfold yF at g;omega
def Rl{c:Cl}{e:Nat}{n:Int}(a:c.2.2<4)(f:e<3)(d:-n<=c.1/\c.1<=n/\-n<=c.2.1/\c.2.1<=n):DV (2*n+2) (Do (q8 c e))/\-(2*n+2)<=(q8 c e).2/\(q8 c e).2<=2*n+2:=by
 obtain⟨x,y,q⟩:=c;simp only at a d;have b:e=0∨e=1∨e=2:=a_;rcases FE a with rfl|rfl|rfl|rfl<;>rcases b with rfl|rfl|rfl
 all_goals
  simp[q8,Do,DV];omega
def I_(l:List JN):Prop:=l.Pairwise λa b=>DX a.1 b.1=false
def wq{a b:Cl}:DX a b=false↔¬(b.2.1<a.2.1∨(a.2.1=b.2.1/\(b.1<a.1∨(a.1=b.1/\b.2.2<a.2.2)))):=by
 unfold DX
 simp_all
def yp{a b:Cl}:DX a b=true↔(b.2.1<a.2.1∨(a.2.1=b.2.1/\(b.1<a.1∨(a.1=b.1/\b.2.2<a.2.2)))):=by
 unfold DX;rw[E6]
def TW{A B:List JN}{x:JN}(h:I_ (A++B))(h1:∀a∈A,DX a.1 x.1=false)(d:∀b∈B,DX b.1 x.1=true):I_ (A++x :: B):=by
 unfold I_ at *;rw[bb]at h ⊢;refine⟨h.1,KH.2 ⟨λb c=>?_,h.2.1⟩,λa e b c=>?_⟩
 .have:=yp.1 (d b c);exact wq.2 a_
 grind
def TX{H:HL}{x:TR}{l:List JN}(hx:q9 H x 4 Eh l)(h0:0<l.length)(hn:l.length<=1000)(G:∀s∈l,aI s.2=true) :
  ∃l' h' z,aF cc ac 41 [.v x] (h9 aa H) [.v z] (h9 aa h')/\u_ H h'/\q9 h' z 4 Eh l'/\l'.Perm l/\I_ l':=by
 have ag:=x41 (ls:=[.v x]) (K:=λrs h'=>∃z l',rs=[.v z]/\u_ H h'/\q9 h' z 4 Eh l'/\l'.Perm l/\I_ l') (H:=H) (pP hx.h_ t0) (by
  unfold f41;simp only[ub];refine e_ ?_;refine aE (e:=4) aK (hx.pre ⟨_,rfl⟩) h0 a_ a_ ?_;have r:u_ H (H++[HO.o (.cells [] 4 true)]):=⟨_,rfl⟩;generalize H++[HO.o (.cells [] 4 true)]=H1 at *;refine e_ ?_;have i':(H1++[HO.o (.cells (l.flatMap Eh) 4 true)])[H1.length]?=some (HO.o (.cells (l.flatMap Eh) 4 true)):=aK;have J:u_ H (H1++[HO.o (.cells (l.flatMap Eh) 4 true)]):=r.Gq _;have I:H.length<=H1.length:=r.len;generalize H1++[HO.o (.cells (l.flatMap Eh) 4 true)]=H2 at *;generalize H1.length=id at *;have p:=ai i';have D:∀L:List JN,L.length=l.length->q9 (oo H2 id 4 Eh L) (.slice (some ⟨id,0,le 4⟩) l.length 0) 4 Eh L:=λL h=>dZ oK (bL p) h.symm;have r:oo H2 id 4 Eh l=H2:=fi i';refine ab (dZ (cx:=0) oK i' rfl).h_ ?_;refine k_ ?_;refine bK (g9:=List JN) (max 1 l.length) (λj _=>[.i (ofNat j)]) (λ_ L=>oo H2 id 4 Eh L) (λj L=>L.Perm l/\1<=j/\I_ (L.take j)) (j0:=1) (s0:=l) rfl r.symm a_ ⟨UV _,B8 _,?_⟩ ?_
  .cases l with
   |nil=>exact .nil
   |cons a l=>exact KH.2 ⟨λ_ h=>(by cases h),.nil⟩
  intro i L hi ⟨d,hi1,f⟩ self hself;have t:L.length=l.length:=d.length_eq;refine e_ ?_;refine bw (D L t) ?_;rw[t];by_cases V:i<l.length
  case neg=>
   rw[aN a_];refine e_ ?_;rw[IW a_]at f;exact⟨_,L,rfl,ju J I,D L t,d,f⟩
  rw[aO V];refine e_ ?_;obtain⟨x0,Y⟩:=am (l:=L) (i:=i) a_;have n:L=L.take i++x0 :: []++L.drop (i+1):=by
   conv=>lhs;rw[←XU i L]
   rw[Pg a_]
   simp_all
  refine aH (m:=i) (λm ls h=>∃(A:List JN) (x:JN) (B R:List JN),ls=[.i (ofNat A.length)]/\m=A.length/\h=oo H2 id 4 Eh (A++x :: B++R)/\(A++x :: B++R).Perm l/\I_ (A++B)/\(∀b∈B,DX b.1 x.1=true)/\A.length+B.length=i)
   ⟨L.take i,x0,[],L.drop (i+1),i_,i_,by rw[←n],i_,by simpa using f,λb hb=>(by cases hb),i_⟩ ?_
  clear n Y f d t;rintro m ls h ⟨A,x,B,R,rfl,rfl,rfl,d,f,hB,O⟩ E k;refine Ei ?_;refine e_ ?_;have t:(A++x :: B++R).length=l.length:=d.length_eq;have u:(∀a∈A,DX a.1 x.1=false)->self [.i (ofNat i+1)] (oo H2 id 4 Eh (A++x :: B++R)):=λh=>hself _ a_ ⟨d,a_,by
   rw[qcV tt,IW tt];exact TW f h hB⟩
  rcases List.eq_nil_or_concat A with rfl|⟨c,y,rfl⟩
  .rw[CX (show ofNat ([]:List JN).length<=0 from dT _)];refine e_ ?_;rw[aU a_]
   simp_all
  rw[List.concat_eq_append]at *;have hk:(c++[y]).length=c.length+1:=c_;rw[hk]at O k ⊢;have C:DX y.1 x.1=false->∀a∈c++[y],DX a.1 x.1=false:=by
   intro h a P;rcases Fs.1 P with P|P
   .have Z:DX a.1 y.1=false:=by
     unfold I_ at f
     grind
    have Z:=wq.1 Z;have h:=wq.1 h;exact wq.2 a_
   simp_all
  have N:(c++[y]++x :: B++R)[c.length]?=some y:=c_;have M:(c++[y]++x :: B++R)[c.length+1]?=some x:=by
   rw[FL,Iz c_];simp
  have q:=D _ t;have hg:=bL (l:=c++[y]++x :: B++R) (e:=4) (enc:=Eh) p;have T:aI y.2=true:=G y (d.mem_iff.1 (A9 N));have S:aI x.2=true:=G x (d.mem_iff.1 (A9 M));have g:c.length+1<=4294967296:=a_;rw[DI (show(0:Int)<ofNat (c.length+1)by simp_all)];refine e_ ?_;rw[lT a_ g];refine k_ ?_;refine dK (cs:=[.int .i64 y.1.1,.int .i64 y.1.2.1,.int .u8 (ofNat y.1.2.2)]) q rfl N rfl a_ ?_;refine e_ ?_;refine dK (cs:=[.int .i64 x.1.1,.int .i64 x.1.2.1,.int .u8 (ofNat x.1.2.2)]) q rfl M rfl a_ ?_;refine e_ ?_;have F:=NB (a:=y.1) (b:=x.1);simp only[Et,EQ,EG]at F;cases w:DX y.1 x.1 with
  |false=>
   rw[w]at F;refine aj F ?_;simp(disch:=omega)only[↓n9,if_false,Fh];rw[aU a_];exact u (C w)
  |true=>
   rw[w]at F;refine aj F ?_;simp(disch:=omega)only[↓n9,if_true];have X:E [.i (ofNat c.length)] (oo H2 id 4 Eh (c++x :: (y :: B)++R)):=k c.length _ _ a_ ⟨c,x,y :: B,R,rfl,rfl,rfl,by
    refine List.Perm.trans ?_ d;simp only[FL,EQ,EG];exact qcP _ (List.Perm.swap _ _ _),j_,λb hb=>by
    grind,tt⟩
   have W:((c++[y]++x :: B++R).set c.length x).set (c.length+1) y=c++x :: (y :: B)++R:=by
    simp_all
   have U:((c++[y]++x :: B++R).set c.length x).length=l.length:=j_;have ad:=ai M;have Q:(oo (oo H2 id 4 Eh (c++[y]++x :: B++R)) id 4 Eh ((c++[y]++x :: B++R).set c.length x))[id]?=some (.o (.cells (((c++[y]++x :: B++R).set c.length x).flatMap Eh) 4 true)):=by
    rw[gT];exact bL p
   rw[lT a_ g];refine k_ ?_;refine aQ q rfl M ?_;rw[show Eh x=[.int .i64 x.1.1,.int .i64 x.1.2.1,.int .u8 (ofNat x.1.2.2),x.2]from rfl];refine e_ ?_;refine ab S ?_;refine k_ ?_;rw[lT a_ g];refine k_ ?_;refine aQ q rfl N ?_;rw[show Eh y=[.int .i64 y.1.1,.int .i64 y.1.2.1,.int .u8 (ofNat y.1.2.2),y.2]from rfl];refine e_ ?_;refine ab T ?_;refine k_ ?_;refine dy (enc:=Eh) (i:=c.length) (a:=x) oK hg rfl a_ t rfl ?_;refine k_ ?_;refine dy (enc:=Eh) (i:=c.length+1) (a:=y) oK Q rfl a_ U rfl ?_;rw[gT,gT,W];refine k_ ?_;rw[lT a_ g]
   simp_all)
 grind
abbrev Es:=Cl×List Nat
def KZ(l:Ln)(s:Bool)(L:List Es):List Es:=L.filter λx=>!decide (eh l x.1=s)
def HM(l:Ln)(s:Bool)(L:List Es):List Es:=(L.filter λx=>decide (eh l x.1=s)).map λx=>(ar (Do l) x.1,x.2.reverse)
def Gg(o:Bool):List Es->Es->List Es
 | [],a=>[a]
 |x :: S,a=>if x.1=a.1 then(x.1,if o then x.2++a.2 else a.2++x.2) :: S else x :: Gg o S a
def Mp{o:Bool}{a:Es}:∀ {S:List Es} {k:Nat} {x:Es},S[k]?=some x->x.1=a.1->(∀j,j<k->∀t,S[j]?=some t->t.1≠a.1)->Gg o S a=S.set k (x.1,if o then x.2++a.2 else a.2++x.2)
 | [],k,x,h,_,_=>by simp at h
 |y :: S,0,x,h,h1,_=>by
  simp at h;subst h;simp[Gg,h1]
 |y :: S,k+1,x,h,h1,b=>by
  have c:=b 0 a_ y rfl;simp only[Gg,rv c,qcH];rw[Mp (by simpa using h) h1 λj e t d=>b (j+1) a_ t (by simpa using d)]
def AG{o:Bool}{a:Es}:∀ {S:List Es},(∀(j:Nat) t,S[j]?=some t->t.1≠a.1)->Gg o S a=S++[a]
 | [],_=>rfl
 |y :: S,h=>by
  have b:=h 0 y rfl;simp only[Gg,rv b,EQ];rw[AG λj t c=>h (j+1) t (by simpa using c)]
def AF{o:Bool}{a:Es}:∀ {S:List Es},(Gg o S a).map Prod.fst=if a.1∈S.map Prod.fst then S.map Prod.fst else S.map Prod.fst++[a.1]
 | []=>by simp[Gg]
 |y :: S=>by
  unfold Gg;by_cases h:y.1=a.1
  .simp_all
  .rw[rv h,EN,AF]
   grind
def AH{o:Bool}{a:Es}:∀ {S:List Es},((Gg o S a).flatMap Prod.snd).Perm (S.flatMap Prod.snd++a.2)
 | []=>by simp[Gg]
 |y :: S=>by
  unfold Gg;by_cases h:y.1=a.1
  .grind
  .rw[rv h];simp only[UY,FL];exact qcP _ AH
def yB{o:Bool}{a x:Es}:∀ {S:List Es},x∈Gg o S a->x∈S∨x=a∨∃y∈S,y.1=a.1/\x=(y.1,if o then y.2++a.2 else a.2++y.2)
 | [],h=>by
  simp[Gg]at h;exact .inr (.inl h)
 |y :: S,h=>by
  unfold Gg at h;by_cases h1:y.1=a.1
  .grind
  .rw[rv h1]at h;rcases EL.1 h with h|h
   .simp_all
   .rcases yB h with h|h|⟨z,d,b,c⟩
    .simp_all
    .exact .inr (.inl h)
    grind
structure JM(img:Nat->Cl)(X:TC)(L:List Es):Prop where
 nd:(L.map Prod.fst).Nodup
 at':∀s∈L,∀c∈s.2,img c=s.1
 ne:∀s∈L,s.2≠[]
 pm:(L.flatMap Prod.snd).Perm X
def JM.Gg{f:Nat->Cl}{X:TC}{S:List Es}(h:JM f X S){o:Bool}{a:Es}(h1:∀c∈a.2,f c=a.1)(j:a.2≠[]):JM f (X++a.2) (Gg o S a):=by
 refine⟨?_,λs d c b=>?_,λs d=>?_,AH.trans (h.pm.append_right _)⟩
 .rw[AF];by_cases g:a.1∈S.map Prod.fst
  .rw[qs g];exact h.nd
  .rw[rv g];rw[p7];refine⟨h.nd,c_,λx k y i e=>?_⟩
   simp_all
 .rcases yB d with d|rfl|⟨y,i,g,rfl⟩
  .exact h.at' s d c b
  .exact h1 c b
  .simp only at b ⊢;have b:c∈y.2∨c∈a.2:=by
    grind
   rcases b with b|b
   .exact h.at' y i c b
   simp_all
 .rcases yB d with d|rfl|⟨y,i,g,rfl⟩
  .exact h.ne s d
  .exact j
  .simp only;cases o<;>simp[j]
def JM.mrgs{d:Nat->Cl}{o:Bool}:∀ {A:List Es} {X:TC} {S:List Es},JM d X S->(∀a∈A,(∀c∈a.2,d c=a.1)/\a.2≠[])->JM d (X++A.flatMap Prod.snd) (A.foldl (Go.Am.Gg o) S)
 | [],X,S,h,_=>by simpa using h
 |a :: A,X,S,h,h1=>by
  have e:=h1 a KG;have:=JM.mrgs (o:=o) (h.Gg (o:=o) e.1 e.2) λb f=>h1 b (FZ _ f)
  simp_all
def yi{L:List Es}{p:Es->Bool}:((L.filter λx=>!p x).flatMap Prod.snd++(L.filter p).flatMap Prod.snd).Perm (L.flatMap Prod.snd):=by
 rw[←ZO];refine List.Perm.flatMap_right _ ?_;exact List.perm_append_comm.trans (List.filter_append_perm p L)
def QL{L:List Es}{f:Cl->Cl}:((L.map λx=>(f x.1,x.2.reverse)).flatMap Prod.snd).Perm (L.flatMap Prod.snd):=by
 induction L with
 |nil=>simp
 |cons a L b=>
  grind
def Kk(l:Ln)(s o:Bool)(L:List Es):List Es:=(HM l s L).foldl (Gg o) (KZ l s L)
def JM.fold{f d:Nat->Cl}{X:TC}{L:List Es}(h:JM f X L){l:Ln}{s o:Bool}(k:∀c∈X,d c=if eh l (f c)=s then ar (Do l) (f c)else f c):JM d X (Kk l s o L):=by
 have j:∀x∈L,∀c∈x.2,c∈X:=λx b c e=>h.pm.mem_iff.1 (GG.2 ⟨x,b,e⟩);have m:JM d ((KZ l s L).flatMap Prod.snd) (KZ l s L):=by
  refine⟨h.nd.sublist (List.Sublist.map _ List.filter_sublist),λx b c e=>?_,λx b=>?_,UV _⟩
  .obtain⟨b,i⟩:=GH.1 b;rw[k c (j x b c e),h.at' x b c e,rv (by simpa using i)]
  .exact h.ne x (GH.1 b).1
 have g:=m.mrgs (o:=o) (A:=HM l s L) λa n=>by
  obtain⟨x,b,rfl⟩:=DJ.1 n;obtain⟨b,i⟩:=GH.1 b;refine⟨λc e=>?_,by simpa using h.ne x b⟩;have e:c∈x.2:=by simpa using e
  rw[k c (j x b c e),h.at' x b c e,qs (by simpa using i)]
 refine⟨g.nd,g.at',g.ne,g.pm.trans ?_⟩;refine List.Perm.trans ?_ h.pm;refine List.Perm.trans (qcP _ QL) ?_;exact yi
def JM.perm{a:Nat->Cl}{X:TC}{L L':List Es}(h:JM a X L)(b:L'.Perm L):JM a X L':=
 ⟨(b.map _).nodup_iff.2 h.nd,λs c=>h.at' s (b.mem_iff.1 c),λs c=>h.ne s (b.mem_iff.1 c),(b.flatMap_right _).trans h.pm⟩
def yS{j7 n:Type}{f:j7->n}{l':List n}{l:List j7}(h:l'.Perm (l.map f)):∃m:List j7,m.Perm l/\m.map f=l':=by
 generalize e:l.map f=k at h
 induction h generalizing l with
 |nil=>simp_all
 |cons x _ q=>
  obtain⟨a,l,rfl,rfl,g⟩:=qcX.1 e;obtain⟨m,c,d⟩:=q g;exact⟨a :: m,c.cons a,by rw[EN,d]⟩
 |swap x y _=>
  obtain⟨a,l,rfl,rfl,g⟩:=qcX.1 e;obtain⟨b,l,rfl,rfl,rfl⟩:=qcX.1 g;exact⟨b :: a :: l,List.Perm.swap _ _ _,rfl⟩
 |trans _ _ i j=>
  obtain⟨m,c,d⟩:=j e;obtain⟨r,o,p⟩:=i d;exact⟨r,o.trans c,p⟩
def tP(l:Ln):Tn:=[.int .u8 (ofNat l.1),.int .i64 l.2]
def dv(l:Ln):(tP l).length=2:=rfl
def WH{w v:Nat}(h3:S3 w v){l:TD}{H:HL}{x xs:TR}(hl:q9 H x 3 mi l)(ax:aI xs=true)(hv:∀c∈l,VC w v c)(bb:∀c∈l,c.2.2≠0)(hn:l.length<=1000){r:Mv}(hr:DV 10000 r){G:TH}(hG:A2 w v l G) :
  ∃z h' d,aF cc ac 22 ([.i (.ofNat w),.i (.ofNat v),.v x]++D5 r++[.v xs]) (h9 aa H) [.v z] (h9 aa h')/\u_ H h'/\q9 h' z 2 tP d/\d.length<=1000/\∀y∈d,∃p∈D7 w v l G r (4*w*v),p.2.2=y:=by
 have hs:=h3.sh;obtain⟨b1,b2,b3,b4⟩:=h3.n;have hN:=Gp hs;obtain⟨z,h1,c1,bl,b8,hZ⟩:=Ba h3 hl ax hv bb hn hr hG;have bx:=lY (w:=w) (v:=v) (l:=l) (G:=G) (r:=r) (n:=4*w*v);have b9:=x22 (ls:=[.i (.ofNat w),.i (.ofNat v),.v x,.i (ofNat r.1),.i r.2.1,.i r.2.2,.v xs]) (K:=λrs h'=>∃z d,rs=[.v z]/\u_ H h'/\q9 h' z 2 tP d/\d.length<=1000/\∀y∈d,∃p∈D7 w v l G r (4*w*v),p.2.2=y) (H:=H) (mc (mc (pP hl.h_ (mc (mc (mc (pP ax t0))))))) (by
  unfold f22;simp only[ub];refine e_ ?_;simp only[D5,EQ,EG]at c1;refine ak c1 ?_;refine e_ ?_;generalize bt:D7 w v l G r (4*w*v)=P at *;refine bK (g9:=HL×Value) P.length (λj s=>[.v s.2,.i (ofNat j)]) (λ_ s=>s.1) (λj s=>u_ h1 s.1/\∃d:List Ln,hY h1.length s.1 s.2 2 tP d/\d.length<=j/\∀y∈d,∃p∈P,p.2.2=y) (j0:=0) (s0:=(h1,.slice none 0 0)) rfl rfl (D6 _) ⟨.refl _,[],.nil _ _ _ _,B8 _,λy hy=>by cases hy⟩ ?_;rintro j ⟨h,o⟩ C ⟨u,d,hO,b6,a4⟩ a6 M;simp only at u hO ⊢;refine e_ ?_;refine bw (hZ.pre u) ?_;by_cases R:j<P.length
  case neg=>
   rw[aN a_];refine e_ ?_;exact⟨o,d,rfl,bl.trans u,hO.ls dv,a_,a4⟩
  rw[aO R];refine e_ ?_;obtain⟨p,hp⟩:=am R;have b7:=A9 hp;refine dK (cs:=[.int .u8 (ofNat p.2.2.1),.int .i64 p.2.2.2]) (hZ.pre u) rfl hp rfl a_ ?_;simp(disch:=omega)only[↓C3];generalize hy:p.2.2=y at *;have aE:=u.len;have f:=hO.ls dv;have b5:=f.h_;have bs:∀k,k<=d.length->∀h' o' ,u_ h1 h'->hY h1.length h' o' 2 tP (d.take k++[y]++d.drop k)->a6 [.v o',.i (ofNat j+1)] h':=λk hk h' o' bk bd=>M (h',o') R ⟨bk,_,bd,tt,λa ha=>by
   grind⟩
  refine cI (λl h'=>∃k,k<=d.length/\l=[.i (ofNat k)]/\h'=h) ?_ ?_
  case refine_2=>
   intro jj bP;refine mR d.length (λ_=>True) (j0:=0) rfl (D6 _) trivial ?_;intro k hk _ bn a7;refine e_ ?_;refine bw f ?_;by_cases Q:k<d.length
   case neg=>
    rw[aN a_];refine e_ ?_
    simp_all
   rw[aO Q];refine e_ ?_;obtain⟨a,ha⟩:=am Q;refine dK (cs:=[.int .u8 (ofNat a.1)]) f rfl ha rfl a_ ?_;refine e_ ?_;refine yN (λ_=>?_) (λ_=>?_)
   .simp(disch:=omega)only[↓n9];rw[aU a_]
    simp_all
   refine e_ ?_;refine dK (cs:=[.int .u8 (ofNat a.1)]) f rfl ha rfl a_ ?_;refine e_ ?_;refine KC λt ht=>?_;cases t with
   |false=>
    refine e_ ?_
    simp_all
   |true=>
   refine e_ ?_;refine dK (cs:=[.int .i64 a.2]) f rfl ha rfl a_ ?_;refine e_ ?_;refine yN (λ_=>?_) (λ_=>?_)
   .simp(disch:=omega)only[↓n9];rw[aU a_]
    simp_all
   .simp(disch:=omega)only[↓n9]
    simp_all
  rintro l' h' ⟨k,hk,rfl,ay⟩;rw[ay];clear ay h';refine e_ ?_;refine bw f ?_;refine KC λt ht=>?_;cases t with
  |true=>
   refine e_ ?_;obtain⟨x1,ad,A,a8⟩:=Mg f hk;obtain⟨x2,ag,I,a9⟩:=Me f hk;have a3:∀b,g_ o=some b->b<h.length:=λb O=>(hO.g_ O).2;have hh:(h++[HO.o (.cells [] 2 true)]).length=h.length+1:=c_;have he:hY (j7:=Ln) h1.length (h++[HO.o (.cells [] 2 true)]) (.slice (some ⟨h.length,0,le 2⟩) 0 1) 2 tP []:=hY.emp aK aE;refine ae ad ?_;refine ab A.h_ ?_;refine k_ ?_;refine he.PE dv a_ (A.pre ⟨_,rfl⟩) tt tt ?_;intro z1 g B T E a0 _;have al:=B.ls dv;have Y:u_ h1 g:=bS (u.Gq _) λi o m q=>E i o q λe=>by have:=(he.g_ e).1;omega
   have J:u_ h g:=bS (h1:=h) ⟨_,rfl⟩ λi o m q=>E i o q λe=>by
    have:h.length=i:=by simpa[g_]using e
    omega
   refine e_ ?_;refine ab T ?_;refine k_ ?_;refine B.Il (a:=y) dv a_ rfl rfl rfl (by
    unfold bc;rw[EY tt,EY tt];rfl) ?_
   intro z2 g2 X U F a1 _;have a5:∀b,g_ z1=some b->h.length<=b/\b<g.length:=λb O=>by
    refine⟨?_,(B.g_ O).2⟩;rcases ‹g_ z1=g_ _∨_› with e|⟨j',e,e'⟩
    .rw[O]at e;have:b=h.length:=by simpa[g_]using e
     omega
    grind
   have Z:u_ h1 g2:=bS Y λi o m q=>F i o q λe=>i_;have L:u_ h g2:=bS J λi o m q=>F i o q λe=>i_;refine e_ ?_;refine ab U ?_;refine k_ ?_;refine ae ag ?_;refine ab I.h_ ?_;refine k_ ?_;refine X.PE dv a_ (I.pre L) tt tt ?_;intro z3 g3 be V W a2 _;have bm:u_ h1 g3:=bS Z λi o m q=>W i o q λe=>i_;refine e_ ?_;refine ab V ?_;refine k_ ?_;have ap:=kq f;have an:=kq A;have av:=kq al;have dA:∀n c N D,DG (El (.slice (some ⟨h.length,0,some 12⟩) n c)) (C' 0 (.slice (some ⟨g.length,0,some 12⟩) N D))=true:=λn c N D=>pW λi m C=>by
    have e1:h.length=i:=by simpa[g_]using m
    have S:g.length=i:=by simpa[g_]using C
    omega
   have dB:∀n c N D,DG (El (.slice (some ⟨g.length,0,some 12⟩) n c)) (C' 0 (.slice (some ⟨h.length,0,some 12⟩) N D))=true:=λn c N D=>pW λi m C=>by
    have e1:g.length=i:=by simpa[g_]using m
    have S:h.length=i:=by simpa[g_]using C
    omega
   have dC:∀n c,DG (El z1) (C' 0 (.slice (some ⟨g.length,0,some 12⟩) n c))=true:=λn c=>vM av ⟨_,_,_,rfl⟩ λi m C=>by
    have S:g.length=i:=by simpa[g_]using C
    simp_all
   have dD:∀n c,DG (El (.slice (some ⟨g.length,0,some 12⟩) n c)) (C' 0 x1)=true:=λn c=>vM ⟨_,_,_,rfl⟩ an λi m C=>by
    have S:g.length=i:=by simpa[g_]using m
    grind
   refine ae (x:=()) (by
    repeat' (first|exact fm|refine dg ?_ ?_)
    all_goals first|exact Qq ap|exact dA _ _ _ _|exact dB _ _ _ _|exact dC _ _|exact dD _ _) ?_
   try simp(disch:=omega)only[↓n9]
   try rw[aU a_]
   try grind
  |false=>
   refine e_ ?_;have Q:k<d.length:=by
    grind
   obtain⟨a,ha⟩:=am Q;refine aQ f rfl ha ?_;rw[show tP a=[.int .u8 (ofNat a.1),.int .i64 a.2]from rfl];refine e_ ?_;refine AV (λbC=>?_) (λb0=>?_)
   .simp(disch:=omega)only[↓n9,EX];rw[aU a_];exact M (h,o) R ⟨u,d,hO,a_,a4⟩
   simp(disch:=omega)only[↓n9,FT];obtain⟨x1,ad,A,a8⟩:=Mg f hk;obtain⟨x2,ag,I,a9⟩:=Me f hk;have a3:∀b,g_ o=some b->b<h.length:=λb O=>(hO.g_ O).2;have hh:(h++[HO.o (.cells [] 2 true)]).length=h.length+1:=c_;have he:hY (j7:=Ln) h1.length (h++[HO.o (.cells [] 2 true)]) (.slice (some ⟨h.length,0,le 2⟩) 0 1) 2 tP []:=hY.emp aK aE;refine ae ad ?_;refine ab A.h_ ?_;refine k_ ?_;refine he.PE dv a_ (A.pre ⟨_,rfl⟩) tt tt ?_;intro z1 g B T E a0 _;have al:=B.ls dv;have Y:u_ h1 g:=bS (u.Gq _) λi o m q=>E i o q λe=>by have:=(he.g_ e).1;omega
   have J:u_ h g:=bS (h1:=h) ⟨_,rfl⟩ λi o m q=>E i o q λe=>by
    have:h.length=i:=by simpa[g_]using e
    omega
   refine e_ ?_;refine ab T ?_;refine k_ ?_;refine B.Il (a:=y) dv a_ rfl rfl rfl (by
    unfold bc;rw[EY tt,EY tt];rfl) ?_
   intro z2 g2 X U F a1 _;have a5:∀b,g_ z1=some b->h.length<=b/\b<g.length:=λb O=>by
    refine⟨?_,(B.g_ O).2⟩;rcases ‹g_ z1=g_ _∨_› with e|⟨j',e,e'⟩
    .rw[O]at e;have:b=h.length:=by simpa[g_]using e
     omega
    grind
   have Z:u_ h1 g2:=bS Y λi o m q=>F i o q λe=>i_;have L:u_ h g2:=bS J λi o m q=>F i o q λe=>i_;refine e_ ?_;refine ab U ?_;refine k_ ?_;refine ae ag ?_;refine ab I.h_ ?_;refine k_ ?_;refine X.PE dv a_ (I.pre L) tt tt ?_;intro z3 g3 be V W a2 _;have bm:u_ h1 g3:=bS Z λi o m q=>W i o q λe=>i_;refine e_ ?_;refine ab V ?_;refine k_ ?_;have ap:=kq f;have an:=kq A;have av:=kq al;have dA:∀n c N D,DG (El (.slice (some ⟨h.length,0,some 12⟩) n c)) (C' 0 (.slice (some ⟨g.length,0,some 12⟩) N D))=true:=λn c N D=>pW λi m C=>by
    have e1:h.length=i:=by simpa[g_]using m
    have S:g.length=i:=by simpa[g_]using C
    omega
   have dB:∀n c N D,DG (El (.slice (some ⟨g.length,0,some 12⟩) n c)) (C' 0 (.slice (some ⟨h.length,0,some 12⟩) N D))=true:=λn c N D=>pW λi m C=>by
    have e1:g.length=i:=by simpa[g_]using m
    have S:h.length=i:=by simpa[g_]using C
    omega
   have dC:∀n c,DG (El z1) (C' 0 (.slice (some ⟨g.length,0,some 12⟩) n c))=true:=λn c=>vM av ⟨_,_,_,rfl⟩ λi m C=>by
    have S:g.length=i:=by simpa[g_]using C
    simp_all
   have dD:∀n c,DG (El (.slice (some ⟨g.length,0,some 12⟩) n c)) (C' 0 x1)=true:=λn c=>vM ⟨_,_,_,rfl⟩ an λi m C=>by
    have S:g.length=i:=by simpa[g_]using m
    grind
   refine ae (x:=()) (by
    repeat' (first|exact fm|refine dg ?_ ?_)
    all_goals first|exact Qq ap|exact dA _ _ _ _|exact dB _ _ _ _|exact dC _ _|exact dD _ _) ?_
   try simp(disch:=omega)only[↓n9]
   try rw[aU a_]
   try grind)
 grind
abbrev Sk:=Cl×Value×List Nat
def Du(s:Sk):Tn:=bW s.1++[s.2.1]
def dE(s:Sk):(Du s).length=4:=rfl
def G2(s:Sk):Es:=(s.1,s.2.2)
def FQ(n0:Nat)(h:HL)(Q:List Sk):Prop:=(∀p∈Q,hY n0 h p.2.1 1 l_ p.2.2)/\Q.Pairwise λp q=>∀b,g_ p.2.1=some b->g_ q.2.1≠some b
def FQ.nil(n0:Nat)(h:HL):FQ n0 h []:=⟨λp a=>(by cases a),.nil⟩
def FQ.perm{n0:Nat}{h:HL}{Q c:List Sk}(e:FQ n0 h Q)(d:c.Perm Q):FQ n0 h c:=
 ⟨λp h=>e.1 p (d.mem_iff.1 h),(d.pairwise_iff (λh b f a=>h b a f)).2 e.2⟩
def FQ.ka{n0:Nat}{h h':HL}{Q:List Sk}(b:FQ n0 h Q)(c:∀p∈Q,∀(j:Nat) o,h[j]?=some o->g_ p.2.1=some j->h'[j]?=some o):FQ n0 h' Q:=
 ⟨λp a=>(b.1 p a).ka (c p a),b.2⟩
def FQ.cons{n0:Nat}{h:HL}{Q:List Sk}(a:FQ n0 h Q){p:Sk}(d:hY n0 h p.2.1 1 l_ p.2.2)(c:∀q∈Q,∀b,g_ p.2.1=some b->g_ q.2.1≠some b):FQ n0 h (p :: Q):=
 ⟨λq h=>by
  rcases EL.1 h with rfl|h
  .exact d
  .exact a.1 q h,KH.2 ⟨c,a.2⟩⟩
def FQ.low{n0:Nat}{h:HL}{Q:List Sk}(a:FQ n0 h Q){b:Nat}(j:b<=n0):FQ b h Q:=
 ⟨λp g=>by
  rcases a.1 p g with d|⟨id,c,e,i,f⟩
  .exact .inl d
  .exact .inr ⟨id,c,e,a_,f⟩,a.2⟩
def gm{j7 i:Type}{n0 e e':Nat}{enc:j7->Tn}{a:i->Tn}{l:List j7}{l':List i}{h:HL}{v v':TR}(o:hY n0 h v e enc l)(d:hY n0 h v' e' a l')(n:e≠e'){b:Nat}(g:g_ v=some b):g_ v'≠some b:=by
 intro c;rcases o with⟨rfl,_⟩|⟨id,p,rfl,s,t,_⟩
 .cases g
 rcases d with⟨rfl,_⟩|⟨f,j,rfl,k,m,_⟩
 .cases c
 have q:id=b:=by simpa[g_]using g
 have r:f=b:=by simpa[g_]using c
 simp_all
structure FW(n0:Nat)(h:HL)(zs za zc:Value)(Ms Ma:List Sk)(C:TD):Prop where
 os:hY n0 h zs 4 Du Ms
 oa:hY n0 h za 4 Du Ma
 oc:hY n0 h zc 3 mi C
 ne:∀b,g_ zs=some b->g_ za≠some b
 pc:FQ n0 h (Ms++Ma)
section
variable {n0:Nat} {h h':HL} {zs za zc:Value} {Ms Ma:List Sk} {C:TD}
def FW.frame(b:FW n0 h zs za zc Ms Ma C)(c:∀(j:Nat) o,h[j]?=some o->h'[j]?=some o):FW n0 h' zs za zc Ms Ma C:=
 ⟨b.os.ka λj o a _=>c j o a,b.oa.ka λj o a _=>c j o a,b.oc.ka λj o a _=>c j o a,b.ne,b.pc.ka λ_ _ j o a _=>c j o a⟩
def FW.pre(a:FW n0 h zs za zc Ms Ma C)(c:u_ h h'):FW n0 h' zs za zc Ms Ma C:=a.frame λ_ _ b=>c.get b
theorem FW.symm(a:FW n0 h zs za zc Ms Ma C):FW n0 h za zs zc Ma Ms C:=
 ⟨a.oa,a.os,a.oc,λb d c=>a.ne b c d,a.pc.perm List.perm_append_comm⟩
def FW.pne(a:FW n0 h zs za zc Ms Ma C){p:Sk}(e:p∈Ms++Ma){b:Nat}(d:g_ p.2.1=some b):g_ zs≠some b/\g_ za≠some b/\g_ zc≠some b:=
 have c:=a.pc.1 p e
 ⟨gm c a.os a_ d,gm c a.oa a_ d,gm c a.oc a_ d⟩
def FW.apS(d:FW n0 h zs za zc Ms Ma C){c:Cl}{y:TR}{g:TC}(r:hY n0 h y 1 l_ g)(k:∀p∈Ms++Ma,∀b,g_ y=some b->g_ p.2.1≠some b){i:TR}(m:hY n0 h' i 4 Du (Ms++[(c,y,g)]))
  (l:∀(j:Nat) o,h[j]?=some o->g_ zs≠some j->h'[j]?=some o) (u:g_ i=g_ zs∨∃j,g_ i=some j/\h.length<=j):FW n0 h' i za zc (Ms++[(c,y,g)]) Ma C:=by
 refine⟨m,d.oa.ka λj o f a=>l j o f λe=>d.ne j e a,d.oc.ka λj o f a=>l j o f λe=>gm d.os d.oc a_ e a,λb n q=>?_,?_⟩
 .rcases u with e|⟨j,e,v⟩
  .exact d.ne b (e▸n) q
  .rw[e]at n;cases n;have:=(d.oa.g_ q).2;omega
 .have s:FQ n0 h ((c,y,g) :: (Ms++Ma)):=d.pc.cons r k;have t:=s.ka (h':=h') λp hp j o f a=>l j o f λe=>by
   rcases EL.1 hp with rfl|hp
   .exact gm d.os r a_ e a
   .exact(d.pne hp a).1 e
  refine t.perm ?_
  simp_all
end
def RR{n0:Nat}{H:HL}{x:TR}{l:TD}(k:hY n0 H x 3 mi l)(m:l.length<=1000) :
  ∃l' h',aF cc ac 44 [.v x] (h9 aa H) [.v x] (h9 aa h')/\l'.Perm l/\Gx l'/\hY n0 h' x 3 mi l'/\∀(j:Nat) o,H[j]?=some o->g_ x≠some j->h'[j]?=some o:=by
 rcases k with⟨rfl,rfl⟩|⟨id,cx,rfl,g,c,h⟩
 .refine⟨[],H,?_,UV _,.nil,.inl ⟨rfl,rfl⟩,λj o b _=>b⟩;exact xK x44 (pP rfl t0) (by
   unfold f44;simp only[ub]
   repeat (first|simp(disch:=omega)only[↓n9]|refine ae (x:=(0:Int)) rfl ?_|refine AW 2 ?_)
   simp_all)
 .obtain⟨l',d,a,f⟩:=OI (cx:=cx) c m;refine⟨l',_,d,a,f,.inr ⟨id,cx,by rw[a.length_eq],g,bL (ai c),by rw[a.length_eq];exact h⟩,λj o b i=>?_⟩;unfold oo;rw[IA (λe=>i (by rw[e];rfl))];exact b
def Qs(w v a b:Nat):Nat:=if y0 w v a 0=some b then 0 else if y0 w v a 1=some b then 1 else 2
def nO{w v:Nat}(h:Sh w v){a b e:Nat}(f:a<4*w*v)(i:e<3)(l:y0 w v a e=some b):Qs w v a b=e:=by
 have m:=(dS h f).2.2.2.2;have n:∀d,d<3->y0 w v a d=some b->d=e:=λd c g=>by
  have j:=(cQ h f i l).2.2.2.1;have k:=(cQ h f c g).2.2.2.1;exact yE m c i (k.symm.trans j)
 unfold Qs
 grind
def Qj(w v:Nat)(P:TH)(o:Bool)(p:Pc):EJ:=(ofNat p.1,ofNat (Qs w v p.1 p.2.1),if decide ((P p.1).1<4)=o then 2 else 1)
def EV(w v:Nat)(P:TH)(o:Bool)(ln:Ln)(a:List Pc):TD:=(a.filter λp=>decide (p.2.2=ln)).map (Qj w v P o)
def gp(ln:Ln)(s:Bool)(L:List Es)(r:Mv)(j:Nat):Mv:=if 0∈(HM ln s (L.take j)).flatMap Prod.snd then af r (Do ln)else r
def Ub{ln:Ln}{s:Bool}{L:List Es}{j:Nat}{c:Cl}{a:TC}(h:L[j]?=some (c,a)):KZ ln s (L.take (j+1))=KZ ln s (L.take j)++(if eh ln c=s then []else [(c,a)]):=by
 unfold KZ;rw[IB,h,qcn]
 grind
def PJ{ln:Ln}{s:Bool}{L:List Es}{j:Nat}{c:Cl}{a:TC}(h:L[j]?=some (c,a)):HM ln s (L.take (j+1))=HM ln s (L.take j)++(if eh ln c=s then [(ar (Do ln) c,a.reverse)]else []):=by
 unfold HM;rw[IB,h,qcn,IV]
 grind
def z0{h:HL}{z:TR}{b:List Sk}(c:q9 h z 4 Du b):q9 h z 4 Eh (b.map λs=>(s.1,s.2.1)):=by
 refine⟨λa _=>rfl,?_⟩;have:(b.map λs:Sk=>((s.1,s.2.1):JN)).flatMap Eh=b.flatMap Du:=by
  rw[ek];rfl
 rw[this,GY];exact c.2
def ls54{h:HL}{z:TR}{b:List Sk}(c:q9 h z 4 Eh (b.map λs=>(s.1,s.2.1))):q9 h z 4 Du b:=by
 refine⟨λa _=>rfl,?_⟩;have:(b.map λs:Sk=>((s.1,s.2.1):JN)).flatMap Eh=b.flatMap Du:=by
  rw[ek];rfl
 have d:=c.2
 simp_all
def FQ.sub{n0:Nat}{h:HL}{Q a:List Sk}(b:FQ n0 h Q)(c:a.Sublist Q):FQ n0 h a:=⟨λp d=>b.1 p (c.mem d),b.2.sublist c⟩
def vm{j7:Type}{a q:j7}:∀ {l:List j7} {k:Nat},l[k]?=some q->(l.set k a).Perm (a :: l.eraseIdx k)
 | [],k,h=>by simp at h
 |b :: l,0,h=>UV _
 |b :: l,k+1,h=>by
  simp only[bm]at h;simp only[qcH,List.eraseIdx_cons_succ];exact((vm h).cons b).trans (List.Perm.swap _ _ _)
def stp{n0:Nat}{h g:HL}{G O S v':TR}{d P Mr:List Sk}{C:TD}{a q:Sk}{k id cx:Nat}{c:TC}(z:G = .slice (some ⟨id,0,le 4⟩) d.length cx)(m:n0<=id)(i':h[id]?=some (.o (.cells (d.flatMap Du) 4 true)))(B:cx=0∨cx=d.length+1)
  (E:hY n0 h O 4 Du P) (x:hY n0 h S 3 mi C) (K:g_ O≠some id) (L:FQ n0 h (d++a :: Mr)) (I:d[k]?=some q) (R:hY n0 g v' 1 l_ c) (V:∀(j:Nat) o,h[j]?=some o->g_ q.2.1≠some j->g[j]?=some o) (T:∀b,g_ v'=some b->g_ q.2.1=some b∨h.length<=b) :
  g[id]?=some (.o (.cells (d.flatMap Du) 4 true))/\hY n0 (oo g id 4 Du (d.set k (q.1,v',c))) G 4 Du (d.set k (q.1,v',c))/\hY n0 (oo g id 4 Du (d.set k (q.1,v',c))) O 4 Du P/\hY n0 (oo g id 4 Du (d.set k (q.1,v',c))) S 3 mi C/\FQ n0 (oo g id 4 Du (d.set k (q.1,v',c))) (d.set k (q.1,v',c)++Mr)/\∀(j:Nat) o,j<n0->h[j]?=some o->(oo g id 4 Du (d.set k (q.1,v',c)))[j]?=some o:=by
 have r:FQ n0 h (d++Mr):=L.sub (List.Sublist.append_left (List.sublist_cons_self _ _) _);have N:q∈d++Mr:=Fs.2 (.inl (A9 I));have u:=r.1 q N;have n:hY n0 h G 4 Du d:=.inr ⟨id,cx,z,m,i',B⟩;have v:g_ G=some id:=by rw[z];rfl
 have l:g[id]?=some (.o (.cells (d.flatMap Du) 4 true)):=V _ _ i' λe=>gm u n a_ e v;have F:hY n0 g G 4 Du d:=.inr ⟨id,cx,z,m,l,B⟩;have i:∀(j:Nat) o,h[j]?=some o->g_ q.2.1≠some j->j≠id->(oo g id 4 Du (d.set k (q.1,v',c)))[j]?=some o:=λj o t X Y=>by
  unfold oo
  grind
 have s:(d++Mr).Perm (q :: (d.eraseIdx k++Mr)):=by
  have:=(vm (a:=q) I).append_right Mr
  rwa [fi I]at this
 have w:=r.perm s.symm;have M:=KH.1 w.2;refine⟨l,.inr ⟨id,cx,j_,m,bL (ai l),j_⟩,E.ka λj o t f=>i j o t (λe=>gm u E a_ e f) (λe=>K (e▸f)),x.ka λj o t f=>i j o t (λe=>gm u x a_ e f) (λe=>gm n x a_ v (by rw[f,e])),?_,λj o U t=>i j o t (λe=>by
  have:=(u.g_ e).1;omega) a_⟩
 have y:FQ n0 (oo g id 4 Du (d.set k (q.1,v',c))) (d.eraseIdx k++Mr):=by
  have Q:FQ n0 h (d.eraseIdx k++Mr):=w.sub (List.sublist_cons_self _ _);refine Q.ka λp H j o t f=>i j o t (λe=>M.1 p H j e f) λe=>?_;subst e;exact gm (Q.1 p H) n a_ f v
 have D:hY n0 (oo g id 4 Du (d.set k (q.1,v',c))) v' 1 l_ c:=R.ka λj o t f=>by
  unfold oo;rw[IA (λe=>gm R F a_ f (by rw[v,e]))];exact t
 refine(y.cons (p:=(q.1,v',c)) D λp H b A J=>?_).perm ((vm I).append_right Mr);simp only at A;rcases T b A with e|W
 .grind
 .have:=((r.1 p (s.mem_iff.2 (FZ _ H))).g_ J).2;omega
def RJ{o:Bool}{a:Es}:∀ {S:List Es},Gg o S a≠[]
 | []=>by simp[Gg]
 |y :: S=>by
  unfold Gg;split<;>simp
def yC{o:Bool}:∀ {A S:List Es},S≠[]->A.foldl (Gg o) S≠[]
 | [],S,h=>h
 |a :: A,S,_=>by
  rw[XR];exact yC RJ
def mH{ln:Ln}{s o:Bool}{L:List Es}(h:L≠[]):Kk ln s o L≠[]:=by
 unfold Kk;by_cases b:KZ ln s L=[]
 .cases hA:HM ln s L with
  |cons a A=>
   rw[XR];exact yC RJ
  |nil=>
   exfalso;cases L with
   |nil=>exact h rfl
   |cons x L=>
    unfold KZ at b;unfold HM at hA
    simp_all
 .exact yC b
def nk{w v:Nat}{l:TD}{G:TH}{r:Mv}{n:Nat}{p:Pc}(h:p∈D7 w v l G r n):p.1<n/\∃k,k<3/\y0 w v p.1 (eK (p.1%4) k)=some p.2.1/\p.1<p.2.1/\JU w v l p.1 k=0/\p.2.2=q8 (ar (af (G p.1) r) (pu w p.1)) (eT (af (G p.1) r).1 (eK (p.1%4) k)):=by
 unfold D7 at h;obtain⟨a,b,d⟩:=GG.1 h;have b:=CY.1 b;obtain⟨k,c,e⟩:=SD.1 d;have c:=CY.1 c;unfold Fq at e
 grind
def Oz{w v:Nat}{P:TH}{o:Bool}{ln:Ln}{a:List Pc}{j:Nat}{p:Pc}(h:a[j]?=some p):EV w v P o ln (a.take (j+1))=EV w v P o ln (a.take j)++(if p.2.2=ln then [Qj w v P o p]else []):=by
 unfold EV;rw[IB,h,qcn,IV]
 grind
def Pu(w v:Nat)(l:TD)(G:TH)(r:Mv)(L:List Es)(ln:Ln)(s o:Bool)(H:HL)(e:TG)(h':HL):Prop:=
 ∃z d l' c,e=[.i (.ofNat w),.i (.ofNat v),.v z,.i (ofNat (gp ln s L r L.length).1),.i (gp ln s L r L.length).2.1,.i (gp ln s L r L.length).2.2,.v d]/\u_ H h'/\
  hY H.length h' z 3 mi l'/\l'.Perm (l++EV w v (λa=>af (G a) r) o ln (D7 w v l G r (4*w*v)))/\Gx l'/\q9 h' d 4 Du c/\FQ H.length h' c/\(c.map G2).Perm (Kk ln s o L)/\c.Pairwise λa b=>DX a.1 b.1=false
def QM{w v:Nat}(h3:S3 w v){l:TD}{H:HL}{x xs:TR}(hl:q9 H x 3 mi l)(hv:∀c∈l,VC w v c)(ej:∀c∈l,c.2.2≠0)(hn:l.length<=800){r:Mv}(hr:DV 10000 r){G:TH}(hG:A2 w v l G)
  {L:List Es} (hL:StL H xs L) (fv:0<L.length) (hC:L.length<=100) (fx:∀a∈L,a.1.2.2<4/\-20000<=a.1.1/\a.1.1<=20000/\-20000<=a.1.2.1/\a.1.2.1<=20000) (cT:∀a∈L,a.2≠[]/\a.2.length<=100)
  {ln:Ln} (eu:1<=ln.1/\ln.1<=4) (gu:-10000<=ln.2/\ln.2<=10000) (s o:Bool) :
  ∃rs h',aF cc ac 23 ([.i (.ofNat w),.i (.ofNat v),.v x]++D5 r++[.v xs,.i (.ofNat ln.1),.i ln.2,.i (if s then 1 else 0),.b o]) (h9 aa H) rs (h9 aa h')/\Pu w v l G r L ln s o H rs h':=by
 have hs:=h3.sh;obtain⟨b1,b2,b3,b4⟩:=h3.n;have hN:=Gp hs;obtain⟨M,hM,gv,hm⟩:=hL;have cm:=Cq eu (by omega:-100000<=ln.2/\ln.2<=100000);have bl:DV 20000 (Do ln):=AM (n:=10000) gu;have cd:=BD (aZ hr a_) (aZ bl a_);exact x23 (ls:=[.i (.ofNat w),.i (.ofNat v),.v x,.i (ofNat r.1),.i r.2.1,.i r.2.2,.v xs,.i (.ofNat ln.1),.i ln.2,.i (if s then 1 else 0),.b o]) (K:=Pu w v l G r L ln s o H) (H:=H) (mc (mc (pP hl.h_ (mc (mc (mc (pP hM.h_ (mc (mc (mc (Jg t0))))))))))) (by
  unfold f23;simp only[ub];refine e_ ?_;refine aj cm ?_;simp only[D5,Et,EQ,EG]at cd ⊢;refine e_ ?_;refine(hY.emp (j7:=EJ) (enc:=mi) (n0:=H.length) aK (B8 _)).PE (λ_=>rfl) c_ (hl.pre ⟨_,rfl⟩) tt tt ?_;intro zc h0 A gd ek hg _;rw[EG]at A;have gC:u_ H h0:=bS ⟨_,rfl⟩ λi o O ho=>ek i o ho λe=>by
   have:H.length=i:=by simpa[g_]using e
   omega
  refine e_ ?_;refine ab gd ?_;refine k_ ?_;generalize gx:Do ln=m at *;refine bK (g9:=HL×Value×Value×List Sk×List Sk) L.length (λj t=>[.v t.2.1,.v t.2.2.1,.i (ofNat j),.i (.ofNat w),.i (.ofNat v),.v zc,.i (ofNat (gp ln s L r j).1),.i (gp ln s L r j).2.1,.i (gp ln s L r j).2.2,.v (.slice none 0 0)]) (λ_ t=>t.1)
   (λj t=>u_ H t.1/\FW H.length t.1 t.2.1 t.2.2.1 zc t.2.2.2.1 t.2.2.2.2 l/\t.2.2.2.1.map G2=KZ ln s (L.take j)/\t.2.2.2.2.map G2=HM ln s (L.take j))
   (j0:=0) (s0:=(h0,.slice none 0 0,.slice none 0 0,[],[])) (by simp[gp,HM]) rfl (D6 _) ⟨gC,⟨.nil _ _ _ _,.nil _ _ _ _,A,(λb C=>by cases C),.nil _ _⟩,rfl,rfl⟩ ?_
  rintro j ⟨h,zs,za,Ms,Z⟩ Y ⟨E,hf,Q,a4⟩ a2 D;simp only at E hf Q a4 ⊢;refine e_ ?_;refine bw (hM.pre E) ?_;rw[gv];by_cases I:j<L.length
  case neg=>
   rw[aN a_];refine e_ ?_;obtain rfl:j=L.length:=a_;clear D I;rw[XQ]at Q a4;have a1:Ms.length<=100:=by
    have:=congrArg List.length Q;rw[GY]at this;have h2:(KZ ln s L).length<=L.length:=qcQ _ _;omega
   have ev:Z.length<=100:=by
    have:=congrArg List.length a4;rw[GY]at this;have h2:(HM ln s L).length<=L.length:=by
     unfold HM
     grind
    omega
   have dr:∀a∈Z,a.2.2.length<=100:=λa ha=>by
    have h1:G2 a∈HM ln s L:=a4▸DJ.2 ⟨a,ha,rfl⟩;obtain⟨b,C,c9⟩:=DJ.1 h1;have h3:=(cT b (GH.1 C).1).2;have h4:=congrArg (λx:Es=>x.2.length) c9;simp only[List.length_reverse]at h4;have:(G2 a).2=a.2.2:=rfl
    simp_all
   refine bK (g9:=HL×Value×List Sk) Z.length (λi t=>[.v t.2.1,.i (ofNat i)]) (λ_ t=>t.1)
    (λi t=>u_ H t.1/\hY H.length t.1 t.2.1 4 Du t.2.2/\hY H.length t.1 za 4 Du Z/\hY H.length t.1 zc 3 mi l/\(∀b,g_ t.2.1=some b->g_ za≠some b)/\FQ H.length t.1 (t.2.2++Z.drop i)/\t.2.2.map G2=((HM ln s L).take i).foldl (Gg o) (KZ ln s L)/\t.2.2.length<=100+i/\∀q∈t.2.2,q.2.2.length<=100+100*i)
    (j0:=0) (s0:=(h,zs,Ms)) rfl rfl (D6 _) ⟨E,hf.os,hf.oa,hf.oc,hf.ne,by simpa using hf.pc,by simpa using Q,a_,λq hq=>by
     have h1:G2 q∈KZ ln s L:=Q▸DJ.2 ⟨q,hq,rfl⟩;exact(cT _ (GH.1 h1).1).2⟩ ?_
   clear E hf Q a1;rintro i ⟨h,zs,Ms⟩ O ⟨E,ap,a0,A,aE,U,Q,a1,co⟩ a2 D;simp only at E ap a0 A aE U Q a1 co ⊢;refine e_ ?_;have be:=a0.ls dE;have bk:=ap.ls dE;refine bw be ?_;by_cases I:i<Z.length
   case neg=>
    rw[aN a_];refine e_ ?_;obtain rfl:i=Z.length:=a_;clear D I;have hw:(HM ln s L).length=Z.length:=i_;rw[IW a_]at Q;rw[List.drop_length,HF]at U;have eA:0<Ms.length:=by
     have:=congrArg List.length Q;rw[GY]at this;rw[this];exact w4.2 (mH (ln:=ln) (s:=s) (o:=o) (L:=L) λe=>by subst e;simp at fv)
    obtain⟨l4,h4,zS,c4,b9,dD,eZ,fn⟩:=TX (z0 bk) (by simpa using eA) i_ (λt ht=>by
     obtain⟨q,hq,rfl⟩:=DJ.1 ht;exact(U.1 q hq).h_ bv)
    refine ak c4 ?_;refine e_ ?_;obtain⟨a3,eX,rfl⟩:=yS eZ;have dD:=ls54 dD;have cr:=E.trans b9;obtain⟨hR,h5,c5,a6,ds⟩:=sJ h3 (hl.pre cr) hv ej a_ (r:=r) (aZ hr a_);simp only[D5,EQ,EG]at c5;refine ak c5 ?_;rcases a6 with⟨rfl,b8⟩|⟨G',T,d8,rfl,B,rfl⟩
    .exact absurd ⟨G,hG.g,hG.z⟩ b8
    refine e_ ?_;have d9:EW w v G' r=EW w v G r:=by
     unfold EW;refine ZP λc hc=>?_;rw[KO hs d8 hG (CY.1 hc)]
    have ay:q9 (o3 h4 (EW w v G r) B T) (.slice (some ⟨h4.length,0,le 3⟩) (4*w*v) (4*w*v+1)) 3 sd (EW w v G r):=dZ di Xe (by simp[EW]);rw[d9]at ds ⊢;generalize hE:h4.length=bP at *;generalize o3 h4 (EW w v G r) B T=h5 at *;have ct:=cr.trans ds;obtain⟨zP,h6,c6,dA,hB,R⟩:=Ba h3 (hl.pre ct) hM.h_ hv ej a_ hr hG;simp only[D5,EQ,EG]at c6;refine ak c6 ?_;refine e_ ?_;have cw:=ct.trans dA;have bm:=ds.trans dA;have eM:=λp (E:p∈D7 w v l G r (4*w*v))=>nk E;have hD:=lY (w:=w) (v:=v) (l:=l) (G:=G) (r:=r) (n:=4*w*v);have av:∀b,g_ zc=some b->b≠bP:=λb C=>by
     have:=(A.g_ C).2;have:=b9.len;omega
    have cp:hY H.length h6 zc 3 mi l:=A.ka λj d Y _=>(b9.trans bm).get Y;have cy:FQ H.length h6 a3:=(U.ka λp _ j d Y _=>(b9.trans bm).get Y).perm eX;have cC:=dD.pre bm;have cl:=ay.pre dA;unfold Pu;generalize D7 w v l G r (4*w*v)=ps at *;generalize bs:gp ln s L r L.length=rt at *;clear c4 c5 c6 bk be ap a0 aE A U hm d8 d9;refine bK (g9:=HL×Value) ps.length (λj t=>[.i (ofNat j),.i (.ofNat w),.i (.ofNat v),.v t.2,.i (ofNat rt.1),.i rt.2.1,.i rt.2.2,.v zS]) (λ_ t=>t.1)
     (λj t=>u_ H t.1/\hY H.length t.1 t.2 3 mi (l++EV w v (λa=>af (G a) r) o ln (ps.take j))/\q9 t.1 zS 4 Du a3/\FQ H.length t.1 a3/\q9 t.1 zP 4 Qv ps/\q9 t.1 (.slice (some ⟨bP,0,le 3⟩) (4*w*v) (4*w*v+1)) 3 sd (EW w v G r)/\∀b,g_ t.2=some b->b≠bP)
     (j0:=0) (s0:=(h6,zc)) rfl rfl (D6 _) ⟨cw,by simpa[EV]using cp,cC,cy,R,cl,av⟩ ?_
    clear cw cp cC cy R cl av;rintro j ⟨g,zc⟩ Y ⟨bn,A,al,ag,R,ay,av⟩ a2 D;simp only at bn A al ag R ay av ⊢;have hJ:(EV w v (λa=>af (G a) r) o ln (ps.take j)).length<=j:=by
     unfold EV
     grind
    have f2:(l++EV w v (λa=>af (G a) r) o ln (ps.take j)).length<=950:=by
     grind
    refine e_ ?_;refine bw R ?_;by_cases I:j<ps.length
    case neg=>
     obtain rfl:j=ps.length:=a_;rw[aN (B8 _)];refine e_ ?_;rw[XQ]at A f2;obtain⟨l8,h8,c8,e0,fo,eF,dm⟩:=RR A a_;refine ak c8 ?_;refine e_ ?_;have gD:u_ H h8:=bS bn λi d O ho=>dm i d ho λe=>by
      have:=(A.g_ e).1;omega
     refine⟨zc,zS,l8,a3,by rw[←bs]<;>rfl,gD,eF,e0,fo,al.ka λi d O C=>dm i d O λe=>Ru (e:=3) (e':=4) (A.ls λ_=>rfl) al m_ e C,ag.ka λp E i d O C=>dm i d O λe=>gm A (ag.1 p E) a_ e C,?_,?_⟩
     .show(a3.map G2).Perm (List.foldl (Gg o) (KZ ln s L) (HM ln s L))
      grind
     .have:=H0.1 (show(a3.map λt:Sk=>((t.1,t.2.1):JN)).Pairwise _ from fn);exact this
    rw[aO I];refine e_ ?_;obtain⟨p,E⟩:=am I;obtain⟨dB,k,hk,eP,a6,hO,hK⟩:=eM p (A9 E);have bt:=Oz (w:=w) (v:=v) (P:=λa=>af (G a) r) (o:=o) (ln:=ln) E;refine dK (cs:=[.int .u8 (ofNat p.2.2.1),.int .i64 p.2.2.2]) R rfl E rfl a_ ?_;refine e_ ?_;refine AV (λgb=>?_) (λaE=>?_)
    case refine_2=>
     simp(disch:=omega)only[↓n9,FT];rw[aU a_];refine D (g,zc) I ⟨bn,?_,al,ag,R,ay,av⟩
     grind
    simp(disch:=omega)only[↓n9,EX];have g0:p.2.2=ln:=SF i_ gb.2;rw[qs g0]at bt;refine dK (cs:=[.int .i64 (ofNat p.1)]) R rfl E rfl a_ ?_;refine e_ ?_;have gE:(EW w v G r)[p.1]?=some (af (G p.1) r):=kY dB;refine dK (cs:=[.int .u8 (ofNat (af (G p.1) r).1)]) ay rfl gE rfl a_ ?_;refine e_ ?_;have dT:=Qu h3 dB hk eP;have ee:Qs w v p.1 p.2.1=eK (p.1%4) k:=nO hs dB (iL _ _) eP;rw[←ee]at dT;have bb:∀kd:Int,kd=(if decide ((af (G p.1) r).1<4)=o then 2 else 1)->∀z2 N,hY H.length N z2 3 mi ((l++EV w v (λa=>af (G a) r) o ln (ps.take j))++[((ofNat p.1,ofNat (Qs w v p.1 p.2.1),kd):EJ)])->(∀(i:Nat) d,g[i]?=some d->g_ zc≠some i->N[i]?=some d)->(g_ z2=g_ zc∨∃i,g_ z2=some i/\g.length<=i)->a2 [.i (ofNat j+1),.i (.ofNat w),.i (.ofNat v),.v z2,.i (ofNat rt.1),.i rt.2.1,.i rt.2.2,.v zS] N:=by
     intro kd gs z2 N J f c9;refine D (N,z2) I ⟨bS bn λi d O ho=>f i d ho λe=>by
      have:=(A.g_ e).1;omega,?_,al.ka λi d O C=>f i d O λe=>Ru (e:=3) (e':=4) (A.ls λ_=>rfl) al m_ e C,ag.ka λp E i d O C=>f i d O λe=>gm A (ag.1 p E) a_ e C,R.ka λi d O C=>f i d O λe=>Ru (e:=3) (e':=4) (A.ls λ_=>rfl) R m_ e C,ay.ka λi d O C=>f i d O λe=>av i e ?_,λb C=>?_⟩
     .rw[bt,←FL];have:Qj w v (λa=>af (G a) r) o p=(ofNat p.1,ofNat (Qs w v p.1 p.2.1),kd):=by
       unfold Qj;rw[gs]
      simp_all
     .have:bP=i:=by simpa[g_]using C
      omega
     .simp only at C;rcases c9 with e|⟨i,e,es⟩
      .exact av b (e▸C)
      .rw[e]at C;cases C;have:=ay.blkLt (i:=bP) rfl;omega
    by_cases fp:(af (G p.1) r).1<4
    case' pos=>rw[ua (show ofNat (af (G p.1) r).1<4 by grind)]
    case' neg=>rw[v_ (show(4:Int)<=ofNat (af (G p.1) r).1 by grind)]
    case' pos=>have hd:=Gs fp
    case' neg=>have hd:=GI fp
    all_goals
     rw[hd]at bb;cases o
    all_goals
     try rw[Ju rfl]
     simp(disch:=omega)only[↓n9,EX,FT];refine dK (cs:=[.int .i64 (ofNat p.1)]) R rfl E rfl a_ ?_;refine e_ ?_;refine dK (cs:=[.int .i64 (ofNat p.1)]) R rfl E rfl a_ ?_;refine e_ ?_;refine dK (cs:=[.int .i64 (ofNat p.2.1)]) R rfl E rfl a_ ?_;refine e_ ?_;refine aj dT ?_;refine e_ ?_;refine A.Il (a:=((ofNat p.1,ofNat (Qs w v p.1 p.2.1),_):EJ)) (λ_=>rfl) (by have:=bn.len;omega) rfl rfl rfl (by
      unfold bc;rw[EY a_,EY a_];rfl) ?_
     intro z2 N J X f ad F;refine e_ ?_;refine ab X ?_;refine k_ ?_;rw[aU a_]
     simp_all
   rw[aO I];refine e_ ?_;obtain⟨a,ha⟩:=am I;have dk:Z.drop i=a :: Z.drop (i+1):=by
    rw[Pg I]
    simp_all
   have fu:(HM ln s L)[i]?=some (G2 a):=by
    grind
   have cb:((HM ln s L).take (i+1)).foldl (Gg o) (KZ ln s L)=Gg o (Ms.map G2) (G2 a):=by
    rw[IB,fu,qct,←Q];rfl
   rw[dk]at U;have c0:=dr a (A9 ha);refine bK (g9:=HL×List Sk×Bool) Ms.length (λk t=>[.b t.2.2,.i (ofNat k)]) (λ_ t=>t.1)
    (λk t=>(t.2.2=false/\t.1=h/\t.2.1=Ms/\∀j,j<k->∀q,Ms[j]?=some q->q.1≠a.1)∨(t.2.2=true/\u_ H t.1/\hY H.length t.1 zs 4 Du t.2.1/\hY H.length t.1 za 4 Du Z/\hY H.length t.1 zc 3 mi l/\FQ H.length t.1 (t.2.1++Z.drop (i+1))/\t.2.1.map G2=Gg o (Ms.map G2) (G2 a)/\t.2.1.length=Ms.length/\∀q∈t.2.1,q.2.2.length<=100+100*(i+1)))
    (j0:=0) (s0:=(h,Ms,false)) rfl rfl (D6 _) (.inl ⟨rfl,rfl,rfl,λj Y=>a_⟩) ?_
   rintro k ⟨g,M2,fd⟩ hk ck bC W;simp only at ck ⊢;refine e_ ?_;rcases ck with⟨rfl,rfl,rfl,b8⟩|⟨rfl,V,cq,eD,eE,eV,eB,hy,ez⟩
   case inr=>
    refine bw (cq.ls dE) ?_;have bb:a2 [.v zs,.i (ofNat i+1)] g:=D (g,zs,M2) I ⟨V,cq,eD,eE,aE,eV,by rw[cb];exact eB,i_,ez⟩;refine yN (λ_=>?_) (λ_=>?_)
    all_goals
     simp(disch:=omega)only[↓n9,EX];rw[aU a_];exact bb
   refine bw bk ?_;by_cases ax:k<M2.length
   case neg=>
    rw[aN a_];simp(disch:=omega)only[↓n9,FT];have b6:=U.1 a (Fs.2 (.inr KG));have b5:=b6.h_ bv;refine aQ be rfl ha ?_;rw[show Du a=[.int .i64 a.1.1,.int .i64 a.1.2.1,.int .u8 (ofNat a.1.2.2),a.2.1]from rfl];refine e_ ?_;refine ab b5 ?_;refine k_ ?_;refine ap.Il (a:=a) dE (by have:=E.len;omega) rfl rfl rfl (by
     unfold bc;rw[EY a_,EY a_];rfl) ?_
    intro z2 N J X f ad F;refine e_ ?_;refine ab X ?_;refine k_ ?_;rw[aU a_];have a6:=E.len;refine D (N,z2,M2++[a]) I ⟨bS E λj d Y ho=>f j d ho λe=>by
     have:=(ap.g_ e).1;omega,J,a0.ka λj d Y C=>f j d Y λe=>aE j e C,A.ka λj d Y C=>f j d Y λe=>gm ap A a_ e C,λb C a8=>?_,?_,?_,i_,λq hq=>?_⟩
    .rcases F with e|⟨j,e,es⟩
     .grind
     .simp only at C;rw[e]at C;cases C;have:=(a0.g_ a8).2;omega
    .rw[FL];exact U.ka λp E j d Y C=>f j d Y λe=>gm ap (U.1 p E) a_ e C
    .rw[cb,AG]
     .grind
     .intro j t ht;rw[FM]at ht;cases hx:M2[j]? with
      |none=>rw[hx]at ht;cases ht
      |some q=>
       rw[hx]at ht;cases ht;exact b8 j i_ q hx
    grind
   rw[aO ax];simp(disch:=omega)only[↓n9,FT];obtain⟨q,hq⟩:=am ax;refine dK (cs:=[.int .i64 q.1.1,.int .i64 q.1.2.1,.int .u8 (ofNat q.1.2.2)]) bk rfl hq rfl a_ ?_;refine e_ ?_;refine dK (cs:=[.int .i64 a.1.1,.int .i64 a.1.2.1,.int .u8 (ofNat a.1.2.2)]) be rfl ha rfl a_ ?_;refine e_ ?_;rw[eqsC];by_cases he:q.1=a.1
   case neg=>
    rw[GI he];simp(disch:=omega)only[↓n9,FT];rw[aU a_];exact W (g,M2,false) ax (.inl ⟨rfl,rfl,rfl,λj Y t ht=>by
     grind⟩)
   rw[Gs he];simp(disch:=omega)only[↓n9,EX];have fb:=A9 hq;have dC:=U.1 q (Fs.2 (.inl fb));have b6:=U.1 a (Fs.2 (.inr KG));have fa:=dC.h_ bv;have b5:=b6.h_ bv;have c0:=b6.ls bv;have hz:=co q fb;have a6:=E.len;have ce:∀(id cx:Nat) (v':TR) (N:HL) (bx:TC),zs = .slice (some ⟨id,0,le 4⟩) M2.length cx->H.length<=id->g[id]?=some (.o (.cells (M2.flatMap Du) 4 true))->(cx=0∨cx=M2.length+1)->hY H.length N v' 1 l_ bx->(∀(j:Nat) d,g[j]?=some d->g_ q.2.1≠some j->N[j]?=some d)->(∀b,g_ v'=some b->g_ q.2.1=some b∨g.length<=b)->bx=(if o then q.2.2++a.2.2 else a.2.2++q.2.2)->
     N[id]?=some (.o (.cells (M2.flatMap Du) 4 true))/\bC [.b true,.i (ofNat k+1)] (oo N id 4 Du (M2.set k (q.1,v',bx))):=by
    intro id cx v' N bx c1 c2 c3 c4 c5 c6 c7 c8;obtain⟨d1,d2,d3,d4,d5,d6⟩:=stp (Mr:=Z.drop (i+1)) (a:=a) c1 c2 c3 c4 a0 A (λe=>aE id (by rw[c1];rfl) e) U hq c5 c6 c7;refine⟨d1,W (_,M2.set k (q.1,v',bx),true) ax (.inr ⟨rfl,bS E d6,d2,d3,d4,d5,?_,c_,λt ht=>?_⟩)⟩
    .rw[qc9,Mp (a:=G2 a) (x:=G2 q) (k:=k) i_ he,c8]
     .rfl
     .intro j Y t ht;rw[FM]at ht;cases hx:M2[j]? with
      |none=>rw[hx]at ht;cases ht
      |some q'=>
       rw[hx]at ht;cases ht;exact b8 j Y q' hx
    grind
   obtain⟨id,cx,g5,ci,i',ec⟩ : ∃id cx,zs = .slice (some ⟨id,0,le 4⟩) M2.length cx/\H.length<=id/\g[id]?=some (.o (.cells (M2.flatMap Du) 4 true))/\(cx=0∨cx=M2.length+1):=by
    rcases ap with⟨_,e⟩|h
    .subst e;simp at ax
    .exact h
   subst g5;cases o with
   |true=>
    refine e_ ?_;refine dK (cs:=[q.2.1]) bk rfl hq rfl a_ ?_;refine e_ ?_;refine ab fa ?_;refine k_ ?_;refine dK (cs:=[a.2.1]) be rfl ha rfl a_ ?_;refine e_ ?_;refine ab b5 ?_;refine k_ ?_;refine dC.PE bv a6 c0 a_ a_ ?_;intro v' N J X f ad F;obtain⟨d1,d2⟩:=ce id cx v' N _ rfl ci i' ec J f (λb C=>F.elim (λe=>.inl (e▸C)) λ⟨j,e,es⟩=>.inr i_) rfl;refine e_ ?_;refine ab X ?_;refine k_ ?_;refine yV (a':=((q.1,v',q.2.2++a.2.2):Sk)) dE d1 rfl hq rfl c_ rfl ?_;refine e_ ?_;rw[aU a_];exact d2
   |false=>
    refine e_ ?_;obtain⟨g6,fs,fr,gg,cf,_⟩ : ∃id cx,za = .slice (some ⟨id,0,le 4⟩) Z.length cx/\H.length<=id/\g[id]?=some (.o (.cells (Z.flatMap Du) 4 true))/\(cx=0∨cx=Z.length+1):=by
     rcases a0 with⟨_,e⟩|h
     .subst e;simp at I
     .exact h
    have hI:id≠g6:=λe=>aE id rfl (by rw[fr,e];rfl);subst fr;have hH:=ai i';have hu:=ai cf;have b7:u_ g (g++[HO.o (.cells [] 1 true)]):=⟨_,rfl⟩;obtain⟨w1,w2,w3⟩:=RY (o:=3) (k:=1) (cx:=fs) (n:=Z.length) dE (b7.get cf) ha rfl a_;refine ae w1 (ae w2 (ab (xe _ _) ?_));refine dc w3 rfl ?_;rw[show((Du a).drop 3).take 1=[a.2.1]from rfl];refine e_ ?_;refine ab b5 ?_;refine k_ ?_;have ga:hY (j7:=Nat) H.length (g++[HO.o (.cells [] 1 true)]) (.slice (some ⟨g.length,0,le 1⟩) 0 1) 1 l_ []:=hY.emp aK a6;refine ga.PE bv tt (c0.pre b7) tt tt ?_;intro v1 N J ef f ad F;rw[EG]at J;have bd:∀(j:Nat) d,g[j]?=some d->N[j]?=some d:=λj d Y=>f j d (ey Y) λe=>by
     have e':g.length=j:=by simpa[g_]using e
     grind
    have an:u_ g N:=KD bd;refine e_ ?_;refine ab ef ?_;refine k_ ?_;obtain⟨u1,u2,u3⟩:=RY (o:=3) (k:=1) (cx:=cx) (n:=M2.length) dE (bd _ _ i') hq rfl a_;refine ae u1 (ae u2 (ab (xe _ _) ?_));refine dc u3 rfl ?_;rw[show((Du q).drop 3).take 1=[q.2.1]from rfl];refine e_ ?_;refine ab fa ?_;refine k_ ?_;refine J.PE bv (by have:=an.len;omega) ((dC.ls bv).pre an) a_ a_ ?_;intro v2 g3 gA eg go hh g8;have hQ:∀b,g_ v1=some b->g.length<=b:=λb C=>by
     rcases F with e|⟨j,e,e'⟩
     .rw[C]at e;have:b=g.length:=by simpa[g_]using e
      omega
     grind
    have el:∀(j:Nat) d,g[j]?=some d->g3[j]?=some d:=λj d Y=>go j d (bd j d Y) λe=>by
     grind
    have f1:∀b,g_ v2=some b->g_ q.2.1=some b∨g.length<=b:=λb C=>by
     grind
    obtain⟨d1,d2⟩:=ce id cx v2 g3 _ rfl ci i' ec gA (λj d Y _=>el j d Y) f1 rfl;refine e_ ?_;refine ab eg ?_;refine k_ ?_;refine yV (a':=((q.1,v2,a.2.2++q.2.2):Sk)) dE d1 rfl hq rfl c_ rfl ?_;refine k_ ?_;have g7:=kq (J.ls bv);have n1:∀b,g.length≠id:=λ_=>a_;refine ae (x:=()) (by
     refine dg (bU ⟨_,_,_,rfl⟩ λi O=>?_) (dg (bU ⟨_,_,_,rfl⟩ λi O=>?_) (dg (bU ⟨_,_,_,rfl⟩ λi O=>?_) (dg (bU g7 λi O=>?_) fm)))
     .have e:g.length=i:=by simpa[g_]using O
      omega
     .have e:g.length=i:=by simpa[g_]using O
      omega
     .have e:g.length=i:=by simpa[g_]using O
      omega
     grind) ?_
    refine k_ ?_;rw[aU a_];exact d2
  rw[aO I];refine e_ ?_;obtain⟨⟨c,y⟩,ex⟩:=am (l:=M) (i:=j) a_;obtain⟨S,b0,a7⟩:=hm j _ ex;simp only at b0 a7;have eb:=A9 b0;have dj:=fx _ eb;have cn:=cT _ eb;simp only at dj cn;have a1:Ms.length<=100:=by
   have:=congrArg List.length Q;rw[GY]at this;have h2:(KZ ln s (L.take j)).length<=(L.take j).length:=qcQ _ _
   grind
  have ev:Z.length<=100:=by
   have:=congrArg List.length a4;rw[GY]at this;have h2:(HM ln s (L.take j)).length<=(L.take j).length:=by
    unfold HM
    grind
   grind
  have dn:=E.len;have g4:=a7.h_;refine aQ (hM.pre E) rfl ex ?_;rw[show Eh (c,y)=[.int .i64 c.1,.int .i64 c.2.1,.int .u8 (ofNat c.2.2),y]from rfl];refine e_ ?_;refine ab g4 ?_;refine k_ ?_;have d7:=TT (l:=ln) (c:=c) eu a_ dj.1 a_;simp only[Et,EQ,EG]at d7;refine aj d7 ?_;refine e_ ?_;have e1:=Ub (ln:=ln) (s:=s) b0;have e2:=PJ (ln:=ln) (s:=s) b0;have fl:(if eh ln c then(1:Int)else 0)=(if s then 1 else 0)↔eh ln c=s:=by
   grind
  have hP:u_ H h:=E;by_cases ca:eh ln c=s
  case neg=>
   rw[D0 (λe=>ca (fl.1 e))];refine e_ ?_;have he:hY (j7:=Nat) H.length (h++[HO.o (.cells [] 1 true)]) (.slice (some ⟨h.length,0,le 1⟩) 0 1) 1 l_ []:=hY.emp aK dn;refine he.PE bv tt (a7.pre (E.Gq _)) tt tt ?_;intro y1 g1 eC b7 gl et ea;rw[EG]at eC;have gt:∀(i:Nat) d,h[i]?=some d->g1[i]?=some d:=λi d O=>gl i d (ey O) λe=>by
    have:h.length=i:=by simpa[g_]using e
    simp_all
   have V:u_ h g1:=KD gt;refine e_ ?_;refine ab b7 ?_;refine k_ ?_;have a9:=hf.pre V;refine a9.os.Il (a:=((c,y1,S):Sk)) dE (by simp at et;omega) rfl rfl rfl (by
    unfold bc;rw[EY a_,EY a_];rfl) ?_
   intro z2 N J X f ad F;have f0:∀b,g_ y1=some b->h.length<=b:=λb C=>by
    rcases ea with e|⟨i,e,e'⟩
    .rw[C]at e;have:b=h.length:=by simpa[g_]using e
     omega
    grind
   have dl:=a9.apS (c:=c) eC (λp E b C a8=>by
    have k1:=f0 b C;have k2:=((hf.pc.1 p E).g_ a8).2;omega) J f F
   have an:u_ H N:=bS (E.trans V) λi d O ho=>f i d ho λe=>by
    have:=(hf.os.g_ e).1;omega
   refine e_ ?_;refine ab X ?_;refine k_ ?_;rw[aU a_];have bs:gp ln s L r j=gp ln s L r (j+1):=by
    unfold gp
    grind
   rw[bs];exact D (N,z2,za,Ms++[(c,y1,S)],Z) I ⟨an,dl,by
    rw[IV,Q,e1,rv ca];rfl,j_⟩
  rw[DZ (fl.2 ca)];refine e_ ?_;refine bw (a7.pre E) ?_;have hF:0<S.length:=w4.2 cn.1;refine k_ ?_;rw[Hw i_ i_];refine k_ ?_;refine bK (g9:=HL×Value) S.length (λk t=>[.v t.2,.i ((S.length:Int) - 1 - (k:Int)),.i (.ofNat w),.i (.ofNat v),.v zc,.i (ofNat (if 0∈S.reverse.take k then af r m else gp ln s L r j).1),.i (if 0∈S.reverse.take k then af r m else gp ln s L r j).2.1,.i (if 0∈S.reverse.take k then af r m else gp ln s L r j).2.2,.v (.slice none 0 0)]) (λ_ t=>t.1)
   (λk t=>u_ h t.1/\hY h.length t.1 t.2 1 l_ (S.reverse.take k)) (j0:=0) (s0:=(h,.slice none 0 0)) c_ rfl (D6 _) ⟨.refl _,.nil _ _ _ _⟩ ?_
  rintro k ⟨g,u⟩ hk ⟨V,a5⟩ bC W;simp only at V a5 ⊢;refine e_ ?_;by_cases ax:k<S.length
  case pos=>
   rw[G8 (show(0:Int)<=(S.length:Int) - 1 - (k:Int)by omega)];refine e_ ?_;obtain⟨id,i'⟩:=am (l:=S) (i:=S.length - 1 - k) a_;have ei:S.reverse[k]?=some id:=i_;have cb:S.reverse.take (k+1)=S.reverse.take k++[id]:=by rw[IB,ei];rfl
   have cA:(S.length:Int) - 1 - (k:Int)=ofNat (S.length - 1 - k):=by
    grind
   refine aQ ((a7.pre E).pre V) cA i' ?_;rw[show l_ id=[.int .i64 (ofNat id)]from rfl];refine e_ ?_;refine a5.Il (a:=id) bv V.len rfl rfl rfl (by
    unfold bc;rw[XP,EY a_,EY a_];rfl) ?_
   intro u2 N J X f ad F;have an:u_ h N:=bS V λi d O ho=>f i d ho λe=>by
    have:=(a5.g_ e).1;omega
   refine e_ ?_;refine ab X ?_;refine k_ ?_;refine aQ ((a7.pre E).pre an) cA i' ?_;rw[show l_ id=[.int .i64 (ofNat id)]from rfl];refine e_ ?_;rw[←cb]at J;have gy:(S.length:Int) - 1 - (k:Int) - 1=(S.length:Int) - 1 - ((k+1:Nat):Int):=a_;by_cases h0:id=0
   .subst h0;rw[t_ (show ofNat 0=0 from rfl)];refine e_ ?_;refine aj cd ?_;refine e_ ?_
    simp_all
   .rw[xk (show ¬ofNat id=0 from λe=>h0 (by exact H4 e))];refine e_ ?_;rw[gy];have:=W (N,u2) ax ⟨an,J⟩
    grind
  obtain rfl:k=S.length:=a_;rw[G7 (show(S.length:Int) - 1 - (S.length:Int)<0 by omega)];refine e_ ?_;rw[IW c_]at a5 ⊢;have d0:=qu (m:=m) (c:=c) bl.1 (by obtain⟨_,q1,q2,q3,q4,_⟩:=bl;omega) dj.1 a_;simp only[Et,D5,EQ,EG]at d0;refine aj d0 ?_;refine e_ ?_;have a9:=(hf.pre V).symm;refine a9.os.Il (a:=((ar m c,u,S.reverse):Sk)) dE (by have:=V.len;omega) rfl rfl rfl (by
   unfold bc;rw[EY a_,EY a_];rfl) ?_
  intro z2 N J X f ad F;have eL:hY H.length g u 1 l_ S.reverse:=by
   rcases a5 with e|⟨id,cx,e1,e2,e3⟩
   .exact .inl e
   .exact .inr ⟨id,cx,e1,a_,e3⟩
  have dl:=(a9.apS (c:=ar m c) eL (λp E b C a8=>by
   have k1:=(a5.g_ C).1;have k2:=((hf.symm.pc.1 p E).g_ a8).2;omega) J f F).symm
  have an:u_ H N:=bS (E.trans V) λi d O ho=>f i d ho λe=>by
   have:=(hf.oa.g_ e).1;omega
  refine e_ ?_;refine ab X ?_;refine k_ ?_;rw[aU a_];have bs:(if 0∈S.reverse then af r m else gp ln s L r j)=gp ln s L r (j+1):=by
   unfold gp
   grind
  rw[bs];exact D (N,zs,z2,Ms,Z++[(ar m c,u,S.reverse)]) I ⟨an,dl,j_,by
   rw[IV,a4,e2,qs ca,gx];rfl⟩)
def Qg{w v:Nat}(a:S3 w v){l:TD}{G:TH}(o:mz w v l G)(q:G 0=CW):A2 w v l G:=by
 have p:=a.sh;have m:∀(d c:Nat),c<4*w*v->dst w c=d->DV (20*(d:Int)) (G c):=by
  intro d
  induction d using Nat.strongRecOn with
  |_ d x=>
   intro c h u;have f:=A_.1 (PC w v a.1 a.2.1 a.2.2.1 a.2.2.2) c (CY.2 h);unfold K0 at f;rw[te,GN]at f;rcases f.2 with s|t
   .obtain rfl:=Ey s;rw[q];exact AO a_
   .obtain⟨e,i,g⟩:=p8.1 t;have i:=CY.1 i;cases k:y0 w v c e with
    |none=>rw[k]at g;cases g
    |some n=>
     rw[k]at g;have g:=Ey g;obtain⟨b,j,_⟩:=cQ p h i k;have r:=x (dst w n) a_ n b rfl;rw[o n e c b i j];exact aZ (zF p b i j r a_) a_
 refine⟨o,q,λc h=>?_⟩;have f:=A_.1 (PC w v a.1 a.2.1 a.2.2.1 a.2.2.2) c (CY.2 h);unfold K0 at f;rw[te]at f;have u:=Nat.le_of_ble_eq_true f.1;exact aZ (m _ c h rfl) a_
def Rx{l:TD}(h:Gx l)(d:(l.map aS).Nodup):l.Pairwise λa b=>FX a b=true:=by
 have g:l.Pairwise λa b=>aS a≠aS b:=H0.1 d;refine(List.Pairwise.and h g).imp λ{a b} c=>?_;obtain⟨f,i⟩:=c;have f:=Cf.1 f;unfold FX;rw[GN,te];simp only[E6];have j:¬(a.1=b.1/\a.2.1=b.2.1):=λe=>i (by unfold aS;rw[e.1,e.2]);omega
structure Ig(w v:Nat)(k:Int)(l:TD)(r:Mv)(G:TH)(L:List Es):Prop where
 vk:∀c∈l,VK w v c
 so:l.Pairwise λa b=>FX a b=true
 co:A2 w v l G
 rk:DV k r
 st:JM (λc=>ar (af (G c) r) (pu w c)) (range (4*w*v)) L
 ss:L.Pairwise λa b=>DX b.1 a.1=true
def VK.k0{w v:Nat}{c:EJ}(h:VK w v c):c.2.2≠0:=by have:=h.2;omega
def gl{w v:Nat}(x:Sh w v){l:TD}{G:TH}{r:Mv}:(D7 w v l G r (4*w*v)).Pairwise λp q=>¬(p.1=q.1/\p.2.1=q.2.1):=by
 unfold D7;rw[qcp];have D:∀a p,p∈Sa w v l G r a->p.1=a/\∃k,k<3/\Fq w v l G r a k=some p:=λa p d=>by
  obtain⟨k,B,f⟩:=SD.1 d;refine⟨?_,k,CY.1 B,f⟩;unfold Fq at f
  grind
 refine⟨λa g=>?_,?_⟩
 .have g:=CY.1 g;unfold Sa;rw[qdn];have t:(range 3).Pairwise λi j=>i<j:=h8;refine(qcO.1 t).imp λ{i j} o=>?_;obtain⟨n,s,C⟩:=o;have n:=CY.1 n;have s:=CY.1 s;intro p d q m e;have d:Fq w v l G r a i=some p:=d;have m:Fq w v l G r a j=some q:=m;have c:∀k p,Fq w v l G r a k=some p->y0 w v a (eK (a%4) k)=some p.2.1:=λk p h=>by
   unfold Fq at h
   grind
  have u:=c i p d;have f:=c j q m;rw[e.2]at u;have y:=nO x g (iL _ _) u;have z:=nO x g (iL _ _) f;have e3:eK (a%4) i=eK (a%4) j:=y.symm.trans z;have:i=j:=by rw[←rx (q:=a%4) n,e3,rx s]
  omega
 .have t:(range (4*w*v)).Pairwise λi j=>i<j:=h8;refine t.imp λ{a b} A p d q m e=>?_
  grind
def Zl{w v:Nat}(g:S3 w v){k:Int}{l:TD}{r:Mv}{G:TH}(h:A2 w v l G)(q:DV k r){p:Pc}(j:p∈D7 w v l G r (4*w*v)):(1<=p.2.2.1/\p.2.2.1<=4)/\-(2*k+32)<=p.2.2.2/\p.2.2.2<=2*k+32/\DV (2*k+32) (Do p.2.2):=by
 obtain⟨b,i,s,m,o,n,a⟩:=nk j;have f:eT (af (G p.1) r).1 (eK (p.1%4) i)<3:=mJ (iL _ _);have d:=Rl (c:=ar (af (G p.1) r) (pu w p.1)) (e:=eT (af (G p.1) r).1 (eK (p.1%4) i)) dR f (ur g h q b);rw[←a]at d;refine⟨by rw[a];exact Mc dR f,a_,a_,aZ d.1 a_⟩
def Q_{w v:Nat}{l:TD}{u k n:Nat}(b:y0 w v u (eK (u%4) k)=some n)(a:u<n):JU w v l u k=UQ l u (eK (u%4) k):=by
 unfold JU
 grind
def Ig.keys{w v:Nat}(J:S3 w v){k:Int}{l:TD}{r:Mv}{G:TH}{L:List Es}(h:Ig w v k l r G L){ln:Ln}{o:Bool}{u e n:Nat}(I:u<4*w*v)(F:e<3)(C:y0 w v u e=some n)(B:u<n) :
  ((ofNat u,ofNat e):Ku)∈(EV w v (λa=>af (G a) r) o ln (D7 w v l G r (4*w*v))).map aS↔(Dy l u e=false/\q8 (ar (af (G u) r) (pu w u)) (eT (af (G u) r).1 e)=ln):=by
 have H:=J.sh;have g:∀c∈l,c.2.2≠0:=λc x=>(h.vk c x).k0;constructor
 .intro M;obtain⟨c,x,b⟩:=DJ.1 M;unfold EV at x;obtain⟨p,y,rfl⟩:=DJ.1 x;obtain⟨y,j⟩:=GH.1 y;have j:=of_decide_eq_true j;obtain⟨E,i,P,s,t,d,q⟩:=nk y;have A:=nO H E (iL _ _) s;unfold aS Qj at b;simp only[SC]at b;have z:p.1=u:=H4 b.1;have m:Qs w v p.1 p.2.1=e:=H4 b.2;rw[A]at m;subst z;rw[m]at q;refine⟨?_,q.symm.trans j⟩;rw[←Hz,←se g];intro D;rw[Q_ s t,m]at d;exact D d
 .rintro⟨K,O⟩;have f:eK (u%4) (eK (u%4) e)=e:=rx F;have d:Fq w v l G r u (eK (u%4) e)=some (u,n,ln):=by
   unfold Fq;rw[f,C];simp only;have N:JU w v l u (eK (u%4) e)=0:=by
    rw[Q_ (n:=n) (by rw[f];exact C) B,f];rcases Int.lt_or_le 0 (UQ l u e)with z|z
    .have:=(se (l:=l) g (u:=u) (e:=e)).1 a_
     simp_all
    .rcases Int.lt_or_le (UQ l u e) 0 with m|m
     .have:=(se (l:=l) g (u:=u) (e:=e)).1 a_
      simp_all
     .omega
   simp_all
  have y:((u,n,ln):Pc)∈D7 w v l G r (4*w*v):=by
   unfold D7;exact GG.2 ⟨u,CY.2 I,SD.2 ⟨eK (u%4) e,CY.2 (iL _ _),d⟩⟩
  refine DJ.2 ⟨Qj w v (λa=>af (G a) r) o (u,n,ln),?_,?_⟩
  .unfold EV
   grind
  .unfold aS Qj;simp only;rw[nO H I F C]
def qn{a b:Cl}(h:DX a b=false)(c:a≠b):DX b a=true:=by
 have h:=wq.1 h;refine yp.2 ?_
 grind
def Ig.fold{w v:Nat}(E:S3 w v){k:Int}(hk:0<=k){l:TD}{r:Mv}{G:TH}{L:List Es}(h:Ig w v k l r G L){ln:Ln}{s o:Bool}(V:∃p∈D7 w v l G r (4*w*v),p.2.2=ln)
  {l':TD} (m:l'.Perm (l++EV w v (λa=>af (G a) r) o ln (D7 w v l G r (4*w*v)))) (ap:Gx l') {L':List Es} (J:L'.Perm (Kk ln s o L)) (an:L'.Pairwise λa b=>DX a.1 b.1=false) :
  Ig w v (3*k+32) l' (gp ln s L r L.length) (QE w ln s G r) L':=by
 have D:=E.sh;obtain⟨p0,Y,M⟩:=V;have S:=Zl E h.co h.rk Y;rw[M]at S;have I:=S.2.2.2;have Q:∀c,c<4*w*v->(G c).1<8:=λc d=>(h.co.ok c d).1;have f:=Uv (l':=l') D h.co.g Q h.rk.1 S.1 (s:=s) λu e n hu U W C=>by
  have h1:=h.keys E (ln:=ln) (o:=o) hu U W C;rw[show Dy l' u e=decide (((ofNat u,ofNat e):Ku)∈l'.map aS)from rfl,E6,(m.map aS).mem_iff,IV,Fs,h1];rw[show(Dy l u e=true)=(((ofNat u,ofNat e):Ku)∈l.map aS)by unfold Dy;rw[E6]]
 have T:=Qg E f.1 f.2;have hN:0<4*w*v:=(Gp D).1;have al:gp ln s L r L.length=H8 ln s (af (G 0) r) (pu w 0):=by
  unfold gp H8;rw[XQ,h.co.z,jH h.rk.1];have ay:0∈(HM ln s L).flatMap Prod.snd↔eh ln (ar r (pu w 0))=s:=by
   have aE:∀x∈L,∀c∈x.2,c=0->x.1=ar r (pu w 0):=λx P c d O=>by
    have:=h.st.at' x P c d;simp only[O,h.co.z]at this;rw[jH h.rk.1]at this;exact this.symm
   constructor
   .intro hm;obtain⟨a,R,O⟩:=GG.1 hm;obtain⟨x,P,rfl⟩:=DJ.1 R
    grind
   .intro a3;have O:0∈L.flatMap Prod.snd:=h.st.pm.mem_iff.2 (CY.2 hN);obtain⟨x,P,ax⟩:=GG.1 O;refine GG.2 ⟨(ar (Do ln) x.1,x.2.reverse),DJ.2 ⟨x,GH.2 ⟨P,Gs ?_⟩,rfl⟩,by simpa using ax⟩
    grind
  simp_all
 have av:JM (λc=>ar (af (QE w ln s G r c) (gp ln s L r L.length)) (pu w c)) (range (4*w*v)) (Kk ln s o L):=h.st.fold λc d=>by
  have d:=CY.1 d;have hq:(pu w c).2.2<4:=(dS D d).2.2.2.2;rw[al,QF];unfold H8;split
  .rw[eH bR (lW _) hq]
  .rfl
 have A:=av.perm J;have N:∀c∈EV w v (λa=>af (G a) r) o ln (D7 w v l G r (4*w*v)),VK w v c:=λc d=>by
  unfold EV at d;obtain⟨p,m,rfl⟩:=DJ.1 d;obtain⟨m,_⟩:=GH.1 m;obtain⟨y,i,hi,t,K,a2,J⟩:=nk m;have H:=nO D y (iL _ _) t;have a0:(Qj w v (λa=>af (G a) r) o p).2.2=1∨(Qj w v (λa=>af (G a) r) o p).2.2=2:=by
   unfold Qj
   grind
  refine⟨⟨p.1,Qs w v p.1 p.2.1,p.2.1,rfl,rfl,y,by rw[H];exact iL _ _,by rw[H];exact t,K,a_,a_⟩,a_,a_⟩
 have X:((l++EV w v (λa=>af (G a) r) o ln (D7 w v l G r (4*w*v))).map aS).Nodup:=by
  rw[IV,p7];refine⟨sf h.so,?_,λa R b B e=>?_⟩
  .unfold EV;rw[Pj,List.Nodup,H0];refine(qcO.1 ((gl D (l:=l) (G:=G) (r:=r)).filter _)).imp λ{p q} Z e=>?_;obtain⟨m,hq,a1⟩:=Z;obtain⟨y,i,hi,t,_⟩:=nk (GH.1 m).1;obtain⟨ag,j,hj,ad,_⟩:=nk (GH.1 hq).1;simp only[Function.comp,aS,Qj,SC]at e;have e1:p.1=q.1:=H4 e.1;have e2:Qs w v p.1 p.2.1=Qs w v q.1 q.2.1:=H4 e.2;rw[nO D y (iL _ _) t,nO D ag (iL _ _) ad]at e2
   simp_all
  .subst e;obtain⟨c,d,rfl⟩:=DJ.1 B;obtain⟨⟨u,e,n,q1,q2,hu,U,W,C,_⟩,_⟩:=N c d;have hk:aS c=((ofNat u,ofNat e):Ku):=by unfold aS;rw[q1,q2]
   rw[hk]at R B;have:=((h.keys E hu U W C).1 B).1;unfold Dy at this
   simp_all
 refine⟨λc d=>?_,Rx ap ((m.map aS).nodup_iff.2 X),T,?_,A,?_⟩
 .rcases Fs.1 (m.mem_iff.1 d)with d|d
  .exact h.vk c d
  .exact N c d
 .unfold gp;split
  .exact aZ (eS h.rk I) a_
  .exact aZ h.rk a_
 .have h2:L'.Pairwise λa b=>a.1≠b.1:=H0.1 A.nd;exact(List.Pairwise.and an h2).imp λ{a b} F=>qn F.1 F.2
def nx{n0:Nat}{h:HL}{z:TR}{a:List Sk}(e:q9 h z 4 Du a)(d:FQ n0 h a):StL h z (a.map G2):=by
 refine⟨a.map λs=>(s.1,s.2.1),z0 e,c_,λi m b=>?_⟩;rw[FM]at b;cases c:a[i]? with
 |none=>rw[c]at b;cases b
 |some q=>
  rw[c]at b;cases b;exact⟨q.2.2,by rw[FM,c];rfl,(d.1 q (A9 c)).ls bv⟩
def Rg{L:List Es}(h:∀s∈L,s.2≠[]):L.length<=(L.flatMap Prod.snd).length:=by
 induction L with
 |nil=>simp
 |cons a L c=>
  rw[UY,HY,ZJ];have b:=w4.2 (h a KG)
  grind
def Rh{L:List Es}{a:Es}(h:a∈L):a.2.length<=(L.flatMap Prod.snd).length:=by
 induction L with
 |nil=>cases h
 |cons b L c=>
  grind
section
variable {w v:Nat} {k:Int} {l:TD} {r:Mv} {G:TH} {L:List Es}
def Ig.tot(h:Ig w v k l r G L):(L.flatMap Prod.snd).length=4*w*v:=by rw[h.st.pm.length_eq,UZ]
def Ig.lenL(h:Ig w v k l r G L):L.length<=4*w*v:=by have:=Rg h.st.ne;rw[h.tot]at this;exact this
def Ig.lenP(h:Ig w v k l r G L){a:Es}(b:a∈L):a.2.length<=4*w*v:=by have:=Rh b;rw[h.tot]at this;exact this
def Ig.pos(a:S3 w v)(h:Ig w v k l r G L):0<L.length:=by
 have c:=(Gp a.sh).1;have b:=h.tot
 grind
def Ig.idlt(h:Ig w v k l r G L){a:Es}(b:a∈L){c:Nat}(d:c∈a.2):c<4*w*v:=CY.1 (h.st.pm.mem_iff.1 (GG.2 ⟨a,b,d⟩))
def Ig.cell(e:S3 w v)(h:Ig w v k l r G L){a:Es}(b:a∈L):a.1.2.2<4/\-(k+15)<=a.1.1/\a.1.1<=k+15/\-(k+15)<=a.1.2.1/\a.1.2.1<=k+15:=by
 obtain⟨c,f⟩:=qb9 _ (h.st.ne a b);have d:ar (af (G c) r) (pu w c)=a.1:=h.st.at' a b c f;have g:=ur e h.co h.rk (h.idlt b f);rw[d]at g;have e:a.1.2.2<4:=by rw[←d];exact dR
 omega
end
def tabO(w n:Nat):Bool:=(range n).all λj=>(range j).all λi=>DX (pu w j) (pu w i)
def allO:∀w:Nat,1<=w->w<=3->tabO w 36=true:=by
 have a:((range 3).all λw=>tabO (w+1) 36)=true:=by decide +kernel
 intro w b c;have:=A_.1 a (w - 1) (CY.2 a_)
 simp_all
def bx{w v:Nat}(a:S3 w v){i j:Nat}(b:i<j)(g:j<4*w*v):DX (pu w j) (pu w i)=true:=by
 obtain⟨c,d,e,f⟩:=a.n;have:=A_.1 (allO w a.1 a.2.1) j (CY.2 a_)
 simp_all
def QP{w v:Nat}(m:S3 w v):Ig w v 0 [] CW (λ_=>CW) (wk w v):=by
 have k:=m.sh;have f:(wk w v).Pairwise λa b=>DX b.1 a.1=true:=by
  unfold wk;rw[H0];have o:(range (4*w*v)).Pairwise λi j=>i<j:=h8;exact(qcO.1 o).imp λ{a b} h=>bx m h.2.2 (CY.1 h.2.1)
 refine⟨λc d=>(by cases d),.nil,⟨λc e n _ _ _=>?_,rfl,λc _=>AO a_⟩,AO a_,⟨?_,λs l c d=>?_,λs k=>?_,?_⟩,f⟩
 .unfold E_ Dy;simp
 .rw[List.Nodup,H0];refine f.imp λ{a b} h e=>?_;have:=yp.1 h
  simp_all
 .obtain⟨i,g,rfl⟩:=DJ.1 l;have g:=CY.1 g;have d:c=i:=by simpa using d
  subst d;show ar (af CW CW) (pu w c)=pu w c;rw[iC m_,uF (dS k g).2.2.2.2]
 .obtain⟨i,g,rfl⟩:=DJ.1 k;simp
 .have:(wk w v).flatMap Prod.snd=range (4*w*v):=by
   unfold wk;rw[ek]
   simp_all
  rw[this]
def Wq{w v:Nat}(y:S3 w v){H:HL} :
  ∃x h' d,aF cc ac 21 [.i (.ofNat w),.i (.ofNat v)] (h9 aa H) [.i (.ofNat w),.i (.ofNat v),.v rA,.i 0,.i 0,.i 0,.v x] (h9 aa h')/\u_ H h'/\q9 h' x 4 Du d/\FQ H.length h' d/\d.map G2=wk w v:=by
 have O:=y.sh;obtain⟨U,V,W,X⟩:=y.n;have Y:=Gp O;have Q:=u21 (ls:=[.i (.ofNat w),.i (.ofNat v)]) (K:=λS h'=>∃x d,S=[.i (.ofNat w),.i (.ofNat v),.v rA,.i 0,.i 0,.i 0,.v x]/\u_ H h'/\q9 h' x 4 Du d/\FQ H.length h' d/\d.map G2=wk w v) (H:=H) rfl (by
  unfold f21;simp only[ub];refine e_ ?_;refine bK (g9:=HL×Value×List Sk) (4*w*v) (λj s=>[.i (ofNat j),.i (.ofNat w),.i (.ofNat v),.v rA,.i 0,.i 0,.i 0,.v s.2.1]) (λ_ s=>s.1)
   (λj s=>u_ H s.1/\FW H.length s.1 s.2.1 (.slice none 0 0) (.slice none 0 0) s.2.2 [] []/\s.2.2.map G2=(range j).map λi=>(pu w i,[i]))
   (j0:=0) (s0:=(H,.slice none 0 0,[])) rfl rfl (D6 _) ⟨.refl _,⟨.nil _ _ _ _,.nil _ _ _ _,.nil _ _ _ _,(λb z=>by cases z),.nil _ _⟩,rfl⟩ ?_
  rintro j ⟨h,x,d⟩ hj ⟨u,l,f⟩ L k;simp only at u l f ⊢;refine e_ ?_;rw[Zr a_];refine k_ ?_;rw[qF a_];refine k_ ?_;by_cases g:j<4*w*v
  case neg=>
   obtain rfl:j=4*w*v:=a_;rw[aN (B8 _)];refine e_ ?_;exact⟨x,d,rfl,u,l.os.ls dE,by simpa using l.pc,f⟩
  rw[aO g];refine e_ ?_;refine aj (lu y g) ?_;unfold Et;refine e_ ?_;have M:d.length=j:=by
   have:=congrArg List.length f;simpa using this
  have D:=u.len;have t:u_ h (h++[HO.o (.cells [.int .i64 (ofNat j)] 1 true)]):=⟨_,rfl⟩;have q:=l.pre t;refine q.os.Il (a:=((pu w j,.slice (some ⟨h.length,0,le 1⟩) 1 2,[j]):Sk)) dE tt rfl rfl rfl (by
   unfold bc;rw[EY a_,EY a_];rfl) ?_
  intro T I E C r J m;have P:hY H.length (h++[HO.o (.cells [.int .i64 (ofNat j)] 1 true)]) (.slice (some ⟨h.length,0,le 1⟩) 1 2) 1 l_ [j]:=.inr ⟨h.length,2,rfl,D,aK,.inr rfl⟩;have B:=q.apS (c:=pu w j) P (λp F b z A=>by
   have e:h.length=b:=by simpa[g_]using z
   have:=((l.pc.1 p F).g_ A).2;omega) E r m
  have G:u_ H I:=bS (u.trans t) λi R Z N=>r i R N λe=>by
   have:=(l.os.g_ e).1;omega
  refine e_ ?_;refine ab C ?_;refine k_ ?_;rw[aU a_];exact k (I,T,d++[_]) g ⟨G,B,by
   rw[IV,f,MT,IV];rfl⟩)
 grind
structure StH(w v:Nat)(n0:Nat)(h:HL)(k:Int)(z:Value)(r:Mv)(zs:Value)(l:TD)(G:TH)(Ms:List Sk):Prop where
 cr:q9 h z 3 mi l
 st:Ig w v k l r G (Ms.map G2)
 ss:q9 h zs 4 Du Ms
 pc:FQ n0 h Ms
def StH.pre{w v n0:Nat}{h h':HL}{k:Int}{z:TR}{r:Mv}{d:TR}{l:TD}{G:TH}{c:List Sk}(a:StH w v n0 h k z r d l G c)(b:u_ h h'):StH w v n0 h' k z r d l G c:=
 ⟨a.cr.pre b,a.st,a.ss.pre b,a.pc.ka λ_ _ _ _ e _=>b.get e⟩
def kB:Nat->Int
 |0=>0
 |n+1=>3*kB n+32
def Zj{j:Nat}(h:j<=5):0<=kB j/\kB j<=3872:=by
 have:j=0∨j=1∨j=2∨j=3∨j=4∨j=5:=a_;rcases this with rfl|rfl|rfl|rfl|rfl|rfl<;>simp[kB]
def M2{j:Nat}(h:j<=4):kB j<=1280:=by
 have:j=0∨j=1∨j=2∨j=3∨j=4:=a_;rcases this with rfl|rfl|rfl|rfl|rfl<;>simp[kB]
def Fy(a b:Int):Int:=if a<b then -1 else if b<a then 1 else 0
def US:TE->Int
 | []=>0
 |a :: l=>if a=0 then US l else a
def V2(p:Int×Int):Tn:=[.int .i64 p.1,.int .i64 p.2]
def Qw(p:Int×Int):(V2 p).length=2:=rfl
def Zs(a:Int):Cc 134 [.i a] [.b false]:=by
 refine q134 rfl ?_;unfold UD;simp only[ub];simp(disch:=omega)only[↓n9]
def dB(a b:Int):Cc 115 [.i a,.i b] [.i (Fy a b)]:=by
 refine q115 rfl ?_;unfold Uz;simp only[ub]
 repeat (first|simp(disch:=omega)only[↓n9]|refine aj (Zs a) ?_|refine aj (Zs b) ?_)
 unfold Fy;by_cases c:a<b
 .simp(disch:=omega)only[↓n9];simp[c]
 .by_cases d:b<a
  .simp(disch:=omega)only[↓n9];simp[c,d]
  .simp(disch:=omega)only[↓n9];simp[c,d]
def RQ{l:TE}{j:Nat}{a:Int}(b:l[j]?=some a):US (l.drop j)=if a=0 then US (l.drop (j+1))else a:=by
 rw[Pg (ai b)];have c:l[j]'(ai b)=a:=i_;rw[c];rfl
def v3{h:HL}{x:TR}{l:List (Int×Int)}(c:q9 h x 2 V2 l)(m:l.length<=1000) :
  aF cc ac 80 [.v x] (h9 aa h) [.i (US (l.map λp=>Fy p.1 p.2))] (h9 aa h):=by
 exact xK x80 (pP c.h_ t0) (by
  unfold f80;simp only[ub];refine e_ ?_;refine bw c ?_;refine mR l.length (λj=>US (l.map λp=>Fy p.1 p.2)=US ((l.map λp=>Fy p.1 p.2).drop j)) (j0:=0) rfl (D6 _) rfl ?_;intro j n f g d;refine e_ ?_;by_cases b:j<l.length
  .rw[aO b];refine e_ ?_;obtain⟨p,k⟩:=am b;refine aQ c rfl k ?_;unfold V2
   repeat (first|simp(disch:=omega)only[↓n9]|refine aj (dB p.1 p.2) ?_)
   rw[RQ (a:=Fy p.1 p.2) j_]at f;by_cases e:Fy p.1 p.2=0
   .rw[DZ e];refine e_ ?_;rw[aU a_]
    simp_all
   .rw[D0 e];refine e_ ?_
    simp_all
  .obtain rfl:j=l.length:=a_;rw[aN (B8 _)];refine e_ ?_;refine⟨?_,D'⟩;rw[f,h7 j_];rfl)
def NN{x y q x' y' q':Int}(b:0<=q/\q<=255)(a:0<=q'/\q'<=255):Cc 47 [.i x,.i y,.i q,.i x',.i y',.i q'] [.i (US [Fy y y',Fy x x',Fy q q'])]:=by
 refine q47 rfl ?_;unfold f47;simp only[ub];refine e_ ?_;refine ak (h':=[]++[HO.o (.cells [.int .i64 y,.int .i64 y',.int .i64 x,.int .i64 x',.int .i64 q,.int .i64 q'] 2 true)]) (v3 (l:=[(y,y'),(x,x'),(q,q')]) ?_ c_) ?_
 .exact qG (h:=[]) (e:=2) (enc:=V2) (l:=[(y,y'),(x,x'),(q,q')]) Qw (by rfl)
 .simp(disch:=omega)only[↓n9];rfl
def J'(a b:Cl):Int:=US [Fy a.2.1 b.2.1,Fy a.1 b.1,Fy (ofNat a.2.2) (ofNat b.2.2)]
def eF(a b:Nat):Fy (ofNat a) (ofNat b)=if a<b then -1 else if b<a then 1 else 0:=by
 unfold Fy
 simp_all
def r7(a b:Cl):0<J' a b↔DX a b=true:=by
 obtain⟨x,y,q⟩:=a;obtain⟨u,v,r⟩:=b;rw[yp];unfold J';simp only[US,eF];unfold Fy;omega
def z4(a b:Cl):J' a b<0↔DX b a=true:=by
 obtain⟨x,y,q⟩:=a;obtain⟨u,v,r⟩:=b;rw[yp];unfold J';simp only[US,eF];unfold Fy;omega
def vL{a b:Cl}(c:a.2.2<4)(d:b.2.2<4):Cc 47 (Et a++Et b) [.i (J' a b)]:=
 NN (x:=a.1) (y:=a.2.1) (q:=ofNat a.2.2) (x':=b.1) (y':=b.2.1) (q':=ofNat b.2.2) ⟨G9 _,i_⟩ ⟨G9 _,i_⟩
def Z2(w v c:Nat):Bool:=(range 3).all λe=>jC 58 (Et (pu w c)++[.i (ofNat e)]) (Et (EO (pu w c) e)++[.i 0])
def kC:∀w v:Nat,1<=w->w<=3->1<=v->v<=3->((range (4*w*v)).all λc=>Z2 w v c)=true:=by
 have a:((range 3).all λw=>(range 3).all λv=>(range (4*(w+1)*(v+1))).all λc=>Z2 (w+1) (v+1) c)=true:=d_;intro w v d e f g;have b:=A_.1 a (w - 1) (CY.2 a_);have h:=A_.1 b (v - 1) (CY.2 a_)
 simp_all
def ng_c{w v c e:Nat}(h:S3 w v)(a:c<4*w*v)(b:e<3):Cc 58 (Et (pu w c)++[.i (ofNat e)]) (Et (EO (pu w c) e)++[.i 0]):=by
 have:=A_.1 (kC w v h.1 h.2.1 h.2.2.1 h.2.2.2) c (CY.2 a);have:=A_.1 this e (CY.2 b);exact dN this rfl d_ rfl
def Ws{m:Mv}(j:DV 16384 m):Cc 85 (D5 m) [.b (decide (4<=m.1))]:=by
 obtain⟨t,x,y⟩:=m;obtain⟨c,d,f,g,h,i⟩:=j;simp only at c d f g h i;have a:=AB (t:=ofNat t) (x:=x) (y:=y) ⟨G9 _,i_⟩;have k:Z4 (ofNat t) x y=true:=by
  unfold Z4
  grind
 rw[k,qs rfl]at a;refine q85 rfl ?_;unfold f85;simp only[ub];simp only[D5];refine e_ ?_;refine aj a ?_;refine e_ ?_;by_cases e:4<=t
 .rw[G8 (show(4:Int)<=ofNat t by grind),Gs e]
  try trivial
 .rw[G7 (show ofNat t<(4:Int)by grind),GI e]
  try trivial
def R3{h:HL}{b e:Nat}{cs ds:Tn}{K:Tf}(a:h[b]?=some (.o (.cells cs e true)))(f:2<=cs.length)(c:ds=(cs.drop 0).take 2)(d:K ds) :
  P1.jw (Ec (kb b)) (@i' _ ⟨λx=>P1.n4 x (@i' _ ⟨P1.jw (Eu 0 x) (@i' _ ⟨λy=>P1.n4 y (@i' _ ⟨P1.jw (Eu 0 y) (@i' _ ⟨λz=>P1.n4 z (@i' _ ⟨P1.ma (.lg cc 2 z) h (@i' _ ⟨K⟩)⟩)⟩)⟩)⟩)⟩)⟩):=by
 refine ae (x:=kb b) rfl (ab (az b) (ae (x:=.pointer (some ⟨b,0+0,none⟩)) rfl (ab (by simp[aI,nc,aT,bE,bj,aP,aD]) ?_)));exact sE (p:=.pointer (some ⟨b,0+0,none⟩)) (bF a) a_ c d
def ZW{h:HL}{b e:Nat}{cs new:Tn}{K:Tb}{o:Nat}(c:h[b]?=some (.o (.cells cs e true)))(f:o+new.length<=cs.length)(d:K [] (h.set b (.o (.cells (cs.take o++new++cs.drop (o+new.length)) e true)))) :
  P1.heap (.st (.pointer (some ⟨b,o,none⟩)) new) h (@i' _ ⟨K⟩):=by
 have a:(Hp.st (.pointer (some ⟨b,o,none⟩)) new).run (s7 aa h) h.length=some ([.set b (.cells (cs.take o++new++cs.drop (o+new.length)) e true)],[]):=by
  show JD (.pointer (some ⟨b,o,none⟩)) new (s7 aa h) h.length=_;unfold JD;simp only;rw[bB c];simp only;unfold qa;rw[qs f];rfl
 exact bH a d
def R_{id s:Nat}(b:s<2){K:TR->Prop}(a:K (.pointer (some ⟨id,1+s,none⟩))) :
  P1.jw (Ec (kb id)) (@i' _ ⟨λx=>P1.n4 x (@i' _ ⟨P1.jw (Eu 1 x) (@i' _ ⟨λy=>P1.n4 y (@i' _ ⟨P1.jw (QX 2 1 y (ofNat s)) (@i' _ ⟨λq=>P1.n4 q (@i' _ ⟨K q⟩)⟩)⟩)⟩)⟩)⟩):=by
 have g:∀o,aI (.pointer (some ⟨id,o,none⟩))=true:=λo=>by simp[aI,nc,aT,bE,bj,aP,aD]
 obtain rfl|rfl:s=0∨s=1:=a_
 .exact ae (x:=kb id) rfl (ab (az id) (ae (x:=.pointer (some ⟨id,1,none⟩)) rfl (ab (g _) (ae (x:=.pointer (some ⟨id,1,none⟩)) rfl (ab (g _) a)))))
 .exact ae (x:=kb id) rfl (ab (az id) (ae (x:=.pointer (some ⟨id,1,none⟩)) rfl (ab (g _) (ae (x:=.pointer (some ⟨id,2,none⟩)) rfl (ab (g _) a)))))
def Ov{y:Nat}{h:HL}{n:Nat}{kv:TR}{ks:List K6}{is:TC}{vs:Tn}{ls:List (List K2)}(r:Sm y h n kv ks is vs ls)(k:K6){v:TR}(s:v = .agg ⟨Lq k⟩)(Inv:Te){b:Te}{A:(TG->HL->Prop)->Prop}{B:TR->(TG->HL->Prop)->Prop}
  (h1:∀l g,Inv l g->b l g) (o:k∉ks->∀a:TG->HL->Prop,(∀l g,Inv l g->a l g)->A a) (p:∀(i:Nat) id,ks[i]?=some k->is[i]?=some id->∀a:TG->HL->Prop,(∀l g,Inv l g->a l g)->B (kb id) a) :
  P1.ma (.fn (Gr cc 177 false (.pointer none) (.map (some n)) v false)) h (@i' _ ⟨λu=>P1.DF u (@i' _ ⟨λm w=>P1.n4 m (@i' _ ⟨P1.tf w (@i' _ ⟨P1.jw (lU 4 m (.pointer none)) (@i' _ ⟨λt=>P1.join (@i' _ ⟨b⟩) (@i' _ ⟨λj=>P1.cond t (@i' _ ⟨A j⟩) (@i' _ ⟨B m j⟩)⟩)⟩)⟩)⟩)⟩)⟩):=by
 refine r.look k s (λq=>?_) λi id d f=>?_
 .simp(disch:=omega)only[↓C3];refine ab rfl ?_
  try simp(disch:=omega)only[↓C3]
  refine ae (x:=true) rfl ?_;refine cI Inv h1 λa c=>?_;exact⟨λ_=>o q a c,λe=>(by cases e)⟩
 .simp(disch:=omega)only[↓C3];refine ab (az _) ?_
  try simp(disch:=omega)only[↓C3]
  refine ae (x:=false) rfl ?_;refine cI Inv h1 λa c=>?_;exact⟨λe=>(by cases e),λ_=>p i id d f a c⟩
def Ui{k:K6}{s:FR}:(DA k s).1.length<=s.1.length+1:=by
 unfold DA
 grind
def O3{w v:Nat}{l:TD}{P:TH}{i e:Nat}{s:FR}:(fE w v l P i e s).1.length<=s.1.length+1:=by
 unfold fE;have:=Ui (k:=r_ (ar (P i) (pu w i)) (ar (P i) (EO (pu w i) e))) (s:=s);simp only;split
 .exact this
 .split
  .exact this
  .split
   .exact this
   .exact this
def nE{w v:Nat}{l:TD}{P:TH}{i:Nat}:∀(L:TC) (s:FR),(L.foldl (λs e=>fE w v l P i e s) s).1.length<=s.1.length+L.length
 | [],s=>c_
 |e :: L,s=>by
  have a:=nE (w:=w) (v:=v) (l:=l) (P:=P) (i:=i) L (fE w v l P i e s);have b:=O3 (w:=w) (v:=v) (l:=l) (P:=P) (i:=i) (e:=e) (s:=s)
  grind
def py{w v:Nat}{l:TD}{P:TH}:∀n,(Ee w v l P n).1.length<=3*n
 |0=>by simp[Ee]
 |n+1=>by
  have a:=py (w:=w) (v:=v) (l:=l) (P:=P) n;have b:=nE (w:=w) (v:=v) (l:=l) (P:=P) (i:=n) (range 3) (Ee w v l P n);have c:Ee w v l P (n+1)=(range 3).foldl (λs e=>fE w v l P n e s) (Ee w v l P n):=by
   unfold Ee;rw[MT (n:=n),qct];rfl
  grind
def BH{k:K6}{s:FR}{m:Nat}(h:∀q∈s.2,q.length<=m):∀q∈(DA k s).2,q.length<=m:=by
 unfold DA
 grind
def Bk{s:FR}{m j:Nat}{p:K2}(h:∀q∈s.2,q.length<=m):∀q∈(GF j p s).2,q.length<=m+1:=by
 intro q a;rcases kA a with a|rfl
 .grind
 grind
def O4{w v:Nat}{l:TD}{P:TH}{i e m:Nat}{s:FR}(h:∀q∈s.2,q.length<=m):∀q∈(fE w v l P i e s).2,q.length<=m+1:=by
 have a:=BH (k:=r_ (ar (P i) (pu w i)) (ar (P i) (EO (pu w i) e))) h;have b:∀q∈(DA (r_ (ar (P i) (pu w i)) (ar (P i) (EO (pu w i) e))) s).2,q.length<=m+1:=λq c=>Nat.le_succ_of_le (a q c);unfold fE;simp only;split
 .exact b
 .split
  .exact b
  .split
   .exact Bk a
   .exact Bk a
def nG{w v:Nat}{l:TD}{P:TH}{i:Nat}:∀(L:TC) (s:FR) (m:Nat),(∀q∈s.2,q.length<=m)->∀q∈(L.foldl (λs e=>fE w v l P i e s) s).2,q.length<=m+L.length
 | [],s,m,h=>by simpa using h
 |e :: L,s,m,h=>by
  have a:=nG (w:=w) (v:=v) (l:=l) (P:=P) (i:=i) L (fE w v l P i e s) (m+1) (O4 h)
  grind
def ve{w v:Nat}{l:TD}{P:TH}:∀n,∀q∈(Ee w v l P n).2,q.length<=3*n
 |0=>by simp[Ee]
 |n+1=>by
  have b:Ee w v l P (n+1)=(range 3).foldl (λs e=>fE w v l P n e s) (Ee w v l P n):=by
   unfold Ee;rw[MT (n:=n),qct];rfl
  intro q a;rw[b]at a;have:=nG (range 3) _ _ (ve (w:=w) (v:=v) (l:=l) (P:=P) n) q a
  grind
structure SeX(h0:HL)(c:XC)(w v:Nat)(l:TD)(G:TH)(r:Mv)(xi:Value):Prop where
 h3:S3 w v
 cw:c.w=w/\c.v=v/\c.r=r
 xc:q9 h0 c.xc 3 mi l
 pat:Pd w v l
 gok:A2 w v l G
 rok:DV 4000 r
 nok:∀id e,id<4*w*v->e<3->K7 (ar (af (G id) r) (EO (pu w id) e))=true
 im:q9 h0 xi 3 bW (z_ w v G r)
 pl:∀H,q9 H c.xc 3 mi l->∃lx h',aF cc ac 81 [.i (ofNat w),.i (ofNat v),.v c.xc,.i (ofNat r.1),.i r.2.1,.i r.2.2] (h9 aa H) [.v lx,.i 0] (h9 aa h')/\u_ H h'/\q9 h' lx 3 sd (EW w v G r)
structure SeS(h0:HL)(b mm n1:Nat)(c:XC)(lx:Value)(w v:Nat)(G:TH)(r:Mv)(U:List Lit)(pn:Ti)(F:List B5)(C:(Nat->Bool)->Prop)(A:FR)(kv:Value)(g:HL):Prop where
 ex:∃n W is vs,Pi g b c n U W pn F/\(∀V,(n=false/\Rs U W V)↔C V)/\Sm n1 g mm kv A.1 is vs A.2
 pl:q9 g lx 3 sd (EW w v G r)
 ln:n1<=g.length
 fr:∀(j:Nat) o,h0[j]?=some o->j≠b->g_ c.va≠some j->g[j]?=some o
def X4{h:HL}{b:Nat}{c:XC}{n:Bool}{U:List Lit}{W:TE}{pn:Ti}{F:List B5}(Z:Pi h b c n U W pn F){w v:Nat}{l:TD}{G:TH}{r:Mv}{xi:TR}(S:SeX h c w v l G r xi)(el:∀j,g_ c.va=some j->g_ c.xc≠some j)(es:∀j,g_ c.va=some j->g_ xi≠some j)
  (d5:∀i n,i<4*w*v->(∃e,e<3/\y0 w v i e=some n/\cP l (ofNat (min i n)) (ofNat e)≠0)->(DC pn i n).1<U.length) :
  ∃kv h' mm n1,aF cc ac 48 [.v (kb b),.v xi] (h9 aa h) [.v kv,.i 0] (h9 aa h')/\h.length<=n1/\∃lx,SeS h b mm n1 c lx w v G r U pn F (λV=>(n=false/\Rs U W V)/\∀i e,i<4*w*v->e<3->Fx pn w v l (λc=>af (G c) r) V i e) (Ee w v l (λc=>af (G c) r) (4*w*v)) kv h':=by
 have fp:=x48 (ls:=[.v (kb b),.v xi]) (K:=λrs h'=>∃kv mm n1,rs=[.v kv,.i 0]/\h.length<=n1/\∃lx,SeS h b mm n1 c lx w v G r U pn F (λV=>(n=false/\Rs U W V)/\∀i e,i<4*w*v->e<3->Fx pn w v l (λc=>af (G c) r) V i e) (Ee w v l (λc=>af (G c) r) (4*w*v)) kv h') (H:=h) (pP (az _) (pP S.im.h_ t0)) (by
  unfold f48;simp only[ub];refine e_ ?_;obtain⟨hw,hv,hr⟩:=S.cw;obtain⟨g1,e1⟩ : ∃g1,g1=h++[HO.o (.map [] 0)]:=⟨_,rfl⟩;rw[←e1];have k1:∀(j:Nat) o,h[j]?=some o->g1[j]?=some o:=λj o p=>i_;have l1:g1.length=h.length+1:=by rw[e1];simp
  have m1:g1[h.length]?=some (.o (.map [] 0)):=by rw[e1];exact aK
  refine bz (ds:=[.int .i64 (ofNat c.w),.int .i64 (ofNat c.v),c.xc]) (k1 _ _ Z.hb) (by simp[ah]) rfl ?_;refine e_ ?_;refine ab S.xc.h_ ?_;refine k_ ?_;refine bz (ds:=[.int .u8 (ofNat c.r.1),.int .i64 c.r.2.1,.int .i64 c.r.2.2]) (k1 _ _ Z.hb) (by simp[ah]) rfl ?_;refine e_ ?_;obtain⟨lx,Q,cp,be,cn⟩:=S.pl g1 (S.xc.ka λj o p _=>k1 j o p);rw[←hw,←hv,←hr]at cp;refine ak cp ?_;refine e_ ?_;have l2:g1.length<=Q.length:=be.len;have k2:∀(j:Nat) o,h[j]?=some o->Q[j]?=some o:=λj o p=>be.get (k1 j o p);have d6:Pi Q b c n U W pn F:=⟨k2 _ _ Z.hb,Z.up.ka λj o p _=>k2 j o p,Z.va.ka λj o p _=>k2 j o p,Z.fo.ka λj o p _=>k2 j o p,Z.pr.ka λo ho=>k2 _ o ho,Z.fr,Z.ok⟩;have hN:(z_ w v G r).length=4*w*v:=by simp[z_]
  refine bw (S.im.ka λj o p _=>k2 j o p) ?_;rw[hN];have ec:SeS h b h.length Q.length c lx w v G r U pn F (λV=>(n=false/\Rs U W V)/\∀i e,i<0->e<3->Fx pn w v l (λc=>af (G c) r) V i e) (Ee w v l (λc=>af (G c) r) 0) (.slice none 0 0) Q:=
   ⟨⟨n,W,[],[],d6,λV=>⟨λq=>⟨q,λi e hi=>a_⟩,λq=>q.1⟩,TV (be.get m1)⟩,cn,B8 _,λj o p _ _=>k2 j o p⟩
  refine aH (m:=4*w*v) (λm ls g=>∃j kv,ls=[.v kv,.i (ofNat j)]/\m=4*w*v - j/\j<=4*w*v/\SeS h b h.length Q.length c lx w v G r U pn F (λV=>(n=false/\Rs U W V)/\∀i e,i<j->e<3->Fx pn w v l (λc=>af (G c) r) V i e) (Ee w v l (λc=>af (G c) r) j) kv g) ⟨0,_,rfl,rfl,D6 _,ec⟩ ?_;rintro m ls g ⟨j,kv,rfl,rfl,p,hg⟩ eE cr;refine Ei ?_;refine e_ ?_;by_cases E:j<4*w*v
  case neg=>
   obtain rfl:j=4*w*v:=a_;rw[aN (B8 _)];refine e_ ?_
   grind
  rw[aO E];refine e_ ?_;obtain⟨A0,bk⟩ : ∃A0,A0=Ee w v l (λc=>af (G c) r) j:=⟨_,rfl⟩;obtain⟨C0,dl⟩ : ∃C0:(Nat->Bool)->Prop,C0=λV=>(n=false/\Rs U W V)/\∀i e,i<j->e<3->Fx pn w v l (λc=>af (G c) r) V i e:=⟨_,rfl⟩;rw[←bk,←dl]at hg;have hs:=S.h3.sh;have d3:∀ {C:(Nat->Bool)->Prop} {A:FR} {kv:TR} {g:HL},SeS h b h.length Q.length c lx w v G r U pn F C A kv g->∃n,g[b]?=some (.o (.cells (ah c n) 15 true)):=λq=>by
   obtain⟨⟨n,W,is,vs,q1,_⟩,_⟩:=q;exact⟨n,q1.hb⟩
  have ca:∀ {C:(Nat->Bool)->Prop} {A:FR} {kv:TR} {g:HL},SeS h b h.length Q.length c lx w v G r U pn F C A kv g->q9 g c.xc 3 mi l/\q9 g xi 3 bW (z_ w v G r):=λ{C A kv g} q=>by
   refine⟨S.xc.ka λj o p N=>q.fr j o p (λe=>?_) λe=>el j e N,S.im.ka λj o p N=>q.fr j o p (λe=>?_) λe=>es j e N⟩
   .obtain⟨Y,ad,L⟩:=wI S.xc N
    grind
   .obtain⟨Y,ad,L⟩:=wI S.im N
    grind
  obtain⟨n1,dT⟩:=d3 hg;refine R3 (ds:=[.int .i64 (ofNat c.w),.int .i64 (ofNat c.v)]) dT (by simp[ah]) rfl ?_;refine e_ ?_;rw[hw,hv];refine aj (J5 (sW w v hs.1 hs.2.1 hs.2.2.1 hs.2.2.2) E) ?_;unfold vE;refine e_ ?_;refine aH (m:=3) (λm ls g=>∃e kv,ls=[.v kv,.i (ofNat e)]/\m=3 - e/\e<=3/\SeS h b h.length Q.length c lx w v G r U pn F (λV=>C0 V/\∀e',e'<e->Fx pn w v l (λc=>af (G c) r) V j e') ((range e).foldl (λs e=>fE w v l (λc=>af (G c) r) j e s) A0) kv g) ⟨0,kv,rfl,rfl,m_,?_⟩ ?_
  case refine_1=>
   simp_all
  rintro m2 fs g4 ⟨e,ay,rfl,rfl,he,bn⟩ ev bP;refine Ei ?_;refine e_ ?_;by_cases an:e<3
  case neg=>
   obtain rfl:e=3:=a_;rw[v_ m_];refine e_ ?_;rw[aU (by have:=S.h3.n;omega)];refine cr _ _ _ a_ ⟨j+1,ay,rfl,rfl,E,?_⟩;have eL:Ee w v l (λc=>af (G c) r) (j+1)=(range 3).foldl (λs e=>fE w v l (λc=>af (G c) r) j e s) A0:=by
    rw[bk];unfold Ee;rw[MT (n:=j),qct];rfl
   grind
  rw[ua (show ofNat e<3 by grind)];simp(disch:=omega)only[↓C3];obtain⟨t,bm⟩ : ∃t,t=(range e).foldl (λs e=>fE w v l (λc=>af (G c) r) j e s) A0:=⟨_,rfl⟩;obtain⟨C1,dm⟩ : ∃C1:(Nat->Bool)->Prop,C1=λV=>C0 V/\∀e',e'<e->Fx pn w v l (λc=>af (G c) r) V j e':=⟨_,rfl⟩;rw[←bm,←dm]at bn;refine cI (λls g'=>∃kv',ls=[.v kv']/\SeS h b h.length Q.length c lx w v G r U pn F (λV=>C1 V/\Fx pn w v l (λc=>af (G c) r) V j e) (fE w v l (λc=>af (G c) r) j e t) kv' g') ?_ ?_
  case refine_1=>
   rintro ls g' ⟨kv',rfl,q⟩;refine e_ ?_;rw[KB i_ i_];refine bP _ _ _ ?_ ⟨e+1,kv',rfl,rfl,an,?_⟩
   .omega
   rw[MT (n:=e),qct,←bm]
   grind
  intro jj bt;have ng:=ng_c S.h3 E an;simp only[Et,pu,EQ,EG]at ng;refine aj ng ?_;simp(disch:=omega)only[↓C3];obtain⟨eD,c8⟩:=ca bn;refine aQ c8 rfl (cv E) ?_;rw[show bW (ar (af (G j) r) (pu w j))=[.int .i64 (ar (af (G j) r) (pu w j)).1,.int .i64 (ar (af (G j) r) (pu w j)).2.1,.int .u8 (ofNat (ar (af (G j) r) (pu w j)).2.2)]from rfl];simp(disch:=omega)only[↓C3];refine aQ bn.pl rfl (kY E) ?_;have dk:DV 16384 (af (G j) r):=aZ (eS (S.gok.ok j E) S.rok) a_;rw[show sd (af (G j) r)=[.int .u8 (ofNat (af (G j) r).1),.int .i64 (af (G j) r).2.1,.int .i64 (af (G j) r).2.2]from rfl];simp(disch:=omega)only[↓C3];have d9:=dS hs E;have fd:=Jn (c:=pu w j) (e:=e) d9.2.2.2.2 an;have fn:(pu w j).1<=100/\(pu w j).2.1<=100/\0<=(pu w j).1/\0<=(pu w j).2.1:=by
   have b1:=S.h3.n;have d1:j / 4%w<=j / 4:=qdH _ _;have d2:j / 4 / w<=j / 4:=qc2 _ _;refine⟨qdv.2 (show j / 4%w<=100 by omega),qdv.2 (show j / 4 / w<=100 by omega),G9 _,G9 _⟩
  have mv:=RI dk (c:=EO (pu w j) e) a_;rw[qs (S.nok j e E an)]at mv;simp only[pu]at mv;simp only[Et,D5,EQ,EG]at mv;refine aj mv ?_;simp(disch:=omega)only[↓C3];obtain⟨f,ea⟩ : ∃f,f=ar (af (G j) r) (pu w j):=⟨_,rfl⟩;obtain⟨k,eb⟩ : ∃k,k=ar (af (G j) r) (EO (pu w j) e):=⟨_,rfl⟩;have d7:f.2.2<4:=by rw[ea];exact dR
  have d8:k.2.2<4:=by rw[eb];exact dR
  have dn:ar (af (G j) r) (ofNat (j / 4%w),ofNat (j / 4 / w),j%4)=f:=ea.symm;have dr:ar (af (G j) r) (EO (ofNat (j / 4%w),ofNat (j / 4 / w),j%4) e)=k:=eb.symm;simp only[pu,dn,dr];have cT:=vL d7 d8;simp only[Et,EQ,EG]at cT;refine aj cT ?_;simp(disch:=omega)only[↓C3];have ci:=r7 f k;have dj:∀K:Bool->Prop,K (DX f k)->P1.cmp .gtr (J' f k) 0 (@i' _ ⟨K⟩):=λK hK=>by
   cases av:DX f k with
   |true=>
    rw[av]at hK ci;rw[DI (ci.2 rfl)];exact hK
   |false=>
    rw[av]at hK ci;rw[CX j_];exact hK
  refine dj _ ?_;refine cI (λls g'=>ls=[.i (if DX f k then 1 else 0),.i (r_ f k).1.1,.i (r_ f k).1.2.1,.i (ofNat (r_ f k).1.2.2),.i (r_ f k).2.1,.i (r_ f k).2.2.1,.i (ofNat (r_ f k).2.2.2)]/\g'=g4) ?_ ?_
  case refine_2=>
   intro jk cl;unfold r_ at cl;cases av:DX f k with
   |true=>
    rw[av]at cl;simp(disch:=omega)only[↓C3]
    simp_all
   |false=>
    rw[av]at cl;simp(disch:=omega)only[↓C3]
    simp_all
  rintro ls g' ⟨rfl,rfl⟩;simp(disch:=omega)only[↓C3];obtain⟨⟨n2,W2,is,vs,q1,q2,q3⟩,q4,q5,q6⟩:=bn;have e0:t.1.length<=1000000:=by
   have a1:=py (w:=w) (v:=v) (l:=l) (P:=λc=>af (G c) r) j;have a2:=nE (w:=w) (v:=v) (l:=l) (P:=λc=>af (G c) r) (i:=j) (range e) A0;rw[←bk]at a1;rw[←bm,UZ]at a2;have:=S.h3.n;omega
  refine Ov q3 (r_ f k) rfl (λls X=>∃id I T ag,ls=[.v (kb id),.v I]/\Sm Q.length X h.length I (DA (r_ f k) t).1 T ag (DA (r_ f k) t).2/\T[(DA (r_ f k) t).1.idxOf (r_ f k)]?=some id/\(DA (r_ f k) t).1[(DA (r_ f k) t).1.idxOf (r_ f k)]?=some (r_ f k)/\Pi X b c n2 U W2 pn F/\q9 X lx 3 sd (EW w v G r)/\Q.length<=X.length/\∀(j:Nat) o,h[j]?=some o->j≠b->g_ c.va≠some j->X[j]?=some o) ?_ ?_ ?_
  case refine_3=>
   intro i id bs eX et b5
   try simp(disch:=omega)only[↓C3]
   have d4:r_ f k∈t.1:=A9 bs;have ct:DA (r_ f k) t=t:=by
    unfold DA;rw[qs d4]
   have b4:t.1.idxOf (r_ f k)=i:=by
    have e1:=Gm (ai bs);rw[bs]at e1;rw[EI e1];exact q3.nd.idxOf_getElem i (ai bs)
   grind
  case refine_2=>
   intro hn et b5
   try simp(disch:=omega)only[↓C3]
   obtain⟨gA,eA⟩ : ∃gA,gA=g'++[HO.o (.cells [.slice none 0 0,.slice none 0 0,.slice none 0 0] 3 true)]:=⟨_,rfl⟩;rw[←eA];have kA:∀(i:Nat) o,g'[i]?=some o->gA[i]?=some o:=λi o hi=>i_;have lA:gA.length=g'.length+1:=by rw[eA];simp
   have nA:gA[g'.length]?=some (.o (.cells [.slice none 0 0,.slice none 0 0,.slice none 0 0] 3 true)):=by rw[eA];exact aK
   have fb:h.length<g'.length:=a_;refine q3.put_key hn rfl (λo ho=>kA _ o ho) ?_;intro o hm;obtain⟨gB,eB⟩ : ∃gB,gB=gA.set h.length o:=⟨_,rfl⟩;rw[←eB]at hm ⊢;have kB:∀(i:Nat) o,i≠h.length->gA[i]?=some o->gB[i]?=some o:=λi o hi ho=>i_;have lB:gB.length=g'.length+1:=i_
   try simp(disch:=omega)only[↓C3]
   have b7:hY Q.length gB ay 1 D4 (is.map kb):=q3.kl.C2 λj Y _ p=>kB j _ (q3.HW p) (kA j _ p);refine b7.Il (a:=kb g'.length) bh a_ rfl rfl rfl (by unfold bc;rw[EY (by rw[GY,q3.il];omega),EY (by rw[GY,q3.il];omega)];rfl) ?_;intro I gC eM dB kC lC _;have cx:∀(j:Nat) o,gB[j]?=some o->g_ ay≠some j->gC[j]?=some o:=λj o p N=>kC j o p N
   try simp(disch:=omega)only[↓C3]
   refine ab dB ?_
   try simp(disch:=omega)only[↓C3]
   have c2:∀ {j e:Nat} {Y:Tn} {ad:Bool},gB[j]?=some (.o (.cells Y e ad))->e≠1->g_ ay≠some j:=λ{j e Y ad} p he e2=>by
    obtain⟨aE,L⟩:=b7.wid e2
    grind
   have ct:DA (r_ f k) t=(t.1++[r_ f k],t.2++[[],[],[]]):=by
    unfold DA;rw[rv hn]
   have b4:(t.1++[r_ f k]).idxOf (r_ f k)=t.1.length:=by
    grind
   have D:∀(j:Nat) o,g'[j]?=some o->j≠h.length->g_ ay≠some j->gC[j]?=some o:=λj o p h1 L=>cx j o (kB j o h1 (kA j o p)) L;have bx:∀ {j e:Nat} {Y:Tn} {ad:Bool},g'[j]?=some (.o (.cells Y e ad))->e≠1->g_ ay≠some j:=λ{j e Y ad} p he e2=>by
    obtain⟨aE,L⟩:=q3.kl.wid e2
    grind
   have c1:∀j,g_ ay=some j->Q.length<=j:=λj e=>(q3.kl.g_ e).1;have cf:=q3.new (h':=gC) hn (id:=g'.length) (kv':=I) (B8 _) q5 (cx _ _ (kB _ _ a_ nA) (c2 (kB _ _ a_ nA) m_)) (hm.ka _ λo2 cq=>cx _ o2 cq λe=>by
    grind) i_ λj o2 p _ h1 L=>D j o2 p h1 L
   have bb:c.pr<h.length:=by
    obtain⟨ps,p1,_⟩:=Z.pr;exact p1.lt
   refine b5 _ _ ⟨g'.length,I,is++[g'.length],_,rfl,by rw[ct];exact cf,?_,?_,⟨D _ _ q1.hb (q3.HW q1.hb) (bx q1.hb m_),q1.up.C2 λj Y _ p=>D j _ p (q3.HW p) (bx p m_),q1.va.C2 λj Y N p=>D j _ p (q3.HW p) λe=>?_,q1.fo.C2 λj Y _ p=>D j _ p (q3.HW p) (bx p m_),q1.pr.ka λo2 cq=>D _ o2 cq a_ λe=>?_,q1.fr,q1.ok⟩,q4.ka λj o2 p N=>?_,a_,λj o2 p h1 L=>D j o2 (q6 j o2 p h1 L) i_ λe=>?_⟩
   .rw[ct];show(is++[g'.length])[(t.1++[r_ f k]).idxOf (r_ f k)]?=_;rw[b4,←q3.il,Iz (B8 _),SA];rfl
   .grind
   .have a1:=c1 j e;have a2:=(Z.va.g_ N).2;omega
   .grind
   .obtain⟨Y,ad,L⟩:=wI q4 N;exact D j o2 p (q3.HW L) (bx L m_)
   grind
  rintro ls X ⟨id,I,T,ag,rfl,s5,a6,eZ,p5,cm,n5,f5⟩;simp(disch:=omega)only[↓C3];refine R3 (ds:=[.int .i64 (ofNat c.w),.int .i64 (ofNat c.v)]) p5.hb (by simp[ah]) rfl ?_;simp(disch:=omega)only[↓C3];rw[hw,hv];have a0:=f2 hs E an;have d:fE w v l (λc=>af (G c) r) j e t=(match y0 w v j e with
    |none=>DA (r_ f k) t
    |some n=>if n<j then DA (r_ f k) t else
     if cP l (ofNat (min j n)) (ofNat e)=0 then GF (3*(DA (r_ f k) t).1.idxOf (r_ f k)) (if DX f k then(n,j)else(j,n)) (DA (r_ f k) t)
     else GF (3*(DA (r_ f k) t).1.idxOf (r_ f k)+(if DX f k then 2 else 1)) (j,n) (DA (r_ f k) t)):=by
   unfold fE;rw[ea,eb]
   try rfl
  have cd:(∀V,Fx pn w v l (λc=>af (G c) r) V j e)->fE w v l (λc=>af (G c) r) j e t=DA (r_ f k) t->jj [.v I] X:=λh1 L=>bt _ _ ⟨I,rfl,⟨⟨n2,W2,T,ag,p5,λV=>(q2 V).trans ⟨λq=>⟨q,h1 V⟩,λq=>q.1⟩,by rw[L];exact s5⟩,cm,n5,f5⟩⟩;have a7:∀q∈(DA (r_ f k) t).2,q.length<=1000000:=by
   have b1:=ve (w:=w) (v:=v) (l:=l) (P:=λc=>af (G c) r) j;rw[←bk]at b1;have b2:=nG (w:=w) (v:=v) (l:=l) (P:=λc=>af (G c) r) (i:=j) (range e) A0 _ b1;rw[←bm,UZ]at b2;intro q hq;have b3:=BH b2 q hq;have:=S.h3.n;omega
  unfold wP at a0;cases a8:y0 w v j e with
  |none=>
   rw[a8]at a0 d;refine aj a0 ?_;simp(disch:=omega)only[↓C3]
   try rw[D0 m_]
   try simp(disch:=omega)only[↓C3]
   exact cd (λV n' c4=>j_) d
  |some nn=>
  rw[a8]at a0 d;simp only at a0 d;refine aj a0 ?_;simp(disch:=omega)only[↓C3]
  try rw[DZ rfl]
  try simp(disch:=omega)only[↓C3]
  by_cases co:nn<j
  .rw[aO co];simp(disch:=omega)only[↓C3];rw[qs co]at d;exact cd (λV n' c4 hc=>j_) d
  rw[aN a_];simp(disch:=omega)only[↓C3];rw[rv co]at d;obtain⟨b9,_⟩:=ca (C:=C1) (A:=DA (r_ f k) t) (kv:=I) (g:=X) ⟨⟨n2,W2,T,ag,p5,q2,s5⟩,cm,n5,f5⟩;refine bz (ds:=[.int .i64 (ofNat c.w),.int .i64 (ofNat c.v),c.xc]) p5.hb (by simp[ah]) rfl ?_;simp(disch:=omega)only[↓C3];refine ab b9.h_ ?_
  try simp(disch:=omega)only[↓C3]
  rw[hw,hv];have c5:nn<=1000:=by
   have b1:=(cQ hs E an a8).1;have b2:=S.h3.n;omega
  refine ak (hH S.pat b9 E an a8 c5) ?_;simp(disch:=omega)only[↓C3];obtain⟨ki,ek⟩ : ∃ki,ki=cP l (ofNat (min j nn)) (ofNat e):=⟨_,rfl⟩;rw[←ek]at d;rw[←ek];obtain⟨a1,x,y,z,a2,a3,a4,a5⟩:=s5.bl _ id a6;obtain⟨ix,dA⟩ : ∃ix,ix=(DA (r_ f k) t).1.idxOf (r_ f k):=⟨_,rfl⟩;rw[←dA]at a2 a3 a4 d a6;have ce:∀(s:Nat) (u u':TR) (B:List K2) (pr:K2) (J:HL),s<3->ag[3*ix+s]?=some u->(DA (r_ f k) t).2[3*ix+s]?=some B->hY Q.length J u' 2 Fj (B++[pr])->(∀(j:Nat) o,X[j]?=some o->g_ u≠some j->J[j]?=some o)->X.length<=J.length->(g_ u'=g_ u∨∃j,g_ u'=some j/\X.length<=j)->∀al,al=[x,y,z].set s u'->
    Sm Q.length (J.set id (.o (.cells al 3 true))) h.length I (GF (3*ix+s) pr (DA (r_ f k) t)).1 T (ag.set (3*ix+s) u') (GF (3*ix+s) pr (DA (r_ f k) t)).2/\Pi (J.set id (.o (.cells al 3 true))) b c n2 U W2 pn F/\q9 (J.set id (.o (.cells al 3 true))) lx 3 sd (EW w v G r)/\Q.length<=(J.set id (.o (.cells al 3 true))).length/\∀(j:Nat) o,h[j]?=some o->j≠b->g_ c.va≠some j->(J.set id (.o (.cells al 3 true)))[j]?=some o:=by
   intro s u u' B pr J ef hu c3 dC c0 ez d0 al ck;have eV:(DA (r_ f k) t).2.getD (3*ix+s) []=B:=j_;have a9:=s5.ow _ u B hu c3;have c6:∀j,g_ u=some j->Q.length<=j:=λj e=>(a9.g_ e).1;have D:∀(j:Nat) o,j<Q.length->X[j]?=some o->(J.set id (.o (.cells al 3 true)))[j]?=some o:=λj o h1 L=>de (c0 j o L λe=>by have:=c6 j e;omega) a_;have ex:h.length<Q.length:=a_;have bb:c.pr<h.length:=by
    obtain⟨ps,p1,_⟩:=Z.pr;exact p1.lt
   refine⟨?_,⟨D _ _ (by have:=ai Z.hb;omega) p5.hb,p5.up.ka λj o p N=>D j o (by have:=(Z.up.g_ N).2;omega) p,p5.va.ka λj o p N=>D j o (by have:=(Z.va.g_ N).2;omega) p,p5.fo.ka λj o p N=>D j o (by have:=(Z.fo.g_ N).2;omega) p,p5.pr.ka λo ho=>D _ o a_ ho,p5.fr,p5.ok⟩,cm.ka λj o p N=>D j o (Co cn N) p,i_,λj o p h1 L=>D j o i_ (f5 j o p h1 L)⟩;have:=s5.put a6 ef hu c3 dC c0 d0 a5 ck;unfold GF
   grind
  by_cases ax:ki=0
  .rw[t_ ax];simp(disch:=omega)only[↓C3];rw[qs ax]at d;have bd:∀V,Fx pn w v l (λc=>af (G c) r) V j e:=λV n' c4 _ hc=>by
    grind
   obtain⟨B,M⟩:=am (l:=(DA (r_ f k) t).2) (i:=3*ix) (by rw[s5.ll];exact ai a2);have bC:=s5.ow _ x B a2 M;have fa:B.length<=1000000:=a7 B (A9 M);have cy:∀(pr:K2) (K:Tb),(∀x' J,hY Q.length J x' 2 Fj (B++[pr])->aI x'=true->(∀(j:Nat) o,X[j]?=some o->g_ x≠some j->J[j]?=some o)->X.length<=J.length->(g_ x'=g_ x∨∃j,g_ x'=some j/\X.length<=j)->K [x'] J)->
     P1.heap (.ap cc 2 16 x (.slice (some ⟨X.length,0,some 12⟩) 1 2)) (X++[.o (.cells [.int .i64 (ofNat pr.1),.int .i64 (ofNat pr.2)] 2 true)]) (@i' _ ⟨K⟩):=λpr K hK=>
    bC.Il (a:=pr) (λ_=>rfl) a_ rfl rfl rfl (by unfold bc;rw[EY a_,EY a_];rfl) hK
   have b0:∀ {J:HL},(∀(j:Nat) o,X[j]?=some o->g_ x≠some j->J[j]?=some o)->J[id]?=some (.o (.cells [x,y,z] 3 true)):=λ{J} hk=>hk id _ a5 λe=>by
    obtain⟨aE,L⟩:=bC.wid e
    simp_all
   cases av:DX f k with
   |false=>
    rw[av,rv m_]at d;rw[rv m_,t_ rfl];refine e_ ?_;refine bz (ds:=[x]) a5 c_ rfl ?_;refine e_ ?_;refine ab (hY.h_ (e:=2) (enc:=Fj) (λ_=>rfl) bC) ?_;refine k_ ?_;refine cy (j,nn) _ λx' J o6 gx k6 l6 b6=>?_;refine e_ ?_;refine ab gx ?_;refine k_ ?_;refine gH (b:=id) (b0 k6) c_ ?_;refine k_ ?_;obtain⟨w1,R,w3,w4,w5⟩:=ce 0 x x' B (j,nn) J m_ a2 M o6 k6 l6 b6 [x',y,z] rfl;exact bt _ _ ⟨I,rfl,⟨⟨n2,W2,T,_,R,λV=>(q2 V).trans ⟨λq=>⟨q,bd V⟩,λq=>q.1⟩,by rw[d];exact w1⟩,w3,w4,w5⟩⟩
   |true=>
    rw[av,qs rfl]at d;rw[qs rfl,xk m_];simp(disch:=omega)only[↓n9]
    try rw[t_ ax]
    refine k_ ?_;refine bz (ds:=[x]) a5 c_ rfl ?_;refine e_ ?_;refine ab (hY.h_ (e:=2) (enc:=Fj) (λ_=>rfl) bC) ?_;refine k_ ?_;refine cy (nn,j) _ λx' J o6 gx k6 l6 b6=>?_;refine e_ ?_;refine ab gx ?_;refine k_ ?_;refine gH (b:=id) (b0 k6) c_ ?_;refine k_ ?_;obtain⟨w1,R,w3,w4,w5⟩:=ce 0 x x' B (nn,j) J m_ a2 M o6 k6 l6 b6 [x',y,z] rfl;exact bt _ _ ⟨I,rfl,⟨⟨n2,W2,T,_,R,λV=>(q2 V).trans ⟨λq=>⟨q,bd V⟩,λq=>q.1⟩,by rw[d];exact w1⟩,w3,w4,w5⟩⟩
  rw[xk ax];simp(disch:=omega)only[↓C3];rw[rv ax]at d
  try rw[xk ax]
  refine e_ ?_;obtain⟨O,cA⟩ : ∃O:Nat,O=if DX f k=true then 1 else 0:=⟨_,rfl⟩
  have eg:(if DX f k=true then(1:Int)else 0)=ofNat O:=by rw[cA];split<;>rfl
  have b8:O<2:=i_
  try rw[eg]
  try rw[xk ax]
  refine k_ ?_;refine R_ b8 ?_;obtain⟨u,eu⟩ : ∃u,u=if O=0 then y else z:=⟨_,rfl⟩
  have hu:ag[3*ix+(1+O)]?=some u:=by
   obtain h|h:O=0∨O=1:=a_
   .rw[eu,h,qs rfl];exact a3
   grind
  have dD:∀ {gg:HL},gg[id]?=some (.o (.cells [x,y,z] 3 true))->HJ gg (.pointer (some ⟨id,1+O,none⟩)) [u]:=λ{gg} hg=>by
   refine⟨id,1+O,_,3,true,rfl,hg,?_⟩;obtain h|h:O=0∨O=1:=a_
   .rw[eu,h,qs rfl];exact gz.2 ⟨c_,rfl⟩
   .rw[eu,h,rv m_];exact gz.2 ⟨c_,rfl⟩
  obtain⟨B,M⟩:=am (l:=(DA (r_ f k) t).2) (i:=3*ix+(1+O)) (by rw[s5.ll];exact ai hu);have a9:=s5.ow _ u B hu M;refine dH ((dD a5).lg rfl) ?_;refine e_ ?_;refine ab (hY.h_ (e:=2) (enc:=Fj) (λ_=>rfl) a9) ?_;refine k_ ?_;have eC:B.length<=1000000:=a7 B (A9 M);refine a9.Il (a:=((j,nn):K2)) (λ_=>rfl) a_ rfl rfl rfl (by unfold bc;rw[EY a_,EY a_];rfl) ?_;intro u' J o6 gu k6 l6 b6;have c9:∀(i:Nat) o,X[i]?=some o->g_ u≠some i->J[i]?=some o:=λi o hi N=>k6 i o hi N;refine e_ ?_;refine ab gu ?_;refine k_ ?_;refine R_ b8 ?_;have b0:J[id]?=some (.o (.cells [x,y,z] 3 true)):=c9 id _ a5 λe=>by
   obtain⟨aE,L⟩:=a9.wid e
   simp_all
  refine ZW b0 tt ?_;refine k_ ?_;refine ae (x:=()) (dg (bU ⟨_,_,_,rfl⟩ λi hi=>?_) fm) ?_
  .have q1:X.length=i:=by simpa[g_]using hi
   grind
  refine k_ ?_;have ck:([x,y,z]:Tn).take (1+O)++[u']++([x,y,z]:Tn).drop (1+O+[u'].length)=[x,y,z].set (1+O) u':=by
   obtain h|h:O=0∨O=1:=a_
   .rw[h];rfl
   .rw[h];rfl
  rw[ck];obtain⟨w1,R,w3,w4,w5⟩:=ce (1+O) u u' B (j,nn) J a_ hu M o6 c9 l6 b6 _ rfl;obtain⟨g7,e7⟩ : ∃g7,g7=J.set id (.o (.cells (([x,y,z]:Tn).set (1+O) u') 3 true)):=⟨_,rfl⟩;rw[←e7]at w1 R w3 w4 w5 ⊢;refine aQ w3 rfl (kY E) ?_;rw[show sd (af (G j) r)=[.int .u8 (ofNat (af (G j) r).1),.int .i64 (af (G j) r).2.1,.int .i64 (af (G j) r).2.2]from rfl];refine e_ ?_;have fl:=Ws dk;simp only[D5]at fl;refine aj fl ?_;refine e_ ?_;have ei:(!decide (4<=(af (G j) r).1))=decide ((af (G j) r).1<4):=by
   grind
  rw[ei];obtain⟨r0,cC⟩:=R.fr;obtain⟨W3,n3,g8,cb,t1,t2,t3,t4,t5,t6⟩:=Dk R.hb (R.up.ls dV) cC R.ok R.va R.pr ki (x:=j) (y:=nn) (decide ((af (G j) r).1<4)) (λ_=>d5 j nn E ⟨e,an,a8,a_⟩);refine ak cb ?_;refine e_ ?_;have ej:∀i,g_ c.va=some i->i<h.length:=λi e=>(Z.va.g_ e).2;have eP:=ai Z.hb;have c7:∀ {i ee:Nat} {Y:Tn},g7[i]?=some (.o (.cells Y ee true))->ee≠15->ee≠1->g8[i]?=some (.o (.cells Y ee true)):=λ{i ee Y} hi eF h1=>t5 i _ hi (λe2=>by
   subst e2;rw[R.hb]at hi
   simp_all) λe2=>by
   obtain⟨aE,L⟩:=R.va.wid e2
   grind
  have bb:c.pr<h.length:=by
   obtain⟨ps,p1,_⟩:=Z.pr;exact p1.lt
  have hq:(if DX f k=true then 2 else 1)=1+O:=by rw[cA];split<;>rfl
  have cf:Sm Q.length g8 h.length I (fE w v l (λc=>af (G c) r) j e t).1 T (ag.set (3*ix+(1+O)) u') (fE w v l (λc=>af (G c) r) j e t).2:=by
   rw[d,hq];exact w1.ka λi o hi ho=>t5 i o ho a_ λe2=>by have:=ej i e2;omega
  refine bt _ _ ⟨I,rfl,⟨⟨n3,W3,T,ag.set (3*ix+(1+O)) u',⟨t1,R.up.C2 λi Y _ hi=>c7 hi m_ m_,t2,R.fo.C2 λi Y _ hi=>c7 hi m_ m_,R.pr.ka λo ho=>t5 _ o ho (su R.pr R.hb) λe2=>?_,⟨r0,cC⟩,t3⟩,λV=>(t4 V).trans ?_,cf⟩,w3.ka λi o hi N=>?_,a_,λi o hi h1 L=>t5 i o (w5 i o hi h1 L) h1 L⟩⟩
  .obtain⟨aE,L⟩:=R.va.wid e2;exact su R.pr L rfl
  .rw[←and_assoc];refine and_congr (q2 V) ?_;unfold Fx;constructor
   .grind
   grind
  .obtain⟨Y,ad,L⟩:=wI w3 N;have:=Co cn N;exact t5 i o hi (λe2=>by
    rw[e2,R.hb]at L
    grind) λe2=>by
    obtain⟨aE,h3⟩:=R.va.wid e2
    grind)
 grind
end Go.Am
namespace Go.Am
namespace Sx
section
variable [DB] [En] {C:m8} {Sg:Td} {T:Tv}
variable {m9:Type} [DecidableEq m9] (kc:m9->Tn) {kk:TJ} (hd:∀a b,x8 kk (kc a) (kc b)=some (decide (a=b)))
variable {kt:TP} (h1:B2 C.P kt=some true) (h2:DU C.P 10000 kt=some kk) (h3:∀a,∃r,fY kk (kc a) (kc a)=some r)
include hd h1 h2 h3
theorem r_luO{h:HL}{id:Nat}{a:List (m9×Value)}{z:TR}{K:Tf}(x:Ek kc h id a)(k:m9){v:TR}(y:v = .agg ⟨kc k⟩)(H:∀cs,z≠.agg cs)(F:∀p∈a,∀cs,p.2≠.agg cs)
  (h0:k∉a.map Prod.fst->K [z,.bool false]) (E:∀(i:Nat) u,a[i]?=some (k,u)->K [u,.bool true]) :
  (PH C Sg T).ma (.fn (Gr C kt false z (.map (some id)) v true)) h (@i' _ ⟨K⟩):=by
 subst y;obtain⟨b,c,m,f⟩:=x;have D:∀u:Value,(∀cs,u≠.agg cs)->gN false u=some [u]:=λu G=>by
  unfold gN
  simp_all
 have d:∃cs,Gr C kt false z (.map (some id)) (.agg ⟨kc k⟩) true (s7 T h)=some cs/\K cs:=by
  unfold Gr;rw[L7 kc h1 h2 h3 k];simp only[EX,Fh,if_false];rw[oZ m];simp only;rw[Aa kc h1 h2 k (Je kc hd k 0 (Ek.keys kc f))];cases r:(a.map Prod.fst).idxOf? k with
  |none=>
   simp_all
  |some j=>
   obtain⟨s,w,_⟩:=qce.1 r;have l:b.length=a.length:=by
    have:=congrArg List.length f;simpa using this
   have t:j<a.length:=by simpa using s
   have q:b[j]?=some (b[j]'(by omega)):=Gm _;have g:a[j]?=some a[j]:=Gm _;have n:(b.map (λe=>(e.key,e.val)))[j]?=(a.map λp=>((.agg ⟨kc p.1⟩ : Value),p.2))[j]?:=by rw[f]
   rw[FM,FM,q,g]at n;have B:(b[j]'(by omega)).val=a[j].2:=by
    simp_all
   have A:eQ b j=some a[j].2:=by
    unfold eQ
    simp_all
   grind
 obtain⟨cs,e,o⟩:=d;exact dH e o
theorem r_muS{h:HL}{id:Nat}{a:List (m9×Value)}{u:TR}{K:Tb}(A:Ek kc h id a)(k:m9)(z:k∈a.map Prod.fst){v:TR}(D:v = .agg ⟨kc k⟩)(B:Instr.sameBits 10000 (.agg ⟨kc k⟩) (.agg ⟨kc k⟩)=true)
  (x:∀o (i:Nat),(a.map Prod.fst)[i]?=some k->Ek kc (h.set id o) id (a.set i (k,u))->K [] (h.set id o)) :
  (PH C Sg T).heap (.fn (G5 C kt (.map (some id)) v u)) h (@i' _ ⟨K⟩):=by
 subst D;obtain⟨b,c,n,f⟩:=A;cases g:(a.map Prod.fst).idxOf? k with
 |none=>exact absurd z (qdl.1 g)
 |some j=>
  obtain⟨t,l,_⟩:=qce.1 g;have q:b.length=a.length:=by
   have:=congrArg List.length f;simpa using this
  have w:j<a.length:=by simpa using t
  have s:b[j]?=some (b[j]'(by omega)):=Gm _;have m:a[j]?=some a[j]:=Gm _;have r:(b.map (λe=>(e.key,e.val)))[j]?=(a.map λp=>((.agg ⟨kc p.1⟩ : Value),p.2))[j]?:=by rw[f]
  rw[FM,FM,s,m]at r;have y:a[j].1=k:=by simpa using l
  have E:(b[j]'(by omega)).key = .agg ⟨kc k⟩:=by
   simp_all
  have d:(Hp.fn (G5 C kt (.map (some id)) (.agg ⟨kc k⟩) u)).run (s7 T h) h.length=some ([.set id (.map (b.modify j λe=>{ e with key:=.agg ⟨kc k⟩,val:=u }) c)],[]):=by
   show G5 C kt (.map (some id)) (.agg ⟨kc k⟩) u (s7 T h) h.length=_;unfold G5;simp only;rw[L7 kc h1 h2 h3 k];simp only[EX,Fh,if_false];rw[oZ n];simp only;rw[Aa kc h1 h2 k (Je kc hd k 0 (Ek.keys kc f)),g]
   simp_all
  refine bH d (x _ j j_ ⟨_,_,Ia (ai n),?_⟩);apply Ib;intro i;rw[FM,FM,List.getElem?_modify];have e3:(b.map (λe=>(e.key,e.val)))[i]?=(a.map λp=>((.agg ⟨kc p.1⟩ : Value),p.2))[i]?:=by rw[f]
  grind
end
end Sx
end Go.Am
namespace Go.Am
open Sx Go.Proofs
def F4(ks:TM)(c:Cl):TM:=if c∈ks then ks else ks++[c]
def Em(L:TM):TM:=L.foldl F4 []
def QO{L:TM}{c:Cl}:Em (L++[c])=F4 (Em L) c:=by simp[Em]
def Wt:∀(L A:TM),A.Nodup->(L.foldl F4 A).Nodup/\(∀c,c∈L.foldl F4 A↔c∈A∨c∈L)/\(L.foldl F4 A).length<=A.length+L.length
 | [],A,h=>⟨h,λc=>c_,c_⟩
 |x :: L,A,h=>by
  have a:(F4 A x).Nodup:=by
   unfold F4
   grind
  have d:∀c,c∈F4 A x↔c∈A∨c=x:=λc=>by
   unfold F4
   grind
  have b:(F4 A x).length<=A.length+1:=by
   unfold F4
   grind
  obtain⟨e,f,g⟩:=Wt L (F4 A x) a
  grind
def uj(L:TM):(Em L).Nodup:=(Wt L [] hZ).1
def oT{L:TM}{c:Cl}:c∈Em L↔c∈L:=by
 have:=(Wt L [] hZ).2.1 c;simpa[Em]using this
def ui(L:TM):(Em L).length<=L.length:=by
 have:=(Wt L [] hZ).2.2;simpa[Em]using this
def Gz(l:TM):Prop:=l.Pairwise λa b=>DX b a=true
def yo{a:Cl}:DX a a=false:=by rw[wq];omega
def QS{a b c:Cl}(h:DX b a=true)(k:DX c b=true):DX c a=true:=by rw[yp]at *;omega
def wp{a b:Cl}(h:DX a b=true):DX b a=false:=by rw[yp]at h;rw[wq];omega
def J2{l:TM}(h:Gz l):l.Nodup:=h.imp λ{a b} q e=>by
 subst e;rw[yo]at q;cases q
def zI:∀ {l m:TM},Gz l->Gz m->(∀c,c∈l↔c∈m)->l=m
 | [],[],_,_,_=>rfl
 | [],b :: m,_,_,h=>absurd ((h b).2 c_) c_
 |a :: l,[],_,_,h=>absurd ((h a).1 c_) c_
 |a :: l,b :: m,h1,d,h=>by
  unfold Gz at h1 d;rw[KH]at h1 d;have e:a=b:=by
   rcases EL.1 ((h a).1 c_)with e|f
   .exact e
   .rcases EL.1 ((h b).2 c_)with e|hb
    .exact e.symm
    .have n:=d.1 a f;have o:=wp (h1.1 b hb)
     simp_all
  subst e
  congr 1
  refine zI h1.2 d.2 λc=>?_;have j:∀ {k:TM},(∀x∈k,DX x a=true)->a∉k:=λg i=>by
   have:=g a i;rw[yo]at this;cases this
  grind
def Ip(c:Cl):TM->List Cl
 | []=>[c]
 |a :: l=>if DX a c then c :: a :: l else a :: Ip c l
def qv(c:Cl):∀l:List Cl,(Ip c l).Perm (c :: l)
 | []=>UV _
 |a :: l=>by
  unfold Ip;split
  .exact UV _
  .exact((qv c l).cons a).trans (List.Perm.swap c a l)
def Al{c:Cl}:∀ {l:TM},Gz l->c∉l->Gz (Ip c l)
 | [],_,_=>by simp[Ip,Gz]
 |a :: l,h,f=>by
  unfold Gz at h;have d:=KH.1 h;unfold Ip;split
  next q=>
   unfold Gz;rw[KH];refine⟨λb hb=>?_,h⟩;rcases EL.1 hb with rfl|hb
   .exact q
   .exact QS q (d.1 b hb)
  next q=>
   unfold Gz;rw[KH];refine⟨λb hb=>?_,Al d.2 λg=>f (by simp[g])⟩;rcases EL.1 ((qv c l).mem_iff.1 hb)with rfl|hb
   .exact qn (by simpa using q) λe=>f (by simp[e])
   .exact d.1 b hb
def EB(L:TM):TM:=(Em L).foldr Ip []
def atG:∀ {l:TM},l.Nodup->Gz (l.foldr Ip [])/\(l.foldr Ip []).Perm l
 | [],_=>⟨.nil,UV _⟩
 |a :: l,h=>by
  rw[w9]at h;obtain⟨h1,b⟩:=atG h.2;exact⟨Al h1 λc=>h.1 (b.mem_iff.1 c),(qv a _).trans (b.cons a)⟩
def tu(L:TM):Gz (EB L):=(atG (uj L)).1
def jF(L:TM):(EB L).Perm (Em L):=(atG (uj L)).2
def xO{L:TM}{c:Cl}:c∈EB L↔c∈L:=(jF L).mem_iff.trans oT
def tv(L:TM):(EB L).length<=L.length:=by rw[(jF L).length_eq];exact ui L
def zv{L D:TM}(h:D.Perm (Em L))(k:D.Pairwise λa b=>DX a b=false):D=EB L:=by
 have g:D.Nodup:=h.nodup_iff.2 (uj L);refine zI ?_ (tu L) λc=>by rw[h.mem_iff,(jF L).mem_iff]
 unfold Gz;rw[KI]at k ⊢;rw[XT,KI]at g;exact λi j e f d=>qn (k i j e f d) (g i j e f d)
def GC(L:TM)(n:Nat)(c:Cl):TC:=(range n).filter λi=>decide (L[i]?=some c)
def Wz(L:TM)(c:Cl):TC:=GC L L.length c
def p_(L:TM):List (TC):=(EB L).map (Wz L)
def ww{L:TM}{n:Nat}{c:Cl}:GC L (n+1) c=GC L n c++(if L[n]?=some c then [n]else []):=by
 unfold GC;rw[MT,qcn]
 grind
def QZ{L:TM}{n i:Nat}{c:Cl}:i∈GC L n c↔i<n/\L[i]?=some c:=by
 unfold GC
 simp_all
def eR{L:TM}{i:Nat}{c:Cl}:i∈Wz L c↔L[i]?=some c:=by
 unfold Wz;rw[QZ]
 grind
def QY{L:TM}{n:Nat}{c:Cl}:(GC L n c).Pairwise (· < ·):=List.pairwise_lt_range.filter _
def oW{L:TM}{n:Nat}{c:Cl}:(GC L n c).length<=n:=by
 have:=qcQ (λi=>decide (L[i]?=some c)) (range n);rw[UZ]at this;exact this
def Ak{L:TM}{l:TC}(a:l∈p_ L):l.Pairwise (· < ·):=by
 obtain⟨c,_,rfl⟩:=DJ.1 a;exact QY
def dt(L:TM):Gl (p_ L) L.length:=by
 refine⟨λl d=>?_,λl d x g=>?_,λl d=>(Ak d).imp λh=>a_,?_⟩
 .obtain⟨c,k,rfl⟩:=DJ.1 d;obtain⟨i,m⟩:=FK (xO.1 k);exact λe=>by
   have:=eR.2 m
   simp_all
 .obtain⟨c,_,rfl⟩:=DJ.1 d;exact ai (eR.1 g)
 .unfold p_;rw[H0];refine(J2 (tu L)).imp λ{a b} f x g j=>f ?_;have n:=eR.1 g;have o:=eR.1 j
  simp_all
def dW{L:TM}{x y:Nat}{c:Cl}(a:L[x]?=some c)(b:L[y]?=some c):∃l∈p_ L,x∈l/\y∈l:=
 ⟨Wz L c,DJ.2 ⟨c,xO.2 (A9 a),rfl⟩,eR.2 a,eR.2 b⟩
def uq{L:TM}{l:TC}(b:l∈p_ L){x y:Nat}(d:x∈l)(e:y∈l):L[x]?=L[y]?/\x<L.length:=by
 obtain⟨c,_,rfl⟩:=DJ.1 b;have a:=eR.1 d;exact⟨a.trans (eR.1 e).symm,ai a⟩
def UT(l:TC)(i:Nat):List K2:=match l[i]? with
 |some b=>(l.take i).map λa=>(a,b)
 |none=>[]
def Ix(l:TC)(n:Nat):List K2:=(range n).flatMap (UT l)
def ON(IDS:List (TC))(n:Nat):List K2:=(IDS.take n).flatMap λl=>Ix l l.length
def Fa(IDS:List (TC)):List K2:=IDS.flatMap λl=>Ix l l.length
def uP{l:TC}{n:Nat}:Ix l (n+1)=Ix l n++UT l n:=by
 unfold Ix;rw[MT,ZO];simp
def XH{l:TC}{i:Nat}:(UT l i).length<=i:=by
 unfold UT
 grind
def yU{l:TC}:∀n,(Ix l n).length<=n*n
 |0=>by simp[Ix]
 |n+1=>by
  have a:=yU (l:=l) n;have:=XH (l:=l) (i:=n);rw[uP,HY,KJ,Nat.mul_add];omega
def Sp{IDS:List (TC)}{n:Nat}{l:TC}(h:IDS[n]?=some l):ON IDS (n+1)=ON IDS n++Ix l l.length:=by
 unfold ON;rw[IB,h,ZO];simp
def XF{IDS:List (TC)}{n:Nat}(h:IDS.length<=n):ON IDS n=Fa IDS:=by
 unfold ON Fa;rw[IW h]
def yT{l:TC}{i:Nat}{p:K2}:p∈UT l i↔∃j:Nat,j<i/\l[j]?=some p.1/\l[i]?=some p.2:=by
 unfold UT;cases h:l[i]? with
 |none=>simp
 |some b=>
  simp only[DJ,G_];constructor
  .rintro⟨a,d,rfl⟩;obtain⟨j,g⟩:=FK d
   grind
  .rintro⟨j,e,f,c⟩;refine⟨p.1,A9 (i:=j) j_,by rw[c]⟩
def nq{l:TC}{n:Nat}{p:K2}:p∈Ix l n↔∃j i:Nat,j<i/\i<n/\l[j]?=some p.1/\l[i]?=some p.2:=by
 unfold Ix;rw[GG];constructor
 .rintro⟨i,d,e⟩;obtain⟨j,q⟩:=yT.1 e;exact⟨j,i,q.1,CY.1 d,q.2⟩
 .rintro⟨j,i,a,b,c⟩;exact⟨i,CY.2 b,yT.2 ⟨j,a,c⟩⟩
def uQ{IDS:List (TC)}{p:K2}:p∈Fa IDS↔∃l∈IDS,∃j i:Nat,j<i/\l[j]?=some p.1/\l[i]?=some p.2:=by
 unfold Fa;rw[GG];constructor
 .rintro⟨l,c,e⟩;obtain⟨j,i,b,d,a⟩:=nq.1 e;exact⟨l,c,j,i,b,a⟩
 .rintro⟨l,c,j,i,b,d,a⟩;exact⟨l,c,nq.2 ⟨j,i,b,ai a,d,a⟩⟩
def AK{l:TC}(h:l.Nodup){i j x:Nat}(a:l[i]?=some x)(b:l[j]?=some x):i=j:=by
 rw[XT,KI]at h
 grind
def hQ{l:TC}(h:l.Nodup)(i:Nat):(UT l i).Nodup:=by
 unfold UT
 grind
def Sq{l:TC}(h:l.Nodup):∀n,(Ix l n).Nodup
 |0=>by simp[Ix]
 |n+1=>by
  rw[uP,p7];refine⟨Sq h n,hQ h n,λp b q c e=>?_⟩;subst e;obtain⟨j,i,h1,f,g,a⟩:=nq.1 b;obtain⟨k,m,o,d⟩:=yT.1 c;have:=AK h a d;omega
def Ss{IDS:List (TC)}{N:Nat}(g:Gl IDS N):(Fa IDS).Nodup:=by
 have f:∀I:List (TC),(∀l∈I,l.Nodup)->(I.Pairwise λa b=>∀x∈a,x∉b)->(Fa I).Nodup:=by
  intro I
  induction I with
  |nil=>intro _ _;exact hZ
  |cons l I s=>
   intro h c;rw[KH]at c;show(Ix l l.length++Fa I).Nodup;rw[p7];refine⟨Sq (h l c_) _,s (λm d=>h m (by simp[d])) c.2,λp o q r e=>?_⟩;subst e;obtain⟨j,i,_,_,k,_⟩:=nq.1 o;obtain⟨m,d,u,t,_,n,_⟩:=uQ.1 r;exact c.1 m d p.1 (A9 k) (A9 n)
 exact f IDS g.nd g.dj
def XJ{IDS:List (TC)}{N s i k a b:Nat}{l:TC}(g:Gl IDS N)(x:IDS[s]?=some l)(v:l[i]?=some b)(D:k<i)(u:l[k]?=some a):((a,b):K2)∉ON IDS s++Ix l i++(l.take k).map λa=>((a,b):K2):=by
 intro c;have f:=g.nd l (A9 x);rcases Fs.1 c with c|c
 .rcases Fs.1 c with c|c
  .unfold ON at c;obtain⟨m,n,o⟩:=GG.1 c;obtain⟨z,y,_,_,C,_⟩:=nq.1 o;obtain⟨t,d⟩:=FK n;rw[o0]at d;split at d
   next w=>
    have j:=g.dj;rw[KI]at j
    grind
   .cases d
  .obtain⟨z,y,A,B,_,r⟩:=nq.1 c;have:=AK f r v;omega
 .obtain⟨p,h,e⟩:=DJ.1 c;have q:p=a:=congrArg Prod.fst e;subst q;obtain⟨t,d⟩:=FK h;rw[o0]at d;split at d
  .have:=AK f d u;omega
  .cases d
def Yo{l:TC}{k a b:Nat}(c:l[k]?=some a):((l.take (k+1)).map λa=>((a,b):K2))=((l.take k).map λa=>((a,b):K2))++[(a,b)]:=by
 rw[IB,c];simp
def vi{l:TC}{i b:Nat}(c:l[i]?=some b):UT l i=(l.take i).map λa=>((a,b):K2):=by
 unfold UT;rw[c]
def EF(c:List K2)(a b:Nat):Nat:=if (a,b)∈c then c.idxOf (a,b)else 0
def UU(a:List K2):List (K2×Value):=a.mapIdx λi k=>(k,.int .i64 (ofNat i))
def MM{a:List K2}:(UU a).map Prod.fst=a:=by
 unfold UU;refine Ib λi=>?_
 grind
def XI{a:List K2}{k:K2}:UU (a++[k])=UU a++[(k,.int .i64 (ofNat a.length))]:=by
 unfold UU
 simp_all
def MN{h:HL}{id:Nat}{a:List K2}(n:a.Nodup)(m:Ek Fj h id (UU a)):Pe h id (EF a):=by
 refine⟨UU a,m,λi k u b=>?_,λk g=>?_⟩
 .unfold UU at b;rw[List.getElem?_mapIdx]at b;cases f:a[i]? with
  |none=>rw[f]at b;cases b
  |some q=>
   rw[f]at b;have e:=EI b;have j:q=k:=congrArg Prod.fst e;have l:Value.int .i64 (ofNat i)=u:=congrArg Prod.snd e;subst j;have c:=A9 f;have d:a.idxOf q=i:=by
    grind
   rw[←l];unfold EF;rw[qs c,d]
 .rw[MM]at g;unfold EF;rw[rv g]
def So{c:List K2}(h0:0<c.length)(a b:Nat):EF c a b<c.length:=by
 unfold EF
 grind
def xP{c:List K2}(h0:0<c.length)(a b:Nat):(DC (EF c) a b).1<c.length:=by
 unfold DC;split
 .exact So h0 _ _
 .exact So h0 _ _
def uR{L:TM}{x y:Nat}(o:x≠y)(h:L[x]?=L[y]?)(n:x<L.length):0<(Fa (p_ L)).length:=by
 obtain⟨c,b⟩:=am n;rw[b]at h;obtain⟨l,g,k,m⟩:=dW b h.symm;obtain⟨i,d⟩:=FK k;obtain⟨j,f⟩:=FK m;have a:i≠j:=λe=>by
  simp_all
 rcases ZH a with q|q
 .exact List.length_pos_of_mem (uQ.2 ⟨l,g,i,j,q,d,f⟩ : ((x,y):K2)∈_)
 .exact List.length_pos_of_mem (uQ.2 ⟨l,g,j,i,q,f,d⟩ : ((y,x):K2)∈_)
def WI{V:Tx}{pn:Ti}{x y x' y':Nat}(h1:x≠y)(e:x'≠y'):Ha pn V x y x' y'↔Ha pn V y x y' x':=by
 unfold Ha;rw[gY h1,gY e];unfold v7;simp only;generalize V (DC pn x y).1=a;generalize (DC pn x y).2=b;generalize V (DC pn x' y').1=c;generalize (DC pn x' y').2=d;cases a<;>cases b<;>cases c<;>cases d<;>decide
abbrev Ad:=K6×Option (Nat×K2)
def IH(s:FR)(x:Ad):FR:=match x.2 with
 |none=>DA x.1 s
 |some (t,p)=>GF (3*(DA x.1 s).1.idxOf x.1+t) p (DA x.1 s)
def FH(k:K6)(t:Nat)(x:Ad):Option K2:=match x.2 with
 |none=>none
 |some (a,p)=>if x.1=k/\a=t then some p else none
structure AI(A:FR)(Q:List Ad):Prop where
 nd:A.1.Nodup
 ln:A.2.length=3*A.1.length
 ks:∀k,k∈A.1↔∃x∈Q,x.1=k
 ls:∀(i:Nat) k t,A.1[i]?=some k->t<3->A.2[3*i+t]?=some (Q.filterMap (FH k t))
def u5:AI ([],[]) []:=⟨hZ,rfl,λk=>c_,λi k t h=>by cases h⟩
def OT{k:K6}{t:Nat}{Q:List Ad}(h:∀x∈Q,x.1≠k):Q.filterMap (FH k t)=[]:=by
 rw[List.filterMap_eq_nil_iff];intro x a;unfold FH
 grind
def AI.tou{A:FR}{Q:List Ad}(h:AI A Q)(k:K6):AI (DA k A) (Q++[(k,none)])/\k∈(DA k A).1:=by
 have n:∀c t,(Q++[((k,none):Ad)]).filterMap (FH c t)=Q.filterMap (FH c t):=λc t=>by
  rw[qco];simp[FH]
 have m:∀c,(∃x∈Q++[((k,none):Ad)],x.1=c)↔(∃x∈Q,x.1=c)∨k=c:=λc=>by
  simp_all
 unfold DA;split
 next j=>
  refine⟨⟨h.nd,h.ln,λc=>?_,λi c t d l=>?_⟩,j⟩
  .rw[m,←h.ks]
   grind
  .rw[n];exact h.ls i c t d l
 next j=>
  refine⟨⟨?_,?_,λc=>?_,λi c t d l=>?_⟩,c_⟩
  .rw[p7];exact⟨h.nd,c_,λa p b q e=>by
    simp_all⟩
  .simp[h.ln];omega
  .rw[m,←h.ks];simp[eq_comm]
  .rw[n];simp only at d ⊢;rw[d8]at d;split at d
   next g=>
    rw[H3 (by rw[h.ln];omega)];exact h.ls i c t d l
   next g=>
    have f:=ai d;simp only[qcS]at f;have e:i=A.1.length:=a_;subst e;rw[SA]at d;have e:k=c:=EI d;subst e;rw[OT λx o e=>j ((h.ks k).2 ⟨x,o,e⟩),Iz (by rw[h.ln];omega),h.ln,qdp]
    grind
def AI.step{A:FR}{Q:List Ad}(h:AI A Q){x:Ad}(v:∀q,x.2=some q->q.1<3):AI (IH A x) (Q++[x]):=by
 obtain⟨k,o⟩:=x;obtain⟨c,w⟩:=h.tou k;unfold IH;cases o with
 |none=>exact c
 |some q=>
  obtain⟨t,p⟩:=q;have z:t<3:=v _ rfl;simp only;obtain⟨f,m⟩ : ∃f,f=(DA k A).1.idxOf k:=⟨_,rfl⟩;rw[←m];have u:(DA k A).1[f]?=some k:=by
   grind
  have j:∀a b,(Q++[((k,some (t,p)):Ad)]).filterMap (FH a b)=(Q++[((k,none):Ad)]).filterMap (FH a b)++(if k=a/\t=b then [p]else []):=λa b=>by
   rw[qco,qco];by_cases e:k=a/\t=b
   .simp[FH,e]
   .simp[FH,e]
  refine⟨c.nd,by simp[GF,c.ln],λa=>?_,λi a b s l=>?_⟩
  .show a∈(DA k A).1↔_;rw[c.ks]
   simp_all
  .have g:(DA k A).1[i]?=some a:=s;have d:=c.ls i a b g l;unfold GF;simp only;rw[j];by_cases e:i=f/\t=b
   .grind
   .rw[IA a_,d,rv,HF];rintro⟨n,r⟩;subst n;exact e ⟨by
     have y:=c.nd
     grind,r⟩
def Lc:∀(R:List Ad) (A:FR) (Q:List Ad),AI A Q->(∀x∈R,∀q,x.2=some q->q.1<3)->AI (R.foldl IH A) (Q++R)
 | [],A,Q,h,_=>by simpa using h
 |x :: R,A,Q,h,a=>by
  have:=Lc R (IH A x) (Q++[x]) (h.step (a x c_)) λy b=>a y (by simp[b])
  simp_all
section
variable (w v:Nat) (l:TD) (P:TH)
def Ds(id:Nat):Cl:=ar (P id) (pu w id)
def D3(id e:Nat):Cl:=ar (P id) (EO (pu w id) e)
def x2(id n e:Nat):Int:=cP l (ofNat (min id n)) (ofNat e)
def F2(id e:Nat):Ad:=(r_ (Ds w P id) (D3 w P id e),match y0 w v id e with
 |none=>none
 |some n=>if n<id then none else
  if x2 l id n e=0 then some (0,if DX (Ds w P id) (D3 w P id e)then(n,id)else(id,n))
  else some (if DX (Ds w P id) (D3 w P id e)then 2 else 1,(id,n)))
def U9{id e:Nat}:∀q,(F2 w v l P id e).2=some q->q.1<3:=by
 intro q a;unfold F2 at a
 grind
def T6(id e:Nat)(s:FR):fE w v l P id e s=IH s (F2 w v l P id e):=by
 unfold fE IH F2 Ds D3 x2
 grind
def GQ(n:Nat):List Ad:=(range n).flatMap λid=>(range 3).map (F2 w v l P id)
def SZ(n:Nat):Ee w v l P n=(GQ w v l P n).foldl IH ([],[]):=by
 have c:∀(id:Nat) (E:TC) (s:FR),E.foldl (λs e=>fE w v l P id e s) s=(E.map (F2 w v l P id)).foldl IH s:=λid E=>by
  induction E with
  |nil=>intro s;rfl
  |cons e E a=>
   intro s;simp only[XR,EN];rw[T6,a]
 unfold Ee GQ;generalize (([],[]):FR)=s0;have b:∀(I:TC) (s:FR),I.foldl (λs id=>(range 3).foldl (λs e=>fE w v l P id e s) s) s=(I.flatMap λid=>(range 3).map (F2 w v l P id)).foldl IH s:=λI=>by
  induction I with
  |nil=>intro s;rfl
  |cons i I a=>
   simp_all
 exact b _ s0
def zh(n:Nat):AI (Ee w v l P n) (GQ w v l P n):=by
 rw[SZ];have:=Lc (GQ w v l P n) ([],[]) [] u5 λx a q b=>by
  unfold GQ at a;obtain⟨id,_,a⟩:=GG.1 a;obtain⟨e,_,rfl⟩:=DJ.1 a;exact U9 w v l P q b
 simpa using this
def iO(N:Nat)(k:K6)(t:Nat)(p:K2):Prop:=∃id e n,id<N/\e<3/\y0 w v id e=some n/\¬n<id/\r_ (Ds w P id) (D3 w P id e)=k/\
 ((t=0/\x2 l id n e=0/\p=if DX (Ds w P id) (D3 w P id e)then(n,id)else(id,n))∨(t=(if DX (Ds w P id) (D3 w P id e)then 2 else 1)/\x2 l id n e≠0/\p=(id,n)))
def S4{N:Nat}{k:K6}{t:Nat}{p:K2}:p∈(GQ w v l P N).filterMap (FH k t)↔iO w v l P N k t p:=by
 unfold GQ;rw[SD];constructor
 .rintro⟨x,i,a⟩;obtain⟨id,i',i⟩:=GG.1 i;obtain⟨e,g,rfl⟩:=DJ.1 i;unfold FH F2 at a;simp only at a;cases c:y0 w v id e with
  |none=>rw[c]at a;cases a
  |some n=>
   rw[c]at a;simp only at a;by_cases d:n<id
   .simp_all
   .rw[rv d]at a;by_cases f:x2 l id n e=0
    .rw[qs f]at a;simp only at a;split at a
     next b=>
      exact⟨id,e,n,CY.1 i',CY.1 g,c,d,b.1,.inl ⟨b.2.symm,f,(EI a).symm⟩⟩
     .cases a
    .rw[rv f]at a;simp only at a;obtain⟨q,eq⟩ : ∃q,q=if DX (Ds w P id) (D3 w P id e)=true then 2 else 1:=⟨_,rfl⟩
     rw[←eq]at a;split at a
     next b=>
      exact⟨id,e,n,CY.1 i',CY.1 g,c,d,b.1,.inr ⟨a_,f,(EI a).symm⟩⟩
     .cases a
 .rintro⟨id,e,n,i',g,c,d,b,h⟩;refine⟨F2 w v l P id e,GG.2 ⟨id,CY.2 i',DJ.2 ⟨e,CY.2 g,rfl⟩⟩,?_⟩;unfold FH F2
  grind
end
section
variable {R HT:Type} (A:Dv R HT)
def np5(c:Nat)(b:Int)(a:HT)(K:TG->HT->R):R:=K [(.v (.pointer (some ⟨c,0,none⟩))),(.i b)] a
def np4(c:Nat)(F:Value)(e:HT)(K:TG->HT->R):R:=A.jw (Ec (.pointer (some ⟨c,0,none⟩))) (λf=>A.n4 f ( A.jw (Eu 11 f) (λg=>A.n4 g ( A.ma (.lg cc 1 g) e (λr=>A.DF r (λh s=>A.n4 h ( A.tf s ( A.ln h (λa=>A.jw (EU a a) (λH=>A.new (.cells (aL [(.int .i64 0)] (Int.toNat a)) 1 true) e (λz n=>A.jw (Ec (.pointer (some ⟨c,0,none⟩))) (λj=>A.n4 j ( A.jw (Eu 12 j) (λk=>A.n4 k ( A.heap (.st k [(.slice (some ⟨z,0,(some 11)⟩) (Int.toNat a) ((Int.toNat a)+1))]) n (λG o=>A.call 48 [(.v (.pointer (some ⟨c,0,none⟩))),(.v F)] o (λt p=>A.k3 t (λl B=>A.ln l (λE=>A.loop (λD u b=>A.k6 u (λd=>A.cd .lss d E ( A.ix 1 l d 1 b (λw=>A.DF w (λm x=>A.n4 m ( A.tf x ( A.call 49 [(.v (.pointer (some ⟨c,0,none⟩))),(.v m)] b (λy q=>A.A1 y ( A.pa d 1 (λC=>D [(.i C)] q)))))))) ( np5 c B b K))) [(.i 0)] p)))))))))))))))))))
def np3(b:Nat)(a9:Value)(n:HT)(K:TG->HT->R):R:=A.jw (Ec (.pointer (some ⟨b,0,none⟩))) (λp=>A.n4 p ( A.jw (Eu 7 p) (λq=>A.n4 q ( A.ma (.lg cc 1 q) n (λJ=>A.DF J (λk L=>A.n4 k ( A.tf L ( A.ln k (λa4=>A.loop (λa1 M e=>A.k6 M (λh=>A.cd .lss h a4 ( A.ix 1 k h 1 e (λN=>A.DF N (λd O=>A.n4 d ( A.tf O ( A.ln d (λa5=>A.loop (λa2 P f=>A.k6 P (λc=>A.cd .lss c a5 ( A.ix 1 d c 1 f (λQ=>A.k9 Q (λav=>A.jw (FN 1 d none (some c) none) (λl=>A.n4 l ( A.ln l (λa6=>A.loop (λa3 S a=>A.k6 S (λj=>A.cd .lss j a6 ( A.ix 1 l j 1 a (λT=>A.k9 T (λax=>A.jw (Ec (.pointer (some ⟨b,0,none⟩))) (λr=>A.n4 r ( A.jw (Eu 10 r) (λs=>A.n4 s ( A.ma (.lg cc 1 s) a (λU=>A.DF U (λt V=>A.n4 t ( A.tf V ( A.jw (Ec (.pointer (some ⟨b,0,none⟩))) (λu=>A.n4 u ( A.jw (Eu 11 u) (λv=>A.n4 v ( A.ma (.lg cc 1 v) a (λW=>A.DF W (λw X=>A.n4 w ( A.tf X ( A.ln w (λa7=>A.heap (.fn (G5 cc 132 t (.agg ⟨[(.int .i64 ax),(.int .i64 av)]⟩) (.int .i64 a7))) a (λbb g=>A.jw (Ec (.pointer (some ⟨b,0,none⟩))) (λx=>A.n4 x ( A.jw (Eu 11 x) (λm=>A.n4 m ( A.ma (.lg cc 1 m) g (λY=>A.DF Y (λy Z=>A.n4 y ( A.tf Z ( A.jw (Ec (.pointer (some ⟨b,0,none⟩))) (λz=>A.n4 z ( A.jw (Eu 11 z) (λB=>A.n4 B ( A.ma (.lg cc 1 B) g (λad=>A.DF ad (λC ag=>A.n4 C ( A.tf ag ( A.ln C (λa8=>A.new (.cells [(.int .i64 a8),(.bool false)] 2 true) g (λo G=>A.heap (.ap cc 2 16 y (.slice (some ⟨o,0,(some 12)⟩) 1 2)) G (λal H=>A.DF al (λD an=>A.n4 D ( A.tf an ( A.jw (Ec (.pointer (some ⟨b,0,none⟩))) (λE=>A.n4 E ( A.jw (Eu 11 E) (λF=>A.n4 F ( A.heap (.st F [D]) H (λbd I=>A.jw (Ew [((.slice (some ⟨o,0,(some 12)⟩) 1 2),(0,m))]) (λbe=>A.pa j 1 (λay=>a3 [(.i ay)] I)))))))))))))))))))))))))))))))))))))))))))))))))) ( A.pa c 1 (λaE=>a2 [(.i aE)] a)))) [(.i 0)] f)))))) ( A.pa h 1 (λa0=>a1 [(.i a0)] f)))) [(.i 0)] e)))))) ( np4 A b a9 e K))) [(.i 0)] n)))))))))
def np2(g:Nat)(F:Value)(m:Nat)(N:HT)(K:TG->HT->R):R:=A.jw (Ec (.pointer (some ⟨g,0,none⟩))) (λv=>A.n4 v ( A.jw (Eu 6 v) (λn=>A.n4 n ( A.ma (.lg cc 1 n) N (λO=>A.DF O (λo P=>A.n4 o ( A.tf P ( A.ln o (λa=>A.jw (EU a a) (λa5=>A.new (.cells (aL [(.slice none 0 0)] (Int.toNat a)) 1 true) N (λh r=>A.jw (Ec (.pointer (some ⟨g,0,none⟩))) (λYs=>A.n4 Ys ( A.jw (Eu 6 Ys) (λp=>A.n4 p ( A.ma (.lg cc 1 p) r (λQ=>A.DF Q (λUw S=>A.n4 Uw ( A.tf S ( A.ln Uw (λFS=>A.jw (EU FS FS) (λa6=>A.new (.cells (aL [(.slice none 0 0)] (Int.toNat FS)) 1 true) r (λc G=>A.jw (Ec (.pointer (some ⟨g,0,none⟩))) (λw=>A.n4 w ( A.jw (Eu 7 w) (λe=>A.n4 e ( A.heap (.st e [(.slice (some ⟨h,0,(some 11)⟩) (Int.toNat a) ((Int.toNat a)+1))]) G (λa2 H=>A.jw (Ec (.pointer (some ⟨g,0,none⟩))) (λx=>A.n4 x ( A.jw (Eu 8 x) (λy=>A.n4 y ( A.heap (.st y [(.slice (some ⟨c,0,(some 11)⟩) (Int.toNat FS) ((Int.toNat FS)+1))]) H (λa3 I=>A.jw (Ew [((.slice (some ⟨h,0,(some 11)⟩) (Int.toNat a) ((Int.toNat a)+1)),(0,p)),((.slice (some ⟨h,0,(some 11)⟩) (Int.toNat a) ((Int.toNat a)+1)),(2,Uw)),((.slice (some ⟨c,0,(some 11)⟩) (Int.toNat FS) ((Int.toNat FS)+1)),(0,n)),((.slice (some ⟨c,0,(some 11)⟩) (Int.toNat FS) ((Int.toNat FS)+1)),(2,o)),((.slice (some ⟨h,0,(some 11)⟩) (Int.toNat a) ((Int.toNat a)+1)),(0,(.slice (some ⟨c,0,(some 11)⟩) (Int.toNat FS) ((Int.toNat FS)+1)))),(e,(2,Uw)),((.slice (some ⟨c,0,(some 11)⟩) (Int.toNat FS) ((Int.toNat FS)+1)),(0,e)),((.slice (some ⟨c,0,(some 11)⟩) (Int.toNat FS) ((Int.toNat FS)+1)),(0,e))]) (λa7=>A.ln F (λx137=>A.loop (λa0 T b=>A.k6 T (λj=>A.cd .lss j x137 ( A.ix 3 F j 3 b (λU=>A.IQ U (λs t u=>A.jw (Ec (.pointer (some ⟨g,0,none⟩))) (λz=>A.n4 z ( A.jw (Eu 7 z) (λf=>A.n4 f ( A.ma (.lg cc 1 f) b (λV=>A.DF V (λB W=>A.n4 B ( A.tf W ( A.ma (.fn (Gr cc 55 false (.int .i64 0) (.map (some m)) (.agg ⟨[(.int .i64 s),(.int .i64 t),(.int .u8 u)]⟩) false)) b (λX=>A.k9 X (λax=>A.jw (Ec (.pointer (some ⟨g,0,none⟩))) (λC=>A.n4 C ( A.jw (Eu 7 C) (λq=>A.n4 q ( A.ma (.lg cc 1 q) b (λY=>A.DF Y (λD Z=>A.n4 D ( A.tf Z ( A.ma (.fn (Gr cc 55 false (.int .i64 0) (.map (some m)) (.agg ⟨[(.int .i64 s),(.int .i64 t),(.int .u8 u)]⟩) false)) b (λad=>A.k9 ad (λay=>A.jw (B_ 1 D ay) (λE=>A.ma (.lg cc 1 E) b (λag=>A.DF ag (λk al=>A.n4 k ( A.tf al ( A.new (.cells [(.int .i64 j)] 1 true) b (λd J=>A.heap (.ap cc 1 8 k (.slice (some ⟨d,0,(some 11)⟩) 1 2)) J (λan L=>A.DF an (λl av=>A.n4 l ( A.tf av ( A.jw (B_ 1 B ax) (λa1=>A.heap (.st a1 [l]) L (λa4 M=>A.jw (Ew [((.slice (some ⟨d,0,(some 11)⟩) 1 2),(0,f)),((.slice (some ⟨d,0,(some 11)⟩) 1 2),(0,(.map (some m)))),((.slice (some ⟨d,0,(some 11)⟩) 1 2),(0,q)),((.slice (some ⟨d,0,(some 11)⟩) 1 2),(0,(.map (some m)))),((.slice (some ⟨d,0,(some 11)⟩) 1 2),(0,E)),(k,(0,f)),(l,(0,f)),(k,(0,(.map (some m)))),(l,(0,(.map (some m))))]) (λa8=>A.pa j 1 (λaE=>a0 [(.i aE)] M))))))))))))))))))))))))))))))))))))) ( np3 A g F b K))) [(.i 0)] I))))))))))))))))))))))))))))))))))
def np1(c:Nat)(h:Nat)(u:Value)(e:HT)(K:TG->HT->R):R:=A.jw (Ec (.pointer (some ⟨c,0,none⟩))) (λx80=>A.n4 x80 ( A.jw (Eu 6 x80) (λx81=>A.n4 x81 ( A.ma (.lg cc 1 x81) e (λn=>A.DF n (λx83 o=>A.n4 x83 ( A.tf o ( A.call 46 [(.v x83),(.v (.func (.func 47) ⟨[]⟩ ⟨[]⟩))] e (λp f=>A.A1 p ( A.jw (Ec (.pointer (some ⟨c,0,none⟩))) (λx87=>A.n4 x87 ( A.jw (Eu 6 x87) (λx88=>A.n4 x88 ( A.ma (.lg cc 1 x88) f (λq=>A.DF q (λx90 r=>A.n4 x90 ( A.tf r ( A.ln x90 (λx92=>A.loop (λt s b=>A.k6 s (λa=>A.cd .lss a x92 ( A.ix 3 x90 a 3 b (λg=>A.IQ g (λj k l=>A.heap (.fn (G5 cc 55 (.map (some h)) (.agg ⟨[(.int .i64 j),(.int .i64 k),(.int .u8 l)]⟩) (.int .i64 a))) b (λw d=>A.pa a 1 (λm=>t [(.i m)] d))))) ( np2 A c u h b K))) [(.i 0)] f)))))))))))))))))))
def np0(ls:TG)(h:HT)(K:TG->HT->R):R:=A.po ls (λZ l7=>A.po l7 (λn8 l9=>A.DK l9 (λx10 L=>A.k0 L (λr s t=>A.call 45 [(.i Z),(.i n8),(.v x10),(.i r),(.i s),(.i t)] h (λM c=>A.k3 M (λb u=>A.cd .neq u 0 ( K [(.v (.pointer none)),(.i u)] c) ( A.pm Z n8 (λY=>A.cd .gtr Y 9 ( K [(.v (.pointer none)),(.i 3)] c) ( A.ln b (λYt=>A.jw (EU Yt Yt) (λaE=>A.new (.cells (aL [(.bool false)] (Int.toNat Yt)) 1 true) c (λp C=>A.new (.map [] 0) C (λd D=>A.new (.cells [(.int .i64 Z),(.int .i64 n8),x10,(.int .u8 r),(.int .i64 s),(.int .i64 t),(.slice none 0 0),(.slice none 0 0),(.slice none 0 0),(.slice (some ⟨p,0,(some 11)⟩) (Int.toNat Yt) ((Int.toNat Yt)+1)),(.map (some d)),(.slice none 0 0),(.slice none 0 0),(.slice none 0 0),(.bool false)] 15 true) D (λe E=>A.jw (Ew [((.map (some d)),(2,b)),((.slice (some ⟨p,0,(some 11)⟩) (Int.toNat Yt) ((Int.toNat Yt)+1)),(0,(.map (some d))))]) (λa0=>A.new (.map [] 0) E (λf F=>A.ln b (λan=>A.loop (λag N a=>A.k6 N (λg=>A.cd .lss g an ( A.ix 3 b g 3 a (λO=>A.IQ O (λj k l=>A.ma (.fn (Gr cc 55 false (.int .i64 0) (.map (some f)) (.agg ⟨[(.int .i64 j),(.int .i64 k),(.int .u8 l)]⟩) true)) a (λP=>A.td .i64 P (λay Q=>A.E7 Q (λal S=>A.tf S ( A.join (λT G=>A.A1 T ( A.pa g 1 (λad=>ag [(.i ad)] G))) (λo=>A.cond (!al) ( A.heap (.fn (G5 cc 55 (.map (some f)) (.agg ⟨[(.int .i64 j),(.int .i64 k),(.int .u8 l)]⟩) (.int .i64 0))) a (λav n=>A.jw (Ec (.pointer (some ⟨e,0,none⟩))) (λw=>A.n4 w ( A.jw (Eu 6 w) (λm=>A.n4 m ( A.ma (.lg cc 1 m) n (λU=>A.DF U (λx V=>A.n4 x ( A.tf V ( A.new (.cells [(.int .i64 j),(.int .i64 k),(.int .u8 l)] 3 true) n (λq H=>A.heap (.ap cc 3 24 x (.slice (some ⟨q,0,(some 13)⟩) 1 2)) H (λW I=>A.DF W (λy X=>A.n4 y ( A.tf X ( A.jw (Ec (.pointer (some ⟨e,0,none⟩))) (λz=>A.n4 z ( A.jw (Eu 6 z) (λB=>A.n4 B ( A.heap (.st B [y]) I (λax J=>A.jw (Ew [((.slice (some ⟨q,0,(some 13)⟩) 1 2),(0,m))]) (λa1=>o [] J))))))))))))))))))))) ( o [] a))))))))) ( np1 A e f b a K))) [(.i 0)] F)))))))))))))))))
end
def j3{R a:Type}(A:Dv R a)(ls:TG)(h:a)(K:TG->a->R):f24 A ls h K=np0 A ls h K:=rfl
def RK{l:TC}{N:Nat}(h:l.Nodup)(j:∀x∈l,x<N):l.length<=N:=by
 have d:∀(a b:TC),a.Nodup->(∀x∈a,x∈b)->a.length<=b.length:=by
  intro a
  induction a with
  |nil=>simp_all
  |cons x a k=>
   intro b c f;rw[w9]at c;have g:=f x c_;have:=k (b.erase x) c.2 λy i=>(List.mem_erase_of_ne λe=>c.1 (by rw[←e];exact i)).2 (f y (by simp[i]))
   grind
 have:=d l (range N) h λx g=>CY.2 (j x g)
 simp_all
def t'{c:Cl}{e:Nat}(a:c.2.2<4)(b:e<3):EO c e≠c:=by
 obtain⟨x,y,q⟩:=c;simp only at a;obtain rfl|rfl|rfl|rfl:=FE a
 all_goals
  obtain rfl|rfl|rfl:e=0∨e=1∨e=2:=a_
 all_goals simp[EO]
 all_goals omega
def y7{t e f:Nat}(a:e<3)(b:f<3)(h:eT t e=eT t f):e=f:=by
 unfold eT at h
 grind
def ij{l:TD}(j:∀c∈l,c.2.2≠0){u e:Nat}:cP l (ofNat u) (ofNat e)≠0↔Dy l u e=true:=by
 unfold cP Dy;rw[E6,DJ];cases b:l.find? (LF (ofNat u) (ofNat e))with
 |none=>
  have d:=List.find?_eq_none.1 b;refine⟨λh=>absurd rfl h,?_⟩;rintro⟨c,i,a⟩;refine absurd ?_ (d c i);unfold aS at a;simp only[SC]at a;simp[LF,a]
 |some c=>
  have g:=b2 b;have f:=hN b;refine⟨λ_=>⟨c,g,?_⟩,λ_=>j c g⟩;simp only[LF,te,E6]at f;unfold aS;rw[f.1,f.2]
def Rc{x y z:Cl}(a:y≠x)(b:z≠x)(h:r_ x y=r_ x z):y=z:=by
 unfold r_ at h
 grind
section
variable {w v:Nat} (hs:Sh w v) {l:TD} {G:TH} (hG:A2 w v l G) {r:Mv} (hr:r.1<8)
abbrev qb(G:TH)(r:Mv):Nat->Mv:=λc=>af (G c) r
include hs
theorem ZS{c:Nat}(a:c<4*w*v):(pu w c).2.2<4:=(dS hs a).2.2.2.2
theorem Ll{c e:Nat}(a:c<4*w*v)(b:e<3):D3 w (qb G r) c e=EO (Ds w (qb G r) c) (eT (qb G r c).1 e):=
 io bR (ZS hs a) b
theorem Lm{c e:Nat}(b:c<4*w*v)(a:e<3):D3 w (qb G r) c e≠Ds w (qb G r) c:=by
 rw[Ll hs b a];exact t' dR (mJ a)
theorem P0{c e f:Nat}(d:c<4*w*v)(a:e<3)(b:f<3)(h:D3 w (qb G r) c e=D3 w (qb G r) c f):e=f:=by
 rw[Ll hs d a,Ll hs d b]at h;exact y7 a b (yE dR (mJ a) (mJ b) h)
theorem gc{c e f:Nat}(a:c<4*w*v)(b:e<3)(d:f<3)(h:r_ (Ds w (qb G r) c) (D3 w (qb G r) c e)=r_ (Ds w (qb G r) c) (D3 w (qb G r) c f)):e=f:=
 P0 hs a b d (Rc (Lm hs a b) (Lm hs a d) h)
include hG hr
theorem xW{c e n:Nat}(j:c<4*w*v)(h:e<3)(q:y0 w v c e=some n)(k:Dy l (min c n) e=true):Ds w (qb G r) n=Ds w (qb G r) c/\D3 w (qb G r) n e=D3 w (qb G r) c e:=by
 obtain⟨i,o,m,d,t⟩:=cQ hs j h q;obtain⟨_,_,_,f,_⟩:=cQ hs i h o;have b:(af (G c) r).1<8:=bR;have a:=hG.g c e n j h q;unfold E_ at a;rw[qs k]at a;have s:q8 (pu w (min c n)) e=q8 (pu w c) e:=by
  grind
 rw[s]at a;have p:af (G n) r=af (Do (q8 (pu w c) e)) (af (G c) r):=by rw[a,aW (lW _) (hG.ok c j).1 hr]
 constructor
 .unfold Ds qb;rw[p,d];exact ik b (ZS hs j) h
 .unfold D3 qb;rw[←f,←d,p,m];have:=ik (g:=af (G c) r) (c:=pu w n) (e:=e) b (ZS hs i) h
  grind
theorem Qk{c e n:Nat}(m:c<4*w*v)(i:e<3)(o:y0 w v c e=some n)(h:Dy l (min c n) e=false):qb G r n=qb G r c/\Ds w (qb G r) n=D3 w (qb G r) c e/\D3 w (qb G r) n e=Ds w (qb G r) c:=by
 obtain⟨j,k,p,f,q⟩:=cQ hs m i o;obtain⟨_,_,_,b,_⟩:=cQ hs j i k;have a:=hG.g c e n m i o;unfold E_ at a;rw[rv (by rw[h];decide)]at a;have d:qb G r n=qb G r c:=by unfold qb;rw[a]
 refine⟨d,?_,?_⟩
 .unfold Ds D3;rw[d,f]
 .unfold Ds D3;rw[d,←b]
variable (hk0:∀c∈l,c.2.2≠0)
structure Gu(w v:Nat)(l:TD)(G:TH)(r:Mv)(k:K6)(t:Nat)(o:K2)(e:Nat):Prop where
 he:e<3
 n1:o.1<4*w*v
 n2:o.2<4*w*v
 lt:o.1<o.2
 nb:y0 w v o.1 e=some o.2
 bn:y0 w v o.2 e=some o.1
 cr:Dy l o.1 e=true
 k1:r_ (Ds w (qb G r) o.1) (D3 w (qb G r) o.1 e)=k
 k2:r_ (Ds w (qb G r) o.2) (D3 w (qb G r) o.2 e)=k
 im:Ds w (qb G r) o.1=(if t=1 then k.1 else k.2)/\Ds w (qb G r) o.2=(if t=1 then k.1 else k.2)
 gt:DX (Ds w (qb G r) o.1) (D3 w (qb G r) o.1 e)=decide (t=2)
include hk0
theorem uA{k:K6}{t:Nat}{o:K2}(B:t=1∨t=2)(h:iO w v l (qb G r) (4*w*v) k t o):∃e,Gu w v l G r k t o e:=by
 obtain⟨id,e,n,i',c,f,x,d,h⟩:=h;rcases h with⟨z,_,_⟩|⟨A,q,rfl⟩
 .omega
 obtain⟨g,i,u,s,y⟩:=cQ hs i' c f;have m:min id n=id:=XS a_;have b:Dy l (min id n) e=true:=(ij hk0).1 q;obtain⟨j,p⟩:=xW hs hG hr i' c f b;have a:Ds w (qb G r) id=(if t=1 then k.1 else k.2):=by
  unfold r_ at d
  grind
 refine⟨e,c,i',g,a_,f,i,i_,d,by rw[j,p];exact d,⟨a,by rw[j];exact a⟩,?_⟩
 grind
omit hk0 hG hr in
theorem lP{k:K6}{t z:Nat}{o u:K2}{e f:Nat}(a:Gu w v l G r k t o e)(b:Gu w v l G r k z u f)(h:o.1=u.1∨o.1=u.2∨o.2=u.1∨o.2=u.2):o=u/\e=f:=by
 obtain⟨A,B⟩:=o;obtain⟨C,D⟩:=u;have n:=a.nb;have p:=a.bn;have s:=b.nb;have x:=b.bn;have q:=a.lt;have y:=b.lt;have c:=a.k1;have d:=a.k2;have j:=b.k1;have m:=b.k2;have g:=a.n1;have i:=a.n2;simp only at n p s x q y c d j m g i h;rcases h with h|h|h|h
 .subst h;have:=gc hs g a.he b.he (c.trans j.symm)
  simp_all
 .subst h;have:=gc hs g a.he b.he (c.trans m.symm)
  grind
 .subst h;have:=gc hs i a.he b.he (d.trans j.symm)
  grind
 .subst h;have:=gc hs i a.he b.he (d.trans m.symm)
  simp_all
structure Gv(w v:Nat)(l:TD)(G:TH)(r:Mv)(k:K6)(p:K2)(e:Nat):Prop where
 he:e<3
 n1:p.1<4*w*v
 n2:p.2<4*w*v
 ne:p.1≠p.2
 nb:y0 w v p.1 e=some p.2
 bn:y0 w v p.2 e=some p.1
 cr:Dy l (min p.1 p.2) e=false
 k1:r_ (Ds w (qb G r) p.1) (D3 w (qb G r) p.1 e)=k
 k2:r_ (Ds w (qb G r) p.2) (D3 w (qb G r) p.2 e)=k
 i1:Ds w (qb G r) p.1=k.1
 i2:Ds w (qb G r) p.2=k.2
theorem uM{k:K6}{p:K2}(h:iO w v l (qb G r) (4*w*v) k 0 p):∃e,Gv w v l G r k p e:=by
 obtain⟨id,e,n,i',c,m,A,a,h⟩:=h;rcases h with⟨_,x,o⟩|⟨u,_,_⟩
 case inr=>
  split at u<;>omega
 obtain⟨f,i,z,y,j⟩:=cQ hs i' c m;have b:Dy l (min id n) e=false:=by
  rw[←Hz];exact λq=>(ij hk0).2 q x
 obtain⟨_,s,t⟩:=Qk hs hG hr i' c m b;have d:r_ (Ds w (qb G r) n) (D3 w (qb G r) n e)=k:=by
  rw[s,t,←a];unfold r_;cases g:DX (Ds w (qb G r) id) (D3 w (qb G r) id e)with
  |true=>rw[wp g];rfl
  |false=>
   rw[qn g λq=>Lm hs i' c q.symm];rfl
 unfold r_ at a;cases g:DX (Ds w (qb G r) id) (D3 w (qb G r) id e)with
 |true=>
  rw[g,qs rfl]at o a;subst o;refine⟨e,c,f,i',j,i,m,j_,d,?_,by rw[s,←a],by rw[←a]⟩;unfold r_
  simp_all
 |false=>
  rw[g,rv m_]at o a;subst o;refine⟨e,c,i',f,Ej j,m,i,b,?_,d,by rw[←a],by rw[s,←a]⟩;unfold r_
  simp_all
omit hk0 hG hr in
theorem ph{k:K6}{p q:K2}{e f:Nat}(a:Gv w v l G r k p e)(b:Gv w v l G r k q f)(h:p.1=q.1∨p.2=q.2):p=q/\e=f:=by
 obtain⟨u,x⟩:=p;obtain⟨y,z⟩:=q;have n:=a.nb;have o:=a.bn;have s:=b.nb;have t:=b.bn;have c:=a.k1;have d:=a.k2;have j:=b.k1;have m:=b.k2;have g:=a.n1;have i:=a.n2;simp only at n o s t c d j m g i h;rcases h with h|h
 .subst h;have:=gc hs g a.he b.he (c.trans j.symm)
  simp_all
 .subst h;have:=gc hs i a.he b.he (d.trans m.symm)
  simp_all
omit hk0 hG hr in
theorem wV{k:K6}{t:Nat}{p o:K2}{e f:Nat}(a:Gv w v l G r k p e)(b:Gu w v l G r k t o f):p.1≠o.1/\p.1≠o.2/\p.2≠o.1/\p.2≠o.2:=by
 obtain⟨D,E⟩:=p;obtain⟨q,B⟩:=o;have s:=a.nb;have u:=a.bn;have y:=b.nb;have z:=b.bn;have x:=a.cr;have A:=b.cr;have c:=a.k1;have d:=a.k2;have j:=b.k1;have m:=b.k2;have g:=a.n1;have i:=a.n2;have n:=b.lt;simp only at s u y z x A c d j m g i n ⊢;have C:min q B=q:=XS (qdC n);refine⟨λh=>?_,λh=>?_,λh=>?_,λh=>?_⟩
 .subst h;have:=gc hs g a.he b.he (c.trans j.symm)
  simp_all
 .subst h;have:=gc hs g a.he b.he (c.trans m.symm)
  grind
 .subst h;have:=gc hs i a.he b.he (d.trans j.symm)
  grind
 .subst h;have:=gc hs i a.he b.he (d.trans m.symm)
  simp_all
end
def vf{w v:Nat}{l:TD}{P:TH}{k:K6}{t id e:Nat}{b:K2}(h:FH k t (F2 w v l P id e)=some b):r_ (Ds w P id) (D3 w P id e)=k/\∃n,y0 w v id e=some n/\¬n<id/\(b=(id,n)∨b=(n,id)):=by
 unfold FH F2 at h
 grind
def fa{w v:Nat}(p:Sh w v){l:TD}{G:TH}{r:Mv}{k:K6}{t:Nat}:((GQ w v l (qb G r) (4*w*v)).filterMap (FH k t)).Nodup:=by
 rw[XT,qdn];unfold GQ;rw[qcp];constructor
 .intro id i';rw[H0];refine List.pairwise_lt_range.imp_of_mem λ{e f} i m j b c h a _=>?_;have d:=(vf c).1;have g:=(vf a).1;have:=gc p (CY.1 i') (CY.1 i) (CY.1 m) (d.trans g.symm);omega
 .refine List.pairwise_lt_range.imp λ{id u} o x q y s b c h a e=>?_;obtain⟨z,_,rfl⟩:=DJ.1 q;obtain⟨A,_,rfl⟩:=DJ.1 s;obtain⟨_,n,_,d,g⟩:=vf c;obtain⟨_,D,_,B,C⟩:=vf a
  grind
def EM(A:FR)(i t:Nat):List K2:=A.2.getD (3*i+t) []
def KW{w v:Nat}{l:TD}{P:TH}{n i t:Nat}{k:K6}(a:(Ee w v l P n).1[i]?=some k)(b:t<3):(Ee w v l P n).2[3*i+t]?=some (EM (Ee w v l P n) i t)/\EM (Ee w v l P n) i t=(GQ w v l P n).filterMap (FH k t):=by
 have:=(zh w v l P n).ls i k t a b;unfold EM
 simp_all
def du{w v:Nat}{l:TD}{P:TH}{n i t:Nat}{k:K6}(a:(Ee w v l P n).1[i]?=some k)(b:t<3){p:K2}:p∈EM (Ee w v l P n) i t↔iO w v l P n k t p:=by
 rw[(KW a b).2];exact S4 w v l P
section
variable {w v:Nat} (hs:Sh w v) {l:TD} {G:TH} (hG:A2 w v l G) {r:Mv} (hr:r.1<8) (hk0:∀c∈l,c.2.2≠0) {i:Nat} {k:K6} (hi:(Ee w v l (qb G r) (4*w*v)).1[i]?=some k)
abbrev w_(w v:Nat)(l:TD)(G:TH)(r:Mv):FR:=Ee w v l (qb G r) (4*w*v)
include hs hi
theorem xB{t:Nat}(a:t<3):(EM (w_ w v l G r) i t).Nodup:=by
 rw[(KW hi a).2];exact fa hs
include hG hr hk0
theorem mQ{t:Nat}(b:t=1∨t=2){o:K2}(a:o∈EM (w_ w v l G r) i t):∃e,Gu w v l G r k t o e:=uA hs hG hr hk0 b ((du hi a_).1 a)
theorem MI{o:K2}(a:o∈EM (w_ w v l G r) i 0):∃e,Gv w v l G r k o e:=uM hs hG hr hk0 ((du hi a_).1 a)
theorem wH{t:Nat}(d:t=1∨t=2):(EM (w_ w v l G r) i t).length<=4*w*v:=by
 have g:((EM (w_ w v l G r) i t).map Prod.fst).Nodup:=by
  rw[XT,H0];have:=xB hs hi (G:=G) (r:=r) (l:=l) (t:=t) a_;rw[XT]at this;refine this.imp_of_mem λ{a b} h j c e=>c ?_;obtain⟨q,f⟩:=mQ hs hG hr hk0 hi d h;obtain⟨s,p⟩:=mQ hs hG hr hk0 hi d j;exact(lP hs f p (.inl e)).1
 have:=RK g λx n=>by
  obtain⟨o,m,rfl⟩:=DJ.1 n;obtain⟨e,f⟩:=mQ hs hG hr hk0 hi d m;exact f.n1
 simp_all
theorem Yq(A:2<=(EM (w_ w v l G r) i 0).length+(EM (w_ w v l G r) i 1).length+(EM (w_ w v l G r) i 2).length):0<(Fa (p_ (z_ w v G r))).length:=by
 have h:(z_ w v G r).length=4*w*v:=by simp[z_]
 have B:∀t,(t=1∨t=2)->0<(EM (w_ w v l G r) i t).length->0<(Fa (p_ (z_ w v G r))).length:=λt s d=>by
  obtain⟨o,m⟩:=am d;obtain⟨e,q⟩:=mQ hs hG hr hk0 hi s (A9 m);refine uR (x:=o.1) (y:=o.2) (by have:=q.lt;omega) ?_ (by rw[h];exact q.n1);rw[cv q.n1,cv q.n2];have:=q.im.1.trans q.im.2.symm;unfold Ds at this
  simp_all
 by_cases u:0<(EM (w_ w v l G r) i 1).length
 .simp_all
 by_cases z:0<(EM (w_ w v l G r) i 2).length
 .simp_all
 obtain⟨p,d⟩:=am (l:=EM (w_ w v l G r) i 0) (i:=0) a_;obtain⟨q,n⟩:=am (l:=EM (w_ w v l G r) i 0) (i:=1) a_;obtain⟨e,a⟩:=MI hs hG hr hk0 hi (A9 d);obtain⟨f,g⟩:=MI hs hG hr hk0 hi (A9 n);have c:p.1≠q.1:=λj=>by
  have:=(ph hs a g (.inl j)).1;subst this;have b:=xB hs hi (G:=G) (r:=r) (l:=l) (t:=0) a_;rw[XT,KI]at b
  grind
 refine uR (x:=p.1) (y:=q.1) c ?_ (by rw[h];exact a.n1);rw[cv a.n1,cv g.n1];have:=a.i1.trans g.i1.symm;unfold Ds at this
 simp_all
end
def LO{pn:Ti}{L:List K2}{i:Nat}{f:B5}:f∈UM pn L i↔∃(j:Nat) (o u:K2),j<i/\L[i]?=some o/\L[j]?=some u/\f=four pn o u:=by
 unfold UM;cases h:L[i]? with
 |none=>simp
 |some o=>
  simp only[DJ,G_];constructor
  .rintro⟨u,a,rfl⟩;obtain⟨j,d⟩:=FK a
   grind
  .rintro⟨j,e,u,b,rfl,c,rfl⟩;exact⟨u,A9 (i:=j) j_,rfl⟩
def yk{pn:Ti}{L:List K2}{f:B5}:f∈GB pn L L.length↔∃(i j:Nat) (o u:K2),j<i/\L[i]?=some o/\L[j]?=some u/\f=four pn o u:=by
 unfold GB;rw[GG];constructor
 .rintro⟨i,_,d⟩;exact⟨i,LO.1 d⟩
 .rintro⟨i,h⟩;obtain⟨j,o,u,b,a,c⟩:=h;exact⟨i,CY.2 (ai a),LO.2 ⟨j,o,u,b,a,c⟩⟩
def Kl{pn:Ti}{L:List K2}:∀n,(GB pn L n).length<=n*L.length
 |0=>by simp[GB]
 |n+1=>by
  have a:=Kl (pn:=pn) (L:=L) n;rw[uf,HY,KJ,U1];have:(UM pn L n).length<=L.length:=by
   unfold UM
   grind
  omega
def H6(pn:Ti)(A:FR)(n:Nat):List B5:=(range n).flatMap λi=>GB pn (EM A i 1) (EM A i 1).length++GB pn (EM A i 2) (EM A i 2).length
def zC{pn:Ti}{A:FR}{n:Nat}:H6 pn A (n+1)=H6 pn A n++GB pn (EM A n 1) (EM A n 1).length++GB pn (EM A n 2) (EM A n 2).length:=by
 unfold H6;rw[MT,ZO];simp
def xL{pn:Ti}{A:FR}{B:Nat}:∀n,(∀i t,i<n->(t=1∨t=2)->(EM A i t).length<=B)->(H6 pn A n).length<=n*(2*(B*B))
 |0,_=>by simp[H6]
 |n+1,h=>by
  have d:=xL (pn:=pn) n λi t c=>h i t a_;have a:=h n 1 a_ (.inl rfl);have b:=h n 2 a_ (.inr rfl);have e:=Kl (pn:=pn) (L:=EM A n 1) (EM A n 1).length;have f:=Kl (pn:=pn) (L:=EM A n 2) (EM A n 2).length;have g:(EM A n 1).length*(EM A n 1).length<=B*B:=z' a a;have j:(EM A n 2).length*(EM A n 2).length<=B*B:=z' b b;rw[zC,HY,HY,KJ,U1];omega
def tl(pn:Ti)(A:FR)(V:Tx)(n:Nat):Prop:=∀i,i<n->∀j,j<(EM A i 0).length->HK pn (EM A i 0) (EM A i 1) (EM A i 2) V j
section
variable {w v:Nat} (hs:Sh w v) {l:TD} {G:TH} (hG:A2 w v l G) {r:Mv} (hr:r.1<8) (hk0:∀c∈l,c.2.2≠0)
include hs hG hr hk0
theorem Pt{pn:Ti}{n:Nat}(P:n<=(w_ w v l G r).1.length):∀f∈H6 pn (w_ w v l G r) n,∀x∈[f.1,f.2.1,f.2.2.1,f.2.2.2],∃q∈p_ (z_ w v G r),∃a∈q,∃b∈q,a≠b/\x=DC pn a b:=by
 intro f m x A;unfold H6 at m;obtain⟨i,H,m⟩:=GG.1 m;rw[CY]at H;obtain⟨k,p⟩:=am (l:=(w_ w v l G r).1) (i:=i) a_;have M:∀t,(t=1∨t=2)->f∈GB pn (EM (w_ w v l G r) i t) (EM (w_ w v l G r) i t).length->∃q∈p_ (z_ w v G r),∃a∈q,∃b∈q,a≠b/\x=DC pn a b:=λt D m=>by
  obtain⟨a,b,o,u,F,I,J,rfl⟩:=yk.1 m;obtain⟨e,d⟩:=mQ hs hG hr hk0 p D (A9 I);obtain⟨C,g⟩:=mQ hs hG hr hk0 p D (A9 J);have c:¬(o.1=u.1∨o.1=u.2∨o.2=u.1∨o.2=u.2):=λq=>by
   have:=(lP hs d g q).1;subst this;have s:=xB hs p (G:=G) (r:=r) (l:=l) (t:=t) a_;rw[XT,KI]at s
   grind
  have j:∀y,y<4*w*v->Ds w (qb G r) y=(if t=1 then k.1 else k.2)->(z_ w v G r)[y]?=some (if t=1 then k.1 else k.2):=λy B e=>by
   rw[cv B];exact congrArg some e
  have h:∀y z,y<4*w*v->z<4*w*v->Ds w (qb G r) y=(if t=1 then k.1 else k.2)->Ds w (qb G r) z=(if t=1 then k.1 else k.2)->y≠z->∃q∈p_ (z_ w v G r),∃a∈q,∃b∈q,a≠b/\DC pn y z=DC pn a b:=λy z B L E C K=>by
   obtain⟨q,Q,N,O⟩:=dW (j y B E) (j z L C)
   grind
  unfold four at A;simp only[EL,SE,or_false]at A;rcases A with rfl|rfl|rfl|rfl
  .exact h _ _ d.n1 g.n1 d.im.1 g.im.1 λe=>c (.inl e)
  .exact h _ _ d.n2 g.n1 d.im.2 g.im.1 λe=>c (.inr (.inr (.inl e)))
  .exact h _ _ d.n1 g.n2 d.im.1 g.im.2 λe=>c (.inr (.inl e))
  .exact h _ _ d.n2 g.n2 d.im.2 g.im.2 λe=>c (.inr (.inr (.inr e)))
 grind
theorem z8{i e n:Nat}(a:i<4*w*v)(d:e<3)(f:y0 w v i e=some n)(h:cP l (ofNat (min i n)) (ofNat e)≠0):0<(Fa (p_ (z_ w v G r))).length:=by
 obtain⟨b,_,_,_,c⟩:=cQ hs a d f;have g:=(xW hs hG hr a d f ((ij hk0).1 h)).1;refine uR (x:=i) (y:=n) (Ej c) ?_ (by simp[z_];exact a);rw[cv a,cv b];unfold Ds at g
 simp_all
end
def MQ{IDS:List (TC)}{B:Nat}(h:∀l∈IDS,l.length<=B):(Fa IDS).length<=IDS.length*(B*B):=by
 induction IDS with
 |nil=>simp[Fa]
 |cons l I c=>
  have d:=c λm b=>h m (by simp[b]);have a:=h l c_;have e:=yU (l:=l) l.length;have f:l.length*l.length<=B*B:=z' a a;show(Ix l l.length++Fa I).length<=_;rw[HY,ZJ,KJ,U1];omega
structure N4(h0 h4:HL)(b mp:Nat)(w v:Nat)(xv:Value)(r:Mv)(xa xd xl xu xp:Value)(vs:Tn)(IM:TM):Prop where
 hb:h4[b]?=some (.o (.cells (ah ⟨w,v,xv,r,xa,xd,xl,xu,mp,xp,.slice none 0 0,.slice none 0 0⟩ false) 15 true))
 bn:h0.length<=b
 mpn:h0.length<=mp
 old:∀(j:Nat) o,h0[j]?=some o->h4[j]?=some o
 at_:hY h0.length h4 xa 3 bW (EB IM)
 ids:hY h0.length h4 xd 1 D4 vs
 vl:vs.length=(p_ IM).length
 iv:∀(j:Nat) x l,vs[j]?=some x->(p_ IM)[j]?=some l->hY h0.length h4 x 1 l_ l
 lay:hY h0.length h4 xl 1 D4 ((p_ IM).map λ_=>.slice none 0 0)
 us:hY h0.length h4 xu 1 B6 (replicate IM.length false)
 pr:Ek Fj h4 mp (UU (Fa (p_ IM)))
 up:hY h0.length h4 xp 2 Ep ((range (Fa (p_ IM)).length).map λi=>(i,false))
 s1:∀j,g_ xu=some j->g_ xl≠some j
 s2:∀j,g_ xu=some j∨g_ xl=some j->g_ xd≠some j/\∀x∈vs,g_ x≠some j
def Px(h0:HL)(b w v:Nat)(a:Value)(r:Mv)(AT:List K3)(CR:TD)(IDS:List (TC))(pn:Ti)(S:(Nat->Bool)->Prop)(F:List B5)(g:HL):Prop:=
 ∃c n,(c.w=w/\c.v=v/\c.r=r)/\(∀(j:Nat) o,h0[j]?=some o->g[j]?=some o)/\h0.length<=g.length/\(∀j,g_ c.va=some j∨g_ c.us=some j∨g_ c.lay=some j->h0.length<=j)/\
  ∀E:Nat->Prop,(∀j,E j->j<h0.length/\g_ a≠some j)->NpR b c n g (λj=>E j∨g_ c.va=some j∨g_ c.us=some j∨g_ c.lay=some j) AT CR IDS pn S F
def Da(w v:Nat)(l:TD)(G:TH)(r:Mv)(pn:Ti)(V:Tx):Prop:=
 (∀i e,i<4*w*v->e<3->Fx pn w v l (qb G r) V i e)/\tl pn (w_ w v l G r) V (w_ w v l G r).1.length
def na(M:Nat):IL ((range M).map λi=>((i,false):Lit)) (λ_=>0):=by
 have a:∀(i:Nat) u,((range M).map λi=>((i,false):Lit))[i]?=some u->i<M/\u=(i,false):=λi u h=>by
  grind
 refine⟨λi u h=>?_,λi u h b=>?_,λi u h _=>?_⟩
 .grind
 .grind
 grind
def rs_id(M:Nat)(V:Tx):Rs ((range M).map λi=>((i,false):Lit)) (replicate M 0) V:=by
 constructor
 .intro i u h;have a:=ai h;rw[GY,UZ]at a;rw[FM,List.getElem?_range a]at h;have:=EI h;subst this;unfold v7;rw[Pa]
 grind
def A4(M:Nat):Hr ((range M).map λi=>((i,false):Lit)) (replicate M 0):=
 ⟨c_,λx a=>.inl (qdg a)⟩
def t7{h0 C g:HL}{b mp w v:Nat}{xv:TR}{r:Mv}{xa xd X Y xp:TR}{vs:Tn}{l:TD}{G:TH}(m:N4 h0 C b mp w v xv r xa xd X Y xp vs (z_ w v G r))(S:S3 w v)(bl:Pd w v l)(al:∀c∈l,c.2.2≠0)(ag:A2 w v l G)(ay:DV 4000 r)(bb:q9 h0 xv 3 mi l)
  {I:List K2} (ad:I=Fa (p_ (z_ w v G r))) {va fo:TR} {n:Bool} {U:List Lit} {W:TE} (b2:g_ va=some C.length)
  (R:Pi g b ⟨w,v,xv,r,xa,xd,X,Y,mp,xp,va,fo⟩ n U W (EF I) (H6 (EF I) (w_ w v l G r) (w_ w v l G r).1.length)) (hU:U.length=I.length) (hC:∀V,(n=false/\Rs U W V)↔Da w v l G r (EF I) V)
  (hk:∀(j:Nat) o,C[j]?=some o->j≠b->g_ xp≠some j->g[j]?=some o) (b0:∀j,g_ fo=some j->C.length<j) (b1:C.length+1<g.length) :
  Px h0 b w v xv r (EB (z_ w v G r)) l (p_ (z_ w v G r)) (EF I) (Da w v l G r (EF I)) (H6 (EF I) (w_ w v l G r) (w_ w v l G r).1.length) g:=by
 have hs:=S.sh;have hN:(z_ w v G r).length=4*w*v:=by simp[z_]
 have bm:=S.n;have bC:=ai m.hb;have bs:h0.length<=C.length:=by have:=m.bn;omega
 have a3:∀ {j e:Nat} {H:Tn} {P:Bool},C[j]?=some (.o (.cells H e P))->e≠15->j≠b:=λ{j e H P} u he q=>by
  subst q;rw[m.hb]at u
  simp_all
 have bd:∀ {j e:Nat} {H:Tn} {P:Bool},C[j]?=some (.o (.cells H e P))->e≠2->g_ xp≠some j:=λ{j e H P} u he q=>by
  obtain⟨aE,D⟩:=m.up.wid q
  simp_all
 have b3:∀j,g_ xp=some j->h0.length<=j/\j<C.length:=λj q=>m.up.g_ q;have kO:∀ {O:Type} {e:Nat} {p:O->Tn} {L:List O} {x:TR} {n0:Nat},hY n0 C x e p L->e≠15->e≠2->hY n0 g x e p L:=λ{O e p L x n0} M s D=>M.C2 λj H _ u=>hk j _ u (a3 u s) (bd u D);have ax:∀(j:Nat) o,h0[j]?=some o->g[j]?=some o:=λj o u=>by
  have s:=ai u;refine hk j o (m.old j o u) (λe=>?_) λe=>?_
  .have:=m.bn;omega
  grind
 have a8:∀j,g_ Y=some j∨g_ X=some j->(∃H,C[j]?=some (.o (.cells H 1 true)))/\h0.length<=j/\j<C.length:=λj q=>by
  rcases q with q|q
  .exact⟨m.us.wid q,m.us.g_ q⟩
  .exact⟨m.lay.wid q,m.lay.g_ q⟩
 refine⟨⟨w,v,xv,r,xa,xd,X,Y,mp,xp,va,fo⟩,n,⟨rfl,rfl,rfl⟩,ax,a_,λj q=>?_,λE hE=>?_⟩
 .grind
 have av:S3x ⟨w,v,xv,r,xa,xd,X,Y,mp,xp,va,fo⟩ g.length:=by
  refine⟨λj q=>?_,λj q=>?_,λj q=>?_⟩
  .grind
  .have:=(a8 _ (.inl q)).2.2;exact⟨a_,m.s1 j q⟩
  grind
 obtain⟨mu,a0⟩ : ∃mu:Nat->Prop,mu=λj=>E j∨g_ va=some j∨g_ Y=some j∨g_ X=some j:=⟨_,rfl⟩;have K:∀j,mu j->(j<h0.length/\g_ xv≠some j)∨j=C.length∨(h0.length<=j/\j<C.length/\(g_ Y=some j∨g_ X=some j)/\∃H,C[j]?=some (.o (.cells H 1 true))):=λj q=>by
  grind
 show NpR b _ n g (λj=>E j∨g_ va=some j∨g_ Y=some j∨g_ X=some j) _ _ _ _ _ _;rw[←a0];have an:¬mu b:=λq=>by
  rcases K b q with q|q|⟨_,_,_,H,q⟩
  .have:=m.bn;omega
  .omega
  grind
 refine⟨R.hb,av,an,λhn x=>?_,λhn=>?_⟩
 .rw[←Hz,AN];rintro⟨V,hV,_⟩
  simp_all
 subst hn;have ap:0<(z_ w v G r).length:=by
  have s:0<w*v:=qdF S.1 S.2.2.1
  grind
 obtain⟨N,Q,hI⟩ : ∃N Q,p_ (z_ w v G r)=N :: Q:=by
  cases h:p_ (z_ w v G r)with
  |cons a b=>exact⟨a,b,rfl⟩
  |nil=>
   obtain⟨c,hc⟩:=am ap;obtain⟨q,F,_⟩:=dW hc hc
   simp_all
 have J:=dt (z_ w v G r);have a5:(p_ (z_ w v G r)).length=(EB (z_ w v G r)).length:=by simp[p_]
 have bx:=tv (z_ w v G r);have bt:Pe C mp (EF I):=by
  rw[ad];exact MN (Ss J) m.pr
 have a7:∀q∈p_ (z_ w v G r),q.length<=36:=λq F=>by
  obtain⟨c,_,rfl⟩:=DJ.1 F;have:=oW (L:=z_ w v G r) (n:=(z_ w v G r).length) (c:=c);show(GC _ _ _).length<=36;omega
 have a4:∀q∈p_ (z_ w v G r),∀x∈q,∀y∈q,x≠y->(DC (EF I) x y).1<U.length:=λq F x hx y hy be=>by
  obtain⟨e1,e2⟩:=uq F hx hy;rw[hU];refine xP ?_ x y;rw[ad];exact uR be e1 e2
 have T:=Pt hs ag ay.1 al (pn:=EF I) (B8 (w_ w v l G r).1.length);have a9:∀x,(replicate (z_ w v G r).length false).getD x false=false:=λx=>by
  grind
 have a6:DS (replicate (z_ w v G r).length false) N=N:=by
  unfold DS;rw[qc1]
  grind
 obtain⟨r0,a2⟩:=R.fr;have hP:∀ {h:HL},AgP g mu h->∀ {O:Type} {e:Nat} {p:O->Tn} {L:List O} {x:TR} {n0:Nat},hY n0 g x e p L->(∀j,g_ x=some j->¬mu j)->hY n0 h x e p L:=by
  intro h hA O e p L x n0 M hm;exact M.ka λj o u hb=>hA.2 j o (ai u) (hm j hb) u
 have bk:∀ {O:Type} {e:Nat} {p:O->Tn} {L:List O} {x:TR},hY h0.length C x e p L->e≠1->∀j,g_ x=some j->¬mu j:=λ{O e p L x} M he j u q=>by
  have a1:=M.g_ u;rcases K j q with q|q|⟨_,_,_,H,q⟩
  .omega
  .omega
  .obtain⟨aE,D⟩:=M.wid u
   grind
 refine⟨U,W,replicate (z_ w v G r).length false,(p_ (z_ w v G r)).map λ_=>.slice none 0 0,r0,(z_ w v G r).length,N,Q,?_,a2,J,T,hI,?_,a6,?_,λx hx=>?_⟩
 .refine⟨λh h' hA Z=>⟨?_,λj o s D S=>Z j o s D (hA.2 j o s D S)⟩,λh hA=>hA.1,av,λj q=>?_,ai R.hb,λh hA=>hA.2 b _ (ai R.hb) an R.hb,λh hA=>hY.ls dV (hP hA R.up λj q=>?_),λh hA=>hY.ls (λ_=>rfl) (hP hA R.fo λj q=>?_),?_,λf hf=>?_,λh hA=>R.pr.ka λo M=>hA.2 mp o (ai M) (λq=>?_) M,λh hA=>hY.ls VL (hP hA (kO m.at_ m_ m_) (bk m.at_ m_)),λh hA=>bb.ka λj o u bP=>hA.2 j o ?_ (λq=>?_) (ax j o u),by have:=bl.len;omega,a_,a5,⟨vs,m.vl,λh hA=>⟨hY.ls bh (hP hA (kO m.ids m_ m_) λj u q=>?_),λj x q s D=>hY.ls bv (hP hA (kO (m.iv j x q s D) m_ m_) λi hi q2=>?_)⟩⟩,λq F=>⟨J.nd q F,by have:=a7 q F;omega,a4 q F⟩⟩
  .obtain⟨o,M⟩:=am (l:=g) (i:=g.length - 1) a_;have s:=hA.2 _ o a_ (λq=>by
    grind) M
   grind
  .grind
  .grind
  .grind
  .have s:=xL (pn:=EF I) (A:=w_ w v l G r) (B:=36) (w_ w v l G r).1.length λi t hi ht=>by
    obtain⟨k,Z⟩:=am hi;have:=wH hs ag ay.1 al Z ht;omega
   have D:(w_ w v l G r).1.length<=3*(4*w*v):=py (4*w*v);omega
  .have q1:=T f hf;have b4:∀x∈[f.1,f.2.1,f.2.2.1,f.2.2.2],x.1<U.length:=λx hx=>by
    grind
   grind
  .rcases K mp q with q|q|⟨_,_,_,H,q⟩
   .have:=m.mpn;omega
   .have:=m.pr.lt;omega
   .obtain⟨es,c,a1,_⟩:=m.pr
    grind
  .grind
  .grind
  .have a1:=m.ids.g_ u;rcases K j q with q|q|⟨_,_,q,_⟩
   .omega
   .omega
   .exact(m.s2 j q).1 u
  .have a1:=(m.iv j x q s D).g_ hi;rcases K i q2 with q2|q2|⟨_,_,q2,_⟩
   .omega
   .omega
   .exact(m.s2 i q2).2 x (A9 s) hi
 .refine⟨⟨R.ok,λV=>?_,λq F=>(by cases F),.nil,λa ha=>(by cases ha)⟩,c_,rfl,?_,λi d q s=>(by cases s),λq _ x _=>a9 x,λq=>?_⟩
  .constructor
   .intro hR;exact⟨(hC V).1 ⟨rfl,hR⟩,λq F=>(by cases F),.nil,λa ha=>(by cases ha)⟩
   grind
  .grind
  grind
 .refine⟨R.va,?_,?_,?_,λj x q s D=>?_,λj x y s D=>?_,λi j x y z s D S=>?_⟩
  .rcases kO m.us m_ m_ with q|⟨id,cx,e1,e2,e3⟩
   .exact .inl q
   .exact .inr ⟨id,cx,e1,D6 _,e3⟩
  .rcases kO m.lay m_ m_ with q|⟨id,cx,e1,e2,e3⟩
   .exact .inl q
   .exact .inr ⟨id,cx,e1,D6 _,e3⟩
  .grind
  .obtain⟨_,_,rfl⟩:=DJ.1 (A9 s);have F:q=[]:=by
    grind
   subst F;exact Hf.nil g
  .obtain⟨_,_,rfl⟩:=DJ.1 (A9 s);cases D
  .obtain⟨_,_,rfl⟩:=DJ.1 (A9 s);cases S
 .obtain⟨_,_,rfl⟩:=DJ.1 hx;rfl
section
variable {h0 h4:HL} {b mp w v:Nat} {xv:Value} {r:Mv} {xa xd xl xu xp:Value} {vs:Tn} {l:TD} {G:TH}
def hz(s:N4 h0 h4 b mp w v xv r xa xd xl xu xp vs (z_ w v G r))(h3:S3 w v)(be:Pd w v l)(Q:∀c∈l,c.2.2≠0)(D:A2 w v l G)(J:DV 4000 r)(cl:∀id e,id<4*w*v->e<3->K7 (ar (af (G id) r) (EO (pu w id) e))=true)
  (ap:q9 h0 xv 3 mi l) {xi:TR} (ay:q9 h0 xi 3 bW (z_ w v G r)) (cf:∀H,q9 H xv 3 mi l->∃lx h',aF cc ac 81 [.i (ofNat w),.i (ofNat v),.v xv,.i (ofNat r.1),.i r.2.1,.i r.2.2] (h9 aa H) [.v lx,.i 0] (h9 aa h')/\u_ H h'/\q9 h' lx 3 sd (EW w v G r))
  {K:Te} (hK:∀g,Px h0 b w v xv r (EB (z_ w v G r)) l (p_ (z_ w v G r)) (EF (Fa (p_ (z_ w v G r)))) (Da w v l G r (EF (Fa (p_ (z_ w v G r))))) (H6 (EF (Fa (p_ (z_ w v G r)))) (w_ w v l G r) (w_ w v l G r).1.length) g->K [.v (kb b),.i 0] g) :
  np4 (hA P1) b xi h4 K:=by
 have hs:=h3.sh;have hN:(z_ w v G r).length=4*w*v:=by simp[z_]
 have cm:=h3.n;obtain⟨d,p⟩ : ∃d,d=Fa (p_ (z_ w v G r)):=⟨_,rfl⟩;have hM:d.length<=1048576:=by
  have N:=MQ (IDS:=p_ (z_ w v G r)) (B:=36) λl hl=>by
   obtain⟨c,_,rfl⟩:=DJ.1 hl;have:=oW (L:=z_ w v G r) (n:=(z_ w v G r).length) (c:=c);show(GC _ _ _).length<=36;omega
  have E:(p_ (z_ w v G r)).length<=36:=by
   unfold p_;rw[GY];have:=tv (z_ w v G r);omega
  rw[p];omega
 unfold np4;simp only[ub];refine k_ ?_;refine bz (ds:=[xp]) s.hb (by simp[ah]) rfl ?_;refine e_ ?_;refine ab (hY.h_ (e:=2) (enc:=Ep) (λ_=>rfl) s.up) ?_;refine k_ ?_;refine bw (hY.ls dV s.up) ?_;rw[GY,UZ,←p];refine ae (dF hM) ?_;refine k_ ?_;rw[show(ofNat d.length).toNat=d.length from rfl];have z0:HO.o (.cells (aL [.int .i64 0] d.length) 1 true)=HO.o (.cells ((replicate d.length (0:Int)).flatMap DD) 1 true):=by
  rw[←cO (enc:=DD) (z:=0)];rfl
 rw[z0];have cT:=ai s.hb;have cp:h0.length<=h4.length:=by have:=s.bn;omega
 obtain⟨X,e5⟩ : ∃X,X=h4++[HO.o (.cells ((replicate d.length (0:Int)).flatMap DD) 1 true)]:=⟨_,rfl⟩;rw[←e5];have k5:∀(j:Nat) o,h4[j]?=some o->X[j]?=some o:=λj o f=>i_;have l5:X.length=h4.length+1:=by rw[e5];simp
 have m5:X[h4.length]?=some (.o (.cells ((replicate d.length (0:Int)).flatMap DD) 1 true)):=by rw[e5];exact aK
 refine gH (b:=b) (k5 _ _ s.hb) (by simp[ah]) ?_;obtain⟨M,u⟩ : ∃M:XC,M=⟨w,v,xv,r,xa,xd,xl,xu,mp,xp,.slice (some ⟨h4.length,0,le 1⟩) d.length (d.length+1),.slice none 0 0⟩:=⟨_,rfl⟩;obtain⟨O,e6⟩ : ∃O,O=X.set b (.o (.cells (ah M false) 15 true)):=⟨_,rfl⟩;have bs:X.set b (.o (.cells (List.take 12 (ah ⟨w,v,xv,r,xa,xd,xl,xu,mp,xp,.slice none 0 0,.slice none 0 0⟩ false)++[.slice (some ⟨h4.length,0,some 11⟩) d.length (d.length+1)]++List.drop (12+[Value.slice (some ⟨h4.length,0,some 11⟩) d.length (d.length+1)].length) (ah ⟨w,v,xv,r,xa,xd,xl,xu,mp,xp,.slice none 0 0,.slice none 0 0⟩ false)) 15 true))=O:=by rw[e6,u];rfl
 rw[bs];refine k_ ?_;have l6:O.length=h4.length+1:=j_;have k6:∀(j:Nat) o,h4[j]?=some o->j≠b->O[j]?=some o:=λj o f c0=>by
  grind
 have b8:∀ {j e:Nat} {cs:Tn} {bk:Bool},h4[j]?=some (.o (.cells cs e bk))->e≠15->j≠b:=λ{j e cs bk} f he q=>by
  subst q;rw[s.hb]at f
  simp_all
 have W:∀(j:Nat) o,h0[j]?=some o->O[j]?=some o:=λj o f=>k6 j o (s.old j o f) (by have:=ai f;have:=s.bn;omega);have a9:hY 0 O (.slice (some ⟨h4.length,0,le 1⟩) d.length (d.length+1)) 1 DD (replicate d.length 0):=by
  refine .inr ⟨h4.length,d.length+1,j_,D6 _,?_,.inr j_⟩
  simp_all
 have a7:Pe O mp (EF d):=by
  rw[p];refine(MN (Ss (dt _)) s.pr).ka λo U=>k6 mp o U λe=>?_;obtain⟨es,c,a1,_⟩:=s.pr;rw[e,s.hb]at a1;cases a1
 have a8:∀ {g:HL},hY h0.length g xp 2 Ep ((range d.length).map λi=>(i,false))->hY 0 g xp 2 Ep ((range d.length).map λi=>(i,false)):=λq=>by
  rcases q with q|⟨id,cx,e1,_,e3⟩
  .exact .inl q
  .exact .inr ⟨id,cx,e1,D6 _,e3⟩
 have I:=s.up;rw[←p]at I;have ce:Pi O b M false ((range d.length).map λi=>((i,false):Lit)) (replicate d.length 0) (EF d) []:=by
  rw[u];refine⟨?_,a8 (I.C2 λj cs _ h=>k6 j _ h (b8 h m_)),a9,.inl ⟨rfl,rfl⟩,a7,⟨_,na _⟩,A4 _⟩
  grind
 have ci:SeX O M w v l G r xi:=by
  rw[u];exact⟨h3,⟨rfl,rfl,rfl⟩,ap.ka λj o f _=>W j o f,be,D,J,cl,ay.ka λj o f _=>W j o f,cf⟩
 have cy:∀j,g_ xv=some j->j<h0.length:=λj q=>Co ap q;have cw:∀j,g_ xi=some j->j<h0.length:=λj q=>Co ay q;have ct:g_ M.va=some h4.length:=by rw[u];rfl
 have bd:∀j,g_ xp=some j->h0.length<=j/\j<h4.length:=λj q=>I.g_ q;obtain⟨kv,T,mm,n1,cs,c3,lx,hS⟩:=X4 ce ci (λj q e=>by
  grind) (λj q e=>by
  grind) (λi n hi ⟨e,he,hn,hc⟩=>by
  rw[GY,UZ];refine xP ?_ i n;rw[p];exact z8 hs D J.1 Q hi he hn hc)
 refine ak cs ?_;refine e_ ?_;obtain⟨A,S⟩ : ∃A,A=w_ w v l G r:=⟨_,rfl⟩;have bt:Ee w v l (λc=>af (G c) r) (4*w*v)=A:=S.symm;rw[bt]at hS;obtain⟨⟨n7,W7,is,c8,p7,c7,C⟩,_,c5,bC⟩:=hS;have b0:A.1.length<=108:=by
  have E:(w_ w v l G r).1.length<=3*(4*w*v):=py (4*w*v);rw[S];omega
 have bm:∀V,(n7=false/\Rs ((range d.length).map λi=>((i,false):Lit)) W7 V)↔∀i e,i<4*w*v->e<3->Fx (EF d) w v l (qb G r) V i e:=λV=>(c7 V).trans ⟨λq=>q.2,λq=>⟨⟨rfl,rs_id _ V⟩,q⟩⟩;have bP:=hY.h_ (e:=1) (enc:=D4) bh C.kl;refine bw (hY.ls bh C.kl) ?_;rw[GY];have cC:S1 T b M d.length W7 (EF d) (H6 (EF d) A 0) (λV=>(∀i e,i<4*w*v->e<3->Fx (EF d) w v l (qb G r) V i e)/\tl (EF d) A V 0) T:=
  ⟨n7,_,p7,c_,λV=>(bm V).trans ⟨λq=>⟨q,λi hi=>a_⟩,λq=>q.1⟩,λ_ _ h _ _=>h,rfl⟩
 refine aH (m:=is.length) (λm ls g=>∃i fo,ls=[.i (ofNat i)]/\m=is.length - i/\i<=is.length/\S1 g b { M with fo:=fo } d.length W7 (EF d) (H6 (EF d) A i) (λV=>(∀i e,i<4*w*v->e<3->Fx (EF d) w v l (qb G r) V i e)/\tl (EF d) A V i) g/\(∀(j:Nat) o,T[j]?=some o->j≠b->g_ xp≠some j->g[j]?=some o)/\T.length<=g.length/\∀j,g_ fo=some j->T.length<=j) ⟨0,.slice none 0 0,rfl,rfl,D6 _,by
  grind,λ_ _ h _ _=>h,B8 _,λj q=>(by cases q)⟩ ?_
 rintro m ls g ⟨i,fo,rfl,rfl,hi,ax,ag,c2,b9⟩ cA al;refine Ei ?_;refine e_ ?_;have cn:b<n1:=a_;have Y:∀(j:Nat) o,n1<=j->T[j]?=some o->g[j]?=some o:=λj o f U=>ag j o U a_ λe=>i_;by_cases R:i<is.length
 case neg=>
  obtain rfl:i=is.length:=a_;rw[aN (B8 _)];refine k_ ?_;obtain⟨n8,U8,p8,b7,av,_,_⟩:=ax;have a0:is.length=A.1.length:=C.il;have cq:0<A.1.length:=by
   have N:0<w*v:=qdF h3.1 h3.2.2.1;have E:(F2 w v l (qb G r) 0 0).1∈A.1:=by
    rw[S];refine((zh w v l (qb G r) (4*w*v)).ks _).2 ⟨F2 w v l (qb G r) 0 0,?_,rfl⟩;unfold GQ
    grind
   grind
  obtain⟨id,F⟩:=am (l:=is) (i:=0) a_;obtain⟨a1,_,_,_,_,_,_,a5⟩:=C.bl 0 id F;have a6:=ai a5;refine hK g ?_;rw[←p];rw[a0,S]at p8 av;rw[u]at p8;exact t7 s h3 be Q D J ap p rfl p8 b7 (λV=>av V) (λj o f N E=>ag j o (bC j o (k6 j o f N) N i_) N E) (λj q=>by have:=b9 j q;omega) a_
 rw[aO R];refine e_ ?_;obtain⟨id,F⟩:=am R;refine aQ (hY.ls bh (C.kl.ka λj o f hb=>Y j o (C.kl.g_ hb).1 f)) rfl (a:=kb id) i_ ?_;rw[show D4 (kb id)=[kb id]from rfl];refine e_ ?_;refine ab (az _) ?_;refine k_ ?_;obtain⟨a1,x,y,z,a2,a3,a4,a5⟩:=C.bl i id F;obtain⟨k,hk⟩:=am (l:=A.1) (i:=i) (by rw[←C.il];exact R);have Z:=hk;rw[S]at Z;have hL:∀t,t<3->A.2[3*i+t]?=some (EM A i t):=λt ht=>by
  rw[S];exact(KW Z ht).1
 have ad:∀ {x:TR} {L:List K2},hY n1 T x 2 Fj L->hY n1 g x 2 Fj L:=λU=>U.ka λj o f hb=>Y j o (U.g_ hb).1 f;have o0:=ad (C.ow _ x _ a2 (hL 0 a_));have o1:=ad (C.ow _ y _ a3 (hL 1 a_));have o2:=ad (C.ow _ z _ a4 (hL 2 a_));have an:∀t,t<3->(EM A i t).length<=1000:=λt ht=>by
  have:=ve (w:=w) (v:=v) (l:=l) (P:=qb G r) (4*w*v) (EM A i t) (by
   grind)
  omega
 have c4:∀ {x:TR} {L:List K2},hY n1 g x 2 Fj L->∀j,g_ xp=some j->g_ x≠some j:=λU j q e=>by
  have N:=(bd j q).2;have E:=(U.g_ e).1;omega
 have b5:(H6 (EF d) A i).length<=1000000000:=by
  have N:=xL (pn:=EF d) (A:=A) (B:=1000) i λj t f ht=>by
   obtain⟨k2,aE⟩:=am (l:=A.1) (i:=j) (by rw[←C.il];omega);rw[S]at aE ⊢;have:=wH hs D J.1 Q aE ht;omega
  grind
 have ck:({ M with fo:=fo }:XC).up=xp:=by rw[u]
 obtain⟨g',cr,bx,n',U',p',b6,b4,co,cb,c1⟩:=X2 ax (sb:=id) (Y id _ a1 a5) (hY.ls (λ_=>rfl) o0) (hY.ls (λ_=>rfl) o1) (hY.ls (λ_=>rfl) o2) (λj q=>i_) ⟨an 0 a_,an 1 a_,an 2 a_⟩ b5 (λE a b'=>by
  refine xP ?_ a b';rw[p];rw[S]at E;exact Yq hs D J.1 Q Z E)
 refine ak cr ?_;refine e_ ?_;rw[aU (by have:=C.il;omega)];have cd:∀j,j<T.length->g_ fo≠some j:=λj f e=>by
  grind
 have bb:∀j,g_ ({ M with fo:=fo }:XC).up≠some j↔g_ xp≠some j:=λj=>by rw[ck]
 refine al _ _ _ a_ ⟨i+1,bx,rfl,rfl,R,⟨n',U',by rw[zC];exact p',b6,λV=>(b4 V).trans ?_,λ_ _ h _ _=>h,rfl⟩,λj o f N E=>cb j o (ag j o f N E) N ((bb j).2 E) (cd j (ai f)),a_,λj q=>?_⟩
 .constructor
  .rintro⟨⟨b1,b2⟩,b3⟩;refine⟨b1,λi2 ca=>?_⟩;by_cases e:i2=i
   .grind
   .exact b2 i2 a_
  .rintro⟨b1,b2⟩;exact⟨⟨b1,λi2 ca=>b2 i2 a_⟩,b2 i a_⟩
 grind
end
structure N3(h0 h4:HL)(b mp:Nat)(w v:Nat)(xv:Value)(r:Mv)(xa xd xl xu:Value)(vs:Tn)(IM:TM):Prop where
 hb:h4[b]?=some (.o (.cells (ah ⟨w,v,xv,r,xa,xd,xl,xu,mp,.slice none 0 0,.slice none 0 0,.slice none 0 0⟩ false) 15 true))
 bn:h0.length<=b
 mpn:h0.length<=mp
 old:∀(j:Nat) o,h0[j]?=some o->h4[j]?=some o
 at_:hY h0.length h4 xa 3 bW (EB IM)
 ids:hY h0.length h4 xd 1 D4 vs
 vl:vs.length=(p_ IM).length
 iv:∀(j:Nat) x l,vs[j]?=some x->(p_ IM)[j]?=some l->hY h0.length h4 x 1 l_ l
 lay:hY h0.length h4 xl 1 D4 ((p_ IM).map λ_=>.slice none 0 0)
 us:hY h0.length h4 xu 1 B6 (replicate IM.length false)
 pr:h4[mp]?=some (.o (.map [] 0))
 s1:∀j,g_ xu=some j->g_ xl≠some j
 s2:∀j,g_ xu=some j∨g_ xl=some j->g_ xd≠some j/\∀x∈vs,g_ x≠some j
structure NJ(h4 g:HL)(b mp:Nat)(w v:Nat)(xv:Value)(r:Mv)(xa xd xl xu:Value)(PR:List K2):Prop where
 x:∃xp,g[b]?=some (.o (.cells (ah ⟨w,v,xv,r,xa,xd,xl,xu,mp,xp,.slice none 0 0,.slice none 0 0⟩ false) 15 true))/\hY h4.length g xp 2 Ep ((range PR.length).map λi=>(i,false))
 m:Ek Fj g mp (UU PR)
 k:∀(j:Nat) o,h4[j]?=some o->j≠b->j≠mp->g[j]?=some o
 l:h4.length<=g.length
section
variable {h0 h4:HL} {b mp w v:Nat} {xv:Value} {r:Mv} {xa xd xl xu:Value} {vs:Tn} {IM:TM}
def N3.wid(d:N3 h0 h4 b mp w v xv r xa xd xl xu vs IM){j e:Nat}{cs:Tn}{c:Bool}(a:h4[j]?=some (.o (.cells cs e c)))(f:e≠15):j≠b/\j≠mp:=by
 constructor
 .intro q;subst q;rw[d.hb]at a
  simp_all
 .intro q;subst q;rw[d.pr]at a;cases a
def NJ.ls{j7:Type}{e:Nat}{enc:j7->Tn}{L:List j7}{x:TR}(c:N3 h0 h4 b mp w v xv r xa xd xl xu vs IM){g:HL}{d:List K2}(f:NJ h4 g b mp w v xv r xa xd xl xu d)(a:e≠15){n0:Nat}(i:hY n0 h4 x e enc L):hY n0 g x e enc L:=
 i.C2 λj l _ h=>f.k j _ h (c.wid h a).1 (c.wid h a).2
def NJ.done(a:N3 h0 h4 b mp w v xv r xa xd xl xu vs IM){g:HL}(c:NJ h4 g b mp w v xv r xa xd xl xu (Fa (p_ IM)))(f:h0.length<=h4.length):∃d,N4 h0 g b mp w v xv r xa xd xl xu d vs IM:=by
 obtain⟨d,t,u⟩:=c.x;refine⟨d,t,a.bn,a.mpn,λj o h=>c.k j o (a.old j o h) (λe=>?_) (λe=>?_),c.ls a m_ a.at_,c.ls a m_ a.ids,a.vl,λj x l p s=>c.ls a m_ (a.iv j x l p s),c.ls a m_ a.lay,c.ls a m_ a.us,c.m,?_,a.s1,a.s2⟩
 .have:=ai h;have:=a.bn;omega
 .have:=ai h;have:=a.mpn;omega
 .rcases u with q|⟨id,i,n,y,e3⟩
  .exact .inl q
  .exact .inr ⟨id,i,n,a_,e3⟩
def b8(t:N3 h0 h4 b mp w v xv r xa xd xl xu vs IM)(X:h0.length<=h4.length)(bb:IM.length<=36){xi:TR}{K:Te}(hK:∀g H,N4 h0 g b mp w v xv r xa xd xl xu H vs IM->np4 (hA P1) b xi g K) :
  np3 (hA P1) b xi h4 K:=by
 have ay:=dt IM;have be:(p_ IM).length<=36:=by
  unfold p_;rw[GY];have:=tv IM;omega
 have Y:∀l∈p_ IM,l.length<=36:=λl z=>by
  obtain⟨c,_,rfl⟩:=DJ.1 z;have:=oW (L:=IM) (n:=IM.length) (c:=c);show(GC _ _ _).length<=36;omega
 have F:∀ {g:HL} {PR:List K2},NJ h4 g b mp w v xv r xa xd xl xu PR->∀(j:Nat) x l,vs[j]?=some x->(p_ IM)[j]?=some l->q9 g x 1 l_ l:=λS j x l W N=>hY.ls bv (S.ls t m_ (t.iv j x l W N));unfold np3;simp only[ub];refine k_ ?_;refine bz (ds:=[xd]) t.hb (by simp[ah]) rfl ?_;refine e_ ?_;refine ab (hY.h_ (e:=1) (enc:=D4) bh t.ids) ?_;refine k_ ?_;refine bw (hY.ls bh t.ids) ?_;have ap:NJ h4 h4 b mp w v xv r xa xd xl xu (ON (p_ IM) 0):=⟨⟨_,t.hb,.inl ⟨rfl,rfl⟩⟩,⟨[],0,t.pr,rfl⟩,λ_ _ h _ _=>h,B8 _⟩;refine aH (m:=vs.length) (λm T g=>∃s,T=[.i (ofNat s)]/\m=vs.length - s/\s<=vs.length/\NJ h4 g b mp w v xv r xa xd xl xu (ON (p_ IM) s)) ⟨0,rfl,rfl,D6 _,ap⟩ ?_;rintro m T g ⟨s,rfl,rfl,bm,R⟩ a8 P;refine Ei ?_;refine e_ ?_;by_cases C:s<vs.length
 case neg=>
  obtain rfl:s=vs.length:=a_;rw[aN (B8 _)];refine k_ ?_;rw[XF (by rw[t.vl];omega)]at R;obtain⟨H,q⟩:=R.done t X;exact hK g H q
 rw[aO C];refine e_ ?_;obtain⟨x,Z⟩:=am C;obtain⟨l,z⟩:=am (l:=p_ IM) (i:=s) (by rw[←t.vl];exact C);have a7:=Y l (A9 z);refine aQ (hY.ls bh (R.ls t m_ t.ids)) rfl Z ?_;rw[show D4 x=[x]from rfl];refine e_ ?_;have ag:=F R s x l Z z;refine ab ag.h_ ?_;refine k_ ?_;refine bw ag ?_;refine aH (m:=l.length) (λm T g=>∃i,T=[.i (ofNat i)]/\m=l.length - i/\i<=l.length/\NJ h4 g b mp w v xv r xa xd xl xu (ON (p_ IM) s++Ix l i)) ⟨0,rfl,rfl,D6 _,by simpa[Ix]using R⟩ ?_;rintro m2 bn g2 ⟨i,rfl,rfl,hi,O⟩ a4 D;refine Ei ?_;refine e_ ?_;by_cases A:i<l.length
 case neg=>
  obtain rfl:i=l.length:=a_;rw[aN (B8 _)];refine e_ ?_;rw[aU (j:=s) (by have:=t.vl;omega)];refine P _ _ _ a_ ⟨s+1,rfl,rfl,C,?_⟩;rw[Sp z];exact O
 rw[aO A];refine e_ ?_;obtain⟨y,hy⟩:=am A;refine aQ (F O s x l Z z) rfl hy ?_;rw[show l_ y=[.int .i64 (ofNat y)]from rfl];refine e_ ?_;obtain⟨xt,et,lt,gt,bt⟩:=qY (F R s x l Z z) hi;refine ae et (ab gt ?_);refine k_ ?_;have a0:(l.take i).length=i:=j_;refine bw lt ?_;rw[a0];refine aH (m:=i) (λm T g=>∃k,T=[.i (ofNat k)]/\m=i - k/\k<=i/\NJ h4 g b mp w v xv r xa xd xl xu (ON (p_ IM) s++Ix l i++(l.take k).map λa=>((a,y):K2))) ⟨0,rfl,rfl,D6 _,by simpa using O⟩ ?_;rintro m3 bs V ⟨k,rfl,rfl,hk,d⟩ a5 E;refine Ei ?_;refine e_ ?_;by_cases B:k<i
 case neg=>
  obtain rfl:k=i:=a_;rw[aN (B8 _)];refine e_ ?_;rw[aU a_];refine D _ _ _ a_ ⟨k+1,rfl,rfl,A,?_⟩;rw[uP,vi hy,←FL];exact d
 rw[aO B];refine e_ ?_;obtain⟨a,ha⟩:=am (l:=l) (i:=k) a_;have av:(l.take i)[k]?=some a:=i_;have a3:q9 V xt 1 l_ (l.take i):=by
  obtain⟨bC,a9,bx,_,_⟩:=qY (F d s x l Z z) hi
  simp_all
 refine aQ a3 rfl av ?_;rw[show l_ a=[.int .i64 (ofNat a)]from rfl];refine e_ ?_;obtain⟨p,I⟩ : ∃p,p=ON (p_ IM) s++Ix l i++(l.take k).map λa=>((a,y):K2):=⟨_,rfl⟩;have M:=XJ ay z hy B ha;rw[←I]at d M;have bd:p.length<=1000000:=by
  have W:(ON (p_ IM) s).length<=((p_ IM).take s).length*(36*36):=MQ λl z=>Y l (OO z);have N:=yU (l:=l) i;have h3:i*i<=36*36:=z' a_ a_
  grind
 obtain⟨H,U,q2⟩:=d.x;refine bz (ds:=[.map (some mp)]) U (by simp[ah]) rfl ?_;refine e_ ?_;refine ab rfl ?_;refine k_ ?_;refine bz (ds:=[H]) U (by simp[ah]) rfl ?_;refine e_ ?_;refine ab (hY.h_ (e:=2) (enc:=Ep) dV q2) ?_;refine k_ ?_;refine bw (hY.ls dV q2) ?_;rw[GY,UZ];have bl:∀k:K2,Instr.sameBits 10000 (.agg ⟨Fj k⟩) (.agg ⟨Fj k⟩)=true:=λk=>by simp[Fj,Instr.sameBits]
 refine SI Fj Qn d_ d_ LH d.m ((a,y):K2) (by rw[MM];exact M) rfl λo hm=>?_;obtain⟨J,e4⟩ : ∃J,J=V.set mp o:=⟨_,rfl⟩;rw[←e4]at hm ⊢;rw[←XI]at hm;have l4:J.length=V.length:=j_;have bk:∀ {j e:Nat} {u:Tn} {f:Bool},V[j]?=some (.o (.cells u e f))->mp≠j:=λ{j e u f} S q=>by
  subst q;obtain⟨es,c,N,_⟩:=d.m
  simp_all
 have k4:∀ {j e:Nat} {u:Tn} {f:Bool},V[j]?=some (.o (.cells u e f))->J[j]?=some (.o (.cells u e f)):=λ{j e u f} S=>by
  grind
 refine k_ ?_;refine kw (ds:=[H]) (k4 U) (by simp[ah]) rfl ?_;refine e_ ?_;have Q:hY h4.length J H 2 Ep ((range p.length).map λi=>(i,false)):=q2.C2 λj u _ h=>k4 h;refine ab (hY.h_ (e:=2) (enc:=Ep) dV Q) ?_;refine k_ ?_;refine bz (ds:=[H]) (k4 U) (by simp[ah]) rfl ?_;refine e_ ?_;refine ab (hY.h_ (e:=2) (enc:=Ep) dV Q) ?_;refine k_ ?_;refine bw (hY.ls dV Q) ?_;rw[GY,UZ];refine k_ ?_;refine Q.Il (a:=((p.length,false):Lit)) dV (by have:=d.l;omega) rfl rfl rfl (by unfold bc;rw[GY,UZ,EY a_,EY a_];rfl) ?_;intro a6 g5 o5 gx k5 l5 b5;refine e_ ?_;refine ab gx ?_;refine k_ ?_;have G:=k4 U;have ad:∀ {j e:Nat} {u:Tn} {f:Bool},J[j]?=some (.o (.cells u e f))->e≠2->g_ H≠some j:=λ{j e u f} S he q=>by
  obtain⟨al,N⟩:=Q.wid q
  simp_all
 refine gH (b:=b) (k5 _ _ G (ad G m_)) (by simp[ah]) ?_;refine k_ ?_;refine ae (x:=()) (dg (bU ⟨_,_,_,rfl⟩ λi hi=>?_) fm) ?_
 .have U:J.length=i:=by simpa[g_]using hi
  grind
 refine k_ ?_;rw[aU a_];refine E _ _ _ a_ ⟨k+1,rfl,rfl,B,?_⟩;rw[Yo ha,←FL,←I];have ax:=k5 _ _ G (ad G m_);have aE:mp≠b:=λe=>by
  grind
 refine⟨⟨a6,?_,?_⟩,?_,λj o S W N=>?_,?_⟩
 .exact fZ ax
 .have e1:((range (p++[((a,y):K2)]).length).map λi=>((i,false):Lit))=((range p.length).map λi=>((i,false):Lit))++[(p.length,false)]:=by
   rw[HY,qcS,MT,IV];rfl
  rw[e1];exact o5.C2 λj u _ h=>de h λe=>by
   simp_all
 .obtain⟨es,c,a1,a2⟩:=hm;refine⟨es,c,de (k5 mp _ a1 λe=>?_) (Ej aE),a2⟩;obtain⟨al,N⟩:=Q.wid e
  simp_all
 .have h3:=d.k j o S W N;have an:J[j]?=some o:=by
   grind
  refine de (k5 j o an λe=>?_) (Ej W);have:=(Q.g_ e).1
  simp_all
 .rw[GZ];have:=d.l;omega
end
end Go.Am
end

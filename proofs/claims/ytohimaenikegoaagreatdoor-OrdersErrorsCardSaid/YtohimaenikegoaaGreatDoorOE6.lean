import Derived.Test.YtohimaenikegoaaGreatDoorOE5
set_option linter.all false
noncomputable section
set_option maxRecDepth 100000
set_option maxHeartbeats 16000000
open Int(ofNat)
open List(range replicate)
namespace Go.Am
theorem C2{p:Prop}(h:p:=by trivial):p:=h
namespace Sx
section
variable [Co] [C7] {C:m'} {Sg:Td} {T:Tv}
variable {j8:Type} [DecidableEq j8] (kc:j8->Tn) {kk:TJ} (hd:∀a b,x9 kk (kc a) (kc b)=some (decide (a=b)))
def Dd(h:HL)(id:Nat)(b:List (j8×Value)):Prop:=∃a c,h[id]?=some (.o (.map a c))/\a.map (λe=>(e.key,e.val))=b.map λp=>(.agg ⟨kc p.1⟩,p.2)
def Dd.j9{h h':HL}{id:Nat}{a:List (j8×Value)}(g:Dd kc h id a)(f:∀o,h[id]?=some o->h'[id]?=some o):Dd kc h' id a:=by
 obtain⟨b,c,d,e⟩:=g;exact⟨b,c,f _ d,e⟩
def Dd.lt{h:HL}{id:Nat}{d:List (j8×Value)}(b:Dd kc h id d):id<h.length:=by
 obtain⟨e,c,a,_⟩:=b;exact am a
def Dd.keys{a:Tj}{b:List (j8×Value)}(h:a.map (λe=>(e.key,e.val))=b.map λp=>(.agg ⟨kc p.1⟩,p.2)):a.map (·.key)=(b.map Prod.fst).map λk=>.agg ⟨kc k⟩:=by
 have:=congrArg (List.map Prod.fst) h;rw[Q8,Q8]at this;rw[Q8];exact this
variable {kt:TP} (h1:A2 C.P kt=some true) (h2:CG C.P 10000 kt=some kk) (h3:∀a,∃r,fF kk (kc a) (kc a)=some r)
include hd h1 h2 h3
theorem Rb{h:HL}{id:Nat}{a:List (j8×Value)}{z:TR}{K:Tf}(x:Dd kc h id a)(k:j8){v:TR}(y:v = .agg ⟨kc k⟩)(H:∀cs,z≠.agg cs)(F:∀p∈a,∀cs,p.2≠.agg cs)
  (h0:k∉a.map Prod.fst->K [z]) (E:∀(i:Nat) u,a[i]?=some (k,u)->K [u]) :
  (PH C Sg T).my (.fn (Fb C kt false z (.map (some id)) v false)) h (@i' _ ⟨K⟩):=by
 subst y;obtain⟨b,c,m,f⟩:=x;have D:∀u:Value,(∀cs,u≠.agg cs)->gp false u=some [u]:=λu G=>by
  unfold gp
  simp_all
 have d:∃cs,Fb C kt false z (.map (some id)) (.agg ⟨kc k⟩) false (tf T h)=some cs/\K cs:=by
  unfold Fb;rw[KH kc h1 h2 h3 k];simp only[DP,D7,if_false];rw[oz m];simp only;rw[yR kc h1 h2 k (HX kc hd k 0 (Dd.keys kc f))];cases r:(a.map Prod.fst).idxOf? k with
  |none=>
   simp_all
  |some j=>
   obtain⟨s,w,_⟩:=qcx.1 r;have l:b.length=a.length:=by
    have:=congrArg List.length f;simpa using this
   have t:j<a.length:=by simpa using s
   have q:b[j]?=some (b[j]'(by omega)):=Gn _;have g:a[j]?=some a[j]:=Gn _;have n:(b.map (λe=>(e.key,e.val)))[j]?=(a.map λp=>((.agg ⟨kc p.1⟩ : Value),p.2))[j]?:=by rw[f]
   rw[Ew,Ew,q,g]at n;have B:(b[j]'(by omega)).val=a[j].2:=by
    simp_all
   have A:em b j=some a[j].2:=by
    unfold em
    simp_all
   grind
 obtain⟨cs,e,o⟩:=d;exact bT e o
theorem Rc{h:HL}{id:Nat}{b:List (j8×Value)}{u:TR}{K:Tb}(j:Dd kc h id b)(k:j8)(i:k∉b.map Prod.fst){v:TR}(l:v = .agg ⟨kc k⟩)(g:∀o,Dd kc (h.set id o) id (b++[(k,u)])->K [] (h.set id o)) :
  (PH C Sg T).heap (.fn (FO C kt (.map (some id)) v u)) h (@i' _ ⟨K⟩):=by
 subst l;obtain⟨f,c,d,e⟩:=j;have a:(Hp.fn (FO C kt (.map (some id)) (.agg ⟨kc k⟩) u)).run (tf T h) h.length=some ([.set id (.map (f++[{ key:=.agg ⟨kc k⟩,val:=u,born:=c }]) (c+1))],[]):=by
  show FO C kt (.map (some id)) (.agg ⟨kc k⟩) u (tf T h) h.length=_;unfold FO;simp only;rw[KH kc h1 h2 h3 k];simp only[DP,D7,if_false];rw[oz d];simp only;rw[yR kc h1 h2 k (HX kc hd k 0 (Dd.keys kc e)),qdb.2 i];rfl
 exact bH a (g _ ⟨_,_,GR (am d),by simp[e]⟩)
end
section
variable [Co] [C7] {C:m'} {T:Tv}
abbrev K6:=K3×K3
def J5(k:K6):Tn:=EV k.1++EV k.2
abbrev kk6:TJ:=[.i .i64,.i .i64,.i .u8,.i .i64,.i .i64,.i .u8]
def OX(a b:K6):x9 kk6 (J5 a) (J5 b)=some (decide (a=b)):=by
 have g:cY .i64 .i64=true:=rfl;have i:cY .u8 .u8=true:=rfl;obtain⟨⟨j,k,c⟩,l,m,d⟩:=a;obtain⟨⟨n,o,e⟩,p,q,f⟩:=b;simp only[J5,EV,DI,DA,x9,g,i,iK,Q7];have e3:decide (ofNat c=ofNat e)=decide (c=e):=decide_eq_decide.2 ⟨λh=>Jr h,λh=>by rw[h]⟩;have e4:decide (ofNat d=ofNat f)=decide (d=f):=decide_eq_decide.2 ⟨λh=>Jr h,λh=>by rw[h]⟩
 grind
def Kj(a:K6):∃r,fF kk6 (J5 a) (J5 a)=some r:=by
 have b:cY .i64 .i64=true:=rfl;have c:cY .u8 .u8=true:=rfl;simp only[J5,EV,DI,DA,fF,b,c,iK];exact⟨_,rfl⟩
end
end Sx
end Go.Am
namespace Go.Am
open Sx
abbrev Lit:=Nat×Bool
def xr(a b:Bool):Bool:=!decide (a=b)
def A8(V:Tx)(l:Lit):Bool:=xr (V l.1) l.2
def NC(a:Bool):xr a false=a:=by cases a<;>rfl
def b8(a:Bool):xr a true = !a:=by cases a<;>rfl
def Zd(a b c:Bool):xr (xr a b) c=xr a (xr b c):=by cases a<;>cases b<;>cases c<;>rfl
def ca(a b:Bool):xr a b=xr b a:=by cases a<;>cases b<;>rfl
def o1(a:Bool):xr a a=false:=by cases a<;>rfl
structure Hv(U:List Lit)(r:TF):Prop where
 cl:∀(i:Nat) u,U[i]?=some u->u.1<U.length
 rk:∀(i:Nat) u,U[i]?=some u->u.1≠i->r u.1<r i
 rt:∀(i:Nat) u,U[i]?=some u->u.1=i->u.2=false
inductive Rt(U:List Lit):Lit->Lit->Prop
 |here {l:Lit} (h:U[l.1]?=some (l.1,false)):Rt U l l
 |step {l l' u:Lit} (h:U[l.1]?=some u) (hne:u.1≠l.1) (hr:Rt U (u.1,xr l.2 u.2) l'):Rt U l l'
def Rt.root{U:List Lit}{l l':Lit}(h:Rt U l l'):U[l'.1]?=some (l'.1,false):=by
 induction h with
 |here h=>exact h
 |step _ _ _ a=>exact a
def Rt.det{U:List Lit}{l a b:Lit}(h:Rt U l a)(h':Rt U l b):a=b:=by
 induction h with
 |here h=>
  cases h' with
  |here _=>rfl
  |step d c _=>
   simp_all
 |step h c _ f=>
  cases h' with
  |here d=>
   grind
  |step d _ e=>
   simp_all
def Rt.ex{U:List Lit}{r:TF}(b:Hv U r):∀(n:Nat) (l:Lit),r l.1=n->l.1<U.length->∃l',Rt U l l':=by
 intro n
 induction n using Nat.strongRecOn with
 |_ n f=>
  intro l h d;obtain⟨u,a⟩:=aq d;by_cases e:u.1=l.1
  .have:=b.rt _ _ a e;refine⟨l,.here ?_⟩
   grind
  .have g:=b.rk _ _ a e;obtain⟨l',c⟩:=f (r u.1) a_ (u.1,xr l.2 u.2) rfl (b.cl _ u a);exact⟨l',.step a e c⟩
def Rt.not{U:List Lit}{l l':Lit}(h:Rt U l l')(b:Bool):Rt U (l.1,xr l.2 b) (l'.1,xr l'.2 b):=by
 induction h with
 |here h=>exact .here h
 |step h d _ e=>
  refine .step h d ?_;rw[show ∀a c:Bool,xr (xr a b) c=xr (xr a c) b from λa c=>by cases a<;>cases b<;>cases c<;>rfl];exact e
def Rt.lt{U:List Lit}{l l':Lit}(h:Rt U l l'):l'.1<U.length:=am h.root
def Zj(U:List Lit)(V:Tx):Prop:=∀(i:Nat) u,U[i]?=some u->V i=A8 V u
def Rt.vv{U:List Lit}{V:Tx}(a:Zj U V){l l':Lit}(h:Rt U l l'):A8 V l=A8 V l':=by
 induction h with
 |here _=>rfl
 |step h _ _ b=>
  rw[←b];unfold A8;rw[a _ _ h];unfold A8;rw[Zd]
  congr 1
  exact ca _ _
def Rs(U:List Lit)(W:TE)(V:Tx):Prop:=Zj U V/\∀i:Nat,U[i]?=some (i,false)->(W[i]?=some 1->V i=true)/\(W[i]?=some (-1)->V i=false)
def Ge(U:List Lit)(W:TE):Prop:=W.length=U.length/\∀x∈W,x=0∨x=1∨x = -1
def c7{U:List Lit}{r:TF}(j:Hv U r)(W:TE):∃V,Rs U W V:=by
 classical
 obtain⟨V,k⟩ : ∃V:Nat->Bool,∀i c,Rt U (i,false) c->V i=xr (decide (W[c.1]?=some 1)) c.2:=by
  refine⟨λi=>decide (∃c,Rt U (i,false) c/\xr (decide (W[c.1]?=some 1)) c.2=true),λi c h=>?_⟩;rw[WI,EP];exact⟨λ⟨o,f,g⟩=>by rw[h.det f];exact g,λg=>⟨c,h,g⟩⟩
 refine⟨V,λi u l=>?_,λi n=>?_⟩
 .by_cases e:u.1=i
  .have:=j.rt i u l e;obtain⟨a,b⟩:=u;simp only at e this;subst e this;unfold A8;rw[NC]
  .obtain⟨c,d⟩:=Rt.ex j _ (u.1,false) rfl (j.cl _ u l);have m:=d.not u.2;simp only at m;have f:Rt U (i,false) (c.1,xr c.2 u.2):=.step l e m;unfold A8;rw[k _ _ f,k _ _ d,Zd]
 .rw[k _ _ (.here n),NC]
  simp_all
def kv(W:TE)(l:Lit):Int:=if l.2 then -(W.getD l.1 0)else W.getD l.1 0
def Kn(U:List Lit)(W:TE)(l:Lit)(x:Int):Prop:=∃l',Rt U l l'/\x=kv W l'
def Kn.det{U:List Lit}{W:TE}{l:Lit}{x y:Int}(h:Kn U W l x)(h':Kn U W l y):x=y:=by
 obtain⟨a,c,rfl⟩:=h;obtain⟨b,d,rfl⟩:=h';rw[c.det d]
def ze{U:List Lit}{W:TE}(a:Ge U W)(l:Lit):kv W l=0∨kv W l=1∨kv W l = -1:=by
 have:W.getD l.1 0=0∨W.getD l.1 0=1∨W.getD l.1 0 = -1:=by
  rw[List.getD_eq_getElem?_getD];cases h:W[l.1]? with
  |none=>left;rfl
  |some x=>exact a.2 x (Cf h)
 unfold kv;omega
theorem getD_some{W:TE}{i:Nat}{x:Int}(h:W.getD i 0=x)(a:x≠0):W[i]?=some x:=by
 grind
def KJ{U:List Lit}{W:TE}{V:Tx}(d:Rs U W V){l':Lit}(e:U[l'.1]?=some (l'.1,false)):(kv W l'=1->A8 V l'=true)/\(kv W l' = -1->A8 V l'=false):=by
 obtain⟨a,c⟩:=d.2 _ e;obtain⟨i,b⟩:=l';unfold kv A8;simp only at a c ⊢;cases b with
 |false=>
  rw[NC]
  grind
 |true=>
  rw[b8]
  grind
def Kn.vv{U:List Lit}{W:TE}{V:Tx}(b:Rs U W V){l:Lit}{x:Int}(h:Kn U W l x):(x=1->A8 V l=true)/\(x = -1->A8 V l=false):=by
 obtain⟨c,a,rfl⟩:=h;rw[a.vv b.1];exact KJ b a.root
def DT(l:Lit):Int:=if l.2 then -1 else 1
def Cy(W:TE)(l:Lit):TE:=if W.getD l.1 0=0 then W.set l.1 (DT l)else W
def o9(l:Lit):DT l≠0:=by unfold DT;omega
def ue{U:List Lit}{W:TE}(a:Ge U W)(l:Lit):Ge U (Cy W l):=by
 unfold Cy;split
 .refine⟨by rw[FG];exact a.1,λx b=>?_⟩;rcases i0 b with h|rfl
  .exact a.2 x h
  .unfold DT;omega
 .exact a
def Ly{U:List Lit}{W:TE}(s:Ge U W){l l':Lit}(h:Rt U l l')(o:(Cy W l').getD l'.1 0=DT l')(V:Tx):Rs U (Cy W l') V↔Rs U W V/\A8 V l=true:=by
 have a:=h.root;have g:l'.1<W.length:=by rw[s.1];exact h.lt
 obtain⟨i,b⟩:=l';simp only at a g o;have d:∀V,Zj U V->(A8 V l=true↔V i = !b):=λV r=>by
  rw[h.vv r];unfold A8;simp only;generalize V i=y;cases y<;>cases b<;>decide
 have t:∀j,j≠i->(Cy W (i,b))[j]?=W[j]?:=λj n=>by
  unfold Cy
  grind
 have f:=getD_some o (o9 _);have v:W[i]?=some 0∨W[i]?=some (DT (i,b)):=by
  unfold Cy at f
  grind
 constructor
 .rintro⟨c,m⟩;have k:V i = !b:=by
   obtain⟨p,q⟩:=m i a;rw[f]at p q;cases b with
   |false=>exact p rfl
   |true=>exact q rfl
  refine⟨⟨c,λj n=>?_⟩,(d V c).2 k⟩
  grind
 .rintro⟨⟨c,m⟩,u⟩;have k:=(d V c).1 u;refine⟨c,λj n=>?_⟩;by_cases e:j=i
  .subst e;rw[f,k];cases b with
   |false=>exact⟨λ_=>rfl,λe=>(by cases e)⟩
   |true=>exact⟨λe=>(by cases e),λ_=>rfl⟩
  simp_all
def Rx{U:List Lit}{W:TE}(f:Ge U W){l l':Lit}(d:Rt U l l')(c:(Cy W l').getD l'.1 0≠DT l'):Cy W l'=W/\∀V,Rs U W V->A8 V l=false:=by
 have a:=d.root;have b:l'.1<W.length:=by rw[f.1];exact d.lt
 unfold Cy at c ⊢;by_cases g:W.getD l'.1 0=0
 .simp_all
 .rw[te g]at c ⊢;refine⟨rfl,λV e=>?_⟩;rw[d.vv e.1];refine(KJ e a).2 ?_;have h:W.getD l'.1 0=0∨W.getD l'.1 0=1∨W.getD l'.1 0 = -1:=by
   rw[List.getD_eq_getElem?_getD,Gn b];exact f.2 _ (List.getElem_mem b)
  unfold kv;unfold DT at c
  grind
def s9{U:List Lit}{W:TE}(l':Lit){l:Lit}{x:Int}(h:Kn U W l x)(c:x≠0):Kn U (Cy W l') l x:=by
 obtain⟨a,b,rfl⟩:=h;refine⟨a,b,?_⟩;unfold Cy;split
 next d=>
  by_cases e:l'.1=a.1
  .exfalso;apply c;unfold kv
   simp_all
  .unfold kv
   simp_all
 .rfl
def d'{U:List Lit}{W:TE}{l l':Lit}(a:Rt U l l')(b:(Cy W l').getD l'.1 0=DT l'):Kn U (Cy W l') l 1:=by
 refine⟨l',a,?_⟩;unfold kv;rw[b];unfold DT;split<;>rfl
def Rl{U:List Lit}{a b:Nat}{x:Bool}(d:U[a]?=some (a,false))(V:Tx):Zj (U.set a (b,x)) V↔Zj U V/\V a=A8 V (b,x):=by
 constructor
 .intro h;refine⟨λi u c=>?_,h a _ (GR (am d))⟩;by_cases e:i=a
  .subst e;rw[d]at c;cases c;unfold A8;rw[NC]
  .exact h i u jn
 .rintro⟨f,g⟩ i u c;by_cases e:i=a
  .grind
  .rw[Hj (CY e)]at c;exact f i u c
def tg{U:List Lit}{r:TF}(f:Hv U r){a b:Nat}{x:Bool}(g:U[a]?=some (a,false))(q:U[b]?=some (b,false))(p:a≠b):∃r',Hv (U.set a (b,x)) r':=by
 classical
 refine⟨λi=>r i+if ∃n,Rt U (i,false) (a,n)then r b+1 else 0,λi u c=>?_,λi u c j=>?_,λi u c e=>?_⟩
 .rw[FG];by_cases e:i=a
  .grind
  .rw[Hj (CY e)]at c;exact f.cl i u c
 .by_cases e:i=a
  .subst e;rw[GR (am g)]at c;cases c;have m:¬ ∃n,Rt U (b,false) (i,n):=by
    rintro⟨n,h⟩;have:=(Rt.here (l:=(b,false)) q).det h
    simp_all
   have o:∃n,Rt U (i,false) (i,n):=⟨false,.here g⟩
   grind
  .rw[Hj (CY e)]at c;have m:=f.rk i u c j;have o:(∃n,Rt U (u.1,false) (a,n))↔∃n,Rt U (i,false) (a,n):=by
    constructor
    .rintro⟨n,h⟩;refine⟨xr n u.2,.step (u:=u) c j ?_⟩;have:=h.not u.2;exact this
    .rintro⟨n,h⟩;cases h with
     |here d=>
      omega
     |step d _ s=>
      rw[c]at d;cases d;have:=s.not (xr false u.2);simp only[o1]at this;exact⟨_,this⟩
   simp_all
 .by_cases k:i=a
  .grind
  .rw[Hj (CY k)]at c;exact f.rt i u c e
def xW{U:List Lit}{W:TE}{a b:Nat}{x:Bool}(c:U[a]?=some (a,false))(e:U[b]?=some (b,false))(d:a≠b){V:Tx}
  (f:V a=A8 V (b,x)->((W[b]?=some 1->V b=true)/\(W[b]?=some (-1)->V b=false))->(W[a]?=some 1->V a=true)/\(W[a]?=some (-1)->V a=false)) :
  Rs (U.set a (b,x)) W V↔Rs U W V/\V a=A8 V (b,x):=by
 unfold Rs;rw[Rl c]
 grind
def Ed(U:List Lit)(W:TE)(n:Bool)(p q:Lit):List Lit×Bool:=
 if p.1=q.1 then(U,n||xr p.2 q.2)
 else if kv W p≠0/\kv W q≠0 then(U.set p.1 (q.1,xr p.2 q.2),n || !decide (kv W p=kv W q))
 else if kv W p≠0 then(U.set q.1 (p.1,xr p.2 q.2),n)
 else(U.set p.1 (q.1,xr p.2 q.2),n)
def kv0{W:TE}{l:Lit}(h:kv W l=0):W.getD l.1 0=0:=by
 unfold kv at h;omega
def Z7{U:List Lit}{W:TE}{r:TF}(B:Hv U r)(m:Ge U W)(n:Bool){p q a b:Lit}(C:Rt U p a)(D:Rt U q b) :
  (∃r',Hv (Ed U W n a b).1 r')/\Ge (Ed U W n a b).1 W/\∀V,((Ed U W n a b).2=false/\Rs (Ed U W n a b).1 W V)↔(n=false/\Rs U W V/\A8 V p=A8 V q):=by
 have f:=C.root;have g:=D.root;have i:∀ {V},Zj U V->(A8 V p=A8 V q↔V a.1=A8 V (b.1,xr a.2 b.2)):=λ{V} u=>by
  rw[C.vv u,D.vv u];unfold A8;simp only;generalize V a.1=x;generalize V b.1=y;generalize a.2=z;generalize b.2=w;cases x<;>cases y<;>cases z<;>cases w<;>decide
 have A:∀ {V},Zj U V->(A8 V p=A8 V q↔V b.1=A8 V (a.1,xr a.2 b.2)):=λ{V} u=>by
  rw[C.vv u,D.vv u];unfold A8;simp only;generalize V a.1=x;generalize V b.1=y;generalize a.2=z;generalize b.2=w;cases x<;>cases y<;>cases z<;>cases w<;>decide
 have s:∀ {l:Lit} {V:Tx},kv W l=0->(W[l.1]?=some 1->V l.1=true)/\(W[l.1]?=some (-1)->V l.1=false):=λ{l V} h=>by
  have:=kv0 h
  grind
 unfold Ed;by_cases e:a.1=b.1
 .rw[rv e];refine⟨⟨r,B⟩,m,λV=>?_⟩;simp only;constructor
  .rintro⟨d,c⟩;rw[ng]at d;refine⟨d.1,c,(i c.1).2 ?_⟩;unfold A8;rw[d.2,NC,e]
  .rintro⟨d,c,j⟩;refine⟨?_,c⟩;have:=(i c.1).1 j;unfold A8 at this;simp only at this;rw[e]at this;rw[d,w5];revert this;generalize V b.1=y;generalize xr a.2 b.2=z;cases y<;>cases z<;>decide
 rw[te e];by_cases v:kv W a≠0/\kv W b≠0
 .rw[rv v];refine⟨tg B f g e,⟨by rw[FG];exact m.1,m.2⟩,λV=>?_⟩;simp only;have K:=ze m a;have L:=ze m b;by_cases E:kv W a=kv W b
  .rw[E8 E,DP,Bool.or_false,xW f g e]
   .exact⟨λh=>⟨h.1,h.2.1,(i h.2.1.1).2 h.2.2⟩,λh=>⟨h.1,h.2.1,(i h.2.1.1).1 h.2.2⟩⟩
   .intro d c;have F:∀ {l:Lit},W[l.1]?=some 1∨W[l.1]?=some (-1)->(W[l.1]?=some 1↔kv W l=if l.2 then -1 else 1)/\(W[l.1]?=some (-1)↔kv W l=if l.2 then 1 else -1):=λ{l} h=>by
     unfold kv
     grind
    have G:∀ {l:Lit},kv W l≠0->W[l.1]?=some 1∨W[l.1]?=some (-1):=λ{l} h=>by
     have J:=ze m (l.1,false);unfold kv at J h
     grind
    have H:=F (G v.1);have I:=F (G v.2);unfold A8 at d;simp only at d;rw[d];rw[H.1,H.2,E];rw[I.1,I.2]at c;revert c;generalize V b.1=y;generalize kv W b=k at *;cases a.2<;>cases b.2<;>cases y<;>simp[xr]<;>omega
  .rw[Fv E,EB,Bool.or_true];constructor
   .simp_all
   .rintro⟨_,c,j⟩;exfalso;rw[C.vv c.1,D.vv c.1]at j;have M:=KJ c f;have N:=KJ c g
    grind
 rw[te v];by_cases o:kv W a≠0
 .rw[rv o];have t:kv W b=0:=Classical.byContradiction λh=>v ⟨o,h⟩;refine⟨tg B g f (CY e),⟨by rw[FG];exact m.1,m.2⟩,λV=>?_⟩;simp only;rw[xW g f (CY e) λ_ _=>s t];exact⟨λ⟨d,c,j⟩=>⟨d,c,(A c.1).2 j⟩,λ⟨d,c,j⟩=>⟨d,c,(A c.1).1 j⟩⟩
 .rw[te o];have t:kv W a=0:=Classical.byContradiction λh=>o h;refine⟨tg B f g e,⟨by rw[FG];exact m.1,m.2⟩,λV=>?_⟩;simp only;rw[xW f g e λ_ _=>s t];exact⟨λ⟨d,c,j⟩=>⟨d,c,(i c.1).2 j⟩,λ⟨d,c,j⟩=>⟨d,c,(i c.1).1 j⟩⟩
def Nc:Nat->TC->List (TC)
 |0,_=>[[]]
 |n+1,l=>l.flatMap λa=>(Nc n (l.erase a)).map (a :: ·)
def Dj:List (TC)->List (List (TC))
 | []=>[[]]
 |l :: ls=>(Nc l.length l).flatMap λp=>(Dj ls).map (p :: ·)
def FX{i7 g9:Type}(f:i7->g9->g9×Bool):List i7->g9->g9×Bool
 | [],s=>(s,true)
 |x :: xs,s=>if (f x s).2 then FX f xs (f x s).1 else((f x s).1,false)
def oJ{i7 g9:Type}{f:i7->g9->g9×Bool}{x:i7}{xs:List i7}{s:g9}:FX f (x :: xs) s=if (f x s).2 then FX f xs (f x s).1 else((f x s).1,false):=rfl
def uo{i7 g9:Type}{f:i7->g9->g9×Bool}:∀ {xs ys:List i7} {s:g9},FX f (xs++ys) s=if (FX f xs s).2 then FX f ys (FX f xs s).1 else FX f xs s
 | [],ys,s=>rfl
 |x :: xs,ys,s=>by
  rw[DI,oJ,oJ];split
  .exact uo
  .rfl
def zZ:∀ {n:Nat} {l p:TC},l.length=n->p∈Nc n l->p.Perm l
 |0,l,p,c,b=>by
  have b:p=[]:=by simpa[Nc]using b
  simp_all
 |n+1,l,p,c,b=>by
  unfold Nc at b;obtain⟨a,f,b⟩:=Gw.1 b;obtain⟨q,d,rfl⟩:=CS.1 b;have e:=zZ (l:=l.erase a) kb d
  grind
abbrev A5:=Lit×Lit×Lit×Lit
def foV(V:Tx)(f:A5):Bool:=xr (xr (A8 V f.1) (A8 V f.2.1)) (xr (A8 V f.2.2.1) (A8 V f.2.2.2))
def TV(F:List A5)(V:Tx):Prop:=∀f∈F,foV V f=false
def Sg(U:List Lit)(W:TE)(f:A5)(x:Int):Prop:=∃a b c d,Kn U W f.1 a/\Kn U W f.2.1 b/\Kn U W f.2.2.1 c/\Kn U W f.2.2.2 d/\x=a*b*c*d
def HF(U:List Lit)(W:TE)(F:List A5):Prop:=∀f∈F,∀x,Sg U W f x->¬x<0
def WZ{a b c d:Int}(e:a=0∨a=1∨a = -1)(f:b=0∨b=1∨b = -1)(g:c=0∨c=1∨c = -1)(h:d=0∨d=1∨d = -1):a*b*c*d=0∨a*b*c*d=1∨a*b*c*d = -1:=by
 grind
def Kn.Ju{U:List Lit}{W:TE}(b:Ge U W){l:Lit}{x:Int}(h:Kn U W l x):x=0∨x=1∨x = -1:=by
 obtain⟨a,_,rfl⟩:=h;exact ze b a
def p6{U:List Lit}{W:TE}(g:Ge U W){F:List A5}{f:A5}(s:f∈F){x:Int}(t:Sg U W f x)(i:x<0):∀V,Rs U W V->¬TV F V:=by
 intro V e r;have h:=r f s;obtain⟨a,b,c,d,j,k,l,m,rfl⟩:=t;have u:=j.Ju g;have v:=k.Ju g;have w:=l.Ju g;have rd:=m.Ju g;have n:=j.vv e;have o:=k.vv e;have p:=l.vv e;have q:=m.vv e;unfold foV at h;revert h;rcases u with rfl|rfl|rfl
 .simp at i
 all_goals rcases v with rfl|rfl|rfl
 all_goals try (simp at i;done)
 all_goals rcases w with rfl|rfl|rfl
 all_goals try (simp at i;done)
 all_goals rcases rd with rfl|rfl|rfl
 all_goals try (simp at i;done)
 all_goals first|rw[n.1 rfl]|rw[n.2 rfl]
 all_goals first|rw[o.1 rfl]|rw[o.2 rfl]
 all_goals first|rw[p.1 rfl]|rw[p.2 rfl]
 all_goals first|rw[q.1 rfl]|rw[q.2 rfl]
 all_goals decide
def Z'{U:List Lit}{W:TE}(g:Ge U W){F:List A5}(q:HF U W F)(r:∀f∈F,∃a b c d,Kn U W f.1 a/\Kn U W f.2.1 b/\Kn U W f.2.2.1 c/\Kn U W f.2.2.2 d/\a≠0/\b≠0/\c≠0/\d≠0){V:Tx}(e:Rs U W V):TV F V:=by
 intro f l;obtain⟨a,b,c,d,h,i,j,k,t,u,v,w⟩:=r f l;have s:=q f l _ ⟨a,b,c,d,h,i,j,k,rfl⟩;have x:=h.Ju g;have y:=i.Ju g;have z:=j.Ju g;have rd:=k.Ju g;have m:=h.vv e;have n:=i.vv e;have o:=j.vv e;have p:=k.vv e;unfold foV;rcases x with rfl|rfl|rfl
 .exact absurd rfl t
 all_goals rcases y with rfl|rfl|rfl
 all_goals try (exact absurd rfl u)
 all_goals rcases z with rfl|rfl|rfl
 all_goals try (exact absurd rfl v)
 all_goals rcases rd with rfl|rfl|rfl
 all_goals try (exact absurd rfl w)
 all_goals try (exfalso;exact s oo)
 all_goals first|rw[m.1 rfl]|rw[m.2 rfl]
 all_goals first|rw[n.1 rfl]|rw[n.2 rfl]
 all_goals first|rw[o.1 rfl]|rw[o.2 rfl]
 all_goals first|rw[p.1 rfl]|rw[p.2 rfl]
 all_goals decide
abbrev _root_.Ti:=Nat->Nat->Nat
def Dc(pn:Ti)(a b:Nat):Lit:=if a<b then(pn a b,false)else(pn b a,true)
def Uy{pn:Ti}{a b:Nat}(h:a≠b):Dc pn b a=((Dc pn a b).1,xr (Dc pn a b).2 true):=by
 unfold Dc;by_cases c:a<b
 .rw[rv c,te a_];rfl
 .rw[te c,rv a_];rfl
def Fq(D:List (TC))(p r:TC)(R:List (TC)):List (List (TC)):=(Nc r.length r).flatMap λq=>(Dj R).map λt=>D++(p++q) :: t
def zj{D:List (TC)}{p r:TC}{R:List (TC)}(e:r≠[]):Fq D p r R=r.flatMap λa=>Fq D (p++[a]) (r.erase a) R:=by
 unfold Fq;obtain⟨n,c⟩ : ∃n,r.length=n+1:=⟨r.length - 1,by have:=C0.2 e;omega⟩;rw[c,show Nc (n+1) r=r.flatMap λa=>(Nc n (r.erase a)).map (a :: ·)from rfl,List.flatMap_assoc];have g:∀l:List Nat,(∀a∈l,a∈r)->(l.flatMap λx=>((Nc n (r.erase x)).map (x :: ·)).flatMap λq=>(Dj R).map λt=>D++(p++q) :: t)=l.flatMap λa=>(Nc (r.erase a).length (r.erase a)).flatMap λq=>(Dj R).map λt=>D++(p++[a]++q) :: t:=by
  intro l
  induction l with
  |nil=>intro _;rfl
  |cons a l f=>
   intro h;rw[S6,S6,f λb d=>h b (E7 _ d)]
   congr 1
   rw[List.length_erase_of_mem (h a c_),c,hI]
   simp_all
 simp_all
def zi{D:List (TC)}{p l:TC}{R:List (TC)}:Fq D p [] (l :: R)=Fq (D++[p]) [] l R:=by
 unfold Fq;simp[Nc,Dj,List.map_flatMap];rfl
def zh{D:List (TC)}{p:TC}:Fq D p [] []=[D++[p]]:=by
 simp[Fq,Nc,Dj]
def Ze(pn:Ti)(V:Tx)(p:TC):Prop:=p.Pairwise λa b=>A8 V (Dc pn a b)=true
def G6(pn:Ti)(V:Tx)(D:List (TC))(p r:TC):Prop:=(∀q∈D,Ze pn V q)/\Ze pn V p/\∀a∈p,∀b∈r,A8 V (Dc pn a b)=true
def rX{pn:Ti}{V:Tx}{D:List (TC)}{p r:TC}{id:Nat}(i':id∈r)(a:r.Nodup):G6 pn V D (p++[id]) (r.erase id)↔G6 pn V D p r/\∀b∈r.erase id,A8 V (Dc pn id b)=true:=by
 unfold G6 Ze
 grind
def Np{pn:Ti}{V:Tx}{D:List (TC)}{p l:TC}:G6 pn V (D++[p]) [] l↔G6 pn V D p []:=by
 unfold G6 Ze;constructor
 .simp_all
 .rintro⟨c,d,_⟩;refine⟨λq e=>?_,c_,λa b=>by cases b⟩
  grind
def T3{pn:Ti}{V:Tx}{D:List (TC)}{p r:TC}{R:List (TC)}{x:List (TC)}(e:x∈Fq D p r R)(h:∀q∈x,Ze pn V q):G6 pn V D p r:=by
 unfold Fq at e;obtain⟨q,k,e⟩:=Gw.1 e;obtain⟨t,_,rfl⟩:=CS.1 e;have j:=zZ rfl k;have c:=h (p++q) c_;unfold Ze at c;rw[j2]at c;exact⟨λd i=>h d (by simp[i]),c.1,λa f b g=>c.2.2 a f b (j.mem_iff.2 g)⟩
def G2(pn:Ti)(S:(Nat->Bool)->Prop)(F:List A5)(x:List (TC)):Prop:=∃V,S V/\TV F V/\∀q∈x,Ze pn V q
def Db(pn:Ti)(S:(Nat->Bool)->Prop)(F:List A5)(x:List (TC)):Bool:=@decide (G2 pn S F x) (Classical.propDecidable _)
def Jl{pn:Ti}{S:(Nat->Bool)->Prop}{F:List A5}{x:List (TC)}:Db pn S F x=true↔G2 pn S F x:=by
 unfold Db
 simp_all
structure L8(U:List Lit)(pn:Ti)(S:(Nat->Bool)->Prop)(W:TE)(D:List (TC))(p r:TC):Prop where
 ok:Ge U W
 sem:∀V,Rs U W V↔S V/\G6 pn V D p r
 kn:(∀q∈D,q.Pairwise λa b=>Kn U W (Dc pn a b) 1)/\p.Pairwise (λa b=>Kn U W (Dc pn a b) 1)/\∀a∈p,∀b∈r,Kn U W (Dc pn a b) 1
section
variable {U:List Lit} {pn:Ti} {S:(Nat->Bool)->Prop} {F:List A5}
def L8.next{W:TE}{D:List (TC)}{p l:TC}(h:L8 U pn S W D p []):L8 U pn S W (D++[p]) [] l:=by
 obtain⟨d,e,f⟩:=h.kn;refine⟨h.ok,λV=>by rw[Np];exact h.sem V,λq c=>?_,c_,λa b=>by cases b⟩
 grind
structure G1(U:List Lit)(pn:Ti)(S:(Nat->Bool)->Prop)(W:TE)(D:List (TC))(p r:TC)(id:Nat)(B:TC):Prop where
 ok:Ge U W
 sem:∀V,Rs U W V↔(S V/\G6 pn V D p r)/\∀b∈B,A8 V (Dc pn id b)=true
 kn:(∀q∈D,q.Pairwise λa b=>Kn U W (Dc pn a b) 1)/\p.Pairwise (λa b=>Kn U W (Dc pn a b) 1)/\(∀a∈p,∀b∈r,Kn U W (Dc pn a b) 1)/\∀b∈B,Kn U W (Dc pn id b) 1
def L8.start{W:TE}{D:List (TC)}{p r:TC}(h:L8 U pn S W D p r)(id:Nat):G1 U pn S W D p r id []:=
 ⟨h.ok,λV=>⟨λa=>⟨(h.sem V).1 a,λb c=>by cases c⟩,λa=>(h.sem V).2 a.1⟩,h.kn.1,h.kn.2.1,h.kn.2.2,λb c=>by cases c⟩
def G1.set{W:TE}{D:List (TC)}{p r:TC}{id:Nat}{B:TC}(h:G1 U pn S W D p r id B){b:Nat}{l':Lit}(f:Rt U (Dc pn id b) l')(g:(Cy W l').getD l'.1 0=DT l'):G1 U pn S (Cy W l') D p r id (B++[b]):=by
 obtain⟨m,n,o,s⟩:=h.kn;have e:∀ {l:Lit},Kn U W l 1->Kn U (Cy W l') l 1:=λh=>s9 l' h oo;refine⟨ue h.ok l',λV=>?_,λq k=>(m q k).imp e,n.imp e,λa i b j=>e (o a i b j),λc d=>?_⟩
 .rw[Ly h.ok f g V,h.sem V,and_assoc]
  grind
 .rcases Ek.1 d with d|d
  .exact e (s c d)
  .rw[Fc]at d;subst d;exact d' f g
def G1.placed{W:TE}{D:List (TC)}{p r:TC}{id:Nat}{B:TC}(h:G1 U pn S W D p r id B)(i':id∈r)(c:r.Nodup)(e:∀b,b∈B↔b∈r.erase id):L8 U pn S W D (p++[id]) (r.erase id):=by
 obtain⟨d,i,j,k⟩:=h.kn;refine⟨h.ok,λV=>?_,d,?_,λa f b g=>?_⟩
 .rw[h.sem V,rX i' c,and_assoc]
  simp_all
 .grind
 grind
def G1.fail{W:TE}{D:List (TC)}{p r:TC}{id:Nat}{B:TC}(h:G1 U pn S W D p r id B)(i':id∈r)(a:r.Nodup)(j:∀b∈B,b∈r.erase id)(c:∀V,Rs U W V->TV F V->(∀b∈r.erase id,A8 V (Dc pn id b)=true)->False)(R:List (TC)):(Fq D (p++[id]) (r.erase id) R).filter (Db pn S F)=[]:=by
 rw[List.filter_eq_nil_iff];intro x l d;obtain⟨V,f,g,i⟩:=Jl.1 d;have e:=(rX i' a).1 (T3 l i);exact c V ((h.sem V).2 ⟨⟨f,e.1⟩,λb k=>e.2 b (j b k)⟩) g e.2
def L8.leaf{L:TF}(C:Hv U L){W:TE}{D:List (TC)}{p:TC}(h:L8 U pn S W D p [])(H:HF U W F)(I:∀f∈F,∀l∈[f.1,f.2.1,f.2.2.1,f.2.2.2],∃q∈D++[p],∃a∈q,∃b∈q,a≠b/\l=Dc pn a b):Db pn S F (D++[p])=true:=by
 rw[Jl];obtain⟨V,z⟩:=c7 C W;obtain⟨B,y⟩:=(h.sem V).1 z;obtain⟨M,N,_⟩:=h.kn;have n:∀q∈D++[p],q.Pairwise λa b=>Kn U W (Dc pn a b) 1:=λq m=>by
  grind
 have k:∀f∈F,∀l∈[f.1,f.2.1,f.2.2.1,f.2.2.2],∃x,Kn U W l x/\x≠0:=λf g l J=>by
  obtain⟨q,m,a,E,b,G,r,rfl⟩:=I f g l J;obtain⟨i,s⟩:=Ev E;obtain⟨j,t⟩:=Ev G;have o:=n q m;rw[Q5]at o;have v:=Gn (am s);have w:=Gn (am t);rw[s]at v;rw[t]at w;rcases Nat.lt_trichotomy i j with e|e|e
  .grind
  .grind
  .have:=o j i (am t) (am s) e;rw[←D' v,←D' w]at this;obtain⟨A,u,K⟩:=this;rw[Uy (CY r)];refine⟨-1,⟨(A.1,xr A.2 true),u.not true,?_⟩,oo⟩;unfold kv at K ⊢;rw[b8]
   grind
 refine⟨V,B,Z' h.ok H (λf g=>?_) z,λq m=>?_⟩
 .obtain⟨a,O,T⟩:=k f g f.1 c_;obtain⟨b,P,X⟩:=k f g f.2.1 c_;obtain⟨c,Q,Y⟩:=k f g f.2.2.1 c_;obtain⟨d,R,Z⟩:=k f g f.2.2.2 c_
  grind
 .rcases Ek.1 m with m|m
  .exact y.1 q m
  .rw[Fc]at m;subst m;exact y.2.1
end
end Go.Am
namespace Go.Am
open Sx Go.Proofs
def py{a b:Bool}{K:Tp}:P1.eqs [(.b a,.b b)] (@i' _ ⟨K⟩)=K (decide (a=b)):=by
 cases a<;>cases b<;>rfl
structure XC where
 w:Nat
 v:Nat
 xc:Value
 r:Nat×Int×Int
 at_:Value
 ids:Value
 lay:Value
 us:Value
 pr:Nat
 up:Value
 va:Value
 fo:Value
def ah(c:XC)(n:Bool):Tn:=[.int .i64 (ofNat c.w),.int .i64 (ofNat c.v),c.xc,.int .u8 (ofNat c.r.1),.int .i64 c.r.2.1,.int .i64 c.r.2.2,c.at_,c.ids,c.lay,c.us,.map (some c.pr),c.up,c.va,c.fo,.bool n]
def Dh(l:Lit):Tn:=[.int .i64 (ofNat l.1),.bool l.2]
def dJ(l:Lit):(Dh l).length=2:=rfl
def Cp(x:Int):Tn:=[.int .i64 x]
def eh(x:Int):(Cp x).length=1:=rfl
def IZ(f:A5):Tn:=Dh f.1++Dh f.2.1++Dh f.2.2.1++Dh f.2.2.2
def sM(f:A5):(IZ f).length=8:=rfl
section
variable {h:HL} {b:Nat} {c:XC} {n:Bool} (hb:h[b]?=some (.o (.cells (ah c n) 15 true))) {U:List Lit} (hU:q9 h c.up 2 Dh U) {r:TF} (hF:Hv U r)
include hb hU hF
theorem vh{l:Lit}(q:l.1<U.length):∃l',Rt U l l'/\aA cc ac 142 [.v (ka b),.i (ofNat l.1),.b l.2] (g_ aa h) [.i (ofNat l'.1),.b l'.2] (g_ aa h):=by
 have s:=x142 (ls:=[.v (ka b),.i (ofNat l.1),.b l.2]) (K:=λt g=>g=h/\∃l',Rt U l l'/\t=[.i (ofNat l'.1),.b l'.2]) (H:=h) (q7 (ar _) (k_ (H0 t0))) (by
  unfold Vi;simp only[u5];refine e_ ?_;refine aJ (m:=r l.1) (λm ls g=>∃k:Lit,ls=[.i (ofNat k.1),.b k.2]/\g=h/\m=r k.1/\k.1<U.length/\∀l',Rt U k l'->Rt U l l') ⟨l,rfl,rfl,rfl,q,λ_ h=>h⟩ ?_;rintro m ls g ⟨k,rfl,rfl,rfl,p,f⟩ j a;refine Di ?_;refine e_ ?_;obtain⟨u,d⟩:=aq p;refine bv (ds:=[c.up]) hb (by simp[ah]) rfl ?_;refine e_ ?_;refine ab hU.i_ ?_;refine km ?_;refine dF (cs:=[.int .i64 (ofNat u.1)]) hU rfl d rfl a_ ?_;refine e_ ?_;by_cases e:u.1=k.1
  .rw[CN (by rw[e])];refine e_ ?_;have:=hF.rt _ _ d e;refine⟨C2,k,f k (.here ?_),C2⟩
   grind
  .rw[CA (λh=>e (Jr h))];refine e_ ?_;refine bv (ds:=[c.up]) hb (by simp[ah]) rfl ?_;refine e_ ?_;refine ab hU.i_ ?_;refine km ?_;refine aP hU rfl d ?_;rw[show Dh u=[.int .i64 (ofNat u.1),.bool u.2]from rfl];refine e_ ?_;rw[py];exact a (r u.1) _ _ (hF.rk _ _ d e) ⟨(u.1,xr k.2 u.2),rfl,rfl,rfl,hF.cl _ u d,λl' h=>f l' (.step d e h)⟩)
 grind
variable {W:TE} (hW:Ge U W) (hV:q9 h c.va 1 Cp W)
include hW hV
theorem kZ{l:Lit}(k:l.1<U.length):∃x,Kn U W l x/\aA cc ac 143 [.v (ka b),.i (ofNat l.1),.b l.2] (g_ aa h) [.i x] (g_ aa h):=by
 obtain⟨a,g,j⟩:=vh hb hU hF k;have e:a.1<W.length:=by rw[hW.1];exact g.lt
 obtain⟨y,f⟩:=aq e;have m:=hW.2 y (Cf f);have d:kv W a=if a.2 then -y else y:=by
  unfold kv
  simp_all
 refine⟨kv W a,⟨a,g,rfl⟩,?_⟩;exact xK x143 (q7 (ar _) (k_ (H0 t0))) (by
  unfold Vj;simp only[u5];refine e_ ?_;refine ak j ?_;refine e_ ?_;rw[d];cases p:a.2 with
  |true=>
   refine e_ ?_;refine bv (ds:=[c.va]) hb (by simp[ah]) rfl ?_;refine e_ ?_;refine ab hV.i_ ?_;refine km ?_;refine aP hV rfl f ?_;rw[show Cp y=[.int .i64 y]from rfl];simp(disch:=omega)only[↓nc]
   try simp_all
  |false=>
   refine e_ ?_;refine bv (ds:=[c.va]) hb (by simp[ah]) rfl ?_;refine e_ ?_;refine ab hV.i_ ?_;refine km ?_;refine aP hV rfl f ?_;rw[show Cp y=[.int .i64 y]from rfl];refine e_ ?_
   simp_all)
theorem v7{F:List A5}(m:q9 h c.fo 8 IZ F)(S:F.length<=1000000)(y:∀f∈F,f.1.1<U.length/\f.2.1.1<U.length/\f.2.2.1.1<U.length/\f.2.2.2.1<U.length) :
  ∃e:Bool,aA cc ac 116 [.v (ka b)] (g_ aa h) [.b e] (g_ aa h)/\(e=true->HF U W F)/\(e=false->∃f∈F,∃x,Sg U W f x/\x<0):=by
 have V:=x116 (ls:=[.v (ka b)]) (K:=λrs R=>R=h/\∃e:Bool,rs=[.b e]/\(e=true->HF U W F)/\(e=false->∃f∈F,∃x,Sg U W f x/\x<0)) (H:=h) (q7 (ar _) t0) (by
  unfold Vf;simp only[u5];refine e_ ?_;refine bv (ds:=[c.fo]) hb (by simp[ah]) rfl ?_;refine e_ ?_;refine ab m.i_ ?_;refine km ?_;refine bz m ?_;refine mf F.length (λj=>∀(i:Nat) f,i<j->F[i]?=some f->∀x,Sg U W f x->¬x<0) (j0:=0) rfl (C6 _) (λi f h=>a_) ?_;intro j hj hi L t;refine e_ ?_;by_cases p:j<F.length
  case neg=>
   obtain rfl:j=F.length:=a_;rw[aM (A9 _)];refine e_ ?_;refine⟨C2,true,C2,λ_ f w x J=>?_,λh=>by cases h⟩;obtain⟨i,z⟩:=Ev w
   grind
  rw[aN p];refine e_ ?_;obtain⟨f,w⟩:=aq p;obtain⟨X,Y,Z,l4⟩:=y f (Cf w);obtain⟨d,A,N⟩:=kZ hb hU hF hW hV X;obtain⟨l,B,O⟩:=kZ hb hU hF hW hV Y;obtain⟨u,C,P⟩:=kZ hb hU hF hW hV Z;obtain⟨M,D,Q⟩:=kZ hb hU hF hW hV l4;have r1:=A.Ju hW;have r2:=B.Ju hW;have r3:=C.Ju hW;have r4:=D.Ju hW;have s2:d*l=0∨d*l=1∨d*l = -1:=by
   grind
  have s3:d*l*u=0∨d*l*u=1∨d*l*u = -1:=by
   grind
  have s4:=WZ r1 r2 r3 r4;refine aP m rfl w ?_;rw[show IZ f=[.int .i64 (ofNat f.1.1),.bool f.1.2,.int .i64 (ofNat f.2.1.1),.bool f.2.1.2,.int .i64 (ofNat f.2.2.1.1),.bool f.2.2.1.2,.int .i64 (ofNat f.2.2.2.1),.bool f.2.2.2.2]from rfl];refine e_ ?_;refine bN (g9:=Int) 4 (λj s=>[.i s,.i (ofNat j)]) (λ_ _=>h) (λj s=>s=(match j with|0=>1|1=>d|2=>d*l|3=>d*l*u|_=>d*l*u*M)) (j0:=0) (s0:=1) rfl rfl (C6 _) rfl ?_;rintro k s hk q E a;refine e_ ?_;obtain rfl|rfl|rfl|rfl|rfl:k=0∨k=1∨k=2∨k=3∨k=4:=a_
  .rw[ub oo];refine e_ ?_;refine ae (x:=()) rfl ?_;refine ae (x:=[.i (ofNat f.1.1),.b f.1.2]) rfl ?_;refine e_ ?_;refine ak N ?_;refine e_ ?_;rw[q,GQ (by simp only;omega) (by simp only;omega)];refine km ?_;exact a _ a_ c_
  .rw[ub oo];refine e_ ?_;refine ae (x:=()) rfl ?_;refine ae (x:=[.i (ofNat f.2.1.1),.b f.2.1.2]) rfl ?_;refine e_ ?_;refine ak O ?_;refine e_ ?_;rw[q,GQ (by simp only;omega) (by simp only;omega)];refine km ?_;exact a _ a_ rfl
  .rw[ub oo];refine e_ ?_;refine ae (x:=()) rfl ?_;refine ae (x:=[.i (ofNat f.2.2.1.1),.b f.2.2.1.2]) rfl ?_;refine e_ ?_;refine ak P ?_;refine e_ ?_;rw[q,GQ (by simp only;omega) (by simp only;omega)];refine km ?_;exact a _ a_ rfl
  .rw[ub oo];refine e_ ?_;refine ae (x:=()) rfl ?_;refine ae (x:=[.i (ofNat f.2.2.2.1),.b f.2.2.2.2]) rfl ?_;refine e_ ?_;refine ak Q ?_;refine e_ ?_;rw[q,GQ (by simp only;omega) (by simp only;omega)];refine km ?_;exact a _ a_ rfl
  .rw[vc oo];refine e_ ?_;simp only at q;have T:Sg U W f s:=⟨d,l,u,M,A,B,C,D,q⟩;by_cases I:s<0
   .rw[ub I];refine e_ ?_
    grind
   .rw[vc a_];refine e_ ?_;rw[aY a_];refine t p λi g z G x J=>?_;by_cases e:i=j
    .subst e;rw[w]at G;cases G;obtain⟨a1,a2,a3,a4,q1,q2,q3,q4,rfl⟩:=J;rw[q1.det A,q2.det B,q3.det C,q4.det D,←q];exact I
    grind)
 grind
end
abbrev K2:=Nat×Nat
def D_(k:K2):Tn:=[.int .i64 (ofNat k.1),.int .i64 (ofNat k.2)]
abbrev kk2:TJ:=[.i .i64,.i .i64]
def OW(a b:K2):x9 kk2 (D_ a) (D_ b)=some (decide (a=b)):=by
 have c:cY .i64 .i64=true:=rfl;obtain⟨d,e⟩:=a;obtain⟨f,g⟩:=b;have e3:∀x y:Nat,decide (ofNat x=ofNat y)=decide (x=y):=λx y=>decide_eq_decide.2 ⟨λh=>Jr h,λh=>by rw[h]⟩;simp only[D_,x9,c,iK,Q7,e3]
 grind
def Ki(a:K2):∃r,fF kk2 (D_ a) (D_ a)=some r:=by
 have b:cY .i64 .i64=true:=rfl;simp only[D_,fF,b,iK];exact⟨_,rfl⟩
def NI(h:HL)(id:Nat)(pn:Ti):Prop:=∃a:List (K2×Value),Dd D_ h id a/\(∀(i:Nat) k u,a[i]?=some (k,u)->u = .int .i64 (ofNat (pn k.1 k.2)))/\∀k,k∉a.map Prod.fst->pn k.1 k.2=0
def NI.j9{h h':HL}{id:Nat}{pn:Ti}(d:NI h id pn)(c:∀o,h[id]?=some o->h'[id]?=some o):NI h' id pn:=by
 obtain⟨e,a,b⟩:=d;exact⟨e,a.j9 D_ c,b⟩
def Y4{h:HL}{id:Nat}{pn:Ti}(a:NI h id pn)(x y:Nat){K:Tf}(j:K [.int .i64 (ofNat (pn x y))]):P1.my (.fn (Fb cc 153 false (.int .i64 (ofNat 0)) (.map (some id)) (.agg ⟨[.int .i64 (ofNat x),.int .i64 (ofNat y)]⟩) false)) h (@i' _ ⟨K⟩):=by
 obtain⟨l,c,f,g⟩:=a;refine Rb D_ OW d_ d_ Ki c (x,y) rfl (λb e=>by cases e) (λp a b e=>?_) (λk=>?_) λi u d=>?_
 .obtain⟨i,d⟩:=Ev a
  grind
 .simp_all
 grind
def jR{h:HL}{b:Nat}{c:XC}{n:Bool}(a:h[b]?=some (.o (.cells (ah c n) 15 true))){pn:Ti}(d:NI h c.pr pn)(x y:Nat):aA cc ac 110 [.v (ka b),.i (ofNat x),.i (ofNat y)] (g_ aa h) [.i (ofNat (Dc pn x y).1),.b (Dc pn x y).2] (g_ aa h):=by
 exact xK Xr (q7 (ar _) (k_ (k_ t0))) (by
  unfold Ve;simp only[u5];refine e_ ?_;unfold Dc;by_cases e:x<y
  .rw[rv e,aN e];refine e_ ?_;refine bv (ds:=[.map (some c.pr)]) a (by simp[ah]) rfl ?_;refine e_ ?_;refine ab rfl ?_;refine km ?_;refine Y4 d x y ?_;refine e_ ?_
   simp_all
  .rw[te e,aM a_];refine e_ ?_;refine bv (ds:=[.map (some c.pr)]) a (by simp[ah]) rfl ?_;refine e_ ?_;refine ab rfl ?_;refine km ?_;refine Y4 d y x ?_;refine e_ ?_
   simp_all)
end Go.Am
namespace Go.Am
namespace Sx
section
variable [Co]
def AY:p_->p_
 | .cells vs e true=>if vs.all flat then .cells vs e true else .dead
 |_=>.dead
def xg{o:p_}(h:(AY o).alive=true):∃vs e,o = .cells vs e true/\vs.all flat=true/\AY o = .cells vs e true:=by
 match o,h with
 | .cells vs e true,h=>
  unfold AY at h;by_cases a:vs.all flat=true
  .exact⟨vs,e,rfl,a,by show(if vs.all flat=true then p_.cells vs e true else .dead)=_;rw[rv a]⟩
  .simp only[te a]at h;cases h
 | .cells _ _ false,h=>cases h
 | .map ..,h=>cases h
 | .loop ..,h=>cases h
 | .GW ..,h=>cases h
 | .dead,h=>cases h
def qk(n0 n:Nat)(g9:TF):Nat->Nat:=λj=>if j<n0 then g9 j else n+(j - n0)
def Xp [Dw]{n:Nat}{i9:TF}{b a:ke}(d:∀j,j<n->a (i9 j)=b j){v c:TR}(r:a8 n v)(h:VR y8 b v c):VR y8 a (Hl i9 v) c:=by
 rcases r with⟨k,o⟩|⟨j,g,f,m,e,p,rfl⟩
 .rw[o,dt k h];exact .of_flat k
 .show VR y8 a (.slice (some ⟨i9 j,g,le e⟩) f m) c;generalize l:le e=t at h ⊢;cases h with
  |x3 i s u w=>exact .x3 ((d j p).trans i) s u w
  |u_ i=>exact .u_ i
  |Cu _=>simp[le]at l
  |y9=>simp[le]at l
  |scalar q=>simp[scalar]at q
def Sa [Dw]{n:Nat}{i9:TF}{a e:ke}(f:∀j,j<n->e (i9 j)=a j){l:SL}{c:TR}(g:G2 n l.lf)(h:VR y8 a l.val c):VR y8 e (nM i9 l).val c:=by
 cases l with
 |v x=>exact Xp f g h
 |i k m=>
  have d:flat (Value.int k m)=true:=rfl;have h:VR y8 a (.int k m) c:=h;rw[dt d h];exact .of_flat d
 |b t=>
  have d:flat (Value.bool t)=true:=rfl;have h:VR y8 a (.bool t) c:=h;rw[dt d h];exact .of_flat d
 |l t=>
  have d:flat (Value.bool t)=true:=rfl;have h:VR y8 a (.bool t) c:=h;rw[dt d h];exact .of_flat d
def R_ [Dw]{n:Nat}{i9:TF}{d b:ke}(g:∀j,j<n->b (i9 j)=d j){x:S0}{c:TR}(o:∀l∈x.cells,G2 n l.lf)(h:VR y8 d x.val c):VR y8 b (EQ i9 x).val c:=by
 cases x with
 |leaf l=>exact Sa g (o l (by simp[S0.cells])) h
 |agg k=>
  have h:VR y8 d (.agg ⟨k.map SL.val⟩) c:=h;generalize p:(⟨k.map SL.val⟩ : Array Value)=a at h;cases h with
  |scalar q=>simp[scalar]at q
  |agg r h=>
   subst p;refine .agg (by simpa using r) λi x y m s=>?_;have f:((k.map (nM i9)).map SL.val)[i]?=some x:=by simpa using m
   rw[Ew,Ew]at f;cases e:k[i]? with
   |none=>rw[e]at f;cases f
   |some l=>
    rw[e]at f;cases f;exact Sa g (o l (Cf e)) (h i _ y (by simp[e]) s)
def R9 [Dw]{n:Nat}{i9:TF}{d b:ke}(g:∀j,j<n->b (i9 j)=d j){xs:List S0}{c:TR}(k:∀x∈xs,∀l∈x.cells,G2 n l.lf)(h:VR y8 d (fQ (aj xs)) c):VR y8 b (fQ (aj (xs.map (EQ i9)))) c:=by
 match xs,k,h with
 | [],_,h=>
  have h:VR y8 d undef c:=h;have p:flat undef=true:=rfl;rw[dt p h];exact .of_flat p
 | [x],k,h=>exact R_ g (k x Lk) h
 |x :: y :: l,k,h=>
  have h:VR y8 d (.tuple ⟨aj (x :: y :: l)⟩) c:=h;show VR y8 b (.tuple ⟨aj ((x :: y :: l).map (EQ i9))⟩) c;generalize o:(⟨aj (x :: y :: l)⟩ : Array Value)=a at h;have t:a.size=l.length+2:=by subst o;simp[aj]
  cases h with
  |scalar q=>simp[scalar]at q
  |w9 _=>simp_all
  |LP _=>simp_all
  |tuple z r h=>
   subst o;refine .tuple (by simp[aj]) (by simpa[aj]using r) λi v w m u=>?_;have f:(aj ((x :: y :: l).map (EQ i9)))[i]?=some v:=by simpa using m
   unfold aj at f;rw[Ew,Ew]at f;cases e:(x :: y :: l)[i]? with
   |none=>rw[e]at f;cases f
   |some s=>
    rw[e]at f;cases f;exact R_ g (k s (Cf e)) (h i _ w (by
     show(⟨(x :: y :: l).map S0.val⟩ : Array Value)[i]?=_
     grind) u)
def M3 [Dw]{mu:ke}{p:Pl}{x:Option Obj}{o:p_}(b:o.alive=true)(h:Eg mu p x o):∃y,x=some y:=by
 cases o with
 |cells g e rw=>obtain⟨_,_,_,c,e,f,h,_⟩:=h;exact⟨_,h⟩
 |map d c=>obtain⟨a,h,_⟩:=h;exact⟨_,h⟩
 |loop r=>obtain⟨L,h,_⟩:=h;exact⟨_,h⟩
 |GW s p=>exact⟨_,h⟩
 |dead=>cases b
end
section
variable [Co]
def MK(kp:Nat->p_->p_)(ax:∀k o,(kp k o).alive=true->∃vs e,o = .cells vs e true/\vs.all flat=true/\kp k o = .cells vs e true){C:m'}(hG:∀g vs,C.G g=some vs->vs.all Kw=true){f:TQ}{A args:Tn}{r0 r:TR}{z H' H:Tu}(g9:TF)(h:dG C f A z r0 H')
  (h0:∀(j:Nat) (o:p_),z[j]?=some o->∃vs e rw,o = .cells vs e false/\vs.all flat=true/\H[g9 j]?=some (.cells vs e rw))
  (ha:∀ [Dw] (mu s:ke) (cs:Tn),(∀j,j<z.length->s j=mu (g9 j))->u9 y8 mu args cs->u9 y8 s A cs)
  (hr:∀ [Dw] (D R:ke) (c:TR),(∀j,j<H'.length->R (qk z.length H.length g9 j)=D j)->VR y8 D r0 c->VR y8 R r c):dG C f args H r (H++(H'.drop z.length).mapIdx kp):=by
 intro _ aE mu w I hb W L cs
 let s:ke:=λj=>if j<z.length then mu (g9 j)else none
 have ad:∀b,¬HI s z b:=by
  rintro b ⟨id,o,p,a,l,_⟩;obtain⟨vs,e,Q,rfl,_⟩:=h0 id o a;cases l
 have a8:∀(id:Nat) (o:p_),z[id]?=some o->s id=mu (g9 id):=by
  grind
 have ag:∀(id:Nat) (o:p_),z[id]?=some o->∃p,s id=some p/\Eg s p w.heap[p.b]? o:=by
  intro id o a;obtain⟨vs,e,Q,rfl,M,hH⟩:=h0 id o a;obtain⟨p,n,u⟩:=L.obj (g9 id) _ hH rfl;obtain⟨g1,g2,g3,c,e',U,g4,g5,g6,g7⟩:=u;refine⟨p,kb,g1,g2,g3,c,e',U,g4,g5,λe=>by(cases e),λi v hv=>?_⟩;obtain⟨v',B,S⟩:=g7 i v hv;have l:flat v=true:=A_.1 M v (Cf hv);refine⟨v',B,?_⟩;rw[dt l S];exact .of_flat l
 have av:∀(p:Pl) (o:p_) (m:ke),o.alive=true->Eg m p w.heap[p.b]? o->p.b<w.heap.size:=by
  intro p o m ha h;obtain⟨y,hy⟩:=M3 ha h
  grind
 have al:WR C w.heap.size s z w:=by
  refine⟨λid o a _=>ag id o a,λi j oi oj pi pj a l n=>?_,λi o p a l=>?_,λi o p a a6 _ l=>?_,λid a=>?_,λg vs hg=>?_⟩
  .obtain⟨vs,e,Q,rfl,_⟩:=h0 i oi a;cases n
  .obtain⟨vs,e,Q,rfl,_⟩:=h0 i o a;cases l
  .grind
  .grind
  .obtain⟨a,l,c,e,U,n,u⟩:=L.DL g vs hg;exact⟨a_,l,c,e,U,n,kU (hG g vs hg) u⟩
 have O:u9 y8 s A I.toList:=ha mu s _ (λj P=>kb) W;obtain⟨v,D,w',a1,T,N,a4,a5⟩:=h _ w.heap.size s w I (A9 _) O al cs;have J:∀(b:Nat) x,w.heap[b]?=some x->w'.heap[b]?=some x:=by
  intro b x hx;have ay:b<w.heap.size:=by
   grind
  rw[N.j9 b ay (ad b)];exact hx
 let E:ke:=λid=>if id<H.length then mu id else D (z.length+(id - H.length))
 have d:∀id,id<H.length->E id=mu id:=λid F=>jn;have t:∀k,E (H.length+k)=D (z.length+k):=λk=>by
  grind
 have a0:=N.len;have K:∀i p,mu i=some p->E i=some p:=by
  intro i p hp;rw[d i];exact hp;rcases Gi i H.length with h|h
  .exact h
  .rw[L.Hw i h]at hp;cases hp
 have q:∀(id:Nat) (o:p_),(H++(H'.drop z.length).mapIdx kp)[id]?=some o->¬id<H.length->o.alive=true->
   ∃k vs e,id=H.length+k/\H'[z.length+k]?=some (.cells vs e true)/\vs.all flat=true/\o = .cells vs e true:=by
  intro id o ho i' an;rw[GV a_,List.getElem?_mapIdx,M2]at ho;obtain⟨o',a,rfl⟩:=DC.1 ho;obtain⟨vs,e,rfl,M,e2⟩:=ax _ _ an;exact⟨id - H.length,vs,e,a_,a,M,e2⟩
 refine⟨v,E,w',?_,?_,?_,a4,a5⟩
 .refine hr D E v (λj P=>?_) a1;unfold qk;by_cases X:j<z.length
  .rw[rv X];obtain⟨vs,e,Q,_,_,hH⟩:=h0 j _ (Gn X);have:g9 j<H.length:=by
    grind
   rw[d _ this,N.same j X]
   simp_all
  grind
 .refine⟨λid o a l=>?_,λi j oi oj pi pj a l n u h5 Y V=>?_,λi o p a l n=>?_,λi o p a l n u=>?_,λid a=>?_,λg vs hg=>?_⟩
  .by_cases i':id<H.length
   .rw[Fe i']at a;obtain⟨p,n,u⟩:=L.obj id o a l;exact⟨p,K _ _ n,(vO (J p.b) u).mono K⟩
   .obtain⟨k,vs,e,rfl,n,M,rfl⟩:=q id o a i' l;obtain⟨p,u,g1,g2,g3,c,e',U,g4,g5,g6,g7⟩:=T.obj _ _ n rfl;refine⟨p,by rw[t];exact u,g1,g2,g3,c,e',U,g4,g5,g6,λi v hv=>?_⟩;obtain⟨v',B,S⟩:=g7 i v hv;have Z:flat v=true:=A_.1 M v (Cf hv);refine⟨v',B,?_⟩;rw[dt Z S];exact .of_flat Z
  .by_cases F:i<H.length
   .rw[Fe F]at a;rw[d i F]at Y;by_cases P:j<H.length
    .rw[Fe P]at l;rw[d j P]at V;exact L.inj i j oi oj pi pj a l n u h5 Y V
    .obtain⟨k,vs,e,rfl,B,M,rfl⟩:=q j oj l P u;rw[t]at V;have ap:=T.own _ _ _ B rfl V;obtain⟨p,h8,h9⟩:=L.obj i oi a (aU n);rw[Y]at h8;cases h8;have:=av _ _ _ (aU n) h9;omega
   .obtain⟨k,vs,e,rfl,B,M,rfl⟩:=q i oi a F (aU n);rw[t]at Y;have ap:=T.own _ _ _ B rfl Y;by_cases P:j<H.length
    .rw[Fe P]at l;rw[d j P]at V;obtain⟨p,h8,h9⟩:=L.obj j oj l u
     grind
    .obtain⟨k2,a9,e2,rfl,S,a7,rfl⟩:=q j oj l P u;rw[t]at V;exact T.inj _ _ _ _ _ _ B S rfl rfl a_ Y V
  .by_cases F:i<H.length
   .rw[Fe F]at a;rw[d i F]at n;exact L.own i o p a l n
   .obtain⟨k,vs,e,rfl,B,M,rfl⟩:=q i o a F (aU l);rw[t]at n;have:=T.own _ _ _ B rfl n;omega
  .by_cases F:i<H.length
   .rw[Fe F]at a;rw[d i F]at u;exact L.ro i o p a l n u
   .obtain⟨k,vs,e,rfl,B,M,rfl⟩:=q i o a F l;cases n
  .rw[Gv,List.length_mapIdx,eB]at a;have:¬id<H.length:=a_;simp only[E,te this];exact T.Hw _ a_
  .obtain⟨a,l,c,e,U,n,u⟩:=L.DL g vs hg;exact⟨a,l,c,e,U,J _ _ n,kU (hG g vs hg) u⟩
 .refine⟨c_,λid i'=>d id i',N.size,λb hb _=>N.j9 b hb (ad b),λb hb=>?_,N.os,N.tape,N.output,N.dr⟩;obtain⟨id,o,p,B,S,q3,rfl⟩:=hb;by_cases i':id<H.length
  .rw[Fe i']at B;rw[d id i']at q3;exact .inr ⟨id,o,p,B,S,q3,rfl⟩
  .obtain⟨k,vs,e,rfl,q4,M,rfl⟩:=q id o B i' (aU S);rw[t]at q3;exact .inl (T.own _ _ _ q4 rfl q3)
def Oy(q:Nat->p_->p_)(r:∀k o,(q k o).alive=true->∃vs e,o = .cells vs e true/\vs.all flat=true/\q k o = .cells vs e true){C:m'}{N:Tc}{Sg:Td}(L:C.P.follows .mixedOrders=true)(J:∀g vs,C.G g=some vs->vs.all Kw=true){g:TQ}(M:N g=none){f v:TG}{b H' H:Tu}(g9:TF)
  (h:let _:C7:=KnoC C N;aA C Sg g f b v H')
  (h0:∀(j:Nat) (o:p_),b[j]?=some o->∃vs e rw,o = .cells vs e false/\vs.all flat=true/\H[g9 j]?=some (.cells vs e rw))
  (K:∀l∈f,G2 b.length l) (s:∀l∈v,G2 H'.length l):let _:C7:=KnoC C N;aA C Sg g (f.map (FJ g9)) H (v.map (FJ (qk b.length H.length g9))) (H++(H'.drop b.length).mapIdx q):=by
 let _:C7:=KnoC C N
 obtain⟨T,D,E,F,n,p,I⟩:=h;have m:∀x∈D,∀l∈x.cells,G2 b.length l.lf:=λx m l a=>K _ (by rw[←n.2.1];exact vA m a);have u:∀x∈E,∀l∈x.cells,G2 H'.length l.lf:=λx m l a=>s _ (by rw[←p.2.1];exact vA m a);have z:∀(A:TF) (w:List S0),(∀x∈w,x.i_)->∀x∈w.map (EQ A),x.i_:=by
  intro A w O x t;obtain⟨y,u,rfl⟩:=CS.1 t;intro l a;rw[uE]at a;obtain⟨Q,i,rfl⟩:=CS.1 a;exact Pr (O y u Q i)
 refine⟨T,D.map (EQ g9),E.map (EQ (qk b.length H.length g9)),F,⟨by rw[oO];exact n.1,by rw[pP,n.2.1],z _ _ n.2.2⟩,⟨by rw[oO];exact p.1,by rw[pP,p.2.1],z _ _ p.2.2⟩,⟨0,?_⟩⟩;exact .inr ⟨.inl M,MK q r J g9 (qt L I) h0 (λV S U d h=>Xq d m h) λR B c d h=>R9 d u h⟩
def Bf{i7 a:Type}(f:i7->a)(l:List i7):l.mapIdx (λ_=>f)=l.map f:=by
 apply HA
 simp_all
def Oz(c:p_->p_)(d:∀o,(c o).alive=true->∃vs e,o = .cells vs e true/\vs.all flat=true/\c o = .cells vs e true){C:m'}{N:Tc}{Sg:Td}(n:C.P.follows .mixedOrders=true)(k:∀g vs,C.G g=some vs->vs.all Kw=true){g:TQ}(p:N g=none){a i:TG}{b H' H:Tu}(g9:TF)
  (h:let _:C7:=KnoC C N;aA C Sg g a b i H')
  (h0:∀(j:Nat) (o:p_),b[j]?=some o->∃vs e rw,o = .cells vs e false/\vs.all flat=true/\H[g9 j]?=some (.cells vs e rw))
  (m:∀l∈a,G2 b.length l) (f:∀l∈i,G2 H'.length l):let _:C7:=KnoC C N;aA C Sg g (a.map (FJ g9)) H (i.map (FJ (qk b.length H.length g9))) (H++(H'.drop b.length).map c):=by
 have:=Oy (λ_=>c) (λ_=>d) n k p g9 h h0 m f
 rwa [Bf]at this
def UB{C:m'}{N:Tc}{Sg:Td}(k:C.P.follows .mixedOrders=true)(f:∀g vs,C.G g=some vs->vs.all Kw=true){g:TQ}(m:N g=none){a d:TG}{b H' H:Tu}(g9:TF)
  (h:let _:C7:=KnoC C N;aA C Sg g a b d H')
  (h0:∀(j:Nat) (o:p_),b[j]?=some o->∃vs e rw,o = .cells vs e false/\vs.all flat=true/\H[g9 j]?=some (.cells vs e rw))
  (i:∀l∈a,G2 b.length l) (c:∀l∈d,G2 H'.length l):let _:C7:=KnoC C N;aA C Sg g (a.map (FJ g9)) H (d.map (FJ (qk b.length H.length g9))) (H++(H'.drop b.length).map AY):=
 Oz AY (λ_ h=>xg h) k f m g9 h h0 i c
end
end Sx
end Go.Am
namespace Go.Am
open Sx Go.Proofs
def MQ{g n:Nat}{ls a:TG}{sg:GN}(i:ac g=some sg)(e:sg.plain=true)(d:iQ ls=true)(h:GM n (.f g) ls .empty Ht=some a):∀H,aA cc ac g ls H a H:=by
 obtain⟨j,k,c,b⟩:=(tV n).f g ls .empty Ht a (fG d) h;rw[LX]at b;cases b;exact zY g sg ls _ _ i e c
def KD(a:TG):Option (TG)->Bool:=λo=>@Option.rec _ (λ_=>Bool) false (λb=>U0 b a) o
def lh{g n:Nat}{ls a:TG}{sg:GN}(i:ac g=some sg)(d:sg.plain=true)(c:iQ ls=true)(h:KD a (GM n (.f g) ls .empty Ht)=true):∀H,aA cc ac g ls H a H:=by
 cases e:GM n (.f g) ls .empty Ht with
 |none=>rw[e]at h;cases h
 |some b=>
  rw[e]at h;have h:U0 b a=true:=h;rw[qX h]at e;exact MQ i d c e
def N6(T:Tv)(h G:HL):g_ T (h++G)=g_ T h++g_ T G:=by simp[g_]
def Zm(T:Tv)(l:Tu):g_ T (l.map HO.o)=l:=by
 induction l with
 |nil=>rfl
 |cons a l b=>show EA T (.o a) :: g_ T (l.map HO.o)=_;rw[b];rfl
end Go.Am
namespace Go.Am
open Sx
def mA(t:Nat):Int:=match t with
 |0=>1|1=>0|2=>-1|3=>0|4=>-1|5=>0|6=>1|_=>0
def mB(t:Nat):Int:=match t with
 |0=>0|1=>-1|2=>0|3=>1|4=>0|5=>-1|6=>0|_=>1
def mC(t:Nat):Int:=match t with
 |0=>0|1=>1|2=>0|3=>-1|4=>0|5=>-1|6=>0|_=>1
def mD(t:Nat):Int:=match t with
 |0=>1|1=>0|2=>-1|3=>0|4=>1|5=>0|6=>-1|_=>0
def Da(s t:Nat):Nat:=if s<4 then(if t<4 then(s+t)%4 else 4+(t+4 - s)%4)else(if t<4 then 4+(s+t)%4 else(t+8 - s)%4)
abbrev Mv:=Nat×Int×Int
def af(a b:Mv):Mv:=(Da a.1 b.1,mA b.1*a.2.1+mB b.1*a.2.2+b.2.1,mC b.1*a.2.1+mD b.1*a.2.2+b.2.2)
def CJ:Mv:=(0,0,0)
def CM(n:Int)(m:Mv):Prop:=m.1<8/\-n<=m.2.1/\m.2.1<=n/\-n<=m.2.2/\m.2.2<=n/\(m.2.1+m.2.2)%2=0
def t8{t:Nat}(h:t<8):t=0∨t=1∨t=2∨t=3∨t=4∨t=5∨t=6∨t=7:=a_
def fH{s t:Nat}:Da s t<8:=by
 unfold Da
 grind
def Bj{a b c:Nat}(e:a<8)(f:b<8)(g:c<8):Da (Da a b) c=Da a (Da b c):=by
 have d:((range 8).all λa=>(range 8).all λb=>(range 8).all λc=>Da (Da a b) c==Da a (Da b c))=true:=by decide +kernel
 simp_all
def cz{a b c:Mv}(d:a.1<8)(e:b.1<8)(f:c.1<8):af (af a b) c=af a (af b c):=by
 obtain⟨g,i,j⟩:=a;obtain⟨k,l,h⟩:=b;obtain⟨m,n,o⟩:=c;simp only at d e f;unfold af;refine WO (Bj d e f) ?_;simp only;clear d;rcases t8 e with rfl|rfl|rfl|rfl|rfl|rfl|rfl|rfl<;>rcases t8 f with rfl|rfl|rfl|rfl|rfl|rfl|rfl|rfl<;>
  (refine WO ?_ ?_<;>simp[Da,mA,mB,mC,mD]<;>omega)
def oI{a:Mv}(b:a.1<8):af a CJ=a:=by
 obtain⟨t,x,y⟩:=a;have b:t<8:=b;unfold af CJ;simp only[mA,mB,mC,mD];refine WO ?_ (WO c_ c_);rcases t8 b with rfl|rfl|rfl|rfl|rfl|rfl|rfl|rfl<;>simp[Da]
def kW{a:Mv}(b:a.1<8):af CJ a=a:=by
 obtain⟨t,x,y⟩:=a;have b:t<8:=b;unfold af CJ;refine WO ?_ (WO c_ c_);rcases t8 b with rfl|rfl|rfl|rfl|rfl|rfl|rfl|rfl<;>simp[Da]
def GC(t:Nat):Nat:=match t with
 |1=>3|3=>1|n=>n
def E1(m:Mv):Mv:=(GC m.1,-(mA (GC m.1)*m.2.1+mB (GC m.1)*m.2.2),-(mC (GC m.1)*m.2.1+mD (GC m.1)*m.2.2))
def PK{m:Mv}(h:m.1<8):af m (E1 m)=CJ:=by
 obtain⟨t,x,y⟩:=m;have h:t<8:=h;unfold af E1 CJ;rcases t8 h with rfl|rfl|rfl|rfl|rfl|rfl|rfl|rfl<;>simp[Da,mA,mB,mC,mD,GC]<;>omega
def aZ{n k:Int}{m:Mv}(h:CM n m)(a:n<=k):CM k m:=by
 unfold CM at *;omega
def zB{n:Int}(h:0<=n):CM n CJ:=by
 unfold CM CJ;simp only;omega
def en{n k:Int}{a b:Mv}(g:CM n a)(h:CM k b):CM (n+k) (af a b):=by
 obtain⟨d,j,l⟩:=a;obtain⟨o,p,f⟩:=b;unfold CM af at *;simp only at *;obtain⟨c,i⟩:=g;obtain⟨e,m⟩:=h;refine⟨fH,?_⟩;clear c;rcases t8 e with rfl|rfl|rfl|rfl|rfl|rfl|rfl|rfl<;>simp only[mA,mB,mC,mD]<;>omega
def Wa{n:Int}{a:Mv}(d:CM n a):CM n (E1 a):=by
 obtain⟨c,f,g⟩:=a;unfold CM E1 at *;simp only at *;obtain⟨b,e⟩:=d;rcases t8 b with rfl|rfl|rfl|rfl|rfl|rfl|rfl|rfl<;>simp[mA,mB,mC,mD,GC]<;>omega
abbrev Ln:=Nat×Int
def wd(l:Ln):Mv:=match l.1 with
 |1=>(4,2*l.2,0)
 |2=>(6,0,2*l.2)
 |3=>(5,l.2,l.2)
 |_=>(7,-l.2,l.2)
def zA{l:Ln}{n:Int}(h:-n<=l.2/\l.2<=n):CM (2*n) (wd l):=by
 obtain⟨k,c⟩:=l;unfold wd CM
 grind
def rH(l:Ln):(wd l).1<8:=by
 unfold wd;split<;>simp
def M4(l:Ln):af (wd l) (wd l)=CJ:=by
 obtain⟨k,c⟩:=l;unfold wd af CJ;simp only;split<;>simp[Da,mA,mB,mC,mD]<;>omega
abbrev Cl:=Int×Int×Nat
def s7(c:Cl)(e:Nat):Ln:=match e with
 |0=>(match c.2.2 with
  |0=>(2,c.2.1)
  |1=>(1,c.1+1)
  |2=>(2,c.2.1+1)
  |_=>(1,c.1))
 |1=>(3,c.1+c.2.1+1)
 |_=>(4,c.2.1 - c.1)
def DH(c:Cl)(e:Nat):Cl:=match e with
 |0=>(match c.2.2 with
  |0=>(c.1,c.2.1 - 1,2)
  |1=>(c.1+1,c.2.1,3)
  |2=>(c.1,c.2.1+1,0)
  |_=>(c.1 - 1,c.2.1,1))
 |1=>(c.1,c.2.1,[1,0,3,2].getD c.2.2 0)
 |_=>(c.1,c.2.1,[3,2,1,0].getD c.2.2 0)
def qT(t q:Nat):Nat:=if t<4 then(q+t)%4 else([0,3,2,1].getD ((q+t)%4) 0+(if t%2=0 then 0 else 2))%4
def aB(m:Mv)(c:Cl):Cl:=(mA m.1*c.1+mB m.1*c.2.1+m.2.1 - (if mA m.1+mB m.1=1 then 0 else 1),mC m.1*c.1+mD m.1*c.2.1+m.2.2 - (if mC m.1+mD m.1=1 then 0 else 1),qT m.1 c.2.2)
def dR(l:Ln)(c:Cl):Bool:=match l.1 with
 |1=>decide (l.2<=c.1)
 |2=>decide (l.2<=c.2.1)
 |3=>decide (l.2<=c.1+c.2.1+(if c.2.2=1∨c.2.2=2 then 1 else 0))
 |_=>decide (l.2<=c.2.1 - c.1 - (if c.2.2=2∨c.2.2=3 then 0 else 1))
def xO{l:Ln}{c:Cl}{e:Nat}(a:1<=l.1/\l.1<=4)(b:c.2.2<4)(d:e<3)(h:dR l c≠dR l (DH c e)):l=s7 c e:=by
 obtain⟨k,n⟩:=l;obtain⟨x,y,q⟩:=c;simp only at a b;obtain rfl|rfl|rfl|rfl:q=0∨q=1∨q=2∨q=3:=a_
 all_goals obtain rfl|rfl|rfl:e=0∨e=1∨e=2:=a_
 all_goals obtain rfl|rfl|rfl|rfl:k=1∨k=2∨k=3∨k=4:=a_
 all_goals
  simp[dR,DH,s7]at h ⊢
 all_goals omega
def eT(t e:Nat):Nat:=if e=0 then 0 else if t%2=0/\t<4∨t=5∨t=7 then e else 3 - e
def iT{m:Mv}{c:Cl}{e:Nat}(a:m.1<8)(b:c.2.2<4)(d:e<3):aB m (DH c e)=DH (aB m c) (eT m.1 e):=by
 obtain⟨t,f,g⟩:=m;obtain⟨x,y,q⟩:=c;simp only at a b;rcases t8 a with rfl|rfl|rfl|rfl|rfl|rfl|rfl|rfl
 all_goals obtain rfl|rfl|rfl|rfl:q=0∨q=1∨q=2∨q=3:=a_
 all_goals obtain rfl|rfl|rfl:e=0∨e=1∨e=2:=a_
 all_goals simp[aB,DH,eT,qT,mA,mB,mC,mD]
 all_goals omega
def V0{m:Mv}{c:Cl}{e:Nat}(a:m.1<8)(b:c.2.2<4)(d:e<3):af m (wd (s7 (aB m c) (eT m.1 e)))=af (wd (s7 c e)) m:=by
 obtain⟨t,f,g⟩:=m;obtain⟨x,y,q⟩:=c;simp only at a b;rcases t8 a with rfl|rfl|rfl|rfl|rfl|rfl|rfl|rfl
 all_goals obtain rfl|rfl|rfl|rfl:q=0∨q=1∨q=2∨q=3:=a_
 all_goals obtain rfl|rfl|rfl:e=0∨e=1∨e=2:=a_
 all_goals simp[aB,eT,qT,mA,mB,mC,mD,af,wd,s7,Da]
 all_goals omega
def lW{t e:Nat}(a:e<3):eT t e<3:=by
 unfold eT
 grind
def iZ{t q:Nat}:qT t q<4:=by
 unfold qT;split<;>omega
def M'{g:Mv}{l:Ln}{c:Cl}{e:Nat}(b:g.1<8)(f:1<=l.1/\l.1<=4)(d:c.2.2<4)(a:e<3)(h:dR l (aB g c)≠dR l (aB g (DH c e))):af g (wd l)=af (wd (s7 c e)) g:=by
 rw[iT b d a]at h;have:=xO f iZ (lW a) h;rw[this];exact V0 b d a
def gS{g:Mv}{c:Cl}{e:Nat}(a:g.1<8)(b:c.2.2<4)(d:e<3):aB (af (wd (s7 c e)) g) (DH c e)=aB g c:=by
 obtain⟨t,f,h⟩:=g;obtain⟨x,y,q⟩:=c;simp only at a b;rcases t8 a with rfl|rfl|rfl|rfl|rfl|rfl|rfl|rfl
 all_goals obtain rfl|rfl|rfl|rfl:q=0∨q=1∨q=2∨q=3:=a_
 all_goals obtain rfl|rfl|rfl:e=0∨e=1∨e=2:=a_
 all_goals simp[aB,DH,qT,mA,mB,mC,mD,af,wd,s7,Da]
 all_goals omega
end Go.Am
namespace Go.Am
open Sx Go.Proofs
def lO(f:TQ)(ls a:TG):Bool:=KD a (GM 60 (.f f) ls .empty Ht)
def fU{f:TQ}{ls a:TG}{sg:GN}(h:lO f ls a=true)(d:ac f=some sg)(c:sg.plain=true)(b:iQ ls=true):Cc f ls a:=lh (n:=60) d c b h
abbrev CT(m:Mv):TG:=[.i (ofNat m.1),.i m.2.1,.i m.2.2]
abbrev Dl(c:Cl):TG:=[.i c.1,.i c.2.1,.i (ofNat c.2.2)]
def nQ{n:Int}(h:-16384<=n/\n<=16384):Cc 149 [.i n] [.b false]:=by
 refine q149 rfl ?_;unfold Sf;simp only[u5]
 repeat (first|simp(disch:=omega)only[↓nc])
 try rfl
def Qg{t x y:Int}(f:0<=t/\t<8)(b:-16384<=x/\x<=16384)(c:-16384<=y/\y<=16384)(e:(x+y)%2=0):Cc 129 [.i t,.i x,.i y] [.i 0]:=by
 refine q129 rfl ?_;unfold GT;simp only[u5];rcases Int.le_total 0 (x+y)with a|a
 .repeat (first|simp(disch:=omega)only[↓nc]|refine ai (nQ b) ?_|refine ai (nQ c) ?_|rw[E5 a a_])
 .have d:-(-(x+y)%2)=0:=a_
  repeat (first|simp(disch:=omega)only[↓nc]|refine ai (nQ b) ?_|refine ai (nQ c) ?_|rw[Gh a a_])
def vI{n:Int}{m:Mv}(h:CM n m)(g:n<=16384):Cc 129 (CT m) [.i 0]:=by
 obtain⟨b,c,d,e,f,a⟩:=h;exact Qg ⟨GK _,jn⟩ a_ a_ a
def vS{t:Nat}(h:t<8):qc BP 0 [(ofNat t,4)] 4=some [.int .i64 (mA t),.int .i64 (mB t),.int .i64 (mC t),.int .i64 (mD t)]:=by
 rcases t8 h with rfl|rfl|rfl|rfl|rfl|rfl|rfl|rfl<;>kernel_rfl
def AX{n t:Nat}(h:t<n):E0 n (ofNat t)=some ():=by
 show(match Nat.blt t n with
  |true=>some ()
  |false=>none)=some ()
 rw[show Nat.blt t n=true by simp_all]
def Qj{t:Nat}(a:t<8){x y:Int}(h:-200000<=x/\x<=200000/\-200000<=y/\y<=200000):Cc 155 [.i (mA t),.i (mB t),.i (mC t),.i (mD t),.i x,.i y] [.i (mA t*x+mB t*y),.i (mC t*x+mD t*y)]:=by
 rcases t8 a with rfl|rfl|rfl|rfl|rfl|rfl|rfl|rfl
 all_goals
  simp only[mA,mB,mC,mD];refine q155 rfl ?_;unfold SF;simp only[u5]
  repeat (first|simp(disch:=omega)only[↓nc])
  (try simp only[Hz,Lf.i.injEq,and_true,true_and]);(try omega)
def r3(s t:Nat):Bool:=lO 158 [.i (mA s),.i (mB s),.i (mC s),.i (mD s),.i (mA t),.i (mB t),.i (mC t),.i (mD t)] [.i (mA (Da s t)),.i (mB (Da s t)),.i (mC (Da s t)),.i (mD (Da s t))]
def numT(t:Nat):Bool:=lO 157 [.i (mA t),.i (mB t),.i (mC t),.i (mD t)] [.i (.ofNat t)]
def Au:((range 8).all λs=>numT s&&(range 8).all λt=>r3 s t)=true:=d_
def LY{s t:Nat}(a:s<8)(b:t<8):Cc 158 [.i (mA s),.i (mB s),.i (mC s),.i (mD s),.i (mA t),.i (mB t),.i (mC t),.i (mD t)] [.i (mA (Da s t)),.i (mB (Da s t)),.i (mC (Da s t)),.i (mD (Da s t))]:=by
 have h:=A_.1 Au s (Cm.2 a);rw[vd]at h;exact fU (A_.1 h.2 t (Cm.2 b)) rfl d_ rfl
def Qs{t:Nat}(a:t<8):Cc 157 [.i (mA t),.i (mB t),.i (mC t),.i (mD t)] [.i (.ofNat t)]:=by
 have h:=A_.1 Au t (Cm.2 a);rw[vd]at h;exact fU h.1 rfl d_ rfl
def MT{m:Mv}{n:Int}(h:CM n m)(a:n<=16384):Cc 156 (CT m) (CT m++[.i 0]):=by
 refine q156 rfl ?_;unfold Si;simp only[u5]
 repeat (first|simp(disch:=omega)only[↓nc]|refine ai (vI h a) ?_)
 rfl
def zE{a b:Mv}{n k:Int}(c:CM n a)(d:CM k b)(p:0<=n/\0<=k/\n+k<=16384):Cc 131 (CT a++CT b) (CT (af a b)++[.i 0]):=by
 have j:=en c d;refine q131 rfl ?_;unfold Se;simp only[u5];simp only[CT,DI,DA]
 repeat (first|simp(disch:=omega)only[↓nc]|refine ai (vI c a_) ?_|refine ai (vI d a_) ?_|refine ae (AX d.1) ?_|refine ae (vS d.1) ?_|refine ai (Qj d.1 ⟨by have:=c.2;omega,by have:=c.2;omega,by have:=c.2;omega,by have:=c.2;omega⟩) ?_|refine ae (AX c.1) ?_|refine ae (vS c.1) ?_|refine ai (LY c.1 d.1) ?_|refine ai (Qs fH) ?_)
 have q:∀z:Int,(-n<=z/\z<=n)∨True:=λ_=>.inr trivial;obtain⟨l,e,f,g,h,o⟩:=j;unfold af at e f g h;simp only at e f g h;rw[E4 a_ a_,E4 a_ a_];refine ai (MT (m:=af a b) ⟨l,e,f,g,h,o⟩ a_) ?_;simp only[CT,DI,DA];refine e_ ?_;rfl
def h9{k c:Int}(b:1<=k/\k<=4)(a:-4096<=c/\c<=4096):Cc 168 [.i k,.i c] [.i 0]:=by
 refine q168 rfl ?_;unfold SI;simp only[u5]
 repeat (first|simp(disch:=omega)only[↓nc])
 try rfl
def hJ{k c:Int}{m:Mv}(d:1<=k/\k<=4)(b:-4096<=c/\c<=4096)(a:m=wd (k.toNat,c)):Cc 154 [.i k,.i c] (CT m++[.i 0]):=by
 subst a;obtain rfl|rfl|rfl|rfl:k=1∨k=2∨k=3∨k=4:=a_
 all_goals
  refine q154 rfl ?_;unfold SE;simp only[u5]
  repeat (first|simp(disch:=omega)only[↓nc]|refine ai (h9 a_ a_) ?_)
  simp[wd]
def z6{l:Ln}(b:1<=l.1/\l.1<=4)(a:-4096<=l.2/\l.2<=4096):Cc 154 [.i (ofNat l.1),.i l.2] (CT (wd l)++[.i 0]):=
 hJ (k:=ofNat l.1) ⟨jn,jn⟩ a rfl
def T1{x y:Int}(h:-65536<=x/\x<=65536/\-65536<=y/\y<=65536):Cc 170 [.i x,.i y] [.i 0]:=by
 refine q170 rfl ?_;unfold SJ;simp only[u5]
 repeat (first|simp(disch:=omega)only[↓nc])
 try rfl
def H2(m:Mv)(x y:Int):Int×Int:=(mA m.1*x+mB m.1*y+2*m.2.1,mC m.1*x+mD m.1*y+2*m.2.2)
def KL{t:Nat}(a:t<8){n x y:Int}(h:-n<=x/\x<=n/\-n<=y/\y<=n):-n<=mA t*x+mB t*y/\mA t*x+mB t*y<=n/\-n<=mC t*x+mD t*y/\mC t*x+mD t*y<=n:=by
 rcases t8 a with rfl|rfl|rfl|rfl|rfl|rfl|rfl|rfl<;>simp only[mA,mB,mC,mD]<;>omega
def Lc{m:Mv}(a:CM 16384 m){x y:Int}(h:-8000<=x/\x<=8000/\-8000<=y/\y<=8000):Cc 163 (CT m++[.i x,.i y]) [.i (H2 m x y).1,.i (H2 m x y).2,.i 0]:=by
 have c:=KL a.1 h;have b:=a.2;refine q163 rfl ?_;unfold SH;simp only[u5];simp only[CT,DI,DA]
 repeat (first|simp(disch:=omega)only[↓nc]|refine ai (vI a a_) ?_|refine ai (T1 a_) ?_|refine ae (AX a.1) ?_|refine ae (vS a.1) ?_|refine ai (Qj a.1 a_) ?_)
 rfl
def OC{c:Cl}(h:-4096<=c.1/\c.1<=4096/\-4096<=c.2.1/\c.2.1<=4096/\c.2.2<4):Cc 81 (Dl c) [.i 0]:=by
 have a:(ofNat c.2.2)<=3:=jn;refine q81 rfl ?_;unfold f81;simp only[u5]
 repeat (first|simp(disch:=omega)only[↓nc])
 try rfl
def Qi{x y q:Int}(h:-1000000<=x/\x<=1000000/\-1000000<=y/\y<=1000000):Cc 162 [.i x,.i y,.i q] [.i (2*x+1),.i (2*y+1)]:=by
 refine q162 rfl ?_;unfold SG;simp only[u5]
 repeat (first|simp(disch:=omega)only[↓nc])
 (try simp only[Hz,Lf.i.injEq,and_true,true_and]);(try omega)
def f7(q:Nat):Int:=[0,1,0,-1].getD q 0
def f9(q:Nat):Int:=[-1,0,1,0].getD q 0
def O0{q:Nat}(h:q<4):qc w7 0 [(ofNat q,17)] 2=some [.int .i64 (f7 q),.int .i64 (f9 q)]:=by
 obtain rfl|rfl|rfl|rfl:q=0∨q=1∨q=2∨q=3:=a_
 all_goals kernel_rfl
def V1{m:Mv}(e:CM 16384 m){c:Cl}(d:-1000<=c.1/\c.1<=1000/\-1000<=c.2.1/\c.2.1<=1000/\c.2.2<4):Cc 140 (CT m++Dl c) (Dl (aB m c)):=by
 obtain⟨t,n,o⟩:=m;obtain⟨x,y,q⟩:=c;have i:CM 16384 (t,0,0):=⟨e.1,c_,c_,c_,c_,c_⟩;have a:=Lc (aZ e a_) (x:=2*x+1) (y:=2*y+1) (by simp only at d;omega);have b:=Lc (aZ i a_) (x:=f7 q) (y:=f9 q) (by
  have j:q<4:=d.2.2.2.2;obtain rfl|rfl|rfl|rfl:q=0∨q=1∨q=2∨q=3:=a_
  all_goals simp[f7,f9])
 obtain⟨X,k⟩ : ∃X,(H2 (t,n,o) (2*x+1) (2*y+1)).1=X:=⟨_,rfl⟩;obtain⟨Y,l⟩ : ∃Y,(H2 (t,n,o) (2*x+1) (2*y+1)).2=Y:=⟨_,rfl⟩;obtain⟨U,f⟩ : ∃U,(H2 (t,0,0) (f7 q) (f9 q)).1=U:=⟨_,rfl⟩;obtain⟨V,g⟩ : ∃V,(H2 (t,0,0) (f7 q) (f9 q)).2=V:=⟨_,rfl⟩;rw[k,l]at a;rw[f,g]at b;have h:=e.2;have p:t<8:=e.1;have j:q<4:=d.2.2.2.2;simp only at h d;refine q140 rfl ?_;unfold SD;simp only[u5];simp only[CT,Dl,DI,DA]
 repeat (first|simp(disch:=omega)only[↓nc]|refine ai (Qi a_) ?_|refine ae (AX j) ?_|refine ae (O0 j) ?_|refine ai a ?_|refine ai b ?_)
 rcases t8 p with rfl|rfl|rfl|rfl|rfl|rfl|rfl|rfl
 all_goals obtain rfl|rfl|rfl|rfl:q=0∨q=1∨q=2∨q=3:=a_
 all_goals
  simp[H2,mA,mB,mC,mD,f7,f9]at k l f g;subst f g
  repeat (first|simp(disch:=omega)only[↓nc]|refine ae (by simp only[ko,j',C8,Int.reduceToNat,Int.reduceAdd,Int.reduceMul,Int.reduceMod,Int.reduceSub,Int.reduceNeg,Int.reduceDiv,Nat.reduceAdd,Nat.reduceMul,Nat.reduceLeDiff,YV,hu,↓reduceIte,bt,WK,p',o2,DI,DA,ER,Int.toNat_zero,Y2,r0,Int.zero_add];exact rfl) ?_|refine zL 6 ?_)
  try simp[aB,mA,mB,mC,mD,qT]
  try omega
abbrev Eb:=Int×Int×Int
def n4(c:Eb):Tn:=[.int .i64 c.1,.int .u8 c.2.1,.int .u8 c.2.2]
def v4(c:Eb):Prop:=-9223372036854775808<=c.1/\c.1<=9223372036854775807/\0<=c.2.1/\c.2.1<=255/\0<=c.2.2/\c.2.2<=255
def MO(c:Eb):Bool:=decide (1<=c.2.2)&&decide (c.2.2<=3)
def PM(k:Int):Cc 35 [.i k] [.b (decide (1<=k)&&decide (k<=3))]:=by
 refine q35 rfl ?_;unfold f35;simp only[u5];by_cases a:1<=k
 .by_cases c:k<=3
  .simp(disch:=omega)only[↓nc];simp[a,c]
  .simp(disch:=omega)only[↓nc];simp[a,c]
 .simp(disch:=omega)only[↓nc];simp[a]
def ZL(c:Eb):Cc 34 [.i c.1,.i c.2.1,.i c.2.2] [.b (!MO c)]:=by
 refine q34 rfl ?_;unfold f34;simp only[u5]
 repeat (first|simp(disch:=omega)only[↓nc]|refine ai (PM c.2.2) ?_)
 simp[MO]
abbrev ZO:Value:=.func (.func 34) ⟨[]⟩ ⟨[]⟩
def Yw:aF ZO=true:=rfl
abbrev _root_.TD:=List Eb
def VB{h:HL}{x:TR}{l:TD}(d:q9 h x 3 n4 l)(u:l.length<=4294967296):∃n:Int,aA cc ac 77 [.v x,.v ZO] (g_ aa h) [.i n] (g_ aa h)/\(0<=n↔∃c∈l,MO c=false):=by
 obtain⟨m,g,p,n,rfl,rfl,q⟩:=x77 (K:=λm g=>∃n:Int,m=[.i n]/\g=h/\(0<=n↔∃c∈l,MO c=false)) (H:=h) (q7 d.i_ (q7 Yw t0)) (by
  unfold f77;simp only[u5];refine e_ ?_;refine bz d ?_;refine mf l.length (λj=>∀i,i<j->∀c,l[i]?=some c->MO c=true) rfl (C6 _) (λi k=>absurd k (qdq _)) ?_;intro j t k o f;refine e_ ?_;by_cases e:j<l.length
  .have a:ofNat j<ofNat l.length:=kb;rw[ub a];refine e_ ?_;obtain⟨c,b⟩ : ∃c,l[j]?=some c:=⟨_,Gn e⟩;refine aP d rfl b ?_;unfold n4
   repeat (first|simp(disch:=omega)only[↓nc]|refine iV (sF (ZL c _) rfl [.agg [.i .i64 c.1,.i .u8 c.2.1,.i .u8 c.2.2]] rfl rfl) ?_)
   cases s:MO c with
   |true=>
    show P1.cond false _ _;refine e_ ?_;rw[E4 jn jn]
    grind
   |false=>
    show P1.cond true _ _;refine e_ ?_
    grind
  .have a:ofNat l.length<=ofNat j:=kb;rw[vc a];refine e_ ?_;refine⟨_,rfl,C2,λh=>a_,λ⟨c,b,s⟩=>?_⟩;obtain⟨i,r⟩:=Ev b
   grind)
 exact⟨n,p,q⟩
def AO{h:HL}{x:TR}{l:TD}(c:q9 h x 3 n4 l)(i:l.length<=4294967296):aA cc ac 33 [.v x,.v ZO] (g_ aa h) [.b (!l.all MO)] (g_ aa h):=by
 obtain⟨n,e,f⟩:=VB c i;obtain⟨d,a,g,rfl,rfl⟩:=x33 (K:=λd a=>d=[.b (!l.all MO)]/\a=h) (H:=h) (q7 c.i_ (q7 Yw t0)) (by
  unfold f33;simp only[u5]
  repeat (first|simp(disch:=omega)only[↓nc]|refine ak e ?_)
  cases j:l.all MO with
  |true=>
   have:¬0<=n:=λh=>by
    grind
   refine e_ ?_
   simp_all
  |false=>
   have:0<=n:=f.2 (by
    simp_all)
   refine e_ ?_
   simp_all)
 exact g
def Cv(w v c e:Nat):Ts:=
 match e,c%4 with
 |0,0=>if 0<c / 4 / w then some (c+2 - 4*w)else none
 |0,1=>if c / 4%w+1<w then some (c+6)else none
 |0,2=>if c / 4 / w+1<v then some (c+4*w - 2)else none
 |0,_=>if 0<c / 4%w then some (c - 6)else none
 |1,0=>some (c+1)
 |1,1=>some (c - 1)
 |1,2=>some (c+1)
 |1,_=>some (c - 1)
 |2,0=>some (c+3)
 |2,1=>some (c+1)
 |2,2=>some (c - 1)
 |2,_=>some (c - 3)
 |_,_=>none
def H9(w v c e:Nat):TG:=match Cv w v c e with
 |some n=>[.i (.ofNat (min c n)),.i (.ofNat e),.i 0]
 |none=>[.i 0,.i 0,.i 7]
def HN(w c:Nat):TG:=[.i (.ofNat (c / 4%w)),.i (.ofNat (c / 4 / w)),.i (.ofNat (c%4)),.i 0]
def LW(w v:Nat):Bool:=(range (4*w*v)).all λc=>(range 3).all λe=>KD (H9 w v c e) (GM 60 (.f 36) [.i (.ofNat w),.i (.ofNat v),.i (.ofNat c),.i (.ofNat e)] .empty Ht)
def LU(w v:Nat):Bool:=(range (4*w*v)).all λc=>KD (HN w c) (GM 60 (.f 40) [.i (.ofNat w),.i (.ofNat v),.i (.ofNat c)] .empty Ht)
def wp(w v:Nat):List (Nat×Nat):=(range (4*w*v)).flatMap λc=>(range 3).filterMap λe=>match Cv w v c e with
 |some n=>if c<n then some (c,e)else none
 |none=>none
def Ny(w v:Nat):Bool:=LW w v&&LU w v
def se:∀w v:Nat,1<=w->w<=5->1<=v->v<=5->Ny w v=true:=by
 have a:((range 5).all λw=>(range 5).all λv=>Ny (w+1) (v+1))=true:=d_;intro w v c d e f;have b:=A_.1 a (w - 1) (Cm.2 a_);have g:=A_.1 b (v - 1) (Cm.2 a_)
 simp_all
def kD{w v c e n:Nat}(d:1<=w)(h:Cv w v c e=some n):n≠c:=by
 have f:c / 4%w<=c / 4:=qds _ _;have g:c / 4 / w<=c / 4:=r2 _ _;have b:c%4=0∨c%4=1∨c%4=2∨c%4=3:=a_;rcases e with _|_|_|e<;>rcases b with a|a|a|a<;>simp only[Cv,a]at h<;>
  first
  |grind
  |grind
  |(cases h;done)
def LS{w v:Nat}(h:Ny w v=true):LW w v=true/\LU w v=true:=by
 unfold Ny at h
 simp_all
def Jf{w v:Nat}(f:Ny w v=true){c e:Nat}(b:c<4*w*v)(d:e<3):Cc 36 [.i (.ofNat w),.i (.ofNat v),.i (.ofNat c),.i (.ofNat e)] (H9 w v c e):=by
 have a:=A_.1 (LS f).1 c (Cm.2 b);exact lh (n:=60) rfl d_ rfl (A_.1 a e (Cm.2 d))
def IL{w v:Nat}(b:Ny w v=true){c:Nat}(a:c<4*w*v):Cc 40 [.i (.ofNat w),.i (.ofNat v),.i (.ofNat c)] (HN w c):=
 lh (n:=60) rfl d_ rfl (A_.1 (LS b).2 c (Cm.2 a))
def E'(w v:Int):Prop:=1<=w/\1<=v/\w<=256/\v<=256/\w*v<=256
instance (w v : Int) : Decidable (E' w v) := by unfold E'; infer_instance
def Je{w v a b:Int}(h:0<=w/\w<=a/\0<=v/\v<=b):0<=w*v/\w*v<=a*b:=
 ⟨Int.mul_nonneg h.1 h.2.2.1,Int.mul_le_mul h.2.1 h.2.2.2 h.2.2.1 a_⟩
def Lz(w v:Int):Cc 32 [.i w,.i v] [.i (if E' w v then 0 else 1)]:=by
 refine q32 rfl ?_;unfold f32;simp only[u5];by_cases c:1<=w
 .by_cases d:1<=v
  .by_cases e:w<=256
   .by_cases f:v<=256
    .have h:=Je (w:=w) (v:=v) (a:=256) (b:=256) a_;by_cases g:w*v<=256
     .simp(disch:=omega)only[↓nc];simp[E',c,d,e,f,g]
     .simp(disch:=omega)only[↓nc];simp[E',g]
    .simp(disch:=omega)only[↓nc];simp[E',f]
   .simp(disch:=omega)only[↓nc];simp[E',e]
  .simp(disch:=omega)only[↓nc];simp[E',d]
 .simp(disch:=omega)only[↓nc];simp[E',c]
def rY{w v:Int}(h:E' w v):Cc 32 [.i w,.i v] [.i 0]:=by
 have:=Lz w v;grind
def BB{w v:Int}(h:¬E' w v):Cc 32 [.i w,.i v] [.i 1]:=by
 have:=Lz w v;grind
def Ir(w v:Int):Prop:=1<=w/\w<=5/\1<=v/\v<=5
def LF{w v:Int}(h:Ir w v):E' w v:=by
 unfold Ir at h;have:=Je (w:=w) (v:=v) (a:=5) (b:=5) a_;unfold E';omega
def sm4{w v:Int}(h:Ir w v):4<=4*w*v/\4*w*v<=100:=by
 unfold Ir at h;have c:=Je (w:=4*w) (v:=v) (a:=20) (b:=5) a_;have d:4*w<=4*w*v:=by
  have:=Int.mul_le_mul_of_nonneg_left h.2.2.1 (show 0<=4*w by omega);omega
 omega
def eZ{w v:Int}(h:Ir w v)(c:Int):Cc 79 [.i w,.i v,.i c] [.b (decide (0<=c)&&decide (c<4*w*v))]:=by
 have e:=sm4 h;unfold Ir at h;refine q79 rfl ?_;unfold f79;simp only[u5];by_cases a:0<=c
 .by_cases d:c<4*w*v
  .simp(disch:=omega)only[↓nc];simp[a,d]
  .simp(disch:=omega)only[↓nc];simp[a,d]
 .simp(disch:=omega)only[↓nc];simp[a]
def Bz{w v c:Int}(h:Ir w v)(a:¬(0<=c/\c<4*w*v)):Cc 40 [.i w,.i v,.i c] [.i 0,.i 0,.i 0,.i 7]:=by
 refine q40 rfl ?_;unfold f40;simp only[u5]
 repeat (first|simp(disch:=omega)only[↓nc]|refine ai (rY (LF h)) ?_)
 have e:(decide (0<=c)&&decide (c<4*w*v))=false:=ua;refine ai (e▸eZ h c) ?_;simp(disch:=omega)only[↓nc,EB]
def yf{w v c e:Int}(h:Ir w v)(a:¬(0<=c/\c<4*w*v)):Cc 78 [.i w,.i v,.i c,.i e] [.i 0,.i 7]:=by
 refine q78 rfl ?_;unfold f78;simp only[u5]
 repeat (first|simp(disch:=omega)only[↓nc]|refine ai (Bz h a) ?_)
def BC{w v c e:Int}(h:Ir w v)(a:¬(0<=c/\c<4*w*v)):Cc 36 [.i w,.i v,.i c,.i e] [.i 0,.i 0,.i 7]:=by
 refine q36 rfl ?_;unfold f36;simp only[u5]
 repeat (first|simp(disch:=omega)only[↓nc]|refine ai (yf h a) ?_)
def uA{x y q:Int}(h:-4096<=x/\x<=4096/\-4096<=y/\y<=4096/\q<=3):Cc 81 [.i x,.i y,.i q] [.i 0]:=by
 refine q81 rfl ?_;unfold f81;simp only[u5];simp(disch:=omega)only[↓nc]
def qC{x y q e:Int}(h:-4096<=x/\x<=4096/\-4096<=y/\y<=4096/\q<=3)(a:2<e):Cc 104 [.i x,.i y,.i q,.i e] [.i 0,.i 0,.i 0,.i 1]:=by
 refine q104 rfl ?_;unfold Sr;simp only[u5]
 repeat (first|simp(disch:=omega)only[↓nc]|refine ai (uA h) ?_)
def R3{w v:Int}(h:Ir w v):∃a b:Nat,w = .ofNat a/\v = .ofNat b/\1<=a/\a<=5/\1<=b/\b<=5:=by
 unfold Ir at h;obtain⟨a,rfl⟩:=z1 (show 0<=w by omega);obtain⟨b,rfl⟩:=z1 (show 0<=v by omega)
 grind
def Qa{a b c:Nat}(h:(c:Int)<4*(a:Int)*(b:Int)):c<4*a*b:=by
 grind
def wj{w v c e:Int}(h:Ir w v)(f:0<=c/\c<4*w*v)(g:2<e):Cc 78 [.i w,.i v,.i c,.i e] [.i 0,.i 1]:=by
 have p:=sm4 h;obtain⟨a,b,rfl,rfl,d⟩:=R3 h;obtain⟨k,rfl⟩:=z1 f.1;have j:k<4*a*b:=Qa f.2;have l:4*a*b<=100:=by
  grind
 refine q78 rfl ?_;unfold f78;simp only[u5];refine e_ ?_;refine ai (IL (se a b d.1 d.2.1 d.2.2.1 d.2.2.2) j) ?_;unfold HN;refine e_ ?_;have m:k / 4%a<=k / 4:=qds _ _;have n:k / 4 / a<=k / 4:=r2 _ _;have o:(0:Int)<=((k / 4 / a:Nat):Int):=GK _;have r:(0:Int)<=((k / 4%a:Nat):Int):=GK _;refine ai (qC (x:=ofNat (k / 4%a)) (y:=ofNat (k / 4 / a)) (q:=ofNat (k%4)) jn g) ?_;simp(disch:=omega)only[↓nc]
def ye{w v c e:Int}(h:Ir w v)(a:0<=c/\c<4*w*v)(b:2<e):Cc 36 [.i w,.i v,.i c,.i e] [.i 0,.i 0,.i 1]:=by
 refine q36 rfl ?_;unfold f36;simp only[u5]
 repeat (first|simp(disch:=omega)only[↓nc]|refine ai (wj h a b) ?_)
def FA(w v c e:Int):Bool:=decide (0<=c)&&decide (c<4*w*v)&&decide (e<=2)&&(match Cv w.toNat v.toNat c.toNat e.toNat with
 |some n=>Nat.blt c.toNat n
 |none=>false)
def y7{w v c e:Int}(h:Ir w v)(o:0<=e):∃a b r:Int,Cc 36 [.i w,.i v,.i c,.i e] [.i a,.i b,.i r]/\(FA w v c e=true↔r=0/\a=c/\b=e):=by
 by_cases g:0<=c/\c<4*w*v
 .by_cases m:e<=2
  .obtain⟨a,b,rfl,rfl,d⟩:=R3 h;obtain⟨k,rfl⟩:=z1 g.1;obtain⟨j,rfl⟩:=z1 o;have p:k<4*a*b:=Qa g.2;have f:=Jf (se a b d.1 d.2.1 d.2.2.1 d.2.2.2) p (e:=j) a_;unfold H9 at f;cases e:Cv a b k j with
   |none=>
    rw[e]at f;refine⟨_,_,_,f,?_⟩;have:FA (.ofNat a) (.ofNat b) (k:Int) (j:Int)=false:=by
     unfold FA
     simp_all
    rw[this];simp
   |some n=>
    rw[e]at f;refine⟨_,_,_,f,?_⟩;have q:=kD d.1 e;have l:Cv (ofNat a).toNat (ofNat b).toNat (k:Int).toNat (j:Int).toNat=some n:=e;unfold FA;rw[l];simp only[vd,EP,Gp,Int.toNat_natCast]
    grind
  .refine⟨_,_,_,ye h g a_,?_⟩;have:FA w v c e=false:=by unfold FA;simp[m]
   rw[this];simp
 .refine⟨_,_,_,BC h g,?_⟩;have:FA w v c e=false:=by
   unfold FA
   grind
  rw[this];simp
def zb{w v c e:Int}(h:FA w v c e=true):0<=c/\c<4*w*v/\e<=2:=by
 unfold FA at h
 simp_all
def Gb(a b:Eb):Bool:=decide (a.1<b.1)||(decide (a.1=b.1)&&decide (a.2.1<b.2.1))
def EH:TD->Bool
 |a :: b :: l=>Gb a b&&EH (b :: l)
 |_=>true
def jf:∀ {l:TD},EH l=true↔∀(i:Nat) a b,l[i]?=some a->l[i+1]?=some b->Gb a b=true
 | []=>by simp[EH]
 | [a]=>by simp[EH]
 |a :: b :: l=>by
  simp only[EH,vd];rw[jf (l:=b :: l)];constructor
  .grind
  .intro h;exact⟨h 0 a b rfl rfl,λi x y c d=>h (i+1) x y (by simpa using c) (by simpa using d)⟩
def S_(w v:Int)(c:Eb):Bool:=FA w v c.1 c.2.1
def F6(w v:Int)(l:TD):Int:=if l.all MO=false then 1 else if l.all (S_ w v)=false then 7 else if EH l=true then 0 else 6
def Ay(c:Eb):Cc 37 [.i c.1,.i c.2.1,.i c.2.2] [.i c.1,.i c.2.1]:=by
 refine q37 rfl ?_;unfold f37;simp only[u5];simp(disch:=omega)only[↓nc]
def Wf{a b:Eb}(h:0<=a.1/\a.1<=1000/\0<=b.1/\b.1<=1000/\0<=a.2.1/\a.2.1<=255/\0<=b.2.1/\b.2.1<=255):∃d:Int,Cc 38 [.i a.1,.i a.2.1,.i b.1,.i b.2.1] [.i d]/\(d<0↔Gb a b=true):=by
 by_cases c:a.1=b.1
 .refine⟨a.2.1 - b.2.1,?_,by simp only[Gb,Gk,vd,EP];omega⟩;refine q38 rfl ?_;unfold Yt;simp only[u5];simp(disch:=omega)only[↓nc]
 .refine⟨a.1 - b.1,?_,by simp only[Gb,Gk,vd,EP];omega⟩;refine q38 rfl ?_;unfold Yt;simp only[u5];simp(disch:=omega)only[↓nc]
def UF{w v:Int}(J:Ir w v){h:HL}{x:TR}{l:TD}(q:q9 h x 3 n4 l)(E:∀c∈l,v4 c)(V:l.length<=4294967296) :
  aA cc ac 16 [.i w,.i v,.v x] (g_ aa h) [.i (F6 w v l)] (g_ aa h):=by
 obtain⟨N,L,P,rfl,rfl⟩:=x16 (K:=λN L=>N=[.i (F6 w v l)]/\L=h) (H:=h) (k_ (k_ (q7 q.i_ t0))) (by
  unfold f16;simp only[u5]
  repeat (first|simp(disch:=omega)only[↓nc]|refine ai (rY (LF J)) ?_|refine ak (AO q V) ?_)
  cases u:l.all MO with
  |false=>
   simp(disch:=omega)only[↓nc,EB];exact⟨by simp[F6,u],C2⟩
  |true=>
   simp(disch:=omega)only[↓nc,DP];refine bz q ?_;refine mf l.length (λj=>∀i,i<j->∀c,l[i]?=some c->S_ w v c=true) rfl (C6 _) (λi D=>absurd D (qdq _)) ?_;intro j Z D t s;refine e_ ?_;by_cases k:j<l.length
   .rw[aN k];refine e_ ?_;obtain⟨c,m⟩:=aq k;have n:=Cf m;have I:=E c n;unfold v4 at I;have O:S_ w v c=false->F6 w v l=7:=λf=>by
     have:l.all (S_ w v)=false:=List.all_eq_false.2 ⟨c,n,by simp[f]⟩;simp[F6,u,this]
    refine aP q rfl m ?_;unfold n4;refine e_ ?_;obtain⟨a,b,r,G,g⟩:=y7 (c:=c.1) (e:=c.2.1) J a_;refine ai G ?_;refine e_ ?_;by_cases M:r=0
    .subst M
     repeat (first|simp(disch:=omega)only[↓nc]|refine ai (Ay c) ?_)
     by_cases p:a=c.1/\b=c.2.1
     .have f:S_ w v c=true:=g.2 ⟨rfl,p.1,p.2⟩;simp(disch:=omega)only[↓nc,DP];rw[aY a_]
      grind
     .have f:S_ w v c=false:=by
       rw[←Gj];intro f;have:=g.1 f;omega
      rw[Gf p];simp(disch:=omega)only[↓nc,EB]
      simp_all
    .have f:S_ w v c=false:=by
      rw[←Gj];intro f;exact M (g.1 f).1
     refine e_ ?_
     simp_all
   .obtain rfl:j=l.length:=a_;rw[aM (A9 _)];refine e_ ?_;have f:l.all (S_ w v)=true:=A_.2 λc m=>by
     obtain⟨i,S⟩:=Ev m
     grind
    refine mf (j0:=1) (max 1 l.length) (λj=>1<=j/\∀(i:Nat) a b,i+1<j->l[i]?=some a->l[i+1]?=some b->Gb a b=true) rfl (f0 _ _) ⟨A9 _,λi a b D=>a_⟩ ?_;intro j T ⟨h1,hi2⟩ t s;refine e_ ?_;refine bz q ?_;by_cases k:j<l.length
    .rw[aN k];refine e_ ?_;rw[lq h1 a_];obtain⟨c,m⟩:=aq (l:=l) (i:=j - 1) a_;obtain⟨d,B⟩:=aq k;have A:=E c (Cf m);have C:=E d (Cf B);have Q:=zb (A_.1 f c (Cf m));have R:=zb (A_.1 f d (Cf B));have Y:=sm4 J;unfold v4 at A C;refine aP q rfl m ?_;unfold n4
     repeat (first|simp(disch:=omega)only[↓nc]|refine ai (Ay c) ?_)
     refine aP q rfl B ?_;unfold n4
     repeat (first|simp(disch:=omega)only[↓nc]|refine ai (Ay d) ?_)
     obtain⟨o,W,X⟩:=Wf (a:=c) (b:=d) a_;refine ai W ?_;refine e_ ?_;by_cases U:o<0
     .simp(disch:=omega)only[↓nc];rw[aY a_]
      grind
     .have F:EH l=false:=by
       rw[←Gj,jf]
       grind
      refine e_ ?_;exact⟨by simp[F6,u,f,F],C2⟩
    .rw[aM a_];refine e_ ?_;have y:EH l=true:=jf.2 λi a b y z=>hi2 i a b jn y z;exact⟨by simp[F6,u,f,y],C2⟩)
 exact P
def q8(w n:Nat):Cl:=(ofNat (n / 4%w),ofNat (n / 4 / w),n%4)
def b2(w n:Nat):Nat:=10*(n / 4%w+n / 4 / w)+(if n / 4 / w=0/\n / 4%w≠0 then [1,2,1,0]else [0,1,2,1]).getD (n%4) 0
def vK(w v c e:Nat):TG:=match Cv w v c e with
 |some n=>[.i (.ofNat n),.i 0]
 |none=>[.i 0,.i 7]
def Y9(w v:Nat):Bool:=(range (4*w*v)).all λc=>(range 3).all λe=>lO 78 [.i (.ofNat w),.i (.ofNat v),.i (.ofNat c),.i (.ofNat e)] (vK w v c e)
def Y8(w v:Nat):Bool:=(wp w v).all λu=>lO 153 [.i (.ofNat w),.i (.ofNat v),.i (.ofNat u.1),.i (.ofNat u.2)] [.i (.ofNat (s7 (q8 w u.1) u.2).1),.i (s7 (q8 w u.1) u.2).2,.i 0]
def Z3(a b:Ln):Bool:=Nat.beq a.1 b.1&&decide (a.2=b.2)
def O'{a b:Ln}:Z3 a b=true↔a=b:=by
 unfold Z3;rw[vd,EP,e7]
 simp_all
def Z0(a b:Cl):Bool:=decide (a.1=b.1)&&(decide (a.2.1=b.2.1)&&Nat.beq a.2.2 b.2.2)
def O_{a b:Cl}:Z0 a b=true↔a=b:=by
 unfold Z0;rw[vd,vd,EP,EP,e7,e7]
 simp_all
def nbT(w v c e:Nat):Bool:=match Cv w v c e with
 |some n=>Nat.blt n (4*w*v)&&((match Cv w v n e with
  |some m=>Nat.beq m c
  |none=>false)&&(Z3 (s7 (q8 w c) e) (s7 (q8 w n) e)&&(Z0 (q8 w n) (DH (q8 w c) e) && !Nat.beq n c)))
 |none=>true
def P4(w c e:Nat):Bool:=Nat.ble 1 (s7 (q8 w c) e).1&&(Nat.ble (s7 (q8 w c) e).1 4&&(decide (-10<=(s7 (q8 w c) e).2)&&decide ((s7 (q8 w c) e).2<=10)))
def j3(w v n:Nat):Bool:=Nat.beq n 0||(range 3).any λe=>match Cv w v n e with
 |some m=>Nat.blt (b2 w m) (b2 w n)
 |none=>false
def R0(w v:Nat):Bool:=(range (4*w*v)).all λc=>j3 w v c&&(range 3).all λe=>nbT w v c e&&P4 w c e
def RX(w v:Nat):Bool:=Y9 w v&&(Y8 w v&&R0 w v)
def W2:∀w v:Nat,1<=w->w<=5->1<=v->v<=5->RX w v=true:=by
 have a:((range 5).all λw=>(range 5).all λv=>RX (w+1) (v+1))=true:=d_;intro w v c d e f;have b:=A_.1 a (w - 1) (Cm.2 a_);have g:=A_.1 b (v - 1) (Cm.2 a_)
 simp_all
def Sh(w v:Nat):Prop:=1<=w/\w<=5/\1<=v/\v<=5
section
variable {w v:Nat}
def uk(h:Sh w v):Y9 w v=true/\Y8 w v=true/\R0 w v=true:=by
 have:=W2 w v h.1 h.2.1 h.2.2.1 h.2.2.2;unfold RX at this
 simp_all
def yt(h:Sh w v){c e:Nat}(a:c<4*w*v)(b:e<3):Cc 78 [.i (.ofNat w),.i (.ofNat v),.i (.ofNat c),.i (.ofNat e)] (vK w v c e):=
 fU (A_.1 (A_.1 (uk h).1 c (Cm.2 a)) e (Cm.2 b)) rfl d_ rfl
def ln_c(h:Sh w v){u e:Nat}(a:(u,e)∈wp w v):Cc 153 [.i (.ofNat w),.i (.ofNat v),.i (.ofNat u),.i (.ofNat e)] [.i (.ofNat (s7 (q8 w u) e).1),.i (s7 (q8 w u) e).2,.i 0]:=
 fU (A_.1 (uk h).2.1 (u,e) a) rfl d_ rfl
def Jh(h:Sh w v){c:Nat}(a:c<4*w*v):j3 w v c=true/\∀e,e<3->nbT w v c e=true/\P4 w c e=true:=by
 have:=A_.1 (uk h).2.2 c (Cm.2 a)
 simp_all
def dO(h:Sh w v){c e n:Nat}(f:c<4*w*v)(g:e<3)(i:Cv w v c e=some n):n<4*w*v/\Cv w v n e=some c/\s7 (q8 w c) e=s7 (q8 w n) e/\q8 w n=DH (q8 w c) e/\n≠c:=by
 have:=((Jh h f).2 e g).1;unfold nbT at this;rw[i]at this;simp only[vd]at this;obtain⟨j,a,b,d,k⟩:=this;refine⟨kb,?_,O'.1 b,O_.1 d,λe=>?_⟩
 .split at a
  .simp_all
  .cases a
 simp_all
def P6(h:Sh w v){c e:Nat}(a:c<4*w*v)(b:e<3):1<=(s7 (q8 w c) e).1/\(s7 (q8 w c) e).1<=4/\-10<=(s7 (q8 w c) e).2/\(s7 (q8 w c) e).2<=10:=by
 have:=((Jh h a).2 e b).2;unfold P4 at this
 simp_all
def xC(h:Sh w v){P:Tz}(h0:P 0)(o:∀c e n,c<4*w*v->e<3->Cv w v c e=some n->P c->P n):∀n,n<4*w*v->P n:=by
 have a:∀k n,n<4*w*v->b2 w n<k->P n:=by
  intro k
  induction k with
  |zero=>omega
  |succ k p=>
   intro n b l;have hw:=(Jh h b).1;unfold j3 at hw;rw[Gk]at hw;rcases hw with hw|hw
   .simp_all
   .obtain⟨e,d,f⟩:=c9.1 hw;have d:=Cm.1 d;split at f
    next m g=>
     rw[Gp]at f;obtain⟨i,j,_⟩:=dO h b d g
     grind
    .cases f
 intro n b;exact a (b2 w n+1) n b a_
def Qh{c e n:Nat}(b:c<4*w*v)(d:e<3)(f:Cv w v c e=some n)(a:c<n):(c,e)∈wp w v:=by
 unfold wp;rw[Gw];refine⟨c,Cm.2 b,Q_.2 ⟨e,Cm.2 d,?_⟩⟩;simp[f,a]
def xz(h:Sh w v){c e n:Nat}(f:c<4*w*v)(a:e<3)(g:Cv w v c e=some n):(min c n,e)∈wp w v/\s7 (q8 w (min c n)) e=s7 (q8 w c) e:=by
 obtain⟨i,j,k,_,l⟩:=dO h f a g;rcases Gi c n with d|b
 .rw[zP a_];exact⟨Qh f a g d,rfl⟩
 .rw[Nat.min_eq_right b];exact⟨Qh i a j a_,k.symm⟩
end
def bo(c:Eb):Ku:=(c.1,c.2.1)
def CD(l:TD)(u e:Nat):Bool:=decide (((ofNat u,ofNat e):Ku)∈l.map bo)
def HJ(H:HL)(id:Nat)(l:TD):Prop:=∃a c,H[id]?=some (.o (.map a c))/\HE a (l.map bo)
def rq{l:TD}(h:l.Pairwise λa b=>Gb a b=true):(l.map bo).Nodup:=by
 rw[List.Nodup,Nf];refine h.imp λ{a b} c e=>?_;unfold Gb at c;simp only[Gk,vd,EP]at c;unfold bo at e
 simp_all
def Mq{H:HL}{w v:Int}{x:TR}{l:TD}(k:q9 H x 3 n4 l)(A:(l.map bo).Nodup)(I:l.length<=1000) :
  ∃G,aA cc ac 150 [.i w,.i v,.v x] (g_ aa H) [.v (.map (some H.length))] (g_ aa (H++[G]))/\HJ (H++[G]) H.length l:=by
 obtain⟨r,h',t,rfl,G,rfl,u⟩:=x150 (K:=λr h'=>r=[.v (.map (some H.length))]/\∃G,h'=H++[G]/\HJ h' H.length l) (H:=H) (k_ (k_ (q7 k.i_ t0))) (by
  unfold Vk;simp only[u5];refine e_ ?_;refine bz k ?_;refine e_ ?_;refine bz k ?_;refine bN (g9:=HO) l.length (λj _=>[.i (ofNat j)]) (λ_ G=>H++[G]) (λj G=>HJ (H++[G]) H.length (l.take j)) (j0:=0) (s0:=.o (.map [] 0)) rfl rfl (C6 _) ⟨[],0,c_,rfl,λe h=>(by cases h)⟩ ?_;rintro j G J ⟨f,c,p,g⟩ s d;refine e_ ?_;by_cases b:j<l.length
  .rw[aN b];refine e_ ?_;obtain⟨a,q⟩:=aq b;have m:=k.pre (h':=H++[G]) ⟨[G],rfl⟩;refine aP m rfl q ?_;unfold n4;refine e_ ?_;have y:bo a∉(l.take j).map bo:=by
    intro z;rw[List.map_take]at z;have B:=A;have E:(l.map bo)[j]?=some (bo a):=kb;have F:l.map bo=(l.map bo).take j++bo a :: (l.map bo).drop (j+1):=by
     conv=>lhs;rw[←WM j (l.map bo)]
     rw[SZ kb]
     simp_all
    grind
   refine bH (z9 (C:=cc) (T:=aa) (n:=(H++[G]).length) d_ d_ p g y) ?_;rw[aY a_];have e:bG (H++[G]) [.set H.length (.map (f++[{ key:=MR (bo a),val:=.bool true,born:=c }]) (c+1))]=H++[.o (.map (f++[{ key:=MR (bo a),val:=.bool true,born:=c }]) (c+1))]:=by
    show(H++[G]).set H.length _=_;simp
   rw[e];refine d _ b ⟨f++[{ key:=MR (bo a),val:=.bool true,born:=c }],c+1,c_,?_⟩;have D:(l.take (j+1)).map bo=(l.take j).map bo++[bo a]:=by
    rw[Ii,q,Ij];rfl
   rw[D];exact g.push _ _
  .obtain rfl:j=l.length:=a_;rw[aM (A9 _)];refine e_ ?_;refine⟨C2,G,rfl,?_⟩;rw[YW]at g;exact⟨f,c,p,g⟩)
 exact⟨G,t,u⟩
def sd(m:Mv):Tn:=[.int .u8 (ofNat m.1),.int .i64 m.2.1,.int .i64 m.2.2]
def db(m:Mv):(sd m).length=3:=rfl
def Ej(w:Nat)(l:TD)(g:Mv)(c n e:Nat):Mv:=if CD l (min c n) e then af (wd (s7 (q8 w (min c n)) e)) g else g
def yz{w v:Nat}(h:Sh w v){l:TD}{c e n:Nat}(a:c<4*w*v)(b:e<3)(j:Cv w v c e=some n){k:Int}{g:Mv}(d:CM k g)(m:0<=k):CM (k+20) (Ej w l g c n e):=by
 unfold Ej;obtain⟨_,i⟩:=xz h a b j;split
 .rw[i];have f:=P6 h a b;have:=en (zA (n:=10) ⟨f.2.2.1,f.2.2.2⟩) d
  grind
 .exact aZ d a_
abbrev _root_.TO:=List Mv
def N7{w v:Nat}(d:Sh w v){l:TD}{h:HL}{x B z A D:TR}{j:Nat}{G:TO}(p:Gy h B [.int .i64 (.ofNat w),.int .i64 (.ofNat v),x])(t:Gy h z [.map (some j)])(E:HJ h j l)(o:Gy h A [D])(m:q9 h D 3 sd G)
  {c e n:Nat} (q:c<4*w*v) (r:e<3) (y:Cv w v c e=some n) {g:Mv} (u:G[c]?=some g) {k:Int} (F:CM k g) (H:0<=k/\k<=16000) :
  aA cc ac 152 [.i (.ofNat c),.i (.ofNat e),.v B,.v z,.v A] (g_ aa h) (CT (Ej w l g c n e)) (g_ aa h):=by
 obtain⟨N,M,K,L⟩:=E;have I:=se w v d.1 d.2.1 d.2.2.1 d.2.2.2;obtain⟨J,s⟩:=xz d q r y;have b:=P6 d q r;rw[←s]at b;have a:=Jf I q r;unfold H9 at a;rw[y]at a;simp only at a;exact xK Xs (k_ (k_ (q7 p.i_ (q7 t.i_ (q7 o.i_ t0))))) (by
  unfold Vl;simp only[u5]
  repeat (first|simp(disch:=omega)only[↓nc]|refine rL (ds:=[.int .i64 (.ofNat w),.int .i64 (.ofNat v)]) p c_ rfl ?_|refine ai a ?_|refine cU t rfl ?_|refine ab rfl ?_|refine bT (Q' (C:=cc) (T:=aa) d_ d_ K L (ofNat (min c n),ofNat e)) ?_)
  unfold Ej CD;by_cases f:((ofNat (min c n),ofNat e):Ku)∈l.map bo
  .rw[E8 f]
   repeat (first|simp(disch:=omega)only[↓nc,DP,if_true]|refine rL (ds:=[.int .i64 (.ofNat w),.int .i64 (.ofNat v)]) p c_ rfl ?_|refine ai (ln_c d J) ?_)
   refine ai (z6 ⟨b.1,b.2.1⟩ ⟨a_,a_⟩) ?_;simp only[CT,DI,DA]
   repeat (first|simp(disch:=omega)only[↓nc]|refine cU o rfl ?_|refine ab m.i_ ?_)
   refine aP m rfl u ?_;unfold sd;refine e_ ?_;refine ai (zE (zA (n:=10) ⟨b.2.2.1,b.2.2.2⟩) F a_) ?_;simp only[CT,DI,DA];refine e_ ?_
   simp_all
  .rw[Fv f]
   repeat (first|simp(disch:=omega)only[↓nc,EB,D7,if_false]|refine cU o rfl ?_|refine ab m.i_ ?_)
   refine aP m rfl u ?_;unfold sd;refine e_ ?_
   simp_all)
def dh{i7:Type}{e:Nat}{enc:i7->Tn}(b:∀a,(enc a).length=e){h:HL}{id cx len:Nat}{l:List i7}{i:Nat}{a:i7}{n:Int}{new:Tn}{K:Tb}(f:h[id]?=some (.o (.cells (l.flatMap enc) e true)))(k:n=ofNat i)(g:i<l.length)(c:l.length=len)(d:new=enc a)(j:K [] (po h id e enc (l.set i a))) :
  P1.j_ (BL e (.slice (some ⟨id,0,le e⟩) len cx) n) (@i' _ ⟨λx=>P1.heap (.st x new) h (@i' _ ⟨K⟩)⟩):=by
 have m:po h id e enc l=h:=eN f;have:=g6 (C:=cc) (Sg:=ac) (T:=aa) (h:=h) (id:=id) (cx:=cx) (len:=len) (l:=l) b (am f) k g c d j;rw[m]at this;exact this
def cu{i7:Type}{h:HL}{id e j:Nat}{enc:i7->Tn}{l:List i7}(a:j≠id):(po h id e enc l)[j]?=h[j]?:=by
 unfold po
 grind
def mc(n:Nat):Tn:=[.int .i64 (ofNat n)]
def bu(n:Nat):(mc n).length=1:=rfl
def A7(t:Bool):Tn:=[.bool t]
def cO(t:Bool):(A7 t).length=1:=rfl
def gr(q:TC):(q.flatMap mc).length=q.length:=by
 rw[aR (e:=1) (enc:=mc) λa _=>bu a,Y3]
def WQ(b:Nat)(h:HL)(v:Value)(q:TC):Prop:=∃id off cx vs,v = .slice (some ⟨id,off,le 1⟩) q.length cx/\b<=id/\h[id]?=some (.o (.cells vs 1 true))/\cut vs off (q.length*1)=some (q.flatMap mc)/\(cx=0∨cx=q.length+1)
def WQ.ls{b:Nat}{h:HL}{v:TR}{q:TC}(g:WQ b h v q):q9 h v 1 mc q:=by
 obtain⟨id,c,d,i,rfl,j,e,f,_⟩:=g;exact⟨λa _=>bu a,by rw[gr,Y3],.inr ⟨id,c,d,i,true,rfl,e,f⟩⟩
def WQ.j9{b:Nat}{h h':HL}{v:TR}{q:TC}(k:WQ b h v q)(i:∀(j:Nat) o,b<=j->h[j]?=some o->h'[j]?=some o):WQ b h' v q:=by
 obtain⟨id,a,d,l,e,c,f,g⟩:=k;exact⟨id,a,d,l,e,c,i _ _ c f,g⟩
def n3{b:Nat}{h:HL}{v:TR}{a:Nat}{q:TC}{K:TR->Prop}(p:WQ b h v (a :: q))(m:∀v',WQ b h v' q->aF v'=true->K v'):P1.j_ (Ex 1 v (some 1) none none) (@i' _ ⟨K⟩):=by
 obtain⟨id,c,d,e,rfl,i,j,l,r⟩:=p;have n:Ex 1 (.slice (some ⟨id,c,le 1⟩) (a :: q).length d) (some 1) none none=some (.slice (some ⟨id,c+1,le 1⟩) q.length (d - 1)):=by
  unfold Ex;have f:¬(le 1≠some 1/\le 1≠le 1):=c_;simp only[te f];have g:(0:Int)<=(some (1:Int)).getD 0/\(some (1:Int)).getD 0<=(none:Tt).getD ((a :: q).length:Int)/\bS (a :: q).length d none none:=by
   refine⟨c_,?_,?_⟩
   .grind
   .unfold bS;left;simp
  rw[rv g];rw[ew,ew,ew];simp[bK]
 refine ae n (m _ ⟨id,c+1,d - 1,e,rfl,i,j,?_,?_⟩ ?_)
 .have:=lU (l:cut e c ((a :: q).length*1)=some _) (o:=1) (k:=q.length*1) jn;rw[this];simp only[S6,mc,DI,DA,bt,WK,Y3];rw[←gr q]
  grind
 .grind
 .simp[aF,n_,aS,bB,bi,aO,aH,le]
def lA{b:Nat}{h:HL}{v:TR}{q:TC}{n m:Nat}{new:Tn}{K:Tb}(A:WQ b h v q)(t:b<=h.length)(x:m=h.length)(f:new=mc n)(F:q.length<=1000)
  (l:∀v' h',WQ b h' v' (q++[n])->aF v'=true->(∀(j:Nat) o,j<b->h[j]?=some o->h'[j]?=some o)->h.length<=h'.length->K [v'] h') :
  P1.heap (.ap cc 1 8 v (.slice (some ⟨m,0,some 11⟩) 1 2)) (h++[.o (.cells new 1 true)]) (@i' _ ⟨K⟩):=by
 subst x f;obtain⟨id,d,C,B,rfl,D,r,E,s⟩:=A;have w:=am r;have p:F1 (h++[HO.o (.cells (mc n) 1 true)]) (.slice (some ⟨h.length,0,le 1⟩) 1 2) 1 1 (mc n):=⟨rfl,.inr ⟨h.length,0,2,mc n,true,rfl,c_,Sx.wa rfl⟩⟩;have k:(h++[HO.o (.cells (mc n) 1 true)])[id]?=some (.o (.cells B 1 true)):=jn;have z:bc (q.length+1) 8=true:=by
  unfold bc;rw[DQ a_,DQ a_];rfl
 have g:∀i,aF (.slice (some ⟨i,0,le 1⟩) (q.length+1) 0)=true:=λi=>by simp[aF,n_,aS,bB,bi,aO,aH,le]
 have e:(q.flatMap mc++mc n)=(q++[n]).flatMap mc:=c_;have a:(q++[n]).length=q.length+1:=c_;rcases s with rfl|rfl
 .have c:Em cc 1 8 (.slice (some ⟨id,d,le 1⟩) q.length 0) (.slice (some ⟨h.length,0,le 1⟩) 1 2) (tf aa (h++[HO.o (.cells (mc n) 1 true)])) (h++[HO.o (.cells (mc n) 1 true)]).length=some ([.set id .dead,.push (.cells (q.flatMap mc++mc n) 1 true)],[.slice (some ⟨(h++[HO.o (.cells (mc n) 1 true)]).length,0,le 1⟩) (q.length+1) 0]):=by
   unfold Em;rw[nz p];simp only[ne_eq,not_true_eq_false,if_false];rw[bF k]
   simp_all
  refine bH (show(Hp.ap cc 1 8 (.slice (some ⟨id,d,le 1⟩) q.length 0) (.slice (some ⟨h.length,0,le 1⟩) 1 2)).run _ _=_ from c) ?_;refine l _ _ ⟨(h++[HO.o (.cells (mc n) 1 true)]).length,0,0,q.flatMap mc++mc n,by rw[a],ua,?_,?_,.inl rfl⟩ (g _) (λj o u y=>?_) ?_
  .show(((h++[HO.o (.cells (mc n) 1 true)]).set id (.o .dead))++[HO.o (.cells (q.flatMap mc++mc n) 1 true)])[_]?=_
   simp_all
  .rw[e,a];exact Sx.wa (by rw[gr,a,Y3])
  .show(((h++[HO.o (.cells (mc n) 1 true)]).set id (.o .dead))++[HO.o (.cells (q.flatMap mc++mc n) 1 true)])[j]?=_
   grind
  .show h.length<=(((h++[HO.o (.cells (mc n) 1 true)]).set id (.o .dead))++[HO.o (.cells (q.flatMap mc++mc n) 1 true)]).length;simp;omega
 .have c:Em cc 1 8 (.slice (some ⟨id,d,le 1⟩) q.length (q.length+1)) (.slice (some ⟨h.length,0,le 1⟩) 1 2) (tf aa (h++[HO.o (.cells (mc n) 1 true)])) (h++[HO.o (.cells (mc n) 1 true)]).length=some ([.push (.cells (q.flatMap mc++mc n) 1 true)],[.slice (some ⟨(h++[HO.o (.cells (mc n) 1 true)]).length,0,le 1⟩) (q.length+1) 0]):=by
   unfold Em;rw[nz p];simp only[ne_eq,not_true_eq_false,if_false];rw[bF k]
   simp_all
  refine bH (show(Hp.ap cc 1 8 (.slice (some ⟨id,d,le 1⟩) q.length (q.length+1)) (.slice (some ⟨h.length,0,le 1⟩) 1 2)).run _ _=_ from c) ?_;refine l _ _ ⟨(h++[HO.o (.cells (mc n) 1 true)]).length,0,0,q.flatMap mc++mc n,by rw[a],ua,?_,?_,.inl rfl⟩ (g _) (λj o u y=>?_) ?_
  .show((h++[HO.o (.cells (mc n) 1 true)])++[HO.o (.cells (q.flatMap mc++mc n) 1 true)])[_]?=_
   simp_all
  .rw[e,a];exact Sx.wa (by rw[gr,a,Y3])
  .show((h++[HO.o (.cells (mc n) 1 true)])++[HO.o (.cells (q.flatMap mc++mc n) 1 true)])[j]?=_
   grind
  .show h.length<=((h++[HO.o (.cells (mc n) 1 true)])++[HO.o (.cells (q.flatMap mc++mc n) 1 true)]).length;simp
abbrev _root_.Ty:=List Bool
structure RS(H h:HL)(w v:Nat)(x:Value)(l:TD)(A:TO)(B:Ty):Prop where
 pre:v_ H h
 len:H.length+6<=h.length
 p:h[H.length]?=some (.o (.cells [.int .i64 (.ofNat w),.int .i64 (.ofNat v),x] 3 true))
 mp:HJ h (H.length+1) l
 mv:h[H.length+2]?=some (.o (.cells [.map (some (H.length+1))] 1 true))
 ol:h[H.length+3]?=some (.o (.cells (A.flatMap sd) 3 true))
 ov:h[H.length+4]?=some (.o (.cells [.slice (some ⟨H.length+3,0,le 3⟩) (4*w*v) (4*w*v+1)] 1 true))
 kn:h[H.length+5]?=some (.o (.cells (B.flatMap A7) 1 true))
 la:A.length=4*w*v
 lb:B.length=4*w*v
section
variable {H h:HL} {w v:Nat} {x:Value} {l:TD} {A:TO} {B:Ty}
def RS.lsA(c:RS H h w v x l A B):q9 h (.slice (some ⟨H.length+3,0,le 3⟩) (4*w*v) (4*w*v+1)) 3 sd A:=by
 have b:=aR (e:=3) (enc:=sd) (l:=A) λa _=>db a;rw[←c.la];exact⟨λa _=>db a,b,.inr ⟨_,0,_,_,true,rfl,c.ol,Sx.wa b⟩⟩
def RS.lsB(c:RS H h w v x l A B):q9 h (.slice (some ⟨H.length+5,0,le 1⟩) (4*w*v) (4*w*v+1)) 1 A7 B:=by
 have b:=aR (e:=1) (enc:=A7) (l:=B) λa _=>cO a;rw[←c.lb];exact⟨λa _=>cO a,b,.inr ⟨_,0,_,_,true,rfl,c.kn,Sx.wa b⟩⟩
def RS.j9{h':HL}(a:RS H h w v x l A B)(b:∀(j:Nat) o,j<H.length+6->h[j]?=some o->h'[j]?=some o)(k:h.length<=h'.length):RS H h' w v x l A B:=by
 obtain⟨g,c,m,n⟩:=a.mp;refine⟨?_,NN a.len k,b _ _ a_ a.p,⟨g,c,b _ _ a_ m,n⟩,b _ _ a_ a.mv,b _ _ a_ a.ol,b _ _ a_ a.ov,b _ _ a_ a.kn,a.la,a.lb⟩;have d:=a.pre;refine⟨h'.drop H.length,?_⟩;apply HA;intro i;rcases Gi i H.length with e|e
 .rw[Fe e];have f:H[i]?=some H[i]:=Gn e;rw[f];exact b _ _ a_ (d.get f)
 grind
def iW{i7:Type}{id e:Nat}{enc:i7->Tn}{L:List i7}(a:v_ H h)(i':H.length<=id):v_ H (po h id e enc L):=a.set i' _
def gX{i7:Type}{h:HL}{id e:Nat}{enc:i7->Tn}{L:List i7}:(po h id e enc L).length=h.length:=by simp[po]
def RS.Fo(a:RS H h w v x l A B){A':TO}(d:A'.length=A.length):RS H (po h (H.length+3) 3 sd A') w v x l A' B:=by
 obtain⟨b,c,f,g⟩:=a.mp;have e:=a.len;exact⟨iW a.pre a_,by rw[gX];exact e,by rw[cu a_];exact a.p,⟨b,c,by rw[cu a_];exact f,g⟩,by rw[cu a_];exact a.mv,bI a_,by rw[cu a_];exact a.ov,by rw[cu a_];exact a.kn,by rw[d];exact a.la,a.lb⟩
def RS.putB(a:RS H h w v x l A B){B':Ty}(d:B'.length=B.length):RS H (po h (H.length+5) 1 A7 B') w v x l A B':=by
 obtain⟨b,c,f,g⟩:=a.mp;have e:=a.len;exact⟨iW a.pre a_,by rw[gX];exact e,by rw[cu a_];exact a.p,⟨b,c,by rw[cu a_];exact f,g⟩,by rw[cu a_];exact a.mv,by rw[cu a_];exact a.ol,by rw[cu a_];exact a.ov,bI a_,a.la,by rw[d];exact a.lb⟩
end
def UE{a b:Tn}{e e':Nat}{x y:Bool}(h:some (HO.o (.cells a e x))=some (HO.o (.cells b e' y))):e=e':=by
 simp_all
def kj{i7:Type}{n0 e:Nat}{enc:i7->Tn}{l:List i7}{h:HL}{v:TR}(b:h_ n0 h v e enc l)(a:l≠[]):∃id cx,v = .slice (some ⟨id,0,le e⟩) l.length cx/\n0<=id/\h[id]?=some (.o (.cells (l.flatMap enc) e true))/\(cx=0∨cx=l.length+1):=by
 rcases b with⟨_,h⟩|h
 .exact absurd h a
 .exact h
def Rv{W:TE}{l:Lit}(h:W.getD l.1 0=0):Cy W l=W.set l.1 (DT l):=by unfold Cy;rw[rv h]
def Rw{W:TE}{l:Lit}(h:W.getD l.1 0≠0):Cy W l=W:=by unfold Cy;rw[te h]
section
variable {h:HL} {b:Nat} {c:XC} {n:Bool} (hb:h[b]?=some (.o (.cells (ah c n) 15 true))) {U:List Lit} (hU:q9 h c.up 2 Dh U) {r:TF} (hF:Hv U r) {W:TE} (hW:Ge U W) (hV:h_ 0 h c.va 1 Cp W)
include hb hU hF hW hV
theorem t4{l:Lit}(F:l.1<U.length):∃l' h',Rt U l l'/\aA cc ac 115 [.v (ka b),.i (ofNat l.1),.b l.2,.v (.pointer none)] (g_ aa h) [.b (decide ((Cy W l').getD l'.1 0=DT l'))] (g_ aa h')/\
  h_ 0 h' c.va 1 Cp (Cy W l')/\(∀(j:Nat) o,h[j]?=some o->hY c.va≠some j->h'[j]?=some o)/\h'.length=h.length:=by
 obtain⟨l',G,B⟩:=vh hb hU hF F;have f:l'.1<W.length:=by rw[hW.1];exact G.lt
 have k:W≠[]:=λe=>kb;obtain⟨id,C,m,_,i',D⟩:=kj hV k;have d:=hV.ls eh;obtain⟨y,A⟩:=aq f;have u:W.getD l'.1 0=y:=kb;have q:id≠b:=λe=>by
  simp_all
 have I:=Do (ls:=[.v (ka b),.i (ofNat l.1),.b l.2,.v (.pointer none)]) (K:=λJ h'=>J=[.b (decide ((Cy W l').getD l'.1 0=DT l'))]/\h_ 0 h' c.va 1 Cp (Cy W l')/\(∀(j:Nat) o,h[j]?=some o->hY c.va≠some j->h'[j]?=some o)/\h'.length=h.length) (H:=h) (q7 (ar _) (k_ (H0 (q7 rfl t0)))) (by
  unfold SA;simp only[u5];refine e_ ?_;refine ak B ?_;simp(disch:=omega)only[↓Ce];refine cP (λls h'=>ls=[.i (DT l')]/\h'=h) ?_ ?_
  case refine_2=>
   intro L g;unfold DT at g;cases w:l'.2 with
   |true=>
    rw[w]at g;refine e_ ?_
    simp_all
   |false=>
    rw[w]at g;refine e_ ?_
    simp_all
  rintro ls h' ⟨rfl,rfl⟩;refine e_ ?_;refine bv (ds:=[c.va]) hb (by simp[ah]) rfl ?_;refine e_ ?_;refine ab d.i_ ?_;refine km ?_;refine aP d rfl A ?_;rw[show Cp y=[.int .i64 y]from rfl];refine e_ ?_;by_cases s:y=0
  case neg=>
   rw[wb s];refine e_ ?_;refine bv (ds:=[c.va]) hb (by simp[ah]) rfl ?_;refine e_ ?_;refine ab d.i_ ?_;refine km ?_;refine aP d rfl A ?_;rw[show Cp y=[.int .i64 y]from rfl];refine e_ ?_;rw[Rw a_,u];by_cases e:y=DT l'
   .rw[ra e,E8 e]
    simp_all
   .rw[wb e,Fv e]
    simp_all
  rw[ra s];refine e_ ?_;refine bv (ds:=[c.va]) hb (by simp[ah]) rfl ?_;refine e_ ?_;refine ab d.i_ ?_;refine km ?_;rw[m];refine dh (enc:=Cp) (l:=W) (i:=l'.1) (a:=DT l') eh i' rfl f rfl rfl ?_;refine km ?_;refine ae (x:=true) rfl ?_;simp(disch:=omega)only[↓nc,DP];have t:(po h' id 1 Cp (W.set l'.1 (DT l')))[b]?=some (.o (.cells (ah c n) 15 true)):=by rw[cu (CY q)];exact hb
  have z:h_ 0 (po h' id 1 Cp (W.set l'.1 (DT l'))) c.va 1 Cp (W.set l'.1 (DT l')):=.inr ⟨id,C,kb,C6 _,bI (am i'),kb⟩;have p:=z.ls eh;refine bv (ds:=[c.va]) t (by simp[ah]) rfl ?_;refine e_ ?_;refine ab p.i_ ?_;refine km ?_;refine aP p rfl (GR f) ?_;rw[show Cp (DT l')=[.int .i64 (DT l')]from rfl];simp(disch:=omega)only[↓nc]
  try rw[ra rfl]
  rw[←m,Rv a_,List.getD_eq_getElem?_getD,GR f];refine⟨c_,z,λj o E k=>?_,gX⟩;rw[cu]
  .exact E
  .rintro rfl;exact k (by rw[m];rfl))
 grind
theorem t5{n0 d:Nat}{x:TR}{T:TC}(ht:h[d]?=some (.o (.cells [x] 1 true)))(hT:h_ n0 h x 1 mc T)(av:n0<=h.length)(an:T.length<=1000000)(Z:hY c.va≠some d)(d2:hY x≠some d)(d3:∀j,hY x=some j->hY c.va≠some j){l:Lit}(hl:l.1<U.length) :
  ∃l' x' h',Rt U l l'/\aA cc ac 115 [.v (ka b),.i (ofNat l.1),.b l.2,.v (ka d)] (g_ aa h) [.b (decide ((Cy W l').getD l'.1 0=DT l'))] (g_ aa h')/\
   h_ 0 h' c.va 1 Cp (Cy W l')/\h'[d]?=some (.o (.cells [x'] 1 true))/\h_ n0 h' x' 1 mc (if W.getD l'.1 0=0 then T++[l'.1]else T)/\
   (∀(j:Nat) o,h[j]?=some o->j≠d->hY c.va≠some j->hY x≠some j->h'[j]?=some o)/\h.length<=h'.length/\(hY x'=hY x∨∃j,hY x'=some j/\h.length<=j):=by
 obtain⟨l',hr,cf⟩:=vh hb hU hF hl;have q:l'.1<W.length:=by rw[hW.1];exact hr.lt
 have k:W≠[]:=λe=>kb;obtain⟨id,cx,A,_,i',ap⟩:=kj hV k;have p:=hV.ls eh;obtain⟨y,hy⟩:=aq q;have J:W.getD l'.1 0=y:=kb;have u:hY c.va=some id:=by rw[A];rfl
 have F:id≠b:=λe=>by
  simp_all
 have E:d≠b:=λe=>by
  simp_all
 have G:id≠d:=λe=>Z (by rw[u,e]);have V:hY x≠some b:=λe=>by
  rcases hT with⟨e3,_⟩|⟨i,ag,e3,_,hh,_⟩
  .rw[e3]at e;cases e
  .rw[e3]at e;have e4:i=b:=by simpa[Sx.hY]using e
   simp_all
 have ay:=Do (ls:=[.v (ka b),.i (ofNat l.1),.b l.2,.v (ka d)]) (K:=λrs h'=>∃x',rs=[.b (decide ((Cy W l').getD l'.1 0=DT l'))]/\h_ 0 h' c.va 1 Cp (Cy W l')/\h'[d]?=some (.o (.cells [x'] 1 true))/\h_ n0 h' x' 1 mc (if W.getD l'.1 0=0 then T++[l'.1]else T)/\
   (∀(j:Nat) o,h[j]?=some o->j≠d->hY c.va≠some j->hY x≠some j->h'[j]?=some o)/\h.length<=h'.length/\(hY x'=hY x∨∃j,hY x'=some j/\h.length<=j)) (H:=h) (q7 (ar _) (k_ (H0 (q7 (ar _) t0)))) (by
  unfold SA;simp only[u5];refine e_ ?_;refine ak cf ?_;simp(disch:=omega)only[↓Ce];refine cP (λls h'=>ls=[.i (DT l')]/\h'=h) ?_ ?_
  case refine_2=>
   intro jj w;unfold DT at w;cases L:l'.2 with
   |true=>
    rw[L]at w;refine e_ ?_
    simp_all
   |false=>
    rw[L]at w;refine e_ ?_
    simp_all
  rintro ls h' ⟨rfl,rfl⟩;refine e_ ?_;refine bv (ds:=[c.va]) hb (by simp[ah]) rfl ?_;refine e_ ?_;refine ab p.i_ ?_;refine km ?_;refine aP p rfl hy ?_;rw[show Cp y=[.int .i64 y]from rfl];refine e_ ?_;by_cases s:y=0
  case neg=>
   rw[wb s];refine e_ ?_;refine bv (ds:=[c.va]) hb (by simp[ah]) rfl ?_;refine e_ ?_;refine ab p.i_ ?_;refine km ?_;refine aP p rfl hy ?_;rw[show Cp y=[.int .i64 y]from rfl];refine e_ ?_;rw[Rw a_,J,te s];by_cases e:y=DT l'
   .rw[ra e,E8 e]
    simp_all
   .rw[wb e,Fv e]
    simp_all
  rw[ra s];refine e_ ?_;refine bv (ds:=[c.va]) hb (by simp[ah]) rfl ?_;refine e_ ?_;refine ab p.i_ ?_;refine km ?_;rw[A];refine dh (enc:=Cp) (l:=W) (i:=l'.1) (a:=DT l') eh i' rfl q rfl rfl ?_;refine km ?_;refine ae (x:=false) rfl ?_;simp(disch:=omega)only[↓nc,EB];have X:∀(j:Nat) o,h'[j]?=some o->j≠id->(po h' id 1 Cp (W.set l'.1 (DT l')))[j]?=some o:=λj o m k=>by rw[cu k];exact m
  have hO:h_ 0 (po h' id 1 Cp (W.set l'.1 (DT l'))) c.va 1 Cp (W.set l'.1 (DT l')):=.inr ⟨id,cx,kb,C6 _,bI (am i'),kb⟩;have P:=X _ _ hb (CY F);have z:=X _ _ ht (CY G);have D:h_ n0 (po h' id 1 Cp (W.set l'.1 (DT l'))) x 1 mc T:=hT.j9 λj o m f=>X j o m λe=>d3 j f (by rw[u,e]);have ad:(po h' id 1 Cp (W.set l'.1 (DT l'))).length=h'.length:=gX;generalize po h' id 1 Cp (W.set l'.1 (DT l'))=g at *;refine ae (x:=ka d) rfl (ab (ar _) (cU (ba z) rfl ?_));refine e_ ?_;refine ab (D.i_ bu) ?_;refine km ?_;refine h_.G8 bu D a_ rfl rfl rfl (by unfold bc;rw[DQ a_,DQ a_];rfl) ?_;intro x' t O gx kg lg bx;have B:∀(j:Nat) o,g[j]?=some o->hY x≠some j->t[j]?=some o:=λj o m k=>kg j o m k;have aE:g.length<=t.length:=lg;have I:=B _ _ z d2;have Q:=B _ _ P V;have M:h_ 0 t c.va 1 Cp (W.set l'.1 (DT l')):=hO.j9 λj o m f=>B j o m λe=>d3 j e f;refine e_ ?_;refine ab gx ?_;refine km ?_;refine ae (x:=ka d) rfl (ab (ar _) ?_);refine lH I rfl ?_;have S:∀j,hY x'=some j->j≠d:=λj m e=>by
   grind
  refine ae (x:=()) (cZ (bR ⟨_,_,_,rfl⟩ λi hi=>?_) eR) ?_
  .have h1:=am z;have L:g.length=i:=by simpa[Sx.hY]using hi
   omega
  refine km ?_;have ax:(t.set d (.o (.cells [x'] 1 true)))[d]?=some (.o (.cells [x'] 1 true)):=du I;have Y:∀(j:Nat) o,t[j]?=some o->j≠d->(t.set d (.o (.cells [x'] 1 true)))[j]?=some o:=λj o m k=>cH m (CY k);have R:=Y _ _ Q (CY E);have N:h_ 0 (t.set d (.o (.cells [x'] 1 true))) c.va 1 Cp (W.set l'.1 (DT l')):=M.j9 λj o m f=>Y j o m λe=>Z (by rw[f,e]);have al:h_ n0 (t.set d (.o (.cells [x'] 1 true))) x' 1 mc (T++[l'.1]):=O.j9 λj o m f=>Y j o m (S j f);have C:=N.ls eh;refine bv (ds:=[c.va]) R (by simp[ah]) rfl ?_;refine e_ ?_;refine ab C.i_ ?_;refine km ?_;refine aP C rfl (GR q) ?_;rw[show Cp (DT l')=[.int .i64 (DT l')]from rfl];simp(disch:=omega)only[↓nc]
  try rw[ra rfl]
  rw[←A,Rv a_,List.getD_eq_getElem?_getD,GR q,J,rv s]
  grind)
 grind
end
section
variable {h:HL} {b:Nat} {c:XC} {n:Bool} (hb:h[b]?=some (.o (.cells (ah c n) 15 true))) {U:List Lit} (hU:h_ 0 h c.up 2 Dh U) {r:TF} (hF:Hv U r) {W:TE} (hW:Ge U W) (hV:h_ 0 h c.va 1 Cp W)
include hb hU hF hW hV
theorem U_{p q:Lit}(hp:p.1<U.length)(hq:q.1<U.length):∃la lb h',Rt U p la/\Rt U q lb/\aA cc ac 109 [.v (ka b),.i (ofNat p.1),.b p.2,.i (ofNat q.1),.b q.2] (g_ aa h) [] (g_ aa h')/\
  h'[b]?=some (.o (.cells (ah c (Ed U W n la lb).2) 15 true))/\h_ 0 h' c.up 2 Dh (Ed U W n la lb).1/\(∀(j:Nat) o,h[j]?=some o->j≠b->hY c.up≠some j->h'[j]?=some o)/\h'.length=h.length:=by
 have d:=hU.ls dJ;have P:=hV.ls eh;obtain⟨la,w,c1⟩:=vh hb d hF hp;obtain⟨lb,rb,c2⟩:=vh hb d hF hq;have Z:∀ {l u:Lit},Rt U l u->aA cc ac 143 [.v (ka b),.i (ofNat u.1),.b u.2] (g_ aa h) [.i (kv W u)] (g_ aa h):=λ{l u} X=>by
  obtain⟨x,kx,F⟩:=kZ hb d hF hW P X.lt;rw[kx.det ⟨u,.here X.root,rfl⟩]at F;exact F
 have J:=Z w;have Y:=Z rb;refine⟨la,lb,?_⟩;have an:=w.lt;have S:U≠[]:=λe=>kb;obtain⟨id,F,C,_,al,ag⟩:=kj hU S;have D:hY c.up=some id:=by rw[C];rfl
 have A:id≠b:=λe=>by
  simp_all
 have y:∀m:Bool,h_ 0 (h.set b (.o (.cells (ah c m) 15 true))) c.up 2 Dh U:=λm=>hU.j9 λj o t ad=>cH t λe=>by
  simp_all
 have ap:=x109 (ls:=[.v (ka b),.i (ofNat p.1),.b p.2,.i (ofNat q.1),.b q.2]) (K:=λrs h'=>rs=[]/\h'[b]?=some (.o (.cells (ah c (Ed U W n la lb).2) 15 true))/\h_ 0 h' c.up 2 Dh (Ed U W n la lb).1/\(∀(j:Nat) o,h[j]?=some o->j≠b->hY c.up≠some j->h'[j]?=some o)/\h'.length=h.length) (H:=h) (q7 (ar _) (k_ (H0 (k_ (H0 t0))))) (by
  unfold Vd;simp only[u5];refine e_ ?_;refine ak c1 ?_;refine e_ ?_;refine ak c2 ?_;refine e_ ?_;by_cases e:la.1=lb.1
  .rw[ra (congrArg ofNat e)];refine e_ ?_;refine bv (ds:=[.bool n]) hb (by simp[ah]) rfl ?_;refine e_ ?_;have s:Ed U W n la lb=(U,n||xr la.2 lb.2):=by unfold Ed;rw[rv e]
   rw[s];cases n with
   |true=>
    refine e_ ?_;refine gh (b:=b) hb (by simp[ah]) ?_;refine km ?_;exact⟨C2,du hb,y true,λj o t G _=>cH t (CY G),FG ..⟩
   |false=>
    refine e_ ?_;rw[py];refine gh (b:=b) hb (by simp[ah]) ?_;refine km ?_;refine⟨C2,?_,y _,λj o t G _=>cH t (CY G),FG ..⟩;rw[w5];exact du hb
  rw[wb (λh=>e (Jr h))];refine e_ ?_;have E:∀ {i:Nat} {a:Lit} (m:Bool) {g:HL},i<U.length->(g=h∨g=h.set b (.o (.cells (ah c m) 15 true)))->g[b]?=some (.o (.cells (ah c m) 15 true))->∀ {K:Tb},(∀h':HL,h'[b]?=some (.o (.cells (ah c m) 15 true))->h_ 0 h' c.up 2 Dh (U.set i a)->(∀(j:Nat) o,h[j]?=some o->j≠b->hY c.up≠some j->h'[j]?=some o)->h'.length=h.length->K [] h')->P1.j_ (BL 2 c.up (ofNat i)) (@i' _ ⟨λx=>P1.heap (.st x [.int .i64 (ofNat a.1),.bool a.2]) g (@i' _ ⟨K⟩)⟩):=λ{i a} m {g} hi hg Q K hK=>by
   have k:g[id]?=some (.o (.cells (U.flatMap Dh) 2 true)):=by
    grind
   have R:g.length=h.length:=by
    grind
   rw[C];refine dh (enc:=Dh) (l:=U) (i:=i) (a:=a) dJ k rfl hi rfl rfl ?_;refine hK _ ?_ ?_ ?_ ?_
   .rw[cu (CY A)];exact Q
   .exact .inr ⟨id,F,kb,C6 _,bI (am k),kb⟩
   .intro j o t G h2;have B:j≠id:=λe=>h2 (by rw[D,e]);rw[cu B]
    grind
   .rw[gX,R]
  refine ak J ?_;refine e_ ?_;by_cases I:kv W la=0
  .rw[CN I];refine e_ ?_;refine ak J ?_;simp(disch:=omega)only[↓nc]
   try rw[CN I]
   refine km ?_;refine bv (ds:=[c.up]) hb (by simp[ah]) rfl ?_;refine e_ ?_;refine ab d.i_ ?_;refine km ?_;rw[py];have s:Ed U W n la lb=(U.set la.1 (lb.1,xr la.2 lb.2),n):=by unfold Ed;simp_all
   rw[s];refine E (a:=(lb.1,xr la.2 lb.2)) n w.lt (.inl rfl) hb λh' L M N O=>?_
   try simp(disch:=omega)only[↓nc]
   simp_all
  rw[CA I];refine e_ ?_;refine ak Y ?_;refine e_ ?_;by_cases z:kv W lb=0
  .rw[CN z];refine e_ ?_;refine ak J ?_;simp(disch:=omega)only[↓nc]
   try rw[CA I]
   refine km ?_;refine bv (ds:=[c.up]) hb (by simp[ah]) rfl ?_;refine e_ ?_;refine ab d.i_ ?_;refine km ?_;rw[py];have s:Ed U W n la lb=(U.set lb.1 (la.1,xr la.2 lb.2),n):=by unfold Ed;simp_all
   rw[s];refine E (a:=(la.1,xr la.2 lb.2)) n rb.lt (.inl rfl) hb λh' L M N O=>?_
   try simp(disch:=omega)only[↓nc]
   simp_all
  rw[CA z];refine e_ ?_;refine bv (ds:=[.bool n]) hb (by simp[ah]) rfl ?_;refine e_ ?_;have s:Ed U W n la lb=(U.set la.1 (lb.1,xr la.2 lb.2),n || !decide (kv W la=kv W lb)):=by unfold Ed;simp_all
  rw[s];cases n with
  |true=>
   refine e_ ?_;refine gh (b:=b) hb (by simp[ah]) ?_;refine km ?_;have f:(h.set b (.o (.cells (ah c true) 15 true)))[b]?=some (.o (.cells (ah c true) 15 true)):=du hb;refine bv (ds:=[c.up]) f (by simp[ah]) rfl ?_;refine e_ ?_;refine ab d.i_ ?_;refine km ?_;rw[py];refine E (a:=(lb.1,xr la.2 lb.2)) true w.lt (.inr rfl) f λh' L M N O=>?_
   try simp(disch:=omega)only[↓nc]
   simp_all
  |false=>
   refine e_ ?_;refine ak J ?_;refine e_ ?_;refine ak Y ?_;refine e_ ?_;have T:∀m:Bool,m = !decide (kv W la=kv W lb)->∀h':HL,h'[b]?=some (.o (.cells (ah c m) 15 true))->h'[b]?=some (.o (.cells (ah c (false || !decide (kv W la=kv W lb))) 15 true)):=λm hm h' hh=>by
    simp_all
   by_cases V:kv W la=kv W lb
   .rw[CN V];refine gh (b:=b) hb (by simp[ah]) ?_;refine km ?_;have f:(h.set b (.o (.cells (ah c false) 15 true)))[b]?=some (.o (.cells (ah c false) 15 true)):=du hb;refine bv (ds:=[c.up]) f (by simp[ah]) rfl ?_;refine e_ ?_;refine ab d.i_ ?_;refine km ?_;rw[py];refine E (a:=(lb.1,xr la.2 lb.2)) false w.lt (.inr rfl) f λh' L M N O=>?_
    try simp(disch:=omega)only[↓nc]
    simp_all
   .rw[CA V];refine gh (b:=b) hb (by simp[ah]) ?_;refine km ?_;have f:(h.set b (.o (.cells (ah c true) 15 true)))[b]?=some (.o (.cells (ah c true) 15 true)):=du hb;refine bv (ds:=[c.up]) f (by simp[ah]) rfl ?_;refine e_ ?_;refine ab d.i_ ?_;refine km ?_;rw[py];refine E (a:=(lb.1,xr la.2 lb.2)) true w.lt (.inr rfl) f λh' L M N O=>?_
    try simp(disch:=omega)only[↓nc]
    simp_all)
 grind
end
def HM(pn:Ti)(k:Int)(x y:Nat)(a:Bool):Lit:=((Dc pn x y).1,xr (Dc pn x y).2 (xr (decide (k=2)) a))
section
variable {h:HL} {b:Nat} {c:XC} {n:Bool} (hb:h[b]?=some (.o (.cells (ah c n) 15 true))) {U:List Lit} (hU:q9 h c.up 2 Dh U) {r:TF} (hF:Hv U r) {W:TE} (hW:Ge U W) (hV:h_ 0 h c.va 1 Cp W) {pn:Ti} (hp:NI h c.pr pn)
include hb hU hF hW hV hp
theorem ZF(k:Int){x y:Nat}(d:Bool)(R:k≠3->(Dc pn x y).1<U.length):∃m C h',aA cc ac 107 [.v (ka b),.i k,.i (ofNat x),.i (ofNat y),.b d] (g_ aa h) [] (g_ aa h')/\
  h'[b]?=some (.o (.cells (ah c C) 15 true))/\h_ 0 h' c.va 1 Cp m/\Ge U m/\(∀V,(C=false/\Rs U m V)↔(n=false/\Rs U W V/\(k≠3->A8 V (HM pn k x y d)=true)))/\(∀(j:Nat) o,h[j]?=some o->j≠b->hY c.va≠some j->h'[j]?=some o)/\h'.length=h.length:=by
 have S:=x107 (ls:=[.v (ka b),.i k,.i (ofNat x),.i (ofNat y),.b d]) (K:=λT h'=>T=[]/\∃m C,h'[b]?=some (.o (.cells (ah c C) 15 true))/\h_ 0 h' c.va 1 Cp m/\Ge U m/\(∀V,(C=false/\Rs U m V)↔(n=false/\Rs U W V/\(k≠3->A8 V (HM pn k x y d)=true)))/\(∀(j:Nat) o,h[j]?=some o->j≠b->hY c.va≠some j->h'[j]?=some o)/\h'.length=h.length) (H:=h) (q7 (ar _) (k_ (k_ (k_ (H0 t0))))) (by
  unfold Vc;simp only[u5];refine e_ ?_;by_cases e3:k=3
  .rw[ra e3];refine e_ ?_
   grind
  rw[wb e3];refine e_ ?_;refine ak (jR hb hp x y) ?_;simp(disch:=omega)only[↓Ce];have step:∀t:Bool,t=decide (k=2)->∀K:Bool->Prop,K (decide (t=d))->P1.eqs [(.b t,.b d)] (@i' _ ⟨K⟩):=λt _ K E=>by rw[py];exact E
  have B:∀K:Bool->Prop,K (decide (k=2))->P1.cmp .eql k 2 (@i' _ ⟨K⟩):=λK E=>by
   by_cases D:k=2
   .rw[ra D,←E8 D];exact E
   .rw[wb D,←Fv D];exact E
  refine B _ ?_
  try rw[py]
  refine cP (λls h'=>ls=[.i (ofNat (HM pn k x y d).1),.b (HM pn k x y d).2]/\h'=h) ?_ ?_
  case refine_2=>
   intro X z;have F:(HM pn k x y d).2=if decide (k=2)=d then(Dc pn x y).2 else !(Dc pn x y).2:=by
    unfold HM;simp only;generalize decide (k=2)=t;generalize (Dc pn x y).2=s;cases t<;>cases s<;>cases d<;>rfl
   by_cases e:decide (k=2)=d
   .rw[rv e]at F;rw[E8 e];simp(disch:=omega)only[↓nc,DP];refine z _ _ ⟨?_,rfl⟩;rw[F];rfl
   .rw[te e]at F;rw[Fv e];simp(disch:=omega)only[↓nc,EB];refine z _ _ ⟨?_,rfl⟩;rw[F];rfl
  rintro ls h' ⟨rfl,rfl⟩;refine e_ ?_;refine bv (ds:=[.bool n]) hb (by simp[ah]) rfl ?_;refine e_ ?_;cases n with
  |true=>
   refine e_ ?_;refine gh (b:=b) hb (by simp[ah]) ?_;refine km ?_;refine⟨C2,W,true,du hb,hV.j9 λj o u a=>cH u λe=>?_,hW,λV=>⟨λq=>(by cases q.1),λq=>(by cases q.1)⟩,λj o u I _=>cH u (CY I),FG ..⟩;subst e;rcases hV with⟨p,_⟩|⟨id,P,p,_,J,_⟩
   .rw[p]at a;cases a
   .rw[p]at a;cases a
    simp_all
  |false=>
   refine e_ ?_;obtain⟨f,g,N,O,Q,L,M⟩:=t4 hb hU hF hW hV (l:=HM pn k x y d) (R e3);refine ak O ?_;refine e_ ?_;have A:hY c.va≠some b:=λe=>by
    rcases hV with⟨p,_⟩|⟨id,P,p,_,J,_⟩
    .rw[p]at e;cases e
    .rw[p]at e;cases e
     simp_all
   have w:=L _ _ hb A;refine gh (b:=b) w (by simp[ah]) ?_;refine km ?_;refine⟨C2,Cy W f,!decide ((Cy W f).getD f.1 0=DT f),du w,Q.j9 λj o u a=>cH u λe=>A (by rw[a,e]),ue hW f,λV=>?_,λj o u I J=>cH (L j o u J) (CY I),kb⟩;by_cases G:(Cy W f).getD f.1 0=DT f
   .rw[E8 G,Ly hW N G V]
    simp_all
   .rw[Fv G];refine⟨λq=>(by cases q.1),λq=>?_⟩;have:=(Rx hW N G).2 V q.2.1
    simp_all)
 grind
end
def cV{i n c e:Nat}:aF (.slice (some ⟨i,0,le e⟩) n c)=true:=by simp[aF,n_,aS,bB,bi,aO,aH,le]
def KC{lb len cx i:Nat}(b:i<len):BL 1 (.slice (some ⟨lb,0,le 1⟩) len cx) (ofNat i)=some (.pointer (some ⟨lb,i,none⟩)):=by
 rw[rj];have a:0<=ofNat i/\ofNat i<(len:Int):=⟨GK i,kb⟩;simp only[rv a];have:¬(le 1=some 1):=by simp[le]
 simp_all
def CQ(v:Value):Tn:=[v]
def bf(v:TR):(CQ v).length=1:=rfl
def F2(h:HL)(v:Value)(l:TC):Prop:=(v = .slice none 0 0/\l=[])∨∃id vs,v = .slice (some ⟨id,0,le 1⟩) l.length 0/\h[id]?=some (.o (.cells (l.flatMap mc++vs) 1 true))
def F2.nil(h:HL):F2 h (.slice none 0 0) []:=.inl ⟨rfl,rfl⟩
def F2.cut{l:TC}{vs:Tn}:cut (l.flatMap mc++vs) 0 (l.length*1)=some (l.flatMap mc):=by
 have:=gr l;refine fZ.2 ⟨kb,?_⟩
 simp_all
def F2.ls{h:HL}{v:TR}{l:TC}(c:F2 h v l):q9 h v 1 mc l:=by
 rcases c with⟨rfl,rfl⟩|⟨id,d,rfl,b⟩
 .exact q9.nil h 1 mc
 .exact⟨λa _=>bu a,by rw[gr,Y3],.inr ⟨id,0,0,_,true,rfl,b,F2.cut⟩⟩
def F2.i_{h:HL}{v:TR}{l:TC}(a:F2 h v l):aF v=true:=a.ls.i_
def F2.j9{h h':HL}{v:TR}{l:TC}(d:F2 h v l)(c:∀(j:Nat) o,h[j]?=some o->hY v=some j->h'[j]?=some o):F2 h' v l:=by
 rcases d with a|⟨id,e,rfl,b⟩
 .exact .inl a
 .exact .inr ⟨id,e,rfl,c _ _ b rfl⟩
def F2.lt{h:HL}{v:TR}{l:TC}(c:F2 h v l){j:Nat}(a:hY v=some j):j<h.length:=by
 rcases c with⟨rfl,_⟩|⟨id,d,rfl,b⟩
 .cases a
 .cases a;exact am b
def F2.G8{h:HL}{v:TR}{l:TC}{a m:Nat}{new:Tn}{r:Ts}{K:Tb}(A:F2 h v l)(y:m=h.length)(f:new=mc a)(i:r=some 11)(C:l.length<=1000000)
  (p:∀v' h',F2 h' v' (l++[a])->aF v'=true->(∃j,hY v'=some j/\h.length<=j)->(∃a n c,v' = .slice a n c)->(∀(j:Nat) o,h[j]?=some o->hY v≠some j->h'[j]?=some o)->h.length<=h'.length->K [v'] h') :
  P1.heap (.ap cc 1 8 v (.slice (some ⟨m,0,r⟩) 1 2)) (h++[.o (.cells new 1 true)]) (@i' _ ⟨K⟩):=by
 subst y f i;have q:F1 (h++[HO.o (.cells (mc a) 1 true)]) (.slice (some ⟨h.length,0,le 1⟩) 1 2) 1 1 (mc a):=⟨rfl,.inr ⟨h.length,0,2,mc a,true,rfl,c_,Sx.wa rfl⟩⟩;have z:bc (l.length+1) 8=true:=by
  unfold bc;rw[DQ a_,DQ a_];rfl
 have u:(l.flatMap mc++mc a)=(l++[a]).flatMap mc:=c_;have d:(l++[a]).length=l.length+1:=c_;rcases A with⟨rfl,rfl⟩|⟨id,B,rfl,k⟩
 .have b:Em cc 1 8 (.slice none 0 0) (.slice (some ⟨h.length,0,le 1⟩) 1 2) (tf aa (h++[HO.o (.cells (mc a) 1 true)])) (h++[HO.o (.cells (mc a) 1 true)]).length=some ([.push (.cells (mc a) 1 true)],[.slice (some ⟨(h++[HO.o (.cells (mc a) 1 true)]).length,0,le 1⟩) 1 0]):=by
   unfold Em;rw[nz q]
   simp_all
  refine bH (show(Hp.ap cc 1 8 (.slice none 0 0) (.slice (some ⟨h.length,0,le 1⟩) 1 2)).run _ _=_ from b) ?_;refine p _ _ (.inr ⟨_,[],rfl,?_⟩) cV ⟨_,rfl,c_⟩ ⟨_,_,_,rfl⟩ (λj o g _=>?_) (by simp[bG,Cw.onH])
  .show((h++[HO.o (.cells (mc a) 1 true)])++[HO.o (.cells (mc a) 1 true)])[_]?=_
   simp_all
  .exact cX (cX g)
 .have x:=am k;have w:(h++[HO.o (.cells (mc a) 1 true)])[id]?=some (.o (.cells (l.flatMap mc++B) 1 true)):=cX k;have b:Em cc 1 8 (.slice (some ⟨id,0,le 1⟩) l.length 0) (.slice (some ⟨h.length,0,le 1⟩) 1 2) (tf aa (h++[HO.o (.cells (mc a) 1 true)])) (h++[HO.o (.cells (mc a) 1 true)]).length=some ([.set id .dead,.push (.cells (l.flatMap mc++mc a) 1 true)],[.slice (some ⟨(h++[HO.o (.cells (mc a) 1 true)]).length,0,le 1⟩) (l.length+1) 0]):=by
   unfold Em;rw[nz q];simp only[ne_eq,not_true_eq_false,if_false];rw[bF w];simp only[ne_eq,not_true_eq_false,if_false];rw[F2.cut]
   simp_all
  refine bH (show(Hp.ap cc 1 8 (.slice (some ⟨id,0,le 1⟩) l.length 0) (.slice (some ⟨h.length,0,le 1⟩) 1 2)).run _ _=_ from b) ?_;have s:bG (h++[HO.o (.cells (mc a) 1 true)]) [.set id .dead,.push (.cells (l.flatMap mc++mc a) 1 true)]=(h++[HO.o (.cells (mc a) 1 true)]).set id (.o .dead)++[.o (.cells (l.flatMap mc++mc a) 1 true)]:=rfl;rw[s];refine p _ _ (.inr ⟨_,[],by rw[d],?_⟩) cV ⟨_,rfl,c_⟩ ⟨_,_,_,rfl⟩ (λj o g t=>?_) ua
  .simp_all
  .refine cX (cH (cX g) λe=>t ?_);rw[←e];rfl
def F2.DU{h:HL}{v:TR}{l:TC}{a:Nat}{n:Int}{K:TR->Prop}(j:F2 h v (l++[a]))(g:n=ofNat l.length)(f:∀v',F2 h v' l->aF v'=true->hY v'=hY v->K v'):P1.j_ (Ex 1 v none (some n) none) (@i' _ ⟨K⟩):=by
 subst g;rcases j with⟨_,d⟩|⟨id,k,rfl,e⟩
 .simp at d
 have i:Ex 1 (.slice (some ⟨id,0,le 1⟩) (l++[a]).length 0) none (some (ofNat l.length)) none=some (.slice (some ⟨id,0,le 1⟩) l.length 0):=by
  unfold Ex;have b:¬(le 1≠some 1/\le 1≠le 1):=c_;simp only[te b];have c:(0:Int)<=(none:Tt).getD 0/\(none:Tt).getD 0<=(some (ofNat l.length)).getD ((l++[a]).length:Int)/\bS (l++[a]).length 0 (some (ofNat l.length)) none:=by
   refine⟨c_,c_,?_⟩;unfold bS
   grind
  rw[rv c,ew,ew,ew];simp[bK]
 refine ae i (f _ (.inr ⟨id,mc a++k,rfl,?_⟩) cV rfl);rw[e];simp
end Go.Am
namespace Go.Am
open Sx
def Iy(T:TC)(W:TE):TE:=T.foldl (λw i=>w.set i 0) W
def L6:∀ {T:TC} {W:TE},(Iy T W).length=W.length
 | [],_=>rfl
 |i :: T,W=>by
  show(Iy T (W.set i 0)).length=_;rw[L6,FG]
def yr:∀ {T:TC} {W:TE} {j:Nat},(Iy T W)[j]?=if j∈T then(W[j]?).map λ_=>0 else W[j]?
 | [],_,_=>by simp[Iy]
 |i :: T,W,j=>by
  show(Iy T (W.set i 0))[j]?=_;rw[yr,GS]
  grind
def Xt{T:TC}{i:Nat}{W:TE}:Iy (T++[i]) W=(Iy T W).set i 0:=by simp[Iy]
def Xu{T:TC}{W a:TE}(h:Iy T W=a)(l:Lit):Iy (if W.getD l.1 0=0 then T++[l.1]else T) (Cy W l)=a:=by
 unfold Cy;by_cases b:W.getD l.1 0=0
 .rw[rv b,rv b,←h];refine HA λj=>?_;rw[yr,yr,GS]
  grind
 simp_all
def CE(us:Ty)(l:TC):TC:=l.filter λo=>!us.getD o false
def tA{us:Ty}{l:TC}{id:Nat}(b:l.Nodup)(c:id<us.length):CE (us.set id true) l=(CE us l).erase id:=by
 unfold CE;have a:(l.filter λo=>!us.getD o false).Nodup:=b.filter _;rw[a.erase_eq_filter,List.filter_filter]
 grind
def pQ{us:Ty}{l:TC}{o:Nat}:o∈CE us l↔o∈l/\us.getD o false=false:=by
 unfold CE
 simp_all
def Xo{us:Ty}{id:Nat}(h:us.getD id false=false):(us.set id true).set id false=us:=by
 rw[List.set_set];refine HA λj=>?_
 grind
end Go.Am
namespace Go.Am
open Sx Go.Proofs
def jK{h:HL}{b e:Nat}{cs ds:Tn}{K:Ta}{o n:Nat}(a:h[b]?=some (.o (.cells cs e true)))(g:o+n<=cs.length)(f:ds=(cs.drop o).take n)(c:K (.pointer (some ⟨b,o,none⟩)) ds) :
  P1.j_ (C5 (ka b)) (@i' _ ⟨λx=>P1.nC x (@i' _ ⟨P1.j_ (Dm o x) (@i' _ ⟨λy=>P1.nC y (@i' _ ⟨P1.my (.lg cc n y) h (@i' _ ⟨K y⟩)⟩)⟩)⟩)⟩):=by
 refine ae (x:=ka b) rfl (ab (ar b) (ae (x:=.pointer (some ⟨b,0+o,none⟩)) rfl (ab (by simp[aF,n_,aS,bB,bi,aO,aH]) ?_)));rw[ER];have d:Gy h (.pointer (some ⟨b,o,none⟩)) ds:=by
  refine⟨b,o,cs,e,true,rfl,a,fZ.2 ⟨?_,?_⟩⟩
  .grind
  simp_all
 refine bT (d.lg ?_) c
 grind
def Ra{h:HL}{n0:Nat}{v:TR}{l:Tn}{i:Nat}{a:TR}{n:Int}{K:Ta}(d:h_ n0 h v 1 CQ l)(j:n=ofNat i)(b:l[i]?=some a)(g:∀id,hY v=some id->K (.pointer (some ⟨id,i,none⟩)) [a]) :
  P1.j_ (BL 1 v n) (@i' _ ⟨λx=>P1.my (.lg cc 1 x) h (@i' _ ⟨K x⟩)⟩):=by
 subst j;obtain⟨id,k,rfl,_,m,_⟩:=kj d (λe=>by rw[e]at b;cases b);refine ae (KC (am b)) ?_;obtain⟨p,c,f⟩:=(d.ls bf).at b;rw[KC (am b)]at c;cases c;exact bT (f.lg rfl) (g id rfl)
def h_.JB{i7:Type}{e:Nat}{enc:i7->Tn}{h:HL}{n0:Nat}{v:TR}{l:List i7}{i:Nat}{a:i7}{n:Int}{new:Tn}{K:Tb}(b:∀a,(enc a).length=e)(t:h_ n0 h v e enc l)(s:n=ofNat i)(p:i<l.length)(c:new=enc a)
  (r:∀h':HL,h_ n0 h' v e enc (l.set i a)->(∀(j:Nat) o,h[j]?=some o->Sx.hY v≠some j->h'[j]?=some o)->h'.length=h.length->K [] h') :
  P1.j_ (BL e v n) (@i' _ ⟨λx=>P1.heap (.st x new) h (@i' _ ⟨K⟩)⟩):=by
 obtain⟨id,f,rfl,g,d,m⟩:=kj t (λe=>kb);refine dh b d s p rfl c (r _ (.inr ⟨id,f,by rw[FG],g,bI (am d),kb⟩) (λj o q k=>?_) gX);rw[cu (λe=>k (by rw[e];rfl))];exact q
structure S3x(c:XC)(k1:Nat):Prop where
 s1:∀j,hY c.va=some j->j<k1/\hY c.us≠some j/\hY c.lay≠some j
 s2:∀j,hY c.us=some j->j<k1/\hY c.lay≠some j
 s3:∀j,hY c.lay=some j->j<k1
structure Mt(h:HL)(c:XC)(k1:Nat)(W:TE)(us:Ty)(LV:List (TC))(lv:Tn):Prop where
 va:h_ 0 h c.va 1 Cp W
 us:h_ 0 h c.us 1 A7 us
 ly:h_ 0 h c.lay 1 CQ lv
 ln:lv.length=LV.length
 tr:∀(j:Nat) v l,lv[j]?=some v->LV[j]?=some l->F2 h v l
 nb:∀(j:Nat) v x,lv[j]?=some v->hY v=some x->k1<=x
 dj:∀(i j:Nat) v w x,lv[i]?=some v->lv[j]?=some w->hY v=some x->hY w=some x->i=j
def Mt.j9{h h':HL}{c:XC}{k1:Nat}{W:TE}{us:Ty}{f:List (TC)}{lv:Tn}(a:Mt h c k1 W us f lv)(e:∀(j:Nat) o,h[j]?=some o->hY c.va=some j∨hY c.us=some j∨hY c.lay=some j∨(∃v∈lv,hY v=some j)->h'[j]?=some o):Mt h' c k1 W us f lv:=
 ⟨a.va.j9 λj o d b=>e j o d (.inl b),a.us.j9 λj o d b=>e j o d (.inr (.inl b)),a.ly.j9 λj o d b=>e j o d (.inr (.inr (.inl b))),a.ln,
  λi v l g k=>(a.tr i v l g k).j9 λj o d b=>e j o d (.inr (.inr (.inr ⟨v,Cf g,b⟩))),a.nb,a.dj⟩
section
variable {h h':HL} {c:XC} {k1:Nat} (s:S3x c k1) {W:TE} {us:Ty} {LV:List (TC)} {lv:Tn} (hM:Mt h c k1 W us LV lv)
include s hM
theorem Mt.setV{g:TE}(m:h_ 0 h' c.va 1 Cp g)(f:∀(j:Nat) o,h[j]?=some o->hY c.va≠some j->j<k1∨(∃v∈lv,hY v=some j)->h'[j]?=some o):Mt h' c k1 g us LV lv:=
 ⟨m,hM.us.j9 λj o b a=>f j o b (λe=>(s.s1 j e).2.1 a) (.inl (s.s2 j a).1),hM.ly.j9 λj o b a=>f j o b (λe=>(s.s1 j e).2.2 a) (.inl (s.s3 j a)),hM.ln,
  λi v l d k=>(hM.tr i v l d k).j9 λj o b a=>f j o b (λe=>by
   have n:=(s.s1 j e).1;have p:=hM.nb i v j d a;omega) (.inr ⟨v,Cf d,a⟩),hM.nb,hM.dj⟩
theorem Mt.setU{d:Ty}(m:h_ 0 h' c.us 1 A7 d)(f:∀(j:Nat) o,h[j]?=some o->hY c.us≠some j->h'[j]?=some o):Mt h' c k1 W d LV lv:=
 ⟨hM.va.j9 λj o b a=>f j o b (s.s1 j a).2.1,m,hM.ly.j9 λj o b a=>f j o b (λe=>(s.s2 j e).2 a),hM.ln,
  λi v l g k=>(hM.tr i v l g k).j9 λj o b a=>f j o b (λe=>by
   have n:=(s.s2 j e).1;have p:=hM.nb i v j g a;omega),hM.nb,hM.dj⟩
theorem Mt.Ip{st:Nat}{v':TR}{l':TC}(q:st<LV.length)(B:h_ 0 h' c.lay 1 CQ (lv.set st v'))(u:F2 h' v' l')(p:∀x,hY v'=some x->k1<=x)(C:∀(j:Nat) w x,j≠st->lv[j]?=some w->hY v'=some x->hY w≠some x)
  (n:∀(j:Nat) o,h[j]?=some o->hY c.lay≠some j->(∀v,lv[st]?=some v->hY v≠some j)->h'[j]?=some o):Mt h' c k1 W us (LV.set st l') (lv.set st v'):=by
 have D:st<lv.length:=by rw[hM.ln];exact q
 have a:∀(j:Nat) v,(lv.set st v')[j]?=some v->(j=st/\v=v')∨(j≠st/\lv[j]?=some v):=λj v k=>by
  grind
 have f:∀x,x<k1->∀v,lv[st]?=some v->hY v≠some x:=λx L v u e=>by
  have:=hM.nb st v x u e;omega
 refine⟨hM.va.j9 λj o k d=>n j o k (s.s1 j d).2.2 (f j (s.s1 j d).1),hM.us.j9 λj o k d=>n j o k (s.s2 j d).2 (f j (s.s2 j d).1),B,by rw[FG,FG];exact hM.ln,λj v l b g=>?_,λj v x b g=>?_,λi j v w x b g z A=>?_⟩
 .rcases a j v b with⟨rfl,rfl⟩|⟨e,b⟩
  .simp_all
  .rw[Hj (CY e)]at g;refine(hM.tr j v l b g).j9 λy o E d=>n y o E (λt=>?_) λH r m=>e (hM.dj j st v H y b r d m);have I:=s.s3 y t;have J:=hM.nb j v y b d;omega
 .rcases a j v b with⟨rfl,rfl⟩|⟨_,b⟩
  .exact p x g
  .exact hM.nb j v x b g
 .rcases a i v b with⟨rfl,rfl⟩|⟨K,F⟩
  .grind
  .rcases a j w g with⟨rfl,rfl⟩|⟨t,G⟩
   .grind
   .exact hM.dj i j v w x F G z A
end
structure Ro(b:Nat)(c:XC)(U:List Lit)(F:List A5)(pn:Ti)(AT:List K3)(IDS:List (TC))(CR:TD)(k1:Nat)(mu:Tz)(P:HL->Prop):Prop where
 kp:∀h h',P h->(∀(j:Nat) o,j<k1->¬mu j->h[j]?=some o->h'[j]?=some o)->P h'
 lt:∀h,P h->k1<=h.length
 s:S3x c k1
 m1:∀j,hY c.va=some j∨hY c.us=some j∨hY c.lay=some j->mu j
 bk:b<k1
 hb:∀h,P h->h[b]?=some (.o (.cells (ah c false) 15 true))
 up:∀h,P h->q9 h c.up 2 Dh U
 fo:∀h,P h->q9 h c.fo 8 IZ F
 fl:F.length<=1000000
 fv:∀f∈F,f.1.1<U.length/\f.2.1.1<U.length/\f.2.2.1.1<U.length/\f.2.2.2.1<U.length
 pr:∀h,P h->NI h c.pr pn
 ia:∀h,P h->q9 h c.at_ 3 EV AT
 xc:∀h,P h->q9 h c.xc 3 n4 CR
 cl:CR.length<=1000000
 al:AT.length<=1000000
 il:IDS.length=AT.length
 ids:∃vs:List Value,vs.length=IDS.length/\∀h,P h->q9 h c.ids 1 CQ vs/\∀(j:Nat) v l,vs[j]?=some v->IDS[j]?=some l->q9 h v 1 mc l
 ib:∀l∈IDS,l.Nodup/\l.length<=1000000/\∀x∈l,∀y∈l,x≠y->(Dc pn x y).1<U.length
section
variable {b:Nat} {c:XC} {U:List Lit} {F:List A5} {pn:Ti} {AT:List K3} {IDS:List (TC)} {CR:TD} {k1:Nat} {mu:Tz} {P:HL->Prop} (R:Ro b c U F pn AT IDS CR k1 mu P)
include R
theorem Ro.keepV{h h':HL}(g:P h)(i:∀(j:Nat) o,h[j]?=some o->hY c.va≠some j->j<k1->h'[j]?=some o):P h':=R.kp h h' g λj o a d f=>i j o f (λe=>d (R.m1 j (.inl e))) a
theorem Ro.keepU{h h':HL}(g:P h)(i:∀(j:Nat) o,h[j]?=some o->hY c.us≠some j->j<k1->h'[j]?=some o):P h':=R.kp h h' g λj o a d f=>i j o f (λe=>d (R.m1 j (.inr (.inl e)))) a
end
section
variable {b:Nat} {c:XC} {U:List Lit} {F:List A5} {pn:Ti} {AT:List K3} {IDS:List (TC)} {CR:TD} {k1:Nat} {mu:Tz} {P:HL->Prop} (R:Ro b c U F pn AT IDS CR k1 mu P) {r:TF} (hF:Hv U r)
include R hF
theorem Ww{h:HL}(hP:P h){W:TE}{us:Ty}{LV:List (TC)}{lv:Tn}(hM:Mt h c k1 W us LV lv){S:(Nat->Bool)->Prop}{D:List (TC)}{st id:Nat}{d p:TC}(hN:L8 U pn S W D p (CE us d))(Z:IDS[st]?=some d)(hp:LV[st]?=some p)(X:id∈d)(cw:us.getD id false=false)(cx:∀x∈d,x<us.length)(cr:p.length<=1000000)
  {A:Nat} (ht:h[A]?=some (.o (.cells [.slice none 0 0] 1 true))) (c6:k1<=A) (co:∀v∈lv,hY v≠some A) :
  ∃ok q T x' v' h',aA cc ac 75 [.v (ka b),.i (ofNat st),.i (ofNat id),.v (ka A)] (g_ aa h) [.b ok] (g_ aa h')/\P h'/\Mt h' c k1 q (us.set id true) (LV.set st (p++[id])) (lv.set st v')/\Ge U q/\
   h'[A]?=some (.o (.cells [x'] 1 true))/\q9 h' x' 1 mc T/\(T.length<=d.length/\∀i∈T,i<U.length)/\(∀j,hY x'=some j->h.length<=j/\∀v∈lv.set st v',hY v≠some j)/\Iy T q=W/\(∃j,hY v'=some j/\h.length<=j)/\
   (ok=true->L8 U pn S q D (p++[id]) ((CE us d).erase id)/\HF U q F)/\(ok=false->∀Rs,(Fq D (p++[id]) ((CE us d).erase id) Rs).filter (Db pn S F)=[])/\
   (∀(j:Nat) o,h[j]?=some o->j≠A->hY c.va≠some j->hY c.us≠some j->hY c.lay≠some j->(∀v,lv[st]?=some v->hY v≠some j)->h'[j]?=some o)/\h.length<=h'.length:=by
 have J:=R.ib d (Cf Z);have ad:=cx id X;have Y:id∈CE us d:=pQ.2 ⟨X,cw⟩;have bn:(CE us d).Nodup:=J.1.filter _;have a4:=am hp;have a5:st<lv.length:=by rw[hM.ln];exact a4
 obtain⟨v0,I⟩:=aq a5;have cb:=Cf I;have dm:=x75 (ls:=[.v (ka b),.i (ofNat st),.i (ofNat id),.v (ka A)]) (K:=λrs h'=>∃ok q T x' v',rs=[.b ok]/\P h'/\Mt h' c k1 q (us.set id true) (LV.set st (p++[id])) (lv.set st v')/\Ge U q/\
   h'[A]?=some (.o (.cells [x'] 1 true))/\q9 h' x' 1 mc T/\(T.length<=d.length/\∀i∈T,i<U.length)/\(∀j,hY x'=some j->h.length<=j/\∀v∈lv.set st v',hY v≠some j)/\Iy T q=W/\(∃j,hY v'=some j/\h.length<=j)/\
   (ok=true->L8 U pn S q D (p++[id]) ((CE us d).erase id)/\HF U q F)/\(ok=false->∀Rs,(Fq D (p++[id]) ((CE us d).erase id) Rs).filter (Db pn S F)=[])/\
   (∀(j:Nat) o,h[j]?=some o->j≠A->hY c.va≠some j->hY c.us≠some j->hY c.lay≠some j->(∀v,lv[st]?=some v->hY v≠some j)->h'[j]?=some o)/\h.length<=h'.length) (H:=h) (q7 (ar _) (k_ (k_ (q7 (ar _) t0)))) (by
  unfold f75;simp only[u5];refine e_ ?_;refine bv (ds:=[c.us]) (R.hb h hP) (by simp[ah]) rfl ?_;refine e_ ?_;refine ab (hM.us.i_ cO) ?_;refine km ?_;refine hM.us.JB cO rfl ad (a:=true) rfl ?_;intro g1 cm bb c7;refine km ?_;have b6:P g1:=R.keepU hP λj o z hb _=>bb j o z hb;have E:=hM.setU R.s cm bb;refine jK (ds:=[c.lay]) (R.hb g1 b6) (by simp[ah]) rfl ?_;refine e_ ?_;refine ab (E.ly.i_ bf) ?_;refine km ?_;refine jK (ds:=[c.lay]) (R.hb g1 b6) (by simp[ah]) rfl ?_;refine e_ ?_;refine ab (E.ly.i_ bf) ?_;refine km ?_;refine Ra E.ly rfl I ?_;intro lb cp;refine e_ ?_;have a8:=E.tr st v0 p I hp;refine ab a8.i_ ?_;refine km ?_;refine a8.G8 rfl rfl rfl cr ?_;intro v' g2 an ci L cy bd av;refine e_ ?_;refine ab ci ?_;refine km ?_;obtain⟨vb,L,dl⟩:=L;have ag:=R.s.s3;have b9:h_ 0 g2 c.lay 1 CQ lv:=E.ly.j9 λj o z hb=>bd j o z λe=>by
   have a1:=ag j hb;have a2:=hM.nb st v0 j I e;omega
  refine b9.JB bf rfl a5 (a:=v') rfl ?_;intro C cn bl c8;have c9:=R.lt h hP;have c1:∀j,hY v0=some j->k1<=j:=λj z=>hM.nb st v0 j I z;refine ae (x:=()) (cZ (bR ⟨_,_,_,rfl⟩ λi n=>?_) (cZ (bR ⟨_,_,_,rfl⟩ λi n=>?_) (cZ (bR ⟨_,_,_,rfl⟩ λi n=>?_) (cZ (bR (jJ a8.ls) λi n=>?_) (cZ (bR cy λi n=>?_) eR))))) ?_
  .have a1:=R.bk;have:g1.length=i:=by simpa[hY]using n
   omega
  .have a1:=R.bk;have:g1.length=i:=by simpa[hY]using n
   omega
  .have a1:=ag lb cp;have:g1.length=i:=by simpa[hY]using n
   omega
  .have a1:=R.bk
   grind
  .have a1:=R.bk
   grind
  refine km ?_;have bP:∀(j:Nat) o,h[j]?=some o->hY c.us≠some j->hY c.lay≠some j->hY v0≠some j->C[j]?=some o:=λj o z O b2 b3=>bl j o (bd j o (bb j o z O) b3) b2;have a7:P C:=R.kp h C hP λj o j1 j2 z=>bP j o z (λe=>j2 (R.m1 j (.inr (.inl e)))) (λe=>j2 (R.m1 j (.inr (.inr e)))) λe=>by
   grind
  have a6:Mt C c k1 W (us.set id true) (LV.set st (p++[id])) (lv.set st v'):=by
   refine E.Ip R.s a4 cn (an.j9 λj o z hb=>bl j o z λe=>?_) (λx hx=>?_) (λj w x _ hw hx cA=>?_) λj o z O b2=>bl j o (bd j o z (b2 v0 I)) O
   .grind
   .grind
   .rw[L]at hx;cases hx;obtain⟨l2,av⟩ : ∃l2,LV[j]?=some l2:=aq (by rw[←hM.ln];exact am hw);have:=(E.tr j w l2 hw av).lt cA;omega
  have b7:C[A]?=some (.o (.cells [.slice none 0 0] 1 true)):=bP A _ ht (λe=>by
   have:=(R.s.s2 A e).1;omega) (λe=>by
   grind) (co v0 cb)
  have c2:h.length<=C.length:=a_;have c4:vb<C.length:=by
   have:=an.lt L;omega
  refine bv (ds:=[c.ids]) (R.hb C a7) (by simp[ah]) rfl ?_;refine e_ ?_;obtain⟨vs,i2,i4⟩:=R.ids;obtain⟨i1,i3⟩:=i4 C a7;refine ab i1.i_ ?_;refine km ?_;obtain⟨vi,bx⟩:=aq (l:=vs) (i:=st) jn;refine aP i1 rfl bx ?_;rw[show CQ vi=[vi]from rfl];refine e_ ?_;have b0:=i3 st vi d bx Z;refine ab b0.i_ ?_;refine km ?_;refine bz b0 ?_;have c3:∀v∈lv.set st v',∀j,hY v=some j->j<C.length:=λv hv j z=>by
   obtain⟨i,n⟩:=Ev hv;obtain⟨l2,av⟩ : ∃l2,(LV.set st (p++[id]))[i]?=some l2:=aq (by rw[←a6.ln];exact am n);exact(a6.tr i v l2 n av).lt z
  refine aJ (m:=d.length) (λm ls g=>∃j q T x',ls=[.i (ofNat j)]/\m=d.length - j/\j<=d.length/\P g/\Mt g c k1 q (us.set id true) (LV.set st (p++[id])) (lv.set st v')/\Ge U q/\g[A]?=some (.o (.cells [x'] 1 true))/\h_ C.length g x' 1 mc T/\(T.length<=j/\∀i∈T,i<U.length)/\Iy T q=W/\
   G1 U pn S q D p (CE us d) id (CE (us.set id true) (d.take j))/\(∀(i:Nat) o,C[i]?=some o->i≠A->hY c.va≠some i->g[i]?=some o)/\C.length<=g.length) ⟨0,W,[],_,rfl,rfl,C6 _,a7,a6,hN.ok,b7,.inl ⟨rfl,rfl⟩,⟨A9 _,λi n=>by cases n⟩,rfl,hN.start id,λi o n _ _=>n,A9 _⟩ ?_
  rintro m ls g ⟨j,q,T,x',rfl,rfl,z,u,G,B,a9,M,ap,bC,Q,bm,cq⟩ c5 al;refine Di ?_;have ca:∀ {k:Nat} {y:Nat},y∈CE (us.set id true) (d.take k)->y∈(CE us d).erase id:=λ{k y} hy=>by
   rw[←tA J.1 ad];obtain⟨a1,a2⟩:=pQ.1 hy;exact pQ.2 ⟨NO a1,a2⟩
  have b8:∀ {g':HL},(∀(i:Nat) o,C[i]?=some o->i≠A->hY c.va≠some i->g'[i]?=some o)->(∀(j:Nat) o,h[j]?=some o->j≠A->hY c.va≠some j->hY c.us≠some j->hY c.lay≠some j->(∀v,lv[st]?=some v->hY v≠some j)->g'[j]?=some o):=λ{g'} hk j o z O b2 b3 b4 b5=>hk j o (bP j o z b3 b4 (b5 v0 I)) O b2;have cd:∀ {g':HL} {x2:TR} {T2:TC},h_ C.length g' x2 1 mc T2->∀j,hY x2=some j->h.length<=j/\∀v∈lv.set st v',hY v≠some j:=λ{g' x2 T2} ho j z=>by
   have:=(ho.hY z).1
   grind
  refine e_ ?_;by_cases ax:j<d.length
  case neg=>
   obtain rfl:j=d.length:=a_;rw[aM (A9 _)];refine e_ ?_;obtain⟨e,ce,e1,e2⟩:=v7 (R.hb g u) (R.up g u) hF B (G.va.ls eh) (R.fo g u) R.fl R.fv;refine ak ce ?_;refine e_ ?_;rw[YW]at Q;have hB:∀y,y∈CE (us.set id true) d↔y∈(CE us d).erase id:=λy=>by rw[tA J.1 ad]
   refine⟨e,q,T,x',v',C2,u,G,B,a9,M.ls bu,ap,cd M,bC,⟨vb,L,a_⟩,λhe=>⟨Q.placed Y bn hB,e1 he⟩,λhe R'=>?_,b8 bm,a_⟩;obtain⟨f,hf,x,hx,hn⟩:=e2 he;exact Q.fail Y bn (λy hy=>(hB y).1 hy) (λV hV ck _=>p6 B hf hx hn V hV ck) R'
  rw[aN ax];refine e_ ?_;obtain⟨y,hy⟩:=aq ax;have cC:=Cf hy;have cl:q9 g vi 1 mc d:=(i4 g u).2 st vi d bx Z;refine aP cl rfl hy ?_;rw[show mc y=[.int .i64 (ofNat y)]from rfl];refine e_ ?_;refine bv (ds:=[c.us]) (R.hb g u) (by simp[ah]) rfl ?_;refine e_ ?_;refine ab (G.us.i_ cO) ?_;refine km ?_;obtain⟨t,cS⟩:=aq (l:=us.set id true) (i:=y) jn;have dk:(us.set id true).getD y false=t:=jn;refine aP (G.us.ls cO) rfl cS ?_;rw[show A7 t=[.bool t]from rfl];refine e_ ?_;have bs:CE (us.set id true) (d.take (j+1))=CE (us.set id true) (d.take j)++if t=true then []else [y]:=by
   rw[Ii,hy];unfold CE
   grind
  cases t with
  |true=>
   simp(disch:=omega)only[↓nc,DP];rw[aY a_];refine al _ _ _ ?_ ⟨j+1,q,T,x',rfl,rfl,ax,u,G,B,a9,M,⟨a_,ap.2⟩,bC,?_,bm,cq⟩
   .omega
   grind
  |false=>
   simp(disch:=omega)only[↓nc,EB];have cf:id≠y:=λe=>by
    grind
   refine ak (jR (R.hb g u) (R.pr g u) id y) ?_;refine e_ ?_;obtain⟨N,x2,g',hr,cs,s1,s2,s3,s4,s5,s6⟩:=t5 (R.hb g u) (R.up g u) hF B G.va a9 M a_ a_ (λe=>by
    have:=(R.s.s1 A e).1;omega) (λe=>by
    grind) (λi n e=>by
    have a1:=(M.hY n).1;have a2:=(R.s.s1 i e).1;omega) (J.2.2 id X y cC cf)
   refine ak cs ?_;refine e_ ?_;have a0:P g':=R.keepV u λi o n O b2=>s4 i o n a_ O λe=>by
    grind
   have aE:Mt g' c k1 (Cy q N) (us.set id true) (LV.set st (p++[id])) (lv.set st v'):=G.setV R.s s1 λi o n O b2=>s4 i o n (λe=>by
    grind) O λe=>by
    grind
   have a3:∀(i:Nat) o,C[i]?=some o->i≠A->hY c.va≠some i->g'[i]?=some o:=λi o n O b2=>s4 i o (bm i o n O b2) O b2 λe=>by
    have a1:=(M.hY e).1
    grind
   have hz:=Xu bC N;have an:(if q.getD N.1 0=0 then T++[N.1]else T).length<=j+1/\∀i∈(if q.getD N.1 0=0 then T++[N.1]else T),i<U.length:=by
    have:=ap.1;split
    .refine⟨ua,λi n=>?_⟩;rcases Ek.1 n with n|n
     .exact ap.2 i n
     .rw[Fc]at n;rw[n];exact hr.lt
    grind
   by_cases ay:(Cy q N).getD N.1 0=DT N
   .rw[E8 ay];simp(disch:=omega)only[↓nc,DP];rw[aY a_];refine al _ _ _ ?_ ⟨j+1,Cy q N,_,x2,rfl,rfl,ax,a0,aE,ue B N,s2,s3,?_,hz,?_,a3,a_⟩
    .omega
    .exact an
    .rw[bs];exact Q.set hr ay
   .rw[Fv ay];simp(disch:=omega)only[↓nc,EB];obtain⟨ct,dj⟩:=Rx B hr ay;refine⟨false,Cy q N,_,x2,v',C2,a0,aE,ue B N,s2,s3.ls bu,?_,cd s3,hz,⟨vb,L,a_⟩,λhe=>(by cases he),λ_ R'=>?_,b8 a3,a_⟩
    .grind
    .refine Q.fail Y bn (λy hy=>ca hy) (λV hV _ c0=>?_) R'
     grind)
 grind
end
section
variable {b:Nat} {c:XC} {U:List Lit} {F:List A5} {pn:Ti} {AT:List K3} {IDS:List (TC)} {CR:TD} {k1:Nat} {mu:Tz} {P:HL->Prop} (R:Ro b c U F pn AT IDS CR k1 mu P)
include R
theorem Rg{h:HL}(M:P h){W:TE}{us:Ty}{J:List (TC)}{lv:Tn}(l:Mt h c k1 W us J lv){st id:Nat}{p:TC}(hp:J[st]?=some (p++[id]))(bm:p.length<=1000000)(S:id<us.length)
  {x:TR} {T:TC} (L:q9 h x 1 mc T) (bn:∀j,hY x=some j->k1<=j/\∀v∈lv,hY v≠some j) (a9:T.length<=1000000) (a2:∀i∈T,i<W.length) :
  ∃v' h',aA cc ac 76 [.v (ka b),.i (ofNat st),.v x] (g_ aa h) [] (g_ aa h')/\P h'/\Mt h' c k1 (Iy T W) (us.set id false) (J.set st p) (lv.set st v')/\(∀v,lv[st]?=some v->hY v'=hY v)/\
   (∀(j:Nat) o,h[j]?=some o->hY c.va≠some j->hY c.us≠some j->hY c.lay≠some j->h'[j]?=some o)/\h'.length=h.length:=by
 have u:=am hp;have z:st<lv.length:=by rw[l.ln];exact u
 obtain⟨n,d⟩:=aq z;have a7:=Cf d;have bs:=x76 (ls:=[.v (ka b),.i (ofNat st),.v x]) (K:=λrs h'=>rs=[]/\∃v',P h'/\Mt h' c k1 (Iy T W) (us.set id false) (J.set st p) (lv.set st v')/\(∀v,lv[st]?=some v->hY v'=hY v)/\
   (∀(j:Nat) o,h[j]?=some o->hY c.va≠some j->hY c.us≠some j->hY c.lay≠some j->h'[j]?=some o)/\h'.length=h.length) (H:=h) (q7 (ar _) (k_ (q7 L.i_ t0))) (by
  unfold f76;simp only[u5];refine e_ ?_;have r:=l.tr st n _ d hp;have X:(p++[id]).length=p.length+1:=c_;refine bv (ds:=[c.lay]) (R.hb h M) (by simp[ah]) rfl ?_;refine e_ ?_;refine ab (l.ly.i_ bf) ?_;refine km ?_;refine aP (l.ly.ls bf) rfl d ?_;rw[show CQ n=[n]from rfl];refine e_ ?_;refine ab r.i_ ?_;refine km ?_;refine bz r.ls ?_;rw[X];have Z:∀K:Int->Prop,K (ofNat p.length)->P1.z_ .sub .i64 (ofNat (p.length+1)) 1 (@i' _ ⟨K⟩):=λK hK=>by
   rw[K' kb jn]
   simp_all
  refine Z _ ?_;refine km ?_;refine bv (ds:=[c.us]) (R.hb h M) (by simp[ah]) rfl ?_;refine e_ ?_;refine ab (l.us.i_ cO) ?_;refine km ?_;refine bv (ds:=[c.lay]) (R.hb h M) (by simp[ah]) rfl ?_;refine e_ ?_;refine ab (l.ly.i_ bf) ?_;refine km ?_;refine aP (l.ly.ls bf) rfl d ?_;rw[show CQ n=[n]from rfl];refine e_ ?_;refine ab r.i_ ?_;refine km ?_;refine aP (a:=id) r.ls rfl c_ ?_;rw[show mc id=[.int .i64 (ofNat id)]from rfl];refine e_ ?_;refine l.us.JB cO rfl S (a:=false) rfl ?_;intro g1 ax D bd;refine km ?_;have N:P g1:=R.keepU M λj o f hb _=>D j o f hb;have k:=l.setU R.s ax D;refine bv (ds:=[c.lay]) (R.hb g1 N) (by simp[ah]) rfl ?_;refine e_ ?_;refine ab (k.ly.i_ bf) ?_;refine km ?_;refine bv (ds:=[c.lay]) (R.hb g1 N) (by simp[ah]) rfl ?_;refine e_ ?_;refine ab (k.ly.i_ bf) ?_;refine km ?_;refine aP (k.ly.ls bf) rfl d ?_;rw[show CQ n=[n]from rfl];refine e_ ?_;have Q:=k.tr st n _ d hp;refine ab Q.i_ ?_;refine km ?_;refine Q.DU rfl ?_;intro v' a0 an ad;refine ab an ?_;refine km ?_;refine k.ly.JB bf rfl z (a:=v') rfl ?_;intro A ay E bk;refine km ?_
  have a3:=R.s.s3;have Y:∀j,hY n=some j->k1<=j:=λj f=>l.nb st n j d f;have al:∀(j:Nat) o,h[j]?=some o->hY c.us≠some j->hY c.lay≠some j->A[j]?=some o:=λj o f q b2=>E j o (D j o f q) b2;have aE:P A:=R.kp h A M λj o j1 j2 f=>al j o f (λe=>j2 (R.m1 j (.inr (.inl e)))) (λe=>j2 (R.m1 j (.inr (.inr e))));have ap:Mt A c k1 W (us.set id false) (J.set st p) (lv.set st v'):=by
   refine k.Ip R.s u ay (a0.j9 λj o f hb=>E j o f λe=>?_) (λx L=>Y x (by rw[←ad];exact L)) (λj w x a4 hw L a5=>a4 (l.dj j st w n x hw d a5 (by rw[←ad];exact L))) λj o f q _=>E j o f q
   grind
  have ag:q9 A x 1 mc T:=L.j9 λj o f hb=>al j o f (λe=>by
   have a1:=(R.s.s2 j e).1
   grind) λe=>by
   grind
  refine bz ag ?_;refine aJ (m:=T.length) (λm ls g=>∃j,ls=[.i (ofNat j)]/\m=T.length - j/\j<=T.length/\P g/\Mt g c k1 (Iy (T.take j) W) (us.set id false) (J.set st p) (lv.set st v')/\(∀(i:Nat) o,A[i]?=some o->hY c.va≠some i->g[i]?=some o)/\g.length=A.length) ⟨0,rfl,rfl,C6 _,aE,ap,λi o t _=>t,rfl⟩ ?_;rintro m ls g ⟨j,rfl,rfl,f,O,B,V,bl⟩ a8 I;refine Di ?_;refine e_ ?_;by_cases G:j<T.length
  case neg=>
   obtain rfl:j=T.length:=a_;rw[aM (A9 _)];refine e_ ?_
   grind
  rw[aN G];refine e_ ?_;obtain⟨y,hy⟩:=aq G;have a6:q9 g x 1 mc T:=ag.j9 λi o t hb=>V i o t λe=>by
   have a1:=(R.s.s1 i e).1
   grind
  refine aP a6 rfl hy ?_;rw[show mc y=[.int .i64 (ofNat y)]from rfl];refine e_ ?_;refine bv (ds:=[c.va]) (R.hb g O) (by simp[ah]) rfl ?_;refine e_ ?_;refine ab (B.va.i_ eh) ?_;refine km ?_;refine B.va.JB eh rfl (by rw[L6];exact a2 y (Cf hy)) (a:=0) rfl ?_;intro g' av C bb;refine km ?_;rw[aY a_];refine I _ _ _ ?_ ⟨j+1,rfl,rfl,G,R.keepV O λi o t q _=>C i o t q,B.setV R.s ?_ λi o t q _=>C i o t q,λi o t q=>C i o (V i o t q) q,a_⟩
  .omega
  .rw[Ii,hy,show(some y).toList=[y]from rfl,Xt];exact av)
 grind
end
def JC{e id n o cx:Nat}:Ex e (.slice (some ⟨id,o,le e⟩) n cx) none (some (ofNat n)) (some (ofNat n))=some (.slice (some ⟨id,o,le e⟩) n (n+1)):=by
 unfold Ex;simp only;rw[te c_,rv (by simp[bS])];simp[ew,bK]
def KQ{i7:Type}{h:HL}{e:Nat}{enc:i7->Tn}{l:List i7}(b:q9 h (.slice none 0 0) e enc l):l=[]:=by
 rcases b.2.2 with⟨_,g⟩|⟨id,c,f,i,d,a,_,_⟩
 .simp_all
 .cases a
def gz{h:HL}{x:TR}{l:TD}(k:q9 h x 3 n4 l)(N:l.length<=1000000) :
  ∃b r h',aA cc ac 112 [.v x] (g_ aa h) [.v b] (g_ aa h')/\(∀g:HL,aA cc ac 111 [.v b] (g_ aa g) [.v r] (g_ aa g))/\h_ h.length h' r 3 n4 l/\aF b=true/\(∀(j:Nat) o,h[j]?=some o->h'[j]?=some o)/\h.length<=h'.length:=by
 have m:∃b h',aA cc ac 112 [.v x] (g_ aa h) [.v b] (g_ aa h')/\h_ h.length h' b 3 n4 l/\(∀(j:Nat) o,h[j]?=some o->h'[j]?=some o)/\h.length<=h'.length:=by
  by_cases f:x = .slice none 0 0
  .subst f;refine⟨.slice none 0 0,h,?_,.inl ⟨rfl,KQ k⟩,λj o i=>i,A9 _⟩;exact xK x112 (q7 rfl t0) (by
    unfold Sw;simp only[u5]
    repeat (first|simp(disch:=omega)only[↓nc]|refine ae (x:=true) rfl ?_)
    simp_all)
  .have B:∃a n c,x = .slice (some a) n c:=by
    rcases k.2.2 with⟨C,_⟩|⟨id,D,y,Q,I,rfl,_,_⟩
    .exact absurd C f
    simp_all
   have O:=x112 (ls:=[.v x]) (K:=λG h'=>∃b,G=[.v b]/\h_ h.length h' b 3 n4 l/\(∀(j:Nat) o,h[j]?=some o->h'[j]?=some o)/\h.length<=h'.length) (H:=h) (q7 k.i_ t0) (by
    unfold Sw;simp only[u5];refine e_ ?_;obtain⟨a,n,c,rfl⟩:=B;refine ae (x:=false) rfl ?_;refine e_ ?_;have z:h_ h.length (h++[HO.o (.cells [] 3 true)]) (.slice (some ⟨h.length,0,le 3⟩) 0 1) 3 n4 []:=h_.emp aD (A9 _);refine z.N_ (λ_=>rfl) c_ (k.pre ⟨_,rfl⟩) ua ua ?_;intro J h' s t u w _;refine e_ ?_;refine ab t ?_;refine km ?_;refine⟨J,C2,by simpa using s,λj o i=>u j o (cX i) λe=>?_,by simp at w;omega⟩;have L:=am i;have M:h.length=j:=by simpa[hY]using e
    omega)
   grind
 obtain⟨b,h',p,A,q,d⟩:=m;rcases A with⟨rfl,rfl⟩|⟨id,y,rfl,E,F,P⟩
 .refine⟨.slice none 0 0,.slice none 0 0,h',p,λg=>?_,.inl ⟨rfl,rfl⟩,rfl,q,d⟩;exact xK Sn (q7 rfl t0) (by
   unfold Sv;simp only[u5]
   repeat (first|simp(disch:=omega)only[↓nc]|refine ae (x:=(0:Int)) rfl ?_|refine ae (x:=Value.slice none 0 0) rfl ?_|refine ab rfl ?_)
   simp_all)
 .refine⟨_,.slice (some ⟨id,0,le 3⟩) l.length (l.length+1),h',p,λg=>?_,.inr ⟨id,_,rfl,E,F,.inr rfl⟩,cV,q,d⟩;exact xK Sn (q7 cV t0) (by
   unfold Sv;simp only[u5];refine e_ ?_;refine ae (x:=ofNat l.length) rfl ?_;refine ae (x:=ofNat l.length) rfl ?_;refine ae JC ?_;refine ab cV ?_
   simp_all)
def xf{h:HL}{x:TR}{l:TC}(k:q9 h x 1 mc l)(N:l.length<=1000000) :
  ∃b r h',aA cc ac 114 [.v x] (g_ aa h) [.v b] (g_ aa h')/\(∀g:HL,aA cc ac 113 [.v b] (g_ aa g) [.v r] (g_ aa g))/\h_ h.length h' r 1 mc l/\aF b=true/\(∀(j:Nat) o,h[j]?=some o->h'[j]?=some o)/\h.length<=h'.length:=by
 have m:∃b h',aA cc ac 114 [.v x] (g_ aa h) [.v b] (g_ aa h')/\h_ h.length h' b 1 mc l/\(∀(j:Nat) o,h[j]?=some o->h'[j]?=some o)/\h.length<=h'.length:=by
  by_cases f:x = .slice none 0 0
  .subst f;refine⟨.slice none 0 0,h,?_,.inl ⟨rfl,KQ k⟩,λj o i=>i,A9 _⟩;exact xK x114 (q7 rfl t0) (by
    unfold Sz;simp only[u5]
    repeat (first|simp(disch:=omega)only[↓nc]|refine ae (x:=true) rfl ?_)
    simp_all)
  .have B:∃a n c,x = .slice (some a) n c:=by
    rcases k.2.2 with⟨C,_⟩|⟨id,D,y,Q,I,rfl,_,_⟩
    .exact absurd C f
    simp_all
   have O:=x114 (ls:=[.v x]) (K:=λG h'=>∃b,G=[.v b]/\h_ h.length h' b 1 mc l/\(∀(j:Nat) o,h[j]?=some o->h'[j]?=some o)/\h.length<=h'.length) (H:=h) (q7 k.i_ t0) (by
    unfold Sz;simp only[u5];refine e_ ?_;obtain⟨a,n,c,rfl⟩:=B;refine ae (x:=false) rfl ?_;refine e_ ?_;have z:h_ h.length (h++[HO.o (.cells [] 1 true)]) (.slice (some ⟨h.length,0,le 1⟩) 0 1) 1 mc []:=h_.emp aD (A9 _);refine z.N_ (λ_=>rfl) c_ (k.pre ⟨_,rfl⟩) ua ua ?_;intro J h' s t u w _;refine e_ ?_;refine ab t ?_;refine km ?_;refine⟨J,C2,by simpa using s,λj o i=>u j o (cX i) λe=>?_,by simp at w;omega⟩;have L:=am i;have M:h.length=j:=by simpa[hY]using e
    omega)
   grind
 obtain⟨b,h',p,A,q,d⟩:=m;rcases A with⟨rfl,rfl⟩|⟨id,y,rfl,E,F,P⟩
 .refine⟨.slice none 0 0,.slice none 0 0,h',p,λg=>?_,.inl ⟨rfl,rfl⟩,rfl,q,d⟩;exact xK So (q7 rfl t0) (by
   unfold Sy;simp only[u5]
   repeat (first|simp(disch:=omega)only[↓nc]|refine ae (x:=(0:Int)) rfl ?_|refine ae (x:=Value.slice none 0 0) rfl ?_|refine ab rfl ?_)
   simp_all)
 .refine⟨_,.slice (some ⟨id,0,le 1⟩) l.length (l.length+1),h',p,λg=>?_,.inr ⟨id,_,rfl,E,F,.inr rfl⟩,cV,q,d⟩;exact xK So (q7 cV t0) (by
   unfold Sy;simp only[u5];refine e_ ?_;refine ae (x:=ofNat l.length) rfl ?_;refine ae (x:=ofNat l.length) rfl ?_;refine ae JC ?_;refine ab cV ?_
   simp_all)
abbrev Zk:=K3×Value×List Nat
def HV(s:Zk):Tn:=EV s.1++[s.2.1]
def gO(s:Zk):(HV s).length=4:=rfl
def StO(n0:Nat)(h:HL)(v:Value)(l:List (K3×List Nat)):Prop:=∃L:List Zk,h_ n0 h v 4 HV L/\(∀s∈L,h_ n0 h s.2.1 1 mc s.2.2)/\L.map (λs=>(s.1,s.2.2))=l
section
variable {b:Nat} {c:XC} {U:List Lit} {F:List A5} {pn:Ti} {AT:List K3} {IDS:List (TC)} {CR:TD} {k1:Nat} {mu:Tz} {P:HL->Prop} (R:Ro b c U F pn AT IDS CR k1 mu P)
include R
theorem Xc{h:HL}(J:P h){W:TE}{us:Ty}{n:List (TC)}{lv:Tn}(hM:Mt h c k1 W us n lv)(ad:n.length=AT.length)(ag:∀l∈n,l.length<=1000000) :
  ∃xc X h',aA cc ac 74 [.v (ka b)] (g_ aa h) [.i (ofNat c.w),.i (ofNat c.v),.v xc,.i (ofNat c.r.1),.i c.r.2.1,.i c.r.2.2,.v X] (g_ aa h')/\
   h_ h.length h' xc 3 n4 CR/\StO h.length h' X (AT.zip n)/\(∀(j:Nat) o,h[j]?=some o->h'[j]?=some o)/\h.length<=h'.length:=by
 have bb:=x74 (ls:=[.v (ka b)]) (K:=λrs h'=>∃xc X,rs=[.i (ofNat c.w),.i (ofNat c.v),.v xc,.i (ofNat c.r.1),.i c.r.2.1,.i c.r.2.2,.v X]/\
   h_ h.length h' xc 3 n4 CR/\StO h.length h' X (AT.zip n)/\(∀(j:Nat) o,h[j]?=some o->h'[j]?=some o)/\h.length<=h'.length) (H:=h) (q7 (ar _) t0) (by
  unfold f74;simp only[u5];refine e_ ?_;refine bv (ds:=[.int .i64 (ofNat c.w),.int .i64 (ofNat c.v),c.xc]) (R.hb h J) (by simp[ah]) rfl ?_;refine e_ ?_;have hC:=R.xc h J;refine ab hC.i_ ?_;refine km ?_;obtain⟨x1,xc,f,c1,c2,o1,a4,T,aE⟩:=gz hC R.cl;refine ak c1 ?_;refine e_ ?_;refine ak (c2 f) ?_;refine e_ ?_;have q:P f:=R.kp h f J λj o _ _ Q=>T j o Q;refine jK (ds:=[.int .u8 (ofNat c.r.1),.int .i64 c.r.2.1,.int .i64 c.r.2.2]) (R.hb f q) (by simp[ah]) rfl ?_;refine e_ ?_;refine bv (ds:=[c.at_]) (R.hb f q) (by simp[ah]) rfl ?_;refine e_ ?_;have E:=R.ia f q;refine ab E.i_ ?_;refine km ?_;refine bz E ?_;refine ae (dN (by have:=R.al;omega)) ?_;refine km ?_;have a1:=R.lt h J;have a6:=R.bk;refine ae (x:=()) (cZ (bR ⟨_,_,_,rfl⟩ λi d=>?_) eR) ?_
  .have:f.length=i:=by simpa[hY]using d
   omega
  have ay:(ofNat AT.length).toNat=AT.length:=rfl;rw[ay];have z0:HO.o (.cells (aL [.int .i64 0,.int .i64 0,.int .u8 0,.slice none 0 0] AT.length) 4 true)=HO.o (.cells ((replicate AT.length (((0,0,0),.slice none 0 0,[]):Zk)).flatMap HV) 4 true):=by
   rw[←cT];rfl
  rw[z0];obtain⟨k,e2⟩ : ∃k,k=f++[HO.o (.cells ((replicate AT.length (((0,0,0),.slice none 0 0,[]):Zk)).flatMap HV) 4 true)]:=⟨_,rfl⟩;rw[←e2];have av:k[f.length]?=some (.o (.cells ((replicate AT.length (((0,0,0),.slice none 0 0,[]):Zk)).flatMap HV) 4 true)):=by rw[e2];exact aD
  have D:∀(j:Nat) o,f[j]?=some o->k[j]?=some o:=λj o Q=>jn;have bd:k.length=f.length+1:=by rw[e2];simp
  have M:P k:=R.kp f k q λj o _ _ Q=>D j o Q;refine km ?_;refine bv (ds:=[c.at_]) (R.hb k M) (by simp[ah]) rfl ?_;refine e_ ?_;have G:=R.ia k M;refine ab G.i_ ?_;refine km ?_;refine bz G ?_;have a2:(AT.zip n).length=AT.length:=kb;refine aJ (m:=AT.length) (λm ls g=>∃j L,ls=[.i (ofNat j)]/\m=AT.length - j/\j<=AT.length/\L.length=AT.length/\h_ h.length g (.slice (some ⟨f.length,0,le 4⟩) AT.length (AT.length+1)) 4 HV L/\(∀s∈L,h_ h.length g s.2.1 1 mc s.2.2/\hY s.2.1≠some f.length)/\(L.take j).map (λs=>(s.1,s.2.2))=(AT.zip n).take j/\
   (∀(i:Nat) o,k[i]?=some o->i≠f.length->g[i]?=some o)/\k.length<=g.length) ⟨0,replicate AT.length ((0,0,0),.slice none 0 0,[]),rfl,rfl,C6 _,qcF ..,.inr ⟨f.length,_,by rw[qcF],aE,av,.inr kb⟩,λs A=>by
    rw[qc8 A];exact⟨.inl ⟨rfl,rfl⟩,λe=>by cases e⟩,rfl,λi o d _=>d,A9 _⟩ ?_
  rintro m ls g ⟨j,L,rfl,rfl,Q,a0,I,O,ax,z,a9⟩ a3 B;refine Di ?_;have C:∀(i:Nat) o,h[i]?=some o->g[i]?=some o:=λi o d=>z i o (D i o (T i o d)) jn;have N:P g:=R.kp h g J λi o _ _ d=>C i o d;have u:Mt g c k1 W us n lv:=hM.j9 λi o d _=>C i o d;refine e_ ?_;by_cases t:j<AT.length
  case neg=>
   obtain rfl:j=AT.length:=a_;rw[aM (A9 _)];refine e_ ?_;refine⟨xc,_,rfl,o1.j9 λi o d Y=>z i o (D i o d) jn,⟨L,I,λs A=>(O s A).1,?_⟩,λi o d=>C i o d,a_⟩
   grind
  rw[aN t];refine e_ ?_;obtain⟨a,ha⟩:=aq t;refine aP (R.ia g N) rfl ha ?_;rw[show EV a=[.int .i64 a.1,.int .i64 a.2.1,.int .u8 (ofNat a.2.2)]from rfl];refine e_ ?_;refine bv (ds:=[c.lay]) (R.hb g N) (by simp[ah]) rfl ?_;refine e_ ?_;refine ab (u.ly.i_ bf) ?_;refine km ?_;obtain⟨v,hv⟩:=aq (l:=lv) (i:=j) (by rw[hM.ln,ad];exact t);obtain⟨p,hp⟩:=aq (l:=n) (i:=j) a_;refine aP (u.ly.ls bf) rfl hv ?_;rw[show CQ v=[v]from rfl];refine e_ ?_;have hT:=(u.tr j v p hv hp).ls;refine ab hT.i_ ?_;refine km ?_;obtain⟨y1,Z,g',c3,c4,o3,a5,k3,l3⟩:=xf hT (ag p (Cf hp));refine ak c3 ?_;refine e_ ?_;refine ak (c4 g') ?_;refine e_ ?_;have an:h_ h.length g' (.slice (some ⟨f.length,0,le 4⟩) AT.length (AT.length+1)) 4 HV L:=I.j9 λi o d _=>k3 i o d;refine an.JB gO rfl a_ (a:=(a,Z,p)) rfl ?_;intro g4 ap y a8;refine km ?_;rw[aY (by have:=R.al;omega)];have a7:f.length<g.length:=a_;refine B _ _ _ ?_ ⟨j+1,L.set j (a,Z,p),rfl,rfl,t,jn,ap,λs A=>?_,?_,λi o d S=>y i o (k3 i o (z i o d S)) λe=>S (by cases e;rfl),a_⟩
  .omega
  .rcases i0 A with A|rfl
   .obtain⟨q1,V⟩:=O s A;refine⟨q1.j9 λi o d Y=>y i o (k3 i o d) λe=>V ?_,V⟩;rw[Y,←e];rfl
   .have V:hY Z≠some f.length:=λe=>by
     have:=(o3.hY e).1;omega
    refine⟨?_,V⟩;have o5:h_ g.length g4 Z 1 mc p:=o3.j9 λi o d Y=>y i o d λe=>V (by rw[Y,←e];rfl);rcases o5 with h0|⟨id,cx,r1,r2,r3⟩
    .exact .inl h0
    .exact .inr ⟨id,cx,r1,a_,r3⟩
  .rw[Ii,Ii,Ij,List.take_set_of_le a_,ax]
   grind)
 grind
end
end Go.Am
namespace Go.Am
open Sx
structure Gl(IDS:List (TC))(N:Nat):Prop where
 ne:∀l∈IDS,l≠[]
 lt:∀l∈IDS,∀x∈l,x<N
 nd:∀l∈IDS,l.Nodup
 dj:IDS.Pairwise λa b=>∀x∈a,x∉b
structure ND(U:List Lit)(pn:Ti)(S:(Nat->Bool)->Prop)(F:List A5)(N:Nat)(W:TE)(us:Ty)(I0:List (TC))(D:List (TC))(p ids:TC)(Q:List (TC)):Prop where
 nod:L8 U pn S W D p (CE us ids)
 ul:us.length=N
 dl:D.length=I0.length
 pm:(p++CE us ids).Perm ids
 dm:∀(i:Nat) d l,D[i]?=some d->I0[i]?=some l->d.Perm l
 fr:∀l∈Q,∀x∈l,us.getD x false=false
 ev:(p≠[]∨D≠[])->HF U W F
section
variable {U:List Lit} {pn:Ti} {S:(Nat->Bool)->Prop} {F:List A5} {N:Nat} {W:TE} {us:Ty} {I0 D:List (TC)} {p ids:TC} {Q:List (TC)} (g:Gl (I0++ids :: Q) N) (hn:ND U pn S F N W us I0 D p ids Q)
include g hn
theorem ND.child{id:Nat}(i':id∈CE us ids){c:TE}(h1:L8 U pn S c D (p++[id]) ((CE us ids).erase id))(i:HF U c F):ND U pn S F N c (us.set id true) I0 D (p++[id]) ids Q:=by
 have f:ids∈I0++ids :: Q:=c_;obtain⟨d,m⟩:=pQ.1 i';have b:=tA (us:=us) (g.nd ids f) (id:=id) (by rw[hn.ul];exact g.lt ids f id d);refine⟨by rw[b];exact h1,by rw[FG];exact hn.ul,hn.dl,?_,hn.dm,λl b x h=>?_,λ_=>i⟩
 .rw[b,EF];refine List.Perm.trans ?_ hn.pm
  grind
 .have a:=g.dj;rw[j2]at a;have j:=(Jp.1 a.2.1).1 l b id d;have k:id≠x:=λe=>j (by rw[e];exact h);have:=hn.fr l b x h
  simp_all
theorem ND.pne(h0:CE us ids=[]):p≠[]:=λe=>by
 have:=hn.pm;rw[h0,e]at this;exact g.ne ids c_ this.symm.eq_nil
theorem ND.next{l:TC}{h:List (TC)}(h0:CE us ids=[])(j:Q=l :: h):ND U pn S F N W us (I0++[ids]) (D++[p]) [] l h:=by
 subst j;have k:CE us l=l:=by
  unfold CE;rw[qcP];intro x m;rw[hn.fr l c_ x m];rfl
 have b:=hn.nod;rw[h0]at b;refine⟨by rw[k];exact b.next,hn.ul,by simp[hn.dl],kb,λi d f c a=>?_,λf a=>hn.fr f (by simp[a]),λ_=>hn.ev (.inl (ND.pne g hn h0))⟩;rw[r5]at c a;by_cases e:i<D.length
 .rw[rv e]at c;rw[rv (by rw[←hn.dl];exact e)]at a;exact hn.dm i d f c a
 .rw[te e]at c;rw[te (by rw[←hn.dl];exact e),←hn.dl]at a;have:i - D.length=0:=by
   grind
  rw[this]at c a;cases c;cases a;have:=hn.pm
  simp_all
theorem ND.leaf{r:TF}(m:Hv U r)(h0:CE us ids=[])(n:Q=[])(t:∀f∈F,∀l∈[f.1,f.2.1,f.2.2.1,f.2.2.2],∃q∈I0++ids :: Q,∃a∈q,∃b∈q,a≠b/\l=Dc pn a b):Db pn S F (D++[p])=true:=by
 subst n;have c:=hn.nod;rw[h0]at c;refine c.leaf m (hn.ev (.inl (ND.pne g hn h0))) λf j l u=>?_;obtain⟨q,h,a,w,b,x,o,e⟩:=t f j l u;rcases Ek.1 h with h|h
 .obtain⟨i,k⟩:=Ev h;obtain⟨d,s⟩:=aq (l:=D) (i:=i) (by rw[hn.dl];exact am k);have v:=hn.dm i d q s k
  grind
 .rw[Fc]at h;subst h;have v:=hn.pm
  grind
end
section
variable {g9:Type} (f:List (TC)->g9->g9×Bool) (ok:List (TC)->Bool)
def SO(D:List (TC))(p r:TC)(Q:List (TC))(l:TC):List (List (TC)):=l.flatMap λa=>Fq D (p++[a]) (r.erase a) Q
def KF{D:List (TC)}{p r:TC}{Q:List (TC)}(a:r≠[]):SO D p r Q r=Fq D p r Q:=(zj a).symm
def xe{D:List (TC)}{p r:TC}{Q:List (TC)}{l m:TC}:(SO D p r Q (l++m)).filter ok=(SO D p r Q l).filter ok++(SO D p r Q m).filter ok:=by
 unfold SO
 simp_all
def KG{D:List (TC)}{p r:TC}{Q:List (TC)}{a:Nat}:SO D p r Q [a]=Fq D (p++[a]) (r.erase a) Q:=by
 unfold SO;simp
end
end Go.Am
namespace Go.Am
open Sx Go.Proofs
def MB(l:Nat):I3 (.func (.yield l) #[] #[]) (.func (.yield l) #[] #[])=some ():=by
 unfold I3
 simp_all
abbrev stY(c:XC)(xc a:Value):List S0:=[.agg [.i .i64 (ofNat c.w),.i .i64 (ofNat c.v),.v xc,.i .u8 (ofNat c.r.1),.i .i64 c.r.2.1,.i .i64 c.r.2.2,.v a]]
structure Yl{g9:Type}(l:Nat)(c:XC)(AT:List K3)(CR:TD)(k1:Nat)(mu:Tz)(f:List (TC)->g9->g9×Bool)(X:List (List (TC)))(live:g9->Prop)(J:g9->(Nat->Prop)->HL->Prop):Prop where
 kp:∀s B h h',J s B h->(∀(j:Nat) o,B j->h[j]?=some o->h'[j]?=some o)->J s B h'
 lt:∀s B h,J s B h->∀j,B j->j<h.length
 sp:∀s B h,J s B h->∀j,B j->(mu j∨k1<=j)/\hY c.va≠some j/\hY c.us≠some j/\hY c.lay≠some j
 y:∀s B h,J s B h->live s->∀x∈X,∀n0 xc sv,(∀j,B j->j<n0)->n0<=h.length->h_ n0 h xc 3 n4 CR->StO n0 h sv (AT.zip x)->
  ∃h' B',ip cc l (aj (stY c xc sv)) (g_ aa h) (.bool (f x s).2) (g_ aa h')/\J (f x s).1 B' h'/\(∀(j:Nat) o,h[j]?=some o->¬B j->j<n0->h'[j]?=some o)/\h.length<=h'.length/\(∀j,B' j->B j∨n0<=j)/\((f x s).2=true->live (f x s).1)
def IU(q1 q2 q3:Nat):Value:=.func (.func 73) ⟨[]⟩ ⟨[ka q1,ka q2,ka q3]⟩
structure Qc(h:HL)(b l q1 q2 q3:Nat):Prop where
 c1:h[q1]?=some (.o (.cells [ka b] 1 true))
 c2:h[q2]?=some (.o (.cells [.func (.yield l) #[] #[]] 1 true))
 c3:h[q3]?=some (.o (.cells [IU q1 q2 q3] 1 true))
def Qc.j9{h h':HL}{b l q1 q2 q3:Nat}(c:Qc h b l q1 q2 q3)(a:∀(j:Nat) o,h[j]?=some o->j=q1∨j=q2∨j=q3->h'[j]?=some o):Qc h' b l q1 q2 q3:=
 ⟨a _ _ c.c1 (.inl rfl),a _ _ c.c2 (.inr (.inl rfl)),a _ _ c.c3 (.inr (.inr rfl))⟩
section
variable {b:Nat} {c:XC} {U:List Lit} {F:List A5} {pn:Ti} {AT:List K3} {IDS:List (TC)} {CR:TD} {k1:Nat} {mu:Tz} {P:HL->Prop} (R:Ro b c U F pn AT IDS CR k1 mu P)
 {g9:Type} {l:Nat} {f:List (TC)->g9->g9×Bool} {X:List (List (TC))} {live:g9->Prop} {J:g9->(Nat->Prop)->HL->Prop} (Y:Yl l c AT CR k1 mu f X live J)
include R Y
theorem s6{h:HL}(p:P h){W:TE}{us:Ty}{a:List (TC)}{lv:Tn}(z:Mt h c k1 W us a lv)(m:a.length=AT.length)(n:∀l∈a,l.length<=1000000){q1 q2 q3:Nat}(e:Qc h b l q1 q2 q3){s:g9}{B:Tz}(u:J s B h)(r:live s)(A:a∈X) :
  ∃h' B',aA cc ac 73 [.i (ofNat AT.length),.v (ka q1),.v (ka q2),.v (ka q3)] (g_ aa h) [.b (f a s).2] (g_ aa h')/\J (f a s).1 B' h'/\(∀(j:Nat) o,h[j]?=some o->¬B j->h'[j]?=some o)/\h.length<=h'.length/\(∀j,B' j->B j∨h.length<=j)/\((f a s).2=true->live (f a s).1):=by
 have D:=x73 (ls:=[.i (ofNat AT.length),.v (ka q1),.v (ka q2),.v (ka q3)]) (K:=λL h'=>L=[.b (f a s).2]/\∃B',J (f a s).1 B' h'/\(∀(j:Nat) o,h[j]?=some o->¬B j->h'[j]?=some o)/\h.length<=h'.length/\(∀j,B' j->B j∨h.length<=j)/\((f a s).2=true->live (f a s).1)) (H:=h) (k_ (q7 (ar _) (q7 (ar _) (q7 (ar _) t0)))) (by
  unfold f73;simp only[u5];refine e_ ?_;refine cU (ba e.c1) rfl ?_;refine e_ ?_;refine ab (ar _) ?_;refine km ?_;refine bv (ds:=[c.at_]) (R.hb h p) (by simp[ah]) rfl ?_;refine e_ ?_;have hA:=R.ia h p;refine ab hA.i_ ?_;refine km ?_;refine bz hA ?_;rw[ra rfl];refine e_ ?_;refine cU (ba e.c2) rfl ?_;refine e_ ?_;refine ab rfl ?_;refine km ?_;refine cU (ba e.c1) rfl ?_;refine e_ ?_;refine ab (ar _) ?_;refine km ?_;obtain⟨xc,w,g,x,G,I,d,E⟩:=Xc R p z m n;refine ak x ?_;refine e_ ?_;have k:J s B g:=Y.kp s B h g u λj o _ q=>d j o q;obtain⟨h',B',C,M,N,O,Q,S⟩:=Y.y s B g k r a A h.length xc w (λj q=>Y.lt s B h u j q) E G I;have t:=d _ _ e.c2;refine cU (ba t) rfl ?_;refine e_ ?_;refine ab rfl ?_;refine km ?_;refine ae (MB l) ?_;refine km ?_;refine Wj (ys:=stY c xc w) C ?_;refine e_ ?_
  grind)
 grind
end
def vE{i7:Type}{h:HL}{v:TR}{e:Nat}{enc:i7->Tn}{l:List i7}(c:q9 h v e enc l){j:Nat}(a:hY v=some j):j<h.length:=by
 rcases c.2.2 with⟨rfl,_⟩|⟨id,d,g,i,f,rfl,b,_⟩
 .cases a
 .cases a;exact am b
def kM(q1 q2 q3:Nat):aF (IU q1 q2 q3)=true:=by simp[IU,aF,n_,aS,bB,bi,aO,aH]
def KU{i7:Type}{a:i7}:∀ {D Z:List i7} {x:i7},(D++x :: Z).set D.length a=D++a :: Z
 | [],_,_=>rfl
 |d :: D,Z,x=>by
  simp_all
def zr{i7:Type}{D Z:List i7}{x:i7}:(D++x :: Z)[D.length]?=some x:=by
 simp_all
structure Sep(lv:Tn)(B:Tz)(k1 q1 q2 q3:Nat):Prop where
 lb:∀v∈lv,∀j,hY v=some j->¬B j
 q:∀j,j=q1∨j=q2∨j=q3->k1<=j/\¬B j/\∀v∈lv,hY v≠some j
section
variable {b:Nat} {c:XC} {U:List Lit} {F:List A5} {pn:Ti} {AT:List K3} {IDS:List (TC)} {CR:TD} {k1:Nat} {mu:Tz} {P:HL->Prop} (R:Ro b c U F pn AT IDS CR k1 mu P)
 {g9:Type} {l:Nat} {f:List (TC)->g9->g9×Bool} {X:List (List (TC))} {live:g9->Prop} {J:g9->(Nat->Prop)->HL->Prop} (Y:Yl l c AT CR k1 mu f X live J)
 {r:TF} (hF:Hv U r) {N:Nat} (hG:Gl IDS N) (hf0:∀f∈F,∀l∈[f.1,f.2.1,f.2.2.1,f.2.2.2],∃q∈IDS,∃a∈q,∃b∈q,a≠b/\l=Dc pn a b) {S:(Nat->Bool)->Prop} {q1 q2 q3:Nat}
include R Y hF hG hf0
theorem kE:∀(m:Nat) (I0 D:List (TC)) (p d:TC) (Q:List (TC)) (W:TE) (us:Ty) (lv:Tn) (h:HL) (s:g9) (B:Tz),m=(Q.map λl=>l.length+1).sum+(CE us d).length->IDS=I0++d :: Q->ND U pn S F N W us I0 D p d Q->(∀x∈Fq D p (CE us d) Q,x∈X)->P h->Mt h c k1 W us (D++p :: Q.map λ_=>[]) lv->
  Qc h b l q1 q2 q3->Sep lv B k1 q1 q2 q3->J s B h->live s->
  ∃h' B' ad,aA cc ac 73 [.i (ofNat D.length),.v (ka q1),.v (ka q2),.v (ka q3)] (g_ aa h) [.b (FX f ((Fq D p (CE us d) Q).filter (Db pn S F)) s).2] (g_ aa h')/\P h'/\Mt h' c k1 W us (D++p :: Q.map λ_=>[]) ad/\
   J (FX f ((Fq D p (CE us d) Q).filter (Db pn S F)) s).1 B' h'/\((FX f ((Fq D p (CE us d) Q).filter (Db pn S F)) s).2=true->live (FX f ((Fq D p (CE us d) Q).filter (Db pn S F)) s).1)/\
   (∀v∈ad,∀j,hY v=some j->((∃w∈lv,hY w=some j)∨h.length<=j)/\¬B' j)/\(∀j,B' j->B j∨h.length<=j)/\(∀(j:Nat) o,k1<=j->h[j]?=some o->(∀v∈lv,hY v≠some j)->¬B j->h'[j]?=some o)/\h.length<=h'.length:=by
 intro m
 induction m using Nat.strongRecOn with
 |_ m ih=>
 intro I0 D p d Q W us lv h s B hm hI hN hX hP hM hq hs hJ M;have et:D.length=I0.length:=hN.dl;have dA:IDS.length=I0.length+(Q.length+1):=by rw[hI];simp
 have ek:=R.il;have ag:IDS[D.length]?=some d:=jn;have bx:(D++p :: Q.map λ_=>([]:TC))[D.length]?=some p:=zr;have av:(D++p :: Q.map λ_=>([]:TC)).length=AT.length:=by
  simp;omega
 have ay:d∈IDS:=Cf ag;obtain⟨d7,ez,eB⟩:=R.ib d ay;have eC:p.length+(CE us d).length=d.length:=by
  have:=hN.pm.length_eq
  grind
 obtain⟨v0,c8⟩:=aq (l:=lv) (i:=D.length) (by rw[hM.ln,av];omega);have cs:=hM.tr D.length v0 p c8 bx;obtain⟨vs,i2,i4⟩:=R.ids;obtain⟨i1,i3⟩:=i4 h hP;obtain⟨vi,a8⟩:=aq (l:=vs) (i:=D.length) a_;have a5:=i3 D.length vi d a8 ag;have es:D.length<=1000000:=by have:=R.al;omega
 obtain⟨V,eV⟩ : ∃V,V=FX f ((Fq D p (CE us d) Q).filter (Db pn S F)) s:=⟨_,rfl⟩;rw[←eV];have eG:=x73 (ls:=[.i (ofNat D.length),.v (ka q1),.v (ka q2),.v (ka q3)]) (K:=λrs h'=>rs=[.b V.2]/\∃B' ad,P h'/\Mt h' c k1 W us (D++p :: Q.map λ_=>[]) ad/\J V.1 B' h'/\(V.2=true->live V.1)/\
   (∀v∈ad,∀j,hY v=some j->((∃w∈lv,hY w=some j)∨h.length<=j)/\¬B' j)/\(∀j,B' j->B j∨h.length<=j)/\(∀(j:Nat) o,k1<=j->h[j]?=some o->(∀v∈lv,hY v≠some j)->¬B j->h'[j]?=some o)/\h.length<=h'.length) (H:=h) (k_ (q7 (ar _) (q7 (ar _) (q7 (ar _) t0)))) (by
  unfold f73;simp only[u5];refine e_ ?_;refine cU (ba hq.c1) rfl ?_;refine e_ ?_;refine ab (ar _) ?_;refine km ?_;refine bv (ds:=[c.at_]) (R.hb h hP) (by simp[ah]) rfl ?_;refine e_ ?_;have hA:=R.ia h hP;refine ab hA.i_ ?_;refine km ?_;refine bz hA ?_;rw[wb (λe=>jn)];refine e_ ?_;refine cU (ba hq.c1) rfl ?_;refine e_ ?_;refine ab (ar _) ?_;refine km ?_;refine bv (ds:=[c.lay]) (R.hb h hP) (by simp[ah]) rfl ?_;refine e_ ?_;refine ab (hM.ly.i_ bf) ?_;refine km ?_;refine aP (hM.ly.ls bf) rfl c8 ?_;rw[show CQ v0=[v0]from rfl];refine e_ ?_;refine ab cs.i_ ?_;refine km ?_;refine bz cs.ls ?_;refine cU (ba hq.c1) rfl ?_;refine e_ ?_;refine ab (ar _) ?_;refine km ?_;refine bv (ds:=[c.ids]) (R.hb h hP) (by simp[ah]) rfl ?_;refine e_ ?_;refine ab i1.i_ ?_;refine km ?_;refine aP i1 rfl a8 ?_;rw[show CQ vi=[vi]from rfl];refine e_ ?_;refine ab a5.i_ ?_;refine km ?_;refine bz a5 ?_;by_cases hr:CE us d=[]
  · -- a stack is done
   have d9:(CE us d).length=0:=by rw[hr];rfl
   rw[ra (congrArg ofNat a_)];refine e_ ?_;refine cU (ba hq.c3) rfl ?_;refine e_ ?_;refine ab (kM q1 q2 q3) ?_;refine km ?_;rw[aY a_,show ofNat D.length+1=ofNat (D.length+1)from rfl];cases hQ:Q with
   |nil=>
    subst hQ;have b0:=hN.leaf (hI▸hG) hF hr rfl (λf hf l hl=>by
     have:=hf0 f hf l hl
     rwa [hI]at this)
    have d0:D++[p]∈X:=hX _ (by rw[hr,zh];simp);have bC:V=((f (D++[p]) s).1,(f (D++[p]) s).2):=by
     rw[eV,hr,zh,List.filter_cons,b0,rv rfl,List.filter_nil,oJ];cases eu:(f (D++[p]) s).2 with
     |true=>rfl
     |false=>rfl
    have dn:D.length+1=AT.length:=by simp at dA;omega
    rw[dn];obtain⟨h',B',cf,j1,j2,j3,j4,j5⟩:=s6 R Y hP hM av (λl hl=>by
     obtain⟨i,n⟩:=Ev hl;rcases Ek.1 hl with hl|hl
     .obtain⟨i,n⟩:=Ev hl;obtain⟨l2,aE⟩:=aq (l:=I0) (i:=i) jn;rw[(hN.dm i l l2 n aE).length_eq];exact(R.ib l2 jn).2.1
     grind) hq hJ M d0
    refine iV (iA cf rfl [.leaf (.i .i64 (ofNat AT.length)),.leaf (.v (ka q1)),.leaf (.v (ka q2)),.leaf (.v (ka q3))] rfl rfl rfl) ?_;refine e_ ?_;rw[bC];refine⟨C2,B',lv,R.kp h h' hP λj o jk jm hj=>j2 j o hj λhB=>?_,hM.j9 λj o hj hb=>j2 j o hj λhB=>?_,j1,j5,λv z j hj=>⟨.inl ⟨v,z,hj⟩,λhB=>?_⟩,j4,λj o _ hj _ hB=>j2 j o hj hB,j3⟩
    .rcases(Y.sp s B h hJ j hB).1 with e|e
     .exact jm e
     .omega
    .obtain⟨_,a1,a2,a3⟩:=Y.sp s B h hJ j hB;rcases hb with hb|hb|hb|⟨v,z,hb⟩
     .exact a1 hb
     .exact a2 hb
     .exact a3 hb
     .exact hs.lb v z j hb hB
    .rcases j4 j hB with e|e
     .exact hs.lb v z j hj e
     .obtain⟨i,n⟩:=Ev z;obtain⟨l2,aE⟩:=aq (l:=D++p :: ([]:List (TC)).map λ_=>([]:TC)) (i:=i) (by rw[←hM.ln];exact am n);have:=(hM.tr i v l2 n aE).lt hj;omega
   |cons l0 Q'=>
    subst hQ;have cS:CE us l0=l0:=by
     unfold CE;rw[qcP];intro x hx;rw[hN.fr l0 c_ x hx];rfl
    have dC:=hN.next (hI▸hG) hr rfl
    have cl:D++p :: (l0 :: Q').map (λ_=>([]:TC))=(D++[p])++[] :: Q'.map λ_=>[]:=c_;have bC:V=FX f ((Fq (D++[p]) [] (CE us l0) Q').filter (Db pn S F)) s:=by rw[eV,hr,zi,cS]
    obtain⟨h',B',ad,cf,r1,r2,r3,r4,r5,r6,r7,r8⟩:=ih ((Q'.map λl=>l.length+1).sum+(CE us l0).length) jn (I0++[d]) (D++[p]) [] l0 Q' W us lv h s B rfl (by rw[hI];simp) dC (λx hx=>hX x (by rw[hr,zi];rwa [cS]at hx)) hP (by rw[←cl];exact hM) hq hs hJ M;rw[←bC]at cf r3 r4;rw[show(D++[p]).length=D.length+1 from by simp]at cf;refine iV (iA cf rfl [.leaf (.i .i64 (ofNat (D.length+1))),.leaf (.v (ka q1)),.leaf (.v (ka q2)),.leaf (.v (ka q3))] rfl rfl rfl) ?_;refine e_ ?_;rw[←cl]at r2;exact⟨C2,B',ad,r1,r2,r3,r4,r5,r6,r7,r8⟩
  · -- something is left
   have d9:=C0.2 hr;rw[wb (λe=>jn)];refine e_ ?_;refine cU (ba hq.c1) rfl ?_;refine e_ ?_;refine ab (ar _) ?_;refine km ?_;refine bv (ds:=[c.ids]) (R.hb h hP) (by simp[ah]) rfl ?_;refine e_ ?_;refine ab i1.i_ ?_;refine km ?_;refine aP i1 rfl a8 ?_;rw[show CQ vi=[vi]from rfl];refine e_ ?_;refine ab a5.i_ ?_;refine km ?_;refine bz a5 ?_;have ee:Mt h c k1 W us (D++p :: Q.map λ_=>[]) lv:=hM;have d6:∀ {g:HL} {u:Tn} {W2:TE} {dk:Ty} {bt:List (TC)},Mt g c k1 W2 dk bt u->∀v∈u,∀i,hY v=some i->i<g.length:=λ{g u W2 dk bt} cm v z i n=>by
    obtain⟨k,hk⟩:=Ev z;obtain⟨l2,aE⟩:=aq (l:=bt) (i:=k) (by rw[←cm.ln];exact am hk);exact(cm.tr k v l2 hk aE).lt n
   refine aJ (m:=d.length) (λm ls g=>∃j u I s2,ls=[.i (ofNat j)]/\m=d.length - j/\j<=d.length/\P g/\Mt g c k1 W us (D++p :: Q.map λ_=>[]) u/\FX f ((SO D p (CE us d) Q (CE us (d.take j))).filter (Db pn S F)) s=(s2,true)/\J s2 I g/\live s2/\
    (∀v∈u,∀i,hY v=some i->((∃w∈lv,hY w=some i)∨h.length<=i)/\¬I i)/\(∀i,I i->B i∨h.length<=i)/\(∀(i:Nat) o,k1<=i->h[i]?=some o->(∀v∈lv,hY v≠some i)->¬B i->g[i]?=some o)/\h.length<=g.length)
    ⟨0,lv,B,s,rfl,rfl,C6 _,hP,hM,rfl,hJ,M,λv z i n=>⟨.inl ⟨v,z,n⟩,hs.lb v z i n⟩,λi n=>.inl n,λi o _ n _ _=>n,A9 _⟩ ?_
   rintro m ls g ⟨j,u,I,s2,rfl,rfl,hj,a6,ax,b7,ck,c0,bP,el,cA,ef⟩ ej b6;refine Di ?_;have c5:∀i,i=q1∨i=q2∨i=q3->i<h.length:=λi n=>by
    rcases n with rfl|rfl|rfl
    .exact am hq.c1
    .exact am hq.c2
    .exact am hq.c3
   have b5:Qc g b l q1 q2 q3:=hq.j9 λi o n hb=>cA i o (hs.q i hb).1 n (hs.q i hb).2.2 (hs.q i hb).2.1;have an:∀i,i=q1∨i=q2∨i=q3->k1<=i/\¬I i/\∀v∈u,hY v≠some i:=λi n=>by
    obtain⟨a1,a2,a3⟩:=hs.q i n;have a4:=c5 i n
    grind
   refine e_ ?_;by_cases b3:j<d.length
   case neg=>
    obtain rfl:j=d.length:=a_;rw[aM (A9 _)];refine e_ ?_;rw[YW,KF hr,←eV]at b7
    grind
   rw[aN b3];simp(disch:=omega)only[↓Ce];obtain⟨y,hy⟩:=aq b3;have b8:=Cf hy;have dj:y<us.length:=by rw[hN.ul];exact hG.lt d ay y b8
   have dr:q9 g vi 1 mc d:=(i4 g a6).2 D.length vi d a8 ag;have bd:∀ {t:Bool},us.getD y false=t->CE us (d.take (j+1))=CE us (d.take j)++if t=true then []else [y]:=λ{t} ht=>by
    rw[Ii,hy];unfold CE
    grind
   refine cP (λls g'=>ls=[]/\∃A E s3,P g'/\Mt g' c k1 W us (D++p :: Q.map λ_=>[]) A/\FX f ((SO D p (CE us d) Q (CE us (d.take (j+1)))).filter (Db pn S F)) s=(s3,true)/\J s3 E g'/\live s3/\
    (∀v∈A,∀i,hY v=some i->((∃w∈lv,hY w=some i)∨h.length<=i)/\¬E i)/\(∀i,E i->B i∨h.length<=i)/\(∀(i:Nat) o,k1<=i->h[i]?=some o->(∀v∈lv,hY v≠some i)->¬B i->g'[i]?=some o)/\h.length<=g'.length) ?_ ?_
   case refine_1=>
    rintro ls g' ⟨rfl,A,E,s3,z1,z2,z3,z4,z5,z6,z7,z8,z9⟩;refine e_ ?_;rw[aY a_];exact b6 _ _ _ a_ ⟨j+1,A,E,s3,rfl,rfl,b3,z1,z2,z3,z4,z5,z6,z7,z8,z9⟩
   intro jj d4;refine aP dr rfl hy ?_;rw[show mc y=[.int .i64 (ofNat y)]from rfl];simp(disch:=omega)only[↓Ce];refine cU (ba b5.c1) rfl ?_;simp(disch:=omega)only[↓Ce];refine ab (ar _) ?_
   try simp(disch:=omega)only[↓Ce]
   refine bv (ds:=[c.us]) (R.hb g a6) (by simp[ah]) rfl ?_;simp(disch:=omega)only[↓Ce];refine ab (ax.us.i_ cO) ?_
   try simp(disch:=omega)only[↓Ce]
   obtain⟨t,ec⟩:=aq dj;have a0:us.getD y false=t:=jn;refine aP (ax.us.ls cO) rfl ec ?_;rw[show A7 t=[.bool t]from rfl];simp(disch:=omega)only[↓Ce];cases t with
   |true=>
    simp(disch:=omega)only[↓Ce]
    grind
   |false=>
    simp(disch:=omega)only[↓Ce];obtain⟨Z,eZ⟩ : ∃Z,Z=Q.map λ_=>([]:TC):=⟨_,rfl⟩;rw[←eZ]at ax bx av;have eb:y∈CE us d:=pQ.2 ⟨b8,a0⟩;obtain⟨L,ca⟩ : ∃L,L=g++[HO.o (.cells [.slice none 0 0] 1 true)]:=⟨_,rfl⟩;rw[←ca];have ap:∀(i:Nat) o,g[i]?=some o->L[i]?=some o:=λi o n=>jn;have eL:L.length=g.length+1:=by rw[ca];simp
    have cw:L[g.length]?=some (.o (.cells [.slice none 0 0] 1 true)):=jn;have cC:=R.lt g a6;have bs:∀j,hY c.va=some j->j<k1:=λj e=>(R.s.s1 j e).1;have bn:∀j,hY c.us=some j->j<k1:=λj e=>(R.s.s2 j e).1;have bk:=R.s.s3;refine cP (λls G=>∃t W2 T x2 A E s3,ls=[.b t]/\P G/\Mt G c k1 W2 (us.set y true) (D++(p++[y]) :: Z) A/\W2.length=U.length/\G[g.length]?=some (.o (.cells [x2] 1 true))/\q9 G x2 1 mc T/\T.length<=1000000/\(∀i∈T,i<U.length)/\Iy T W2=W/\
     (∀i,hY x2=some i->k1<=i/\∀v∈A,hY v≠some i)/\FX f ((Fq D (p++[y]) ((CE us d).erase y) Q).filter (Db pn S F)) s2=(s3,t)/\J s3 E G/\(t=true->live s3)/\(∀v∈A,∀i,hY v=some i->((∃w∈u,hY w=some i)∨g.length<=i)/\¬E i)/\(∀i,E i->I i∨g.length<=i)/\
     (∀(i:Nat) o,k1<=i->g[i]?=some o->(∀v∈u,hY v≠some i)->¬I i->G[i]?=some o)/\g.length<=G.length) ?_ ?_
    case refine_1=>
     rintro ls G ⟨t,W2,T,x2,A,E,s3,rfl,z1,z2,z3,z4,z5,z6,z7,z8,z9,y1,y2,y3,y4,y5,y6,y7⟩;simp(disch:=omega)only[↓Ce];have a7:Qc G b l q1 q2 q3:=b5.j9 λi o n hb=>y6 i o (an i hb).1 n (an i hb).2.2 (an i hb).2.1;refine cU (ba a7.c1) rfl ?_;simp(disch:=omega)only[↓Ce];refine ab (ar _) ?_
     try simp(disch:=omega)only[↓Ce]
     refine cU (ba z4) rfl ?_;simp(disch:=omega)only[↓Ce];refine ab z5.i_ ?_
     try simp(disch:=omega)only[↓Ce]
     obtain⟨v4,g3,cr,cq,cn,eD,d5,eA⟩:=Rg R z1 z2 (st:=D.length) (id:=y) (p:=p) zr a_ jn z5 z9 z6 (λi n=>by rw[z3];exact z7 i n);refine ak cr ?_;simp(disch:=omega)only[↓Ce];rw[z8,Xo a0,KU]at cn;have co:Mt g3 c k1 W us (D++p :: Q.map λ_=>[]) (A.set D.length v4):=by rw[←eZ];exact cn
     have c7:D.length<A.length:=by rw[z2.ln];simp
     have bl:∀v∈A.set D.length v4,∀i,hY v=some i->((∃w∈lv,hY w=some i)∨h.length<=i)/\¬E i:=λv z i n=>by
      obtain⟨v5,c9,e5⟩ : ∃v5∈A,hY v5=some i:=by
       rcases i0 z with z|rfl
       .exact⟨v,z,n⟩
       .obtain⟨v5,c9⟩:=aq c7
        grind
      obtain⟨a1,a2⟩:=y4 v5 c9 i e5;refine⟨?_,a2⟩;rcases a1 with⟨w,hw,e⟩|e
      .exact(bP w hw i e).1
      omega
     have cb:∀i,E i->B i∨h.length<=i:=λi n=>by
      grind
     have cx:∀(i:Nat) o,k1<=i->h[i]?=some o->(∀v∈lv,hY v≠some i)->¬B i->g3[i]?=some o:=λi o C n b1 b2=>by
      have ex:=am n;refine d5 i o (y6 i o C (cA i o C n b1 b2) (λv z e=>?_) λe=>?_) (λe=>by have:=bs i e;omega) (λe=>by have:=bn i e;omega) λe=>by have:=bk i e;omega
      .rcases(bP v z i e).1 with⟨w,hw,e2⟩|e2
       .exact b1 w hw e2
       .omega
      grind
     have ci:J s3 E g3:=Y.kp s3 E G g3 y2 λi o n ho=>by
      obtain⟨_,a1,a2,a3⟩:=Y.sp s3 E G y2 i n
      grind
     cases t with
     |true=>
      simp(disch:=omega)only[↓Ce,DP];refine d4 _ _ ⟨rfl,A.set D.length v4,E,s3,cq,co,?_,ci,y3 rfl,bl,cb,cx,a_⟩;rw[bd a0,te oo,xe,uo,b7,rv rfl,KG];exact y1
     |false=>
      simp(disch:=omega)only[↓Ce,EB];have hV:V=(s3,false):=by
       have ea:CE us d=(CE us (d.take j)++[y])++CE us (d.drop (j+1)):=by
        have e1:=bd a0;rw[te oo]at e1;rw[←e1];unfold CE;rw[←hC,WM]
       have e2:=congrArg (SO D p (CE us d) Q) ea;rw[KF hr]at e2;rw[eV,e2,xe,xe,EF,uo,b7,rv rfl,KG,uo,y1];rfl
      rw[hV];exact⟨C2,E,A.set D.length v4,cq,co,ci,λe=>(by cases e),bl,cb,cx,a_⟩
    intro eF bb;have dT:P L:=R.kp g L a6 λi o _ _ n=>ap i o n;have dB:Mt L c k1 W us (D++p :: Z) u:=ax.j9 λi o n _=>ap i o n;have bm:Qc L b l q1 q2 q3:=b5.j9 λi o n _=>ap i o n;have cd:J s2 I L:=Y.kp s2 I g L ck λi o _ n=>ap i o n;have eg:D.length<u.length:=by rw[ax.ln];simp
    refine cU (ba bm.c1) rfl ?_;simp(disch:=omega)only[↓Ce];refine ab (ar _) ?_
    try simp(disch:=omega)only[↓Ce]
    obtain⟨ok,W2,T,x2,v',G,cp,p1,p2,p3,p4,p5,p6,p7,p8,p9,o1,o2,o3,o4⟩:=Ww R hF dT dB hN.nod ag bx b8 a0 (λx hx=>by rw[hN.ul];exact hG.lt d ay x hx) a_ cw cC (λv z e=>by
     grind)
    rw[KU]at p2;obtain⟨vb,eE,ei⟩:=p9;refine ak cp ?_;simp(disch:=omega)only[↓Ce];have c4:∀v∈u.set D.length v',v∈u∨v=v':=λv z=>i0 z;have a9:∀i,I i->i<g.length:=λi n=>Y.lt s2 I g ck i n;have b9:∀(i:Nat) o,k1<=i->L[i]?=some o->i≠g.length->(∀v∈u,hY v≠some i)->G[i]?=some o:=λi o C n d8 b1=>o3 i o n d8 (λe=>by have:=bs i e;omega) (λe=>by have:=bn i e;omega) (λe=>by have:=bk i e;omega) λv z=>b1 v (Cf z);have ce:J s2 I G:=Y.kp s2 I L G cd λi o n ho=>by
     obtain⟨_,a1,a2,a3⟩:=Y.sp s2 I L cd i n;exact o3 i o ho jn a1 a2 a3 λv z e=>(bP v (Cf z) i e).2 n
    have O:∀i,hY x2=some i->k1<=i/\L.length<=i/\i<G.length/\∀v∈u.set D.length v',hY v≠some i:=λi n=>by
     obtain⟨a1,a2⟩:=p7 i n;exact⟨a_,a1,vE p5 n,a2⟩
    have b4:∀v∈u.set D.length v',∀i,hY v=some i->((∃w∈u,hY w=some i)∨L.length<=i)/\¬I i:=λv z i n=>by
     rcases c4 v z with z|rfl
     .grind
     grind
    have ct:T.length<=1000000:=a_;cases ok with
    |false=>
     simp(disch:=omega)only[↓Ce,EB];refine bb _ _ ⟨true,W2,T,x2,u.set D.length v',I,s2,rfl,p1,p2,p3.1,p4,p5,ct,p6.2,p8,λi n=>⟨(O i n).1,(O i n).2.2.2⟩,?_,ce,λ_=>c0,λv z i n=>?_,λi n=>.inl n,λi o C n b1 b2=>b9 i o C (ap i o n) jn b1,a_⟩
     .rw[o2 rfl Q];rfl
     grind
    |true=>
     simp(disch:=omega)only[↓Ce,DP];have a7:Qc G b l q1 q2 q3:=bm.j9 λi o n hb=>b9 i o (an i hb).1 n (by
      grind) (an i hb).2.2
     refine cU (ba a7.c3) rfl ?_;simp(disch:=omega)only[↓Ce];refine ab (kM q1 q2 q3) ?_
     try simp(disch:=omega)only[↓Ce]
     obtain⟨d1,d2⟩:=o1 rfl;have dD:=hN.child (hI▸hG) eb d1 d2;have d3:(CE us d).erase y=CE (us.set y true) d:=(tA d7 dj).symm;have c6:Sep (u.set D.length v') I k1 q1 q2 q3:=⟨λv z i n=>(b4 v z i n).2,λi n=>by
      obtain⟨a1,a2,a3⟩:=an i n
      grind⟩
     obtain⟨g3,E,A,cf,r1,r2,r3,r4,r5,r6,r7,r8⟩:=ih ((Q.map λl=>l.length+1).sum+(CE (us.set y true) d).length) jn I0 D (p++[y]) d Q W2 (us.set y true) (u.set D.length v') G s2 I rfl hI dD (λx hx=>hX x (by
      rw[zj hr]
      grind)) p1 (by rw[←eZ];exact p2) a7 c6 ce c0
     rw[←d3]at cf r3 r4;rw[←eZ]at r2;refine iV (iA cf rfl [.leaf (.i .i64 (ofNat D.length)),.leaf (.v (ka q1)),.leaf (.v (ka q2)),.leaf (.v (ka q3))] rfl rfl rfl) ?_;simp(disch:=omega)only[↓Ce];have cy:∀i,k1<=i->L.length<=i->∀o,G[i]?=some o->(∀v∈u.set D.length v',hY v≠some i)->g3[i]?=some o:=λi C n o ho b1=>r7 i o C ho b1 λe=>by have:=a9 i e;omega
     refine bb _ _ ⟨_,W2,T,x2,A,E,_,rfl,r1,r2,p3.1,?_,p5.j9 λi o n hb=>cy i (O i hb).1 (O i hb).2.1 o n (O i hb).2.2.2,ct,p6.2,p8,λi n=>⟨(O i n).1,λv z e=>?_⟩,rfl,r3,r4,λv z i n=>?_,λi n=>?_,λi o C n b1 b2=>?_,a_⟩
     .refine r7 g.length _ cC p4 (λv z e=>?_) λe=>by have:=a9 _ e;omega
      grind
     .obtain⟨_,_,a3,a4⟩:=O i n;rcases(r5 v z i e).1 with⟨w,hw,e2⟩|e2
      .exact a4 w hw e2
      .omega
     .obtain⟨a1,a2⟩:=r5 v z i n;refine⟨?_,a2⟩;rcases a1 with⟨w,hw,e⟩|e
      .grind
      omega
     .grind
     .have ev:=am n;refine r7 i o C (b9 i o C (ap i o n) a_ b1) (λv z e=>?_) b2
      grind)
 grind
end
def QF{l a:Nat}{st:LoopState}{b:Tm}{vs:Tn}{h:HL}{j:Code}{K:HL->Prop}(d:h[l]?=some (.lp a st b vs))(c:K (h.set l (.lp a .done (some j) vs))):P1.Gt l (some j) h (@i' _ ⟨K⟩):=
 ⟨{ Er (aa a) a vs with state:=st,pending:=b },h.set l (.lp a .done (some j) vs),vq d,kJ,c⟩
def h_.BK{i7:Type}{n0 e:Nat}{enc:i7->Tn}{l:List i7}{h h':HL}{v:TR}(i:h_ n0 h v e enc l)(g:∀(j:Nat) cs,Sx.hY v=some j->h[j]?=some (.o (.cells cs e true))->h'[j]?=some (.o (.cells cs e true))):h_ n0 h' v e enc l:=by
 rcases i with b|⟨id,a,rfl,c,d,f⟩
 .exact .inl b
 .exact .inr ⟨id,a,rfl,c,g _ _ rfl d,f⟩
def h_.n0{i7:Type}{n0 e:Nat}{enc:i7->Tn}{l:List i7}{h:HL}{v:TR}(f:h_ n0 h v e enc l):h_ 0 h v e enc l:=by
 rcases f with b|⟨id,a,rfl,g,c,d⟩
 .exact .inl b
 .exact .inr ⟨id,a,rfl,C6 _,c,d⟩
def h_.wid{i7:Type}{n0 e:Nat}{enc:i7->Tn}{l:List i7}{h:HL}{v:TR}(c:h_ n0 h v e enc l){j:Nat}(a:Sx.hY v=some j):∃cs,h[j]?=some (.o (.cells cs e true)):=by
 rcases c with⟨rfl,_⟩|⟨id,d,rfl,f,b,g⟩
 .cases a
 .cases a;exact⟨_,b⟩
section
variable {b:Nat} {c:XC} {U:List Lit} {F:List A5} {pn:Ti} {AT:List K3} {IDS:List (TC)} {CR:TD} {k1:Nat} {mu:Tz} {P:HL->Prop} (R:Ro b c U F pn AT IDS CR k1 mu P)
 {g9:Type} {l:Nat} {f:List (TC)->g9->g9×Bool} {X:List (List (TC))} {live:g9->Prop} {J:g9->(Nat->Prop)->HL->Prop} (Y:Yl l c AT CR k1 mu f X live J)
 {r:TF} (hF:Hv U r) {N:Nat} (hG:Gl IDS N) (hf0:∀f∈F,∀l∈[f.1,f.2.1,f.2.2.1,f.2.2.2],∃q∈IDS,∃a∈q,∃b∈q,a≠b/\l=Dc pn a b) {S:(Nat->Bool)->Prop} {q0:Nat}
include R Y hF hG hf0
theorem B8{d:TC}{Q:List (TC)}{W:TE}{us:Ty}{lv:Tn}{h:HL}{s:g9}{B:Tz}(hI:IDS=d :: Q)(hN:ND U pn S F N W us [] [] [] d Q)(hX:∀x∈Dj (CE us d :: Q),x∈X)(hP:P h)(G:Mt h c k1 W us ([] :: Q.map λ_=>[]) lv)
  (h0:h[q0]?=some (.o (.cells [ka b] 1 true))) (al:k1<=q0) (ag:¬B q0) (an:∀v∈lv,hY v≠some q0) (T:∀v∈lv,∀j,hY v=some j->¬B j) (D:J s B h) (t:live s) :
  ∃h' B',aA cc ac 72 [.v (.func (.yield l) #[] #[]),.v (ka q0)] (g_ aa h) [] (g_ aa h')/\J (FX f ((Dj (CE us d :: Q)).filter (Db pn S F)) s).1 B' h'/\P h':=by
 have y:Fq [] [] (CE us d) Q=Dj (CE us d :: Q):=by
  unfold Fq;rw[show Dj (CE us d :: Q)=(Nc (CE us d).length (CE us d)).flatMap λp=>(Dj Q).map (p :: ·)from rfl];simp
 have av:=x72 (ls:=[.v (.func (.yield l) #[] #[]),.v (ka q0)]) (K:=λrs h'=>rs=[]/\∃B',J (FX f ((Dj (CE us d :: Q)).filter (Db pn S F)) s).1 B' h'/\P h') (H:=h) (q7 rfl (q7 (ar _) t0)) (by
  unfold f72;simp only[u5];refine e_ ?_;have M:=R.lt h hP;obtain⟨g,e1⟩ : ∃g,g=h++[HO.o (.cells [.func (.yield l) #[] #[]] 1 true)]:=⟨_,rfl⟩;rw[←e1];have l1:g.length=h.length+1:=by rw[e1];simp
  obtain⟨u,A⟩ : ∃u,u=g++[HO.o (.cells [.nilFunc] 1 true)]:=⟨_,rfl⟩;rw[←A];have l2:u.length=h.length+2:=by rw[A];simp;omega
  have ad:Value.func (.func 73) ⟨[]⟩ ⟨[ka q0,ka h.length,ka g.length]⟩=IU q0 h.length g.length:=rfl;refine ab (kM q0 h.length g.length) ?_;refine km ?_;have L:u[g.length]?=some (.o (.cells [.nilFunc] 1 true)):=by rw[A];exact aD
  refine lH L rfl ?_;obtain⟨m,e3⟩ : ∃m,m=u.set g.length (.o (.cells [IU q0 h.length g.length] 1 true)):=⟨_,rfl⟩;have C:u.set g.length (.o (.cells [.func (.func 73) ⟨[]⟩ ⟨[ka q0,ka h.length,ka g.length]⟩] 1 true))=m:=e3.symm
  try rw[C]
  have z:∀(i:Nat) o,h[i]?=some o->m[i]?=some o:=λi o n=>by
   grind
  have l3:m.length=h.length+2:=jn;have Z:m[g.length]?=some (.o (.cells [IU q0 h.length g.length] 1 true)):=jn;have c2:m[h.length]?=some (.o (.cells [.func (.yield l) #[] #[]] 1 true)):=by
   grind
  have w:P m:=R.kp h m hP λi o _ _ n=>z i o n;have I:Mt m c k1 W us ([] :: Q.map λ_=>[]) lv:=G.j9 λi o n _=>z i o n;have E:J s B m:=Y.kp s B h m D λi o _ n=>z i o n;refine km ?_;refine cU (ba (z _ _ h0)) rfl ?_;refine e_ ?_;refine ab (ar _) ?_;refine km ?_;refine bv (ds:=[.bool false]) (R.hb m w) (by simp[ah]) rfl ?_;simp(disch:=omega)only[↓nc,EB];refine cU (ba Z) rfl ?_;refine e_ ?_;refine ab (kM q0 h.length g.length) ?_;refine km ?_;have hq:Qc m b l q0 h.length g.length:=⟨z _ _ h0,c2,Z⟩;have ap:∀v∈lv,∀i,hY v=some i->i<h.length:=λv V i n=>by
   obtain⟨k,hk⟩:=Ev V;obtain⟨l2,O⟩:=aq (l:=[] :: Q.map λ_=>([]:TC)) (i:=k) (by rw[←G.ln];exact am hk);exact(G.tr k v l2 hk O).lt n
  have hs:Sep lv B k1 q0 h.length g.length:=⟨T,λi n=>by
   rcases n with rfl|rfl|rfl
   .grind
   .exact⟨M,λe=>by have:=Y.lt s B h D _ e;omega,λv V e=>jn⟩
   .exact⟨a_,λe=>by have:=Y.lt s B h D _ e;omega,λv V e=>jn⟩⟩
  obtain⟨h',B',ax,cf,r1,r2,r3,_⟩:=kE R Y hF hG hf0 (S:=S) (q1:=q0) (q2:=h.length) (q3:=g.length) _ [] [] [] d Q W us lv m s B rfl hI hN (λx hx=>hX x (by rw[←y];exact hx)) w I hq hs E t;rw[y]at cf r3;refine iV (iA cf rfl [.leaf (.i .i64 (ofNat 0)),.leaf (.v (ka q0)),.leaf (.v (ka h.length)),.leaf (.v (ka g.length))] rfl rfl rfl) ?_;refine e_ ?_
  grind)
 grind
end
def RM(c:XC)(xc a:Value):Tn:=[.int .i64 (ofNat c.w),.int .i64 (ofNat c.v),xc,.int .u8 (ofNat c.r.1),.int .i64 c.r.2.1,.int .i64 c.r.2.2,a]
def z7:Tn:=[.int .i64 0,.int .i64 0,.slice none 0 0,.int .u8 0,.int .i64 0,.int .i64 0,.slice none 0 0]
structure G3(CR:TD)(AT:List K3)(C:Tz)(h:HL)(xc sv:Value)(x:List (TC)):Prop where
 xo:h_ 0 h xc 3 n4 CR
 xb:∀j,hY xc=some j->C j
 st:∃L:List Zk,h_ 0 h sv 4 HV L/\(∀j,hY sv=some j->C j)/\(∀s∈L,h_ 0 h s.2.1 1 mc s.2.2/\∀j,hY s.2.1=some j->C j)/\L.map (λs=>(s.1,s.2.2))=AT.zip x
def G3.j9{CR:TD}{AT:List K3}{C k:Tz}{h h':HL}{xc n:TR}{x:List (TC)}(t:G3 CR AT C h xc n x)(f:∀j,C j->k j)(g:∀(j:Nat) b e,C j->e≠7->h[j]?=some (.o (.cells b e true))->h'[j]?=some (.o (.cells b e true))):G3 CR AT k h' xc n x:=by
 obtain⟨p,l,L,q,m,d,r⟩:=t;exact⟨p.BK λj b c a=>g j b 3 (l j c) oo a,λj a=>f j (l j a),L,q.BK λj b c a=>g j b 4 (m j c) oo a,λj a=>f j (m j a),λs i=>⟨(d s i).1.BK λj b c a=>g j b 1 ((d s i).2 j c) oo a,λj a=>f j ((d s i).2 j a)⟩,r⟩
def zI{CR:TD}{AT:List K3}{h:HL}{n0:Nat}{xc f:TR}{x:List (TC)}(e:h_ n0 h xc 3 n4 CR)(i:StO n0 h f (AT.zip x)):G3 CR AT (λj=>n0<=j/\j<h.length) h xc f x:=by
 obtain⟨L,b,c,g⟩:=i;exact⟨e.n0,λj a=>e.hY a,L,b.n0,λj a=>b.hY a,λs d=>⟨(c s d).n0,λj a=>(c s d).hY a⟩,g⟩
def Bnd(c:XC)(k1:Nat)(mu:Tz)(B:Tz)(h:HL):Prop:=∀j,B j->j<h.length/\(mu j∨k1<=j)/\hY c.va≠some j/\hY c.us≠some j/\hY c.lay≠some j
def fS(x:List (TC))(_:Option (List (TC))):Option (List (TC))×Bool:=(some x,false)
structure JSv(c:XC)(AT:List K3)(CR:TD)(k1:Nat)(mu:Tz)(l a1 a2:Nat)(s:Option (List (TC)))(B:Tz)(h:HL):Prop where
 bs:B l/\B a1/\B a2
 bd:Bnd c k1 mu B h
 ne:l≠a1/\l≠a2/\a1≠a2
 m2:h[a2]?=some (.o (.cells [.int .i64 0] 1 true))
 st:match s with
  |none=>h[l]?=some (.lp 224 .ready none [ka a1,ka a2])/\h[a1]?=some (.o (.cells z7 7 true))
  |some x=>h[l]?=some (.lp 224 .done (some .ret) [ka a1,ka a2])/\∃xc sv,h[a1]?=some (.o (.cells (RM c xc sv) 7 true))/\G3 CR AT (λj=>B j/\j≠l/\j≠a1/\j≠a2) h xc sv x
section
variable {c:XC} {AT:List K3} {CR:TD} {k1:Nat} {mu:Tz} {l a1 a2:Nat} (s3:S3x c k1)
include s3
theorem J2{B:Tz}{h h':HL}{n0:Nat}(g:Bnd c k1 mu B h)(k:k1<=n0)(i:h.length<=h'.length):Bnd c k1 mu (λj=>B j∨(n0<=j/\j<h'.length)) h':=by
 intro j d;rcases d with d|⟨d,f⟩
 .obtain⟨a,b⟩:=g j d;exact⟨a_,b⟩
 .exact⟨f,.inr a_,λe=>by have:=(s3.s1 j e).1;omega,λe=>by have:=(s3.s2 j e).1;omega,λe=>by have:=s3.s3 j e;omega⟩
theorem yl_S(hl:k1<=l)(X:List (List (TC))):Yl l c AT CR k1 mu fS X (λs=>s=none) (JSv c AT CR k1 mu l a1 a2):=by
 refine⟨λs B h p u H=>?_,λs B h u j d=>(u.bd j d).1,λs B h u j d=>(u.bd j d).2,λs B h u S x hx n0 xc g t hn Z o2=>?_⟩
 .obtain⟨f,P,a,A,C⟩:=u;refine⟨f,λj d=>?_,a,H _ _ f.2.2 A,?_⟩
  .obtain⟨q1,q2⟩:=P j d
   grind
  .cases s with
   |none=>simp_all
   |some x=>
    obtain⟨h1,xc,g,h2,E⟩:=C;exact⟨H _ _ f.1 h1,xc,g,H _ _ f.2.1 h2,E.j9 (λj d=>d) λj cs e d _ U=>H j _ d.1 U⟩
 .obtain⟨f,P,a,A,C⟩:=u;subst S;obtain⟨G,T⟩:=C;have al:=t l f.1;have ad:=t a1 f.2.1;have ag:=t a2 f.2.2;obtain⟨bb,p,hu,hK⟩:=l2 (K:=λrs p=>rs=[.b false]/\JSv c AT CR k1 mu l a1 a2 (some x) (λj=>B j∨(n0<=j/\j<p.length)) p/\(∀(j:Nat) o,h[j]?=some o->¬B j->j<n0->p[j]?=some o)/\h.length<=p.length) (ys:=stY c xc g) (ls:=[.i (ofNat c.w),.i (ofNat c.v),.v xc,.i (ofNat c.r.1),.i c.r.2.1,.i c.r.2.2,.v g]) G ⟨rfl,rfl,by
   intro y hy z hz;simp only[DB,Ng,or_false]at hy;subst hy;simp only[S0.cells,DB,Ng,or_false]at hz;have M:aF xc=true:=h_.i_ (e:=3) (enc:=n4) (λ_=>rfl) Z;have N:aF g=true:=by
    obtain⟨L,E,_⟩:=o2;exact E.i_ gO
   rcases hz with rfl|rfl|rfl|rfl|rfl|rfl|rfl
   all_goals first|trivial|exact M|exact N⟩ (by
   have M:aF xc=true:=h_.i_ (e:=3) (enc:=n4) (λ_=>rfl) Z;have N:aF g=true:=by
    obtain⟨L,E,_⟩:=o2;exact E.i_ gO
   unfold y224;simp only[u5];refine e_ ?_;refine ab (ar _) ?_;refine km ?_;refine ab (ar _) ?_;refine km ?_;have hm:(h++[HO.o (.cells z7 7 true)])[h.length]?=some (.o (.cells z7 7 true)):=aD;refine lH hm rfl ?_;obtain⟨m,eA⟩ : ∃m,m=(h++[HO.o (.cells z7 7 true)]).set h.length (.o (.cells (RM c xc g) 7 true)):=⟨_,rfl⟩;have J:(h++[HO.o (.cells [.int .i64 0,.int .i64 0,.slice none 0 0,.int .u8 0,.int .i64 0,.int .i64 0,.slice none 0 0] 7 true)]).set h.length (.o (.cells [.int .i64 (ofNat c.w),.int .i64 (ofNat c.v),xc,.int .u8 (ofNat c.r.1),.int .i64 c.r.2.1,.int .i64 c.r.2.2,g] 7 true))=m:=eA.symm;rw[J];have I:∀(i:Nat) o,h[i]?=some o->m[i]?=some o:=λi o F=>by
    grind
   have lA:m.length=h.length+1:=kb;have mA:m[h.length]?=some (.o (.cells (RM c xc g) 7 true)):=kb;refine km ?_;refine YJ (I _ _ G) ?_;obtain⟨gB,eB⟩ : ∃gB,gB=m.set l (.lp 224 .busy none [ka a1,ka a2]):=⟨_,rfl⟩;rw[←eB];have kB:∀(i:Nat) o,i≠l->m[i]?=some o->gB[i]?=some o:=λi o a F=>by
    grind
   have lB:gB.length=h.length+1:=kb;have pB:gB[l]?=some (.lp 224 .busy none [ka a1,ka a2]):=jn;refine km ?_;refine cU (ba (kB _ _ a_ mA)) rfl ?_;simp only[RM];refine e_ ?_;refine ab M ?_;refine km ?_;refine ab N ?_;refine km ?_;refine lH (kB a1 _ (CY a.1) (I _ _ T)) rfl ?_;obtain⟨k,eC⟩ : ∃k,k=gB.set a1 (.o (.cells [.int .i64 (ofNat c.w),.int .i64 (ofNat c.v),xc,.int .u8 (ofNat c.r.1),.int .i64 c.r.2.1,.int .i64 c.r.2.2,g] 7 true)):=⟨_,rfl⟩;rw[←eC];have V:∀(i:Nat) o,i≠a1->gB[i]?=some o->k[i]?=some o:=λi o a F=>by
    grind
   have mC:k[a1]?=some (.o (.cells (RM c xc g) 7 true)):=jn;have Y:k[a2]?=some (.o (.cells [.int .i64 0] 1 true)):=V _ _ (CY a.2.2) (kB _ _ (CY a.2.1) (I _ _ A));refine km ?_;refine lH Y rfl ?_;have eD:k.set a2 (.o (.cells [.int .i64 0] 1 true))=k:=eN Y;rw[eD];refine km ?_;refine QF (V _ _ a.1 pB) ?_;obtain⟨D,eE⟩ : ∃D,D=k.set l (.lp 224 .done (some .ret) [ka a1,ka a2]):=⟨_,rfl⟩;rw[←eE];have W:∀(i:Nat) o,i≠l->k[i]?=some o->D[i]?=some o:=λi o a F=>by
    grind
   have lE:D.length=h.length+1:=kb;refine km ?_;have n:∀(i:Nat) o,i≠l->i≠a1->h[i]?=some o->D[i]?=some o:=λi o q1 q2 F=>W i o q1 (V i o q2 (kB i o q1 (I i o F)));refine⟨C2,⟨⟨.inl f.1,.inl f.2.1,.inl f.2.2⟩,J2 s3 P a_ a_,a,W _ _ (CY a.2.1) Y,?_,xc,g,W _ _ (CY a.1) mC,?_⟩,λj o d hB _=>n j o (λe=>hB (by rw[e];exact f.1)) (λe=>hB (by rw[e];exact f.2.1)) d,a_⟩
   .grind
   .refine(zI Z o2).j9 (λj d=>⟨.inr ⟨d.1,a_⟩,a_,a_,a_⟩) λj cs e d _ U=>n j _ a_ a_ U)
  obtain⟨e1,O,Q,R⟩:=hK;have e2:bb=false:=by
   simp_all
  subst e2;exact⟨p,_,hu,O,Q,R,λj d=>d.imp id λq=>q.1,λe=>by cases e⟩
end
abbrev T7:=Value×Value×List (TC)
def IY(c:XC)(t:T7):Tn:=RM c t.1 t.2.1
def nY(c:XC)(t:T7):(IY c t).length=7:=rfl
def fA(a:Nat)(x:List (TC))(s:List (List (TC))):List (List (TC))×Bool:=(s++[x],!decide (s.length+1=a))
structure JA(c:XC)(AT:List K3)(CR:TD)(k1:Nat)(mu:Tz)(lim l a1 a2:Nat)(s:List (List (TC)))(B:Tz)(h:HL):Prop where
 bs:B l/\B a1/\B a2
 bd:Bnd c k1 mu B h
 ne:l≠a1/\l≠a2/\a1≠a2
 m1:h[a1]?=some (.o (.cells [.int .i64 (ofNat lim)] 1 true))
 lp:h[l]?=some (if s.length<lim then .lp 176 .ready none [ka a1,ka a2]else .lp 176 .done (some (.exit 0)) [ka a1,ka a2])
 out:∃(xo:Value) (L:List T7),h[a2]?=some (.o (.cells [xo] 1 true))/\h_ 0 h xo 7 (IY c) L/\(∀j,hY xo=some j->B j)/\L.map (λt=>t.2.2)=s/\∀t∈L,G3 CR AT (λj=>B j/\j≠l/\j≠a1/\j≠a2) h t.1 t.2.1 t.2.2
section
variable {c:XC} {AT:List K3} {CR:TD} {k1:Nat} {mu:Tz} {l a1 a2:Nat} (s3:S3x c k1)
include s3
theorem yl_A{f:Nat}(bk:f<=1000)(hl:k1<=l)(X:List (List (TC))):Yl l c AT CR k1 mu (fA f) X (λs=>s.length<f) (JA c AT CR k1 mu f l a1 a2):=by
 refine⟨λs B h M O hk=>?_,λs B h O j d=>(O.bd j d).1,λs B h O j d=>(O.bd j d).2,λs B h O a4 x hx n0 xc A N hn o1 o2=>?_⟩
 .obtain⟨k,hd,g,Q,p,J,L,R,C,E,ad,hL⟩:=O;refine⟨k,λj d=>?_,g,hk _ _ k.2.1 Q,hk _ _ k.1 p,J,L,hk _ _ k.2.2 R,C.j9 λj o d m=>hk j o (E j m) d,E,ad,λt I=>(hL t I).j9 (λj d=>d) λj V e d _ C=>hk j _ d.1 C⟩;obtain⟨q1,q2⟩:=hd j d
  grind
 .obtain⟨k,hd,g,Q,p,J,L,R,C,E,ad,hL⟩:=O;rw[rv a4]at p;have bm:=N l k.1;have a8:=N a1 k.2.1;have a9:=N a2 k.2.2;have aE:L.length=s.length:=jn;obtain⟨bb,M,hu,hK⟩:=gx (K:=λrs M=>rs=[.b (fA f x s).2]/\JA c AT CR k1 mu f l a1 a2 (s++[x]) (λj=>B j∨(n0<=j/\j<M.length)) M/\(∀(j:Nat) o,h[j]?=some o->¬B j->j<n0->M[j]?=some o)/\h.length<=M.length) (ys:=stY c xc A) (ls:=[.i (ofNat c.w),.i (ofNat c.v),.v xc,.i (ofNat c.r.1),.i c.r.2.1,.i c.r.2.2,.v A]) p ⟨rfl,rfl,by
   intro y hy z hz;simp only[DB,Ng,or_false]at hy;subst hy;simp only[S0.cells,DB,Ng,or_false]at hz;have g1:aF xc=true:=h_.i_ (e:=3) (enc:=n4) (λ_=>rfl) o1;have g2:aF A=true:=by
    obtain⟨L,h3,_⟩:=o2;exact h3.i_ gO
   rcases hz with rfl|rfl|rfl|rfl|rfl|rfl|rfl
   all_goals first|trivial|exact g1|exact g2⟩ (by
   have g1:aF xc=true:=h_.i_ (e:=3) (enc:=n4) (λ_=>rfl) o1;have g2:aF A=true:=by
    obtain⟨L,h3,_⟩:=o2;exact h3.i_ gO
   unfold y176;simp only[u5];refine e_ ?_;refine ab (ar _) ?_;refine km ?_;refine ab (ar _) ?_;refine km ?_;have hm:(h++[HO.o (.cells z7 7 true)])[h.length]?=some (.o (.cells z7 7 true)):=aD;refine lH hm rfl ?_;obtain⟨G,eA⟩ : ∃G,G=(h++[HO.o (.cells z7 7 true)]).set h.length (.o (.cells (RM c xc A) 7 true)):=⟨_,rfl⟩;have ax:(h++[HO.o (.cells [.int .i64 0,.int .i64 0,.slice none 0 0,.int .u8 0,.int .i64 0,.int .i64 0,.slice none 0 0] 7 true)]).set h.length (.o (.cells [.int .i64 (ofNat c.w),.int .i64 (ofNat c.v),xc,.int .u8 (ofNat c.r.1),.int .i64 c.r.2.1,.int .i64 c.r.2.2,A] 7 true))=G:=eA.symm;rw[ax];have kA:∀(i:Nat) o,h[i]?=some o->G[i]?=some o:=λi o T=>by
    grind
   have lA:G.length=h.length+1:=kb;have mA:G[h.length]?=some (.o (.cells (RM c xc A) 7 true)):=kb;refine km ?_;refine YJ (kA _ _ p) ?_;obtain⟨gB,eB⟩ : ∃gB,gB=G.set l (.lp 176 .busy none [ka a1,ka a2]):=⟨_,rfl⟩;rw[←eB];have kB:∀(i:Nat) o,i≠l->G[i]?=some o->gB[i]?=some o:=λi o g T=>by
    grind
   have lB:gB.length=h.length+1:=kb;have pB:gB[l]?=some (.lp 176 .busy none [ka a1,ka a2]):=jn;have H:=kB _ _ (CY g.2.1) (kA _ _ R);have av:hY J≠some l:=λe=>by
    obtain⟨V,P⟩:=C.wid e
    simp_all
   have a5:h_ 0 gB J 7 (IY c) L:=C.j9 λj o d m=>kB j o (λe=>av (by rw[m,e])) (kA j o d);refine km ?_;refine cU (ba H) rfl ?_;refine e_ ?_;refine ab (C.i_ (nY c)) ?_;refine km ?_;refine cU (ba (kB _ _ a_ mA)) rfl ?_;simp only[RM];refine e_ ?_;refine ab g1 ?_;refine km ?_;refine ab g2 ?_;refine km ?_;refine a5.G8 (a:=((xc,A,x):T7)) (nY c) (C6 _) rfl rfl rfl (by unfold bc;rw[DQ a_,DQ a_];rfl) ?_;intro U Y hC gv kC lC bC;have F:∀(j:Nat) o,gB[j]?=some o->hY J≠some j->Y[j]?=some o:=λj o d k=>kC j o d k;have bt:gB.length<=Y.length:=lC;refine e_ ?_;refine ab gv ?_;refine km ?_;have ap:hY J≠some a2:=λe=>by
    obtain⟨V,P⟩:=C.wid e
    simp_all
   have an:hY J≠some a1:=λe=>by
    obtain⟨V,P⟩:=C.wid e
    simp_all
   have Z:=F _ _ H ap;refine lH Z rfl ?_;obtain⟨n,eD⟩ : ∃n,n=Y.set a2 (.o (.cells [U] 1 true)):=⟨_,rfl⟩;rw[←eD];have kD:∀(i:Nat) o,i≠a2->Y[i]?=some o->n[i]?=some o:=λi o g T=>by
    grind
   have lD:n.length=Y.length:=kb;have mD:n[a2]?=some (.o (.cells [U] 1 true)):=jn;have a6:hY U≠some a2:=λe=>by
    grind
   have al:h_ 0 n U 7 (IY c) (L++[(xc,A,x)]):=hC.j9 λj o d m=>kD j o (λe=>a6 (by rw[m,e])) d;refine km ?_;refine cU (ba mD) rfl ?_;refine e_ ?_;refine ab gv ?_;refine km ?_;refine bz (al.ls (nY c)) ?_;have nD:n[a1]?=some (.o (.cells [.int .i64 (ofNat f)] 1 true)):=kD _ _ g.2.2 (F _ _ (kB _ _ (CY g.1) (kA _ _ Q)) an);refine cU (ba nD) rfl ?_;refine e_ ?_;have pD:n[l]?=some (.lp 176 .busy none [ka a1,ka a2]):=kD _ _ g.2.1 (F _ _ pB av);have ag:(L++[((xc,A,x):T7)]).length=s.length+1:=by simp[aE]
   rw[ag];have a7:hY U≠some l:=λe=>by
    grind
   have W:∀(o:HO),o=(if s.length+1<f then HO.lp 176 .ready none [ka a1,ka a2]else .lp 176 .done (some (.exit 0)) [ka a1,ka a2])->∀D,D=n.set l o->JA c AT CR k1 mu f l a1 a2 (s++[x]) (λj=>B j∨(n0<=j/\j<D.length)) D/\(∀(j:Nat) o,h[j]?=some o->¬B j->j<n0->D[j]?=some o)/\h.length<=D.length:=by
    intro o bs D eE;have kE:∀(i:Nat) o,i≠l->n[i]?=some o->D[i]?=some o:=λi o g T=>by
     grind
    have lE:D.length=n.length:=kb;have u:∀(i:Nat) o,i≠l->i≠a2->hY J≠some i->h[i]?=some o->D[i]?=some o:=λi o q1 q2 q3 T=>kE i o q1 (kD i o q2 (F i o (kB i o q1 (kA i o T)) q3));have bn:(s++[x]).length=s.length+1:=c_;refine⟨⟨⟨.inl k.1,.inl k.2.1,.inl k.2.2⟩,J2 s3 hd a_ a_,g,kE _ _ (CY g.1) nD,?_,U,L++[(xc,A,x)],kE _ _ (CY g.2.1) mD,al.j9 λj o d m=>kE j o (λe=>a7 (by rw[m,e])) d,λj d=>?_,kb,λt I=>?_⟩,λj o d hB _=>u j o (λe=>hB (by rw[e];exact k.1)) (λe=>hB (by rw[e];exact k.2.2)) (λe=>hB (E j e)) d,a_⟩
    .grind
    .rcases bC with e|⟨i,e,T⟩
     .simp_all
     .rw[e]at d;cases d;have:=(hC.hY e).2;omega
    .rcases Ek.1 I with I|I
     .refine(hL t I).j9 (λj d=>⟨.inl d.1,d.2⟩) λj V e d he S=>u j _ d.2.1 d.2.2.2 (λe2=>?_) S;obtain⟨bl,P⟩:=C.wid e2
      grind
     .rw[Fc]at I;subst I;refine(zI o1 o2).j9 (λj d=>⟨.inr ⟨d.1,a_⟩,a_,a_,a_⟩) λj V e d _ S=>u j _ a_ a_ (λe2=>by
       grind) S
   by_cases he:s.length+1=f
   .rw[ra (congrArg ofNat he)];refine e_ ?_;refine QF pD ?_;refine km ?_;obtain⟨w1,w2,w3⟩:=W _ (by rw[te a_]) _ rfl;refine⟨?_,w1,w2,w3⟩;simp[fA,he]
   .rw[wb (λe=>he (Jr e))];refine e_ ?_;refine hE pD ?_;refine km ?_;obtain⟨w1,w2,w3⟩:=W _ (by rw[rv a_]) _ rfl;refine⟨?_,w1,w2,w3⟩;simp[fA,he])
  obtain⟨e1,ay,a0,a3⟩:=hK;have e2:bb=(fA f x s).2:=by
   simp_all
  subst e2;refine⟨M,_,hu,ay,a0,a3,λj d=>d.imp id λq=>q.1,λe=>?_⟩;show(s++[x]).length<f;have:s.length+1≠f:=by simpa[fA]using e
  simp;omega
end
def w1:∀L:List (List (TC)),(FX fS L none).1=L.head?
 | []=>rfl
 |x :: L=>rfl
def Zb{a:Nat}:∀(L s:List (List (TC))),s.length<a->(FX (fA a) L s).1=s++L.take (a - s.length)
 | [],s,_=>by simp[FX]
 |x :: L,s,h=>by
  rw[oJ];by_cases e:s.length+1=a
  .have:(fA a x s).2=false:=by simp[fA,e]
   rw[this,te oo,show a - s.length=1 by omega];rfl
  .have:(fA a x s).2=true:=by simp[fA,e]
   rw[this,rv rfl];show(FX (fA a) L (s++[x])).1=_;rw[Zb L (s++[x]) ua];rw[show a - s.length=(a - (s++[x]).length)+1 by simp;omega,p',EF];rfl
def AgP(h1:HL)(mu:Tz)(g:HL):Prop:=h1.length<=g.length/\∀(j:Nat) o,j<h1.length->¬mu j->h1[j]?=some o->g[j]?=some o
structure NpR(b:Nat)(c:XC)(n:Bool)(h1:HL)(mu:Tz)(AT:List K3)(CR:TD)(IDS:List (TC))(pn:Ti)(S:(Nat->Bool)->Prop)(F:List A5):Prop where
 hb:h1[b]?=some (.o (.cells (ah c n) 15 true))
 s:S3x c h1.length
 mb:¬mu b
 no:n=true->∀x,Db pn S F x=false
 run:n=false->∃U W us lv r N ids Q,Ro b c U F pn AT IDS CR h1.length mu (AgP h1 mu)/\Hv U r/\Gl IDS N/\(∀f∈F,∀l∈[f.1,f.2.1,f.2.2.1,f.2.2.2],∃q∈IDS,∃a∈q,∃b∈q,a≠b/\l=Dc pn a b)/\IDS=ids :: Q/\ND U pn S F N W us [] [] [] ids Q/\CE us ids=ids/\Mt h1 c h1.length W us ([] :: Q.map λ_=>[]) lv/\∀v∈lv,hY v=none
def b7(h:HL)(w v:Nat)(a:Value)(t:Nat)(x y:Int)(AT:List K3)(CR:TD)(IDS:List (TC))(pn:Ti)(S:(Nat->Bool)->Prop)(F:List A5):Prop:=
 ∀E:Nat->Prop,(∀j,E j->j<h.length/\hY a≠some j)->∃b c n h1,aA cc ac 29 [.i (ofNat w),.i (ofNat v),.v a,.i (ofNat t),.i x,.i y] (g_ aa h) [.v (ka b),.i 0] (g_ aa h1)/\
  (c.w=w/\c.v=v/\c.r=(t,x,y))/\(∀j,E j->hY c.va≠some j/\hY c.us≠some j/\hY c.lay≠some j)/\(∀(j:Nat) o,h[j]?=some o->h1[j]?=some o)/\h.length<=h1.length/\(∀j,hY c.va=some j∨hY c.us=some j∨hY c.lay=some j->h.length<=j)/\
  NpR b c n h1 (λj=>E j∨hY c.va=some j∨hY c.us=some j∨hY c.lay=some j) AT CR IDS pn S F
section
variable {b:Nat} {c:XC} {n:Bool} {h1:HL} {mu:Tz} {AT:List K3} {CR:TD} {IDS:List (TC)} {pn:Ti} {S:(Nat->Bool)->Prop} {F:List A5} (hn:NpR b c n h1 mu AT CR IDS pn S F)
include hn
theorem P_{g9:Type}{l:Nat}{f:List (TC)->g9->g9×Bool}{d:g9->Prop}{J:g9->(Nat->Prop)->HL->Prop}(Y:Yl l c AT CR h1.length mu f (Dj IDS) d J){g:HL}(D:AgP h1 mu g)(ad:∀j,hY c.va=some j∨hY c.us=some j∨hY c.lay=some j->∀o,h1[j]?=some o->g[j]?=some o)
  {e:Nat} (h0:g[e]?=some (.o (.cells [ka b] 1 true))) (G:h1.length<=e) {s:g9} {B:Tz} (y:¬B e) (V:J s B g) (h:d s) :
  ∃h' B',aA cc ac 72 [.v (.func (.yield l) #[] #[]),.v (ka e)] (g_ aa g) [] (g_ aa h')/\J (FX f ((Dj IDS).filter (Db pn S F)) s).1 B' h'/\AgP h1 mu h':=by
 cases n with
 |true=>
  have he:(Dj IDS).filter (Db pn S F)=[]:=List.filter_eq_nil_iff.2 λx _=>by rw[hn.no rfl x];decide
  rw[he];have E:g[b]?=some (.o (.cells (ah c true) 15 true)):=D.2 b _ (am hn.hb) hn.mb hn.hb;have M:=x72 (ls:=[.v (.func (.yield l) #[] #[]),.v (ka e)]) (K:=λrs h'=>rs=[]/\∃B',J s B' h'/\AgP h1 mu h') (H:=g) (q7 rfl (q7 (ar _) t0)) (by
   unfold f72;simp only[u5];refine e_ ?_;obtain⟨a,O⟩ : ∃a,a=g++[HO.o (.cells [.func (.yield l) #[] #[]] 1 true)]:=⟨_,rfl⟩;rw[←O];have l1:a.length=g.length+1:=by rw[O];simp
   obtain⟨k,P⟩ : ∃k,k=a++[HO.o (.cells [.nilFunc] 1 true)]:=⟨_,rfl⟩;rw[←P];refine ab (kM e g.length a.length) ?_;refine km ?_;have A:k[a.length]?=some (.o (.cells [.nilFunc] 1 true)):=by rw[P];exact aD
   refine lH A rfl ?_;obtain⟨m,e3⟩ : ∃m,m=k.set a.length (.o (.cells [IU e g.length a.length] 1 true)):=⟨_,rfl⟩;have u:k.set a.length (.o (.cells [.func (.func 73) ⟨[]⟩ ⟨[ka e,ka g.length,ka a.length]⟩] 1 true))=m:=e3.symm
   try rw[u]
   have t:∀(i:Nat) o,g[i]?=some o->m[i]?=some o:=λi o X=>by
    grind
   refine km ?_;refine cU (ba (t _ _ h0)) rfl ?_;refine e_ ?_;refine ab (ar _) ?_;refine km ?_;refine bv (ds:=[.bool true]) (t _ _ E) (by simp[ah]) rfl ?_;simp(disch:=omega)only[↓nc,DP];refine⟨C2,B,Y.kp s B g m V λi o _ X=>t i o X,?_,λj o h1 w h3=>t j o (D.2 j o h1 w h3)⟩
   grind)
  obtain⟨rs,h',w,rfl,B',q⟩:=M;exact⟨h',B',w,q⟩
 |false=>
  obtain⟨U,W,us,lv,r,N,L,Q,R,hF,hG,C,T,hN,I,hM,p⟩:=hn.run rfl;have z:Mt g c h1.length W us ([] :: Q.map λ_=>[]) lv:=hM.j9 λj o hj hb=>by
   grind
  have hX:∀x∈Dj (CE us L :: Q),x∈Dj IDS:=λx hx=>by rwa [I,←T]at hx
  obtain⟨h',B',cf,j1,j2⟩:=B8 R Y hF hG C (S:=S) T hN hX D z h0 G y (λv Z=>by rw[p v Z];simp) (λv Z j hj=>jn) V h
  grind
end
end Go.Am
end

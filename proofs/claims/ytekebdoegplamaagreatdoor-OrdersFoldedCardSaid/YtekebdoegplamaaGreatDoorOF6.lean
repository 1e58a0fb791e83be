import Derived.Test.YtekebdoegplamaaGreatDoorOF5
set_option linter.all false
noncomputable section
set_option maxRecDepth 100000
set_option maxHeartbeats 16000000
open Option renaming some->O,none->Q
open Bool renaming true->J,false->U
open List renaming length->W,range->EW,replicate->FJ
open Int renaming ofNat->DO
open Go.Value renaming int->EO,slice->DW,pointer->EQ,agg->EU
open Go.IntKind renaming i64->DQ,u8->DU
open Go renaming Value->FO
open Go.Am.wa renaming cells->EJ
namespace Go.Am
theorem Ei{p:Prop}(h:p:=by trivial):p:=h
namespace Sx
section
variable [El] [E_] {C:p_} {Sg:Td} {T:Tv}
variable {m8:Type} [DecidableEq m8] (kc:m8->Tn) {kk:TK} (hd:∀a b,C2 kk (kc a) (kc b)=O (decide (a=b)))
def E8(h:HL)(id:Nat)(b:List (m8×FO)):Prop:=∃a c,h[id]?=O (.o (.map a c))/\a.map (λe=>(e.key,e.val))=b.map λp=>(EU ⟨kc p.1⟩,p.2)
def E8.ke{h h':HL}{id:Nat}{a:List (m8×FO)}(g:E8 kc h id a)(f:∀o,h[id]?=O o->h'[id]?=O o):E8 kc h' id a:=by obtain⟨b,c,d,e⟩:=g;exact⟨b,c,f _ d,e⟩
def E8.lt{h:HL}{id:Nat}{d:List (m8×FO)}(b:E8 kc h id d):id<W h:=by obtain⟨e,c,a,_⟩:=b;exact ah a
def E8.keys{a:Tj}{b:List (m8×FO)}(h:a.map (λe=>(e.key,e.val))=b.map λp=>(EU ⟨kc p.1⟩,p.2)):a.map (·.key)=(b.map Prod.fst).map λk=>EU ⟨kc k⟩:=by have:=congrArg (List.map Prod.fst) h;rw[y5,y5]at this;rw[y5];exact this
variable {kt:TS} (h1:DV C.P kt=O J) (h2:EE C.P 10000 kt=O kk) (h3:∀a,∃r,fU kk (kc a) (kc a)=O r)
include hd h1 h2 h3
theorem pD{h:HL}{id:Nat}{a:List (m8×FO)}{z:TV}{K:Tf}(x:E8 kc h id a)(k:m8){v:TV}(y:v=EU ⟨kc k⟩)(H:∀cs,z≠.agg cs)(F:∀p∈a,∀cs,p.2≠.agg cs)
  (h0:k∉a.map Prod.fst->K [z]) (E:∀(i:Nat) u,a[i]?=O (k,u)->K [u]) :
  (PH C Sg T).oo (.fn (Hv C kt U z (.map (O id)) v U)) h (@j_ _ ⟨K⟩):=by
 subst y;obtain⟨b,c,m,f⟩:=x;have D:∀u:FO,(∀cs,u≠.agg cs)->gM U u=O [u]:=λu G=>by
  unfold gM
  simp_all
 have d:∃cs,Hv C kt U z (.map (O id)) (EU ⟨kc k⟩) U (w_ T h)=O cs/\K cs:=by
  unfold Hv;rw[PT kc h1 h2 h3 k];simp only[Fv,FG,if_false];rw[pO m];simp only;rw[AA kc h1 h2 k (LF kc hd k 0 (E8.keys kc f))];cases r:(a.map Prod.fst).idxOf? k with
  |none=>simp_all
  |some j=>
   obtain⟨s,w,_⟩:=qcj.1 r;have l:W b=W a:=by have:=congrArg List.length f;simpa using this
   have t:j<W a:=by simpa using s
   have q:b[j]?=O (b[j]'(by omega)):=Gn _;have g:a[j]?=O a[j]:=Gn _;have n:(b.map (λe=>(e.key,e.val)))[j]?=(a.map λp=>((EU ⟨kc p.1⟩ : FO),p.2))[j]?:=by rw[f]
   rw[GL,GL,q,g]at n;have B:(b[j]'(by omega)).val=a[j].2:=by simp_all
   have A:eQ b j=O a[j].2:=by
    unfold eQ
    simp_all
   grind
 obtain⟨cs,e,o⟩:=d;exact cI e o
theorem m4{h:HL}{id:Nat}{b:List (m8×FO)}{u:TV}{K:Tb}(j:E8 kc h id b)(k:m8)(i:k∉b.map Prod.fst){v:TV}(l:v=EU ⟨kc k⟩)(g:∀o,E8 kc (h.set id o) id (b++[(k,u)])->K [] (h.set id o)) :
  (PH C Sg T).heap (.fn (Ic C kt (.map (O id)) v u)) h (@j_ _ ⟨K⟩):=by
 subst l;obtain⟨f,c,d,e⟩:=j;have a:(Hp.fn (Ic C kt (.map (O id)) (EU ⟨kc k⟩) u)).run (w_ T h) (W h)=O ([.set id (.map (f++[{ key:=EU ⟨kc k⟩,val:=u,born:=c }]) (c+1))],[]):=by show Ic C kt (.map (O id)) (EU ⟨kc k⟩) u (w_ T h) (W h)=_;unfold Ic;simp only;rw[PT kc h1 h2 h3 k];simp only[Fv,FG,if_false];rw[pO d];simp only;rw[AA kc h1 h2 k (LF kc hd k 0 (E8.keys kc e)),qdr.2 i];rfl
 exact bK a (g _ ⟨_,_,Kw (ah d),by simp[e]⟩)
end
section
variable [El] [E_] {C:p_} {T:Tv}
abbrev K6:=K3×K3
def N9(k:K6):Tn:=Hg k.1++Hg k.2
abbrev kk6:TK:=[.i DQ,.i DQ,.i DU,.i DQ,.i DQ,.i DU]
def Yu(a b:K6):C2 kk6 (N9 a) (N9 b)=O (decide (a=b)):=by
 have g:dc DQ DQ=J:=rfl;have i:dc DU DU=J:=rfl;obtain⟨⟨j,k,c⟩,l,m,d⟩:=a;obtain⟨⟨n,o,e⟩,p,q,f⟩:=b;simp only[N9,Hg,Fe,E7,C2,g,i,jg,x3];have e3:decide (DO c=DO e)=decide (c=e):=decide_eq_decide.2 ⟨λh=>Ky h,λh=>by rw[h]⟩;have e4:decide (DO d=DO f)=decide (d=f):=decide_eq_decide.2 ⟨λh=>Ky h,λh=>by rw[h]⟩
 grind
def Po(a:K6):∃r,fU kk6 (N9 a) (N9 a)=O r:=by have b:dc DQ DQ=J:=rfl;have c:dc DU DU=J:=rfl;simp only[N9,Hg,Fe,E7,fU,b,c,jg];exact⟨_,rfl⟩
end
end Sx
end Go.Am
namespace Go.Am
open Sx
abbrev Lit:=Nat×Bool
def xr(a b:Bool):Bool:=!decide (a=b)
def A4(V:Tx)(l:Lit):Bool:=xr (V l.1) l.2
def Xd(a:Bool):xr a U=a:=by cases a<;>rfl
def xr_t(a:Bool):xr a J = !a:=by cases a<;>rfl
def xr_as(a b c:Bool):xr (xr a b) c=xr a (xr b c):=by cases a<;>cases b<;>cases c<;>rfl
def xr_cm(a b:Bool):xr a b=xr b a:=by cases a<;>cases b<;>rfl
def Sw(a:Bool):xr a a=U:=by cases a<;>rfl
structure Lg(rN:List Lit)(r:TF):Prop where
 cl:∀(i:Nat) u,rN[i]?=some u->u.1<rN.length
 rk:∀(i:Nat) u,rN[i]?=some u->u.1≠i->r u.1<r i
 rt:∀(i:Nat) u,rN[i]?=some u->u.1=i->u.2=false
inductive Rt(rN:List Lit):Lit->Lit->Prop
 |here {l:Lit} (h:rN[l.1]?=some (l.1,false)):Rt rN l l
 |step {l l' u:Lit} (h:rN[l.1]?=some u) (hne:u.1≠l.1) (hr:Rt rN (u.1,xr l.2 u.2) l'):Rt rN l l'
def Rt.root{rN:List Lit}{l l':Lit}(h:Rt rN l l'):rN[l'.1]?=O (l'.1,U):=by
 induction h with
 |here h=>exact h
 |step _ _ _ a=>exact a
def Rt.det{rN:List Lit}{l a b:Lit}(h:Rt rN l a)(h':Rt rN l b):a=b:=by
 induction h with
 |here h=>
  cases h' with
  |here _=>rfl
  |step d c _=>simp_all
 |step h c _ f=>
  cases h' with
  |here d=>grind
  |step d _ e=>simp_all
def Rt.ex{rN:List Lit}{r:TF}(b:Lg rN r):∀(n:Nat) (l:Lit),r l.1=n->l.1<W rN->∃l',Rt rN l l':=by
 intro n
 induction n using Nat.strongRecOn with
 |_ n f=>
  intro l h d;obtain⟨u,a⟩:=ak d;by_cases e:u.1=l.1
  .have:=b.rt _ _ a e;refine⟨l,.here ?_⟩
   grind
  .have g:=b.rk _ _ a e;obtain⟨l',c⟩:=f (r u.1) a_ (u.1,xr l.2 u.2) rfl (b.cl _ u a);exact⟨l',.step a e c⟩
def Rt.not{rN:List Lit}{l l':Lit}(h:Rt rN l l')(b:Bool):Rt rN (l.1,xr l.2 b) (l'.1,xr l'.2 b):=by
 induction h with
 |here h=>exact .here h
 |step h d _ e=>refine .step h d ?_;rw[show ∀a c:Bool,xr (xr a b) c=xr (xr a c) b from λa c=>by cases a<;>cases b<;>cases c<;>rfl];exact e
def Rt.lt{rN:List Lit}{l l':Lit}(h:Rt rN l l'):l'.1<W rN:=ah h.root
def Rsp(rN:List Lit)(V:Tx):Prop:=∀(i:Nat) u,rN[i]?=O u->V i=A4 V u
def Rt.vv{rN:List Lit}{V:Tx}(a:Rsp rN V){l l':Lit}(h:Rt rN l l'):A4 V l=A4 V l':=by
 induction h with
 |here _=>rfl
 |step h _ _ b=>
  rw[←b];unfold A4;rw[a _ _ h];unfold A4;rw[xr_as]
  congr 1
  exact xr_cm _ _
def Rs(rN:List Lit)(DJ:TE)(V:Tx):Prop:=Rsp rN V/\∀i:Nat,rN[i]?=O (i,U)->(DJ[i]?=O 1->V i=J)/\(DJ[i]?=O (-1)->V i=U)
def IF(rN:List Lit)(DJ:TE):Prop:=W DJ=W rN/\∀x∈DJ,x=0∨x=1∨x = -1
def rs_ex{rN:List Lit}{r:TF}(j:Lg rN r)(DJ:TE):∃V,Rs rN DJ V:=by
 classical
 obtain⟨V,k⟩ : ∃V:Nat->Bool,∀i c,Rt rN (i,U) c->V i=xr (decide (DJ[c.1]?=O 1)) c.2:=by refine⟨λi=>decide (∃c,Rt rN (i,U) c/\xr (decide (DJ[c.1]?=O 1)) c.2=J),λi c h=>?_⟩;rw[h9,Gp];exact⟨λ⟨o,f,g⟩=>by rw[h.det f];exact g,λg=>⟨c,h,g⟩⟩
 refine⟨V,λi u l=>?_,λi n=>?_⟩
 .by_cases e:u.1=i
  .have:=j.rt i u l e;obtain⟨a,b⟩:=u;simp only at e this;subst e this;unfold A4;rw[Xd]
  .obtain⟨c,d⟩:=Rt.ex j _ (u.1,U) rfl (j.cl _ u l);have m:=d.not u.2;simp only at m;have f:Rt rN (i,U) (c.1,xr c.2 u.2):=.step l e m;unfold A4;rw[k _ _ f,k _ _ d,xr_as]
 .rw[k _ _ (.here n),Xd]
  simp_all
def kv(DJ:TE)(l:Lit):Int:=if l.2 then -(DJ.getD l.1 0)else DJ.getD l.1 0
def Kn(rN:List Lit)(DJ:TE)(l:Lit)(x:Int):Prop:=∃l',Rt rN l l'/\x=kv DJ l'
def Kn.det{rN:List Lit}{DJ:TE}{l:Lit}{x y:Int}(h:Kn rN DJ l x)(h':Kn rN DJ l y):x=y:=by obtain⟨a,c,rfl⟩:=h;obtain⟨b,d,rfl⟩:=h';rw[c.det d]
def AQ{rN:List Lit}{DJ:TE}(a:IF rN DJ)(l:Lit):kv DJ l=0∨kv DJ l=1∨kv DJ l = -1:=by
 have:DJ.getD l.1 0=0∨DJ.getD l.1 0=1∨DJ.getD l.1 0 = -1:=by
  rw[List.getD_eq_getElem?_getD];cases h:DJ[l.1]? with
  |none=>left;rfl
  |some x=>exact a.2 x (A9 h)
 unfold kv;omega
theorem getD_some{DJ:TE}{i:Nat}{x:Int}(h:DJ.getD i 0=x)(a:x≠0):DJ[i]?=O x:=by grind
def PX{rN:List Lit}{DJ:TE}{V:Tx}(d:Rs rN DJ V){l':Lit}(e:rN[l'.1]?=O (l'.1,U)):(kv DJ l'=1->A4 V l'=J)/\(kv DJ l' = -1->A4 V l'=U):=by
 obtain⟨a,c⟩:=d.2 _ e;obtain⟨i,b⟩:=l';unfold kv A4;simp only at a c ⊢;cases b with
 |false=>
  rw[Xd]
  grind
 |true=>
  rw[xr_t]
  grind
def Kn.vv{rN:List Lit}{DJ:TE}{V:Tx}(b:Rs rN DJ V){l:Lit}{x:Int}(h:Kn rN DJ l x):(x=1->A4 V l=J)/\(x = -1->A4 V l=U):=by obtain⟨c,a,rfl⟩:=h;rw[a.vv b.1];exact PX b a.root
def FZ(l:Lit):Int:=if l.2 then -1 else 1
def Et(DJ:TE)(l:Lit):TE:=if DJ.getD l.1 0=0 then DJ.set l.1 (FZ l)else DJ
def wnt_ne(l:Lit):FZ l≠0:=by unfold FZ;omega
def vC{rN:List Lit}{DJ:TE}(a:IF rN DJ)(l:Lit):IF rN (Et DJ l):=by
 unfold Et;split
 .refine⟨by rw[HP];exact a.1,λx b=>?_⟩;rcases qbC b with h|rfl
  .exact a.2 x h
  .unfold FZ;omega
 .exact a
def R3{rN:List Lit}{DJ:TE}(s:IF rN DJ){l l':Lit}(h:Rt rN l l')(o:(Et DJ l').getD l'.1 0=FZ l')(V:Tx):Rs rN (Et DJ l') V↔Rs rN DJ V/\A4 V l=J:=by
 have a:=h.root;have g:l'.1<W DJ:=by rw[s.1];exact h.lt
 obtain⟨i,b⟩:=l';simp only at a g o;have d:∀V,Rsp rN V->(A4 V l=J↔V i = !b):=λV r=>by rw[h.vv r];unfold A4;simp only;generalize V i=y;cases y<;>cases b<;>decide
 have t:∀j,j≠i->(Et DJ (i,b))[j]?=DJ[j]?:=λj n=>by
  unfold Et
  grind
 have f:=getD_some o (wnt_ne _);have v:DJ[i]?=O 0∨DJ[i]?=O (FZ (i,b)):=by
  unfold Et at f
  grind
 constructor
 .rintro⟨c,m⟩;have k:V i = !b:=by
   obtain⟨p,q⟩:=m i a;rw[f]at p q;cases b with
   |false=>exact p rfl
   |true=>exact q rfl
  refine⟨⟨c,λj n=>?_⟩,(d V c).2 k⟩
  grind
 .rintro⟨⟨c,m⟩,u⟩;have k:=(d V c).1 u;refine⟨c,λj n=>?_⟩;by_cases e:j=i
  .subst e;rw[f,k];cases b with
   |false=>exact⟨λ_=>rfl,λe=>(by cases e)⟩
   |true=>exact⟨λe=>(by cases e),λ_=>rfl⟩
  simp_all
def B1{rN:List Lit}{DJ:TE}(f:IF rN DJ){l l':Lit}(d:Rt rN l l')(c:(Et DJ l').getD l'.1 0≠FZ l'):Et DJ l'=DJ/\∀V,Rs rN DJ V->A4 V l=U:=by
 have a:=d.root;have b:l'.1<W DJ:=by rw[f.1];exact d.lt
 unfold Et at c ⊢;by_cases g:DJ.getD l'.1 0=0
 .simp_all
 .rw[ts g]at c ⊢;refine⟨rfl,λV e=>?_⟩;rw[d.vv e.1];refine(PX e a).2 ?_;have h:DJ.getD l'.1 0=0∨DJ.getD l'.1 0=1∨DJ.getD l'.1 0 = -1:=by rw[List.getD_eq_getElem?_getD,Gn b];exact f.2 _ (List.getElem_mem b)
  unfold kv;unfold FZ at c
  grind
def kn_set{rN:List Lit}{DJ:TE}(l':Lit){l:Lit}{x:Int}(h:Kn rN DJ l x)(c:x≠0):Kn rN (Et DJ l') l x:=by
 obtain⟨a,b,rfl⟩:=h;refine⟨a,b,?_⟩;unfold Et;split
 next d=>
  by_cases e:l'.1=a.1
  .exfalso;apply c;unfold kv
   simp_all
  .unfold kv
   simp_all
 .rfl
def kn_new{rN:List Lit}{DJ:TE}{l l':Lit}(a:Rt rN l l')(b:(Et DJ l').getD l'.1 0=FZ l'):Kn rN (Et DJ l') l 1:=by refine⟨l',a,?_⟩;unfold kv;rw[b];unfold FZ;split<;>rfl
def nS{rN:List Lit}{a b:Nat}{x:Bool}(d:rN[a]?=O (a,U))(V:Tx):Rsp (rN.set a (b,x)) V↔Rsp rN V/\V a=A4 V (b,x):=by
 constructor
 .intro h;refine⟨λi u c=>?_,h a _ (Kw (ah d))⟩;by_cases e:i=a
  .subst e;rw[d]at c;cases c;unfold A4;rw[Xd]
  .exact h i u jw
 .rintro⟨f,g⟩ i u c;by_cases e:i=a
  .grind
  .rw[K7 (EC e)]at c;exact f i u c
def uA{rN:List Lit}{r:TF}(f:Lg rN r){a b:Nat}{x:Bool}(g:rN[a]?=O (a,U))(q:rN[b]?=O (b,U))(p:a≠b):∃r',Lg (rN.set a (b,x)) r':=by
 classical
 refine⟨λi=>r i+if ∃n,Rt rN (i,U) (a,n)then r b+1 else 0,λi u c=>?_,λi u c j=>?_,λi u c e=>?_⟩
 .rw[HP];by_cases e:i=a
  .grind
  .rw[K7 (EC e)]at c;exact f.cl i u c
 .by_cases e:i=a
  .subst e;rw[Kw (ah g)]at c;cases c;have m:¬ ∃n,Rt rN (b,U) (i,n):=by
    rintro⟨n,h⟩;have:=(Rt.here (l:=(b,U)) q).det h
    simp_all
   have o:∃n,Rt rN (i,U) (i,n):=⟨U,.here g⟩
   grind
  .rw[K7 (EC e)]at c;have m:=f.rk i u c j;have o:(∃n,Rt rN (u.1,U) (a,n))↔∃n,Rt rN (i,U) (a,n):=by
    constructor
    .rintro⟨n,h⟩;refine⟨xr n u.2,.step (u:=u) c j ?_⟩;have:=h.not u.2;exact this
    .rintro⟨n,h⟩;cases h with
     |here d=>omega
     |step d _ s=>rw[c]at d;cases d;have:=s.not (xr U u.2);simp only[Sw]at this;exact⟨_,this⟩
   simp_all
 .by_cases k:i=a
  .grind
  .rw[K7 (EC k)]at c;exact f.rt i u c e
def zw{rN:List Lit}{DJ:TE}{a b:Nat}{x:Bool}(c:rN[a]?=O (a,U))(e:rN[b]?=O (b,U))(d:a≠b){V:Tx}
  (f:V a=A4 V (b,x)->((DJ[b]?=O 1->V b=J)/\(DJ[b]?=O (-1)->V b=U))->(DJ[a]?=O 1->V a=J)/\(DJ[a]?=O (-1)->V a=U)) :
  Rs (rN.set a (b,x)) DJ V↔Rs rN DJ V/\V a=A4 V (b,x):=by
 unfold Rs;rw[nS c]
 grind
def Gi(rN:List Lit)(DJ:TE)(n:Bool)(p q:Lit):List Lit×Bool:=
 if p.1=q.1 then(rN,n||xr p.2 q.2)
 else if kv DJ p≠0/\kv DJ q≠0 then(rN.set p.1 (q.1,xr p.2 q.2),n || !decide (kv DJ p=kv DJ q))
 else if kv DJ p≠0 then(rN.set q.1 (p.1,xr p.2 q.2),n)
 else(rN.set p.1 (q.1,xr p.2 q.2),n)
def kv0{DJ:TE}{l:Lit}(h:kv DJ l=0):DJ.getD l.1 0=0:=by unfold kv at h;omega
def eq_sem{rN:List Lit}{DJ:TE}{r:TF}(B:Lg rN r)(m:IF rN DJ)(n:Bool){p q a b:Lit}(C:Rt rN p a)(D:Rt rN q b) :
  (∃r',Lg (Gi rN DJ n a b).1 r')/\IF (Gi rN DJ n a b).1 DJ/\∀V,((Gi rN DJ n a b).2=U/\Rs (Gi rN DJ n a b).1 DJ V)↔(n=U/\Rs rN DJ V/\A4 V p=A4 V q):=by
 have f:=C.root;have g:=D.root;have i:∀ {V},Rsp rN V->(A4 V p=A4 V q↔V a.1=A4 V (b.1,xr a.2 b.2)):=λ{V} u=>by rw[C.vv u,D.vv u];unfold A4;simp only;generalize V a.1=x;generalize V b.1=y;generalize a.2=z;generalize b.2=w;cases x<;>cases y<;>cases z<;>cases w<;>decide
 have A:∀ {V},Rsp rN V->(A4 V p=A4 V q↔V b.1=A4 V (a.1,xr a.2 b.2)):=λ{V} u=>by rw[C.vv u,D.vv u];unfold A4;simp only;generalize V a.1=x;generalize V b.1=y;generalize a.2=z;generalize b.2=w;cases x<;>cases y<;>cases z<;>cases w<;>decide
 have s:∀ {l:Lit} {V:Tx},kv DJ l=0->(DJ[l.1]?=O 1->V l.1=J)/\(DJ[l.1]?=O (-1)->V l.1=U):=λ{l V} h=>by
  have:=kv0 h
  grind
 unfold Gi;by_cases e:a.1=b.1
 .rw[rv e];refine⟨⟨r,B⟩,m,λV=>?_⟩;simp only;constructor
  .rintro⟨d,c⟩;rw[qbM]at d;refine⟨d.1,c,(i c.1).2 ?_⟩;unfold A4;rw[d.2,Xd,e]
  .rintro⟨d,c,j⟩;refine⟨?_,c⟩;have:=(i c.1).1 j;unfold A4 at this;simp only at this;rw[e]at this;rw[d,qcv];revert this;generalize V b.1=y;generalize xr a.2 b.2=z;cases y<;>cases z<;>decide
 rw[ts e];by_cases v:kv DJ a≠0/\kv DJ b≠0
 .rw[rv v];refine⟨uA B f g e,⟨by rw[HP];exact m.1,m.2⟩,λV=>?_⟩;simp only;have L:=AQ m a;have M:=AQ m b;by_cases E:kv DJ a=kv DJ b
  .rw[FX E,Fv,Bool.or_false,zw f g e]
   .exact⟨λh=>⟨h.1,h.2.1,(i h.2.1.1).2 h.2.2⟩,λh=>⟨h.1,h.2.1,(i h.2.1.1).1 h.2.2⟩⟩
   .intro d c;have F:∀ {l:Lit},DJ[l.1]?=O 1∨DJ[l.1]?=O (-1)->(DJ[l.1]?=O 1↔kv DJ l=if l.2 then -1 else 1)/\(DJ[l.1]?=O (-1)↔kv DJ l=if l.2 then 1 else -1):=λ{l} h=>by
     unfold kv
     grind
    have G:∀ {l:Lit},kv DJ l≠0->DJ[l.1]?=O 1∨DJ[l.1]?=O (-1):=λ{l} h=>by
     have K:=AQ m (l.1,U);unfold kv at K h
     grind
    have H:=F (G v.1);have I:=F (G v.2);unfold A4 at d;simp only at d;rw[d];rw[H.1,H.2,E];rw[I.1,I.2]at c;revert c;generalize V b.1=y;generalize kv DJ b=k at *;cases a.2<;>cases b.2<;>cases y<;>simp[xr]<;>omega
  .rw[Ga E,GG,Bool.or_true];constructor
   .simp_all
   .rintro⟨_,c,j⟩;exfalso;rw[C.vv c.1,D.vv c.1]at j;have N:=PX c f;have P:=PX c g
    grind
 rw[ts v];by_cases o:kv DJ a≠0
 .rw[rv o];have t:kv DJ b=0:=Classical.byContradiction λh=>v ⟨o,h⟩;refine⟨uA B g f (EC e),⟨by rw[HP];exact m.1,m.2⟩,λV=>?_⟩;simp only;rw[zw g f (EC e) λ_ _=>s t];exact⟨λ⟨d,c,j⟩=>⟨d,c,(A c.1).2 j⟩,λ⟨d,c,j⟩=>⟨d,c,(A c.1).1 j⟩⟩
 .rw[ts o];have t:kv DJ a=0:=Classical.byContradiction λh=>o h;refine⟨uA B f g e,⟨by rw[HP];exact m.1,m.2⟩,λV=>?_⟩;simp only;rw[zw f g e λ_ _=>s t];exact⟨λ⟨d,c,j⟩=>⟨d,c,(i c.1).2 j⟩,λ⟨d,c,j⟩=>⟨d,c,(i c.1).1 j⟩⟩
def KY:Nat->TC->List (TC)
 |0,_=>[[]]
 |n+1,l=>l.flatMap λa=>(KY n (l.erase a)).map (a :: ·)
def Ec:List (TC)->List (List (TC))
 | []=>[[]]
 |l::ls=>(KY (W l) l).flatMap λp=>(Ec ls).map (p :: ·)
def Ij{j7 g9:Type}(f:j7->g9->g9×Bool):List j7->g9->g9×Bool
 | [],s=>(s,J)
 |x::xs,s=>if (f x s).2 then Ij f xs (f x s).1 else((f x s).1,U)
def qd{j7 g9:Type}{f:j7->g9->g9×Bool}{x:j7}{xs:List j7}{s:g9}:Ij f (x::xs) s=if (f x s).2 then Ij f xs (f x s).1 else((f x s).1,U):=rfl
def vK{j7 g9:Type}{f:j7->g9->g9×Bool}:∀ {xs ys:List j7} {s:g9},Ij f (xs++ys) s=if (Ij f xs s).2 then Ij f ys (Ij f xs s).1 else Ij f xs s
 | [],ys,s=>rfl
 |x::xs,ys,s=>by
  rw[Fe,qd,qd];split
  .exact vK
  .rfl
def pX:∀ {n:Nat} {l p:TC},W l=n->p∈KY n l->p.Perm l
 |0,l,p,c,b=>by
  have b:p=[]:=by simpa[KY]using b
  simp_all
 |n+1,l,p,c,b=>by
  unfold KY at b;obtain⟨a,f,b⟩:=Gv.1 b;obtain⟨q,d,rfl⟩:=Ed.1 b;have e:=pX (l:=l.erase a) k_ d
  grind
def Rc:∀ {n:Nat} {l p:TC},W l=n->p.Perm l->p∈KY n l
 |0,l,p,c,b=>by have:l=[]:=qcY c;subst this;rw[b.eq_nil];simp[KY]
 |n+1,l,p,c,b=>by
  cases p with
  |nil=>simp_all
  |cons a p=>
   have d:a∈l:=b.mem_iff.1 d_;unfold KY;refine Gv.2 ⟨a,d,Ed.2 ⟨p,Rc k_ ?_,rfl⟩⟩
   grind
abbrev DZ:=Lit×Lit×Lit×Lit
def Y'(V:Tx)(f:DZ):Bool:=xr (xr (A4 V f.1) (A4 V f.2.1)) (xr (A4 V f.2.2.1) (A4 V f.2.2.2))
def MG(F:List DZ)(V:Tx):Prop:=∀f∈F,Y' V f=U
def Sg(rN:List Lit)(DJ:TE)(f:DZ)(x:Int):Prop:=∃a b c d,Kn rN DJ f.1 a/\Kn rN DJ f.2.1 b/\Kn rN DJ f.2.2.1 c/\Kn rN DJ f.2.2.2 d/\x=a*b*c*d
def Lq(rN:List Lit)(DJ:TE)(F:List DZ):Prop:=∀f∈F,∀x,Sg rN DJ f x->¬x<0
def w3{a b c d:Int}(e:a=0∨a=1∨a = -1)(f:b=0∨b=1∨b = -1)(g:c=0∨c=1∨c = -1)(h:d=0∨d=1∨d = -1):a*b*c*d=0∨a*b*c*d=1∨a*b*c*d = -1:=by grind
def Kn.Ns{rN:List Lit}{DJ:TE}(b:IF rN DJ){l:Lit}{x:Int}(h:Kn rN DJ l x):x=0∨x=1∨x = -1:=by obtain⟨a,_,rfl⟩:=h;exact AQ b a
def ev_no{rN:List Lit}{DJ:TE}(g:IF rN DJ){F:List DZ}{f:DZ}(s:f∈F){x:Int}(t:Sg rN DJ f x)(i:x<0):∀V,Rs rN DJ V->¬MG F V:=by
 intro V e r;have h:=r f s;obtain⟨a,b,c,d,j,k,l,m,rfl⟩:=t;have u:=j.Ns g;have v:=k.Ns g;have w:=l.Ns g;have rd:=m.Ns g;have n:=j.vv e;have o:=k.vv e;have p:=l.vv e;have q:=m.vv e;unfold Y' at h;revert h;rcases u with rfl|rfl|rfl
 .simp at i
 all_goals rcases v with rfl|rfl|rfl
 all_goals try (simp at i;done)
 all_goals rcases w with rfl|rfl|rfl
 all_goals try (simp at i;done)
 all_goals rcases rd with rfl|rfl|rfl
 all_goals try (simp at i;done)
 all_goals first|rw[n.1 rfl]|rw[n.2 rfl]
 all_goals first|rw[o.1 rfl]|rw[o.2 rfl]
 all_goals first|rw[p.1 rfl]|rw[p.2 rfl]
 all_goals first|rw[q.1 rfl]|rw[q.2 rfl]
 all_goals decide
def ev_yes{rN:List Lit}{DJ:TE}(g:IF rN DJ){F:List DZ}(q:Lq rN DJ F)(r:∀f∈F,∃a b c d,Kn rN DJ f.1 a/\Kn rN DJ f.2.1 b/\Kn rN DJ f.2.2.1 c/\Kn rN DJ f.2.2.2 d/\a≠0/\b≠0/\c≠0/\d≠0){V:Tx}(e:Rs rN DJ V):MG F V:=by
 intro f l;obtain⟨a,b,c,d,h,i,j,k,t,u,v,w⟩:=r f l;have s:=q f l _ ⟨a,b,c,d,h,i,j,k,rfl⟩;have x:=h.Ns g;have y:=i.Ns g;have z:=j.Ns g;have rd:=k.Ns g;have m:=h.vv e;have n:=i.vv e;have o:=j.vv e;have p:=k.vv e;unfold Y';rcases x with rfl|rfl|rfl
 .exact absurd rfl t
 all_goals rcases y with rfl|rfl|rfl
 all_goals try (exact absurd rfl u)
 all_goals rcases z with rfl|rfl|rfl
 all_goals try (exact absurd rfl v)
 all_goals rcases rd with rfl|rfl|rfl
 all_goals try (exact absurd rfl w)
 all_goals try (exfalso;exact s q7)
 all_goals first|rw[m.1 rfl]|rw[m.2 rfl]
 all_goals first|rw[n.1 rfl]|rw[n.2 rfl]
 all_goals first|rw[o.1 rfl]|rw[o.2 rfl]
 all_goals first|rw[p.1 rfl]|rw[p.2 rfl]
 all_goals decide
abbrev _root_.Ti:=Nat->Nat->Nat
def Em(pn:Ti)(a b:Nat):Lit:=if a<b then(pn a b,U)else(pn b a,J)
def ie{pn:Ti}{a b:Nat}(h:a≠b):Em pn b a=((Em pn a b).1,xr (Em pn a b).2 J):=by
 unfold Em;by_cases c:a<b
 .rw[rv c,ts a_];rfl
 .rw[ts c,rv a_];rfl
def HK(D:List (TC))(p r:TC)(R:List (TC)):List (List (TC)):=(KY (W r) r).flatMap λq=>(Ec R).map λt=>D++(p++q)::t
def AW{D:List (TC)}{p r:TC}{R:List (TC)}(e:r≠[]):HK D p r R=r.flatMap λa=>HK D (p++[a]) (r.erase a) R:=by
 unfold HK;obtain⟨n,c⟩ : ∃n,W r=n+1:=⟨W r-1,by have:=qbG.2 e;omega⟩;rw[c,show KY (n+1) r=r.flatMap λa=>(KY n (r.erase a)).map (a :: ·)from rfl,List.flatMap_assoc];have g:∀l:List Nat,(∀a∈l,a∈r)->(l.flatMap λx=>((KY n (r.erase x)).map (x :: ·)).flatMap λq=>(Ec R).map λt=>D++(p++q)::t)=l.flatMap λa=>(KY (W (r.erase a)) (r.erase a)).flatMap λq=>(Ec R).map λt=>D++(p++[a]++q)::t:=by
  intro l
  induction l with
  |nil=>intro _;rfl
  |cons a l f=>
   intro h;rw[kD,kD,f λb d=>h b (G_ _ d)]
   congr 1
   rw[List.length_erase_of_mem (h a d_),c,qcz]
   simp_all
 simp_all
def AV{D:List (TC)}{p l:TC}{R:List (TC)}:HK D p [] (l::R)=HK (D++[p]) [] l R:=by unfold HK;simp[KY,Ec,List.map_flatMap];rfl
def AU{D:List (TC)}{p:TC}:HK D p [] []=[D++[p]]:=by simp[HK,KY,Ec]
def Xo(pn:Ti)(V:Tx)(p:TC):Prop:=p.Pairwise λa b=>A4 V (Em pn a b)=J
def KE(pn:Ti)(V:Tx)(D:List (TC))(p r:TC):Prop:=(∀q∈D,Xo pn V q)/\Xo pn V p/\∀a∈p,∀b∈r,A4 V (Em pn a b)=J
def tz{pn:Ti}{V:Tx}{D:List (TC)}{p r:TC}{id:Nat}(j_:id∈r)(a:r.Nodup):KE pn V D (p++[id]) (r.erase id)↔KE pn V D p r/\∀b∈r.erase id,A4 V (Em pn id b)=J:=by
 unfold KE Xo
 grind
def V1{pn:Ti}{V:Tx}{D:List (TC)}{p l:TC}:KE pn V (D++[p]) [] l↔KE pn V D p []:=by
 unfold KE Xo;constructor
 .simp_all
 .rintro⟨c,d,_⟩;refine⟨λq e=>?_,d_,λa b=>by cases b⟩
  grind
def Dz{pn:Ti}{V:Tx}{D:List (TC)}{p r:TC}{R:List (TC)}{x:List (TC)}(e:x∈HK D p r R)(h:∀q∈x,Xo pn V q):KE pn V D p r:=by unfold HK at e;obtain⟨q,k,e⟩:=Gv.1 e;obtain⟨t,_,rfl⟩:=Ed.1 e;have j:=pX rfl k;have c:=h (p++q) d_;unfold Xo at c;rw[qcd]at c;exact⟨λd i=>h d (by simp[i]),c.1,λa f b g=>c.2.2 a f b (j.mem_iff.2 g)⟩
def OkL(pn:Ti)(S:(Nat->Bool)->Prop)(F:List DZ)(x:List (TC)):Prop:=∃V,S V/\MG F V/\∀q∈x,Xo pn V q
def E6(pn:Ti)(S:(Nat->Bool)->Prop)(F:List DZ)(x:List (TC)):Bool:=@decide (OkL pn S F x) (Classical.propDecidable _)
def Bm{pn:Ti}{S:(Nat->Bool)->Prop}{F:List DZ}{x:List (TC)}:E6 pn S F x=J↔OkL pn S F x:=by
 unfold E6
 simp_all
structure SB(rN:List Lit)(pn:Ti)(S:(Nat->Bool)->Prop)(DJ:TE)(D:List (TC))(p r:TC):Prop where
 ok:IF rN DJ
 sem:∀V,Rs rN DJ V↔S V/\KE pn V D p r
 kn:(∀q∈D,q.Pairwise λa b=>Kn rN DJ (Em pn a b) 1)/\p.Pairwise (λa b=>Kn rN DJ (Em pn a b) 1)/\∀a∈p,∀b∈r,Kn rN DJ (Em pn a b) 1
section
variable {rN:List Lit} {pn:Ti} {S:(Nat->Bool)->Prop} {F:List DZ}
def SB.next{DJ:TE}{D:List (TC)}{p l:TC}(h:SB rN pn S DJ D p []):SB rN pn S DJ (D++[p]) [] l:=by
 obtain⟨d,e,f⟩:=h.kn;refine⟨h.ok,λV=>by rw[V1];exact h.sem V,λq c=>?_,d_,λa b=>by cases b⟩
 grind
structure KC(rN:List Lit)(pn:Ti)(S:(Nat->Bool)->Prop)(DJ:TE)(D:List (TC))(p r:TC)(id:Nat)(B:TC):Prop where
 ok:IF rN DJ
 sem:∀V,Rs rN DJ V↔(S V/\KE pn V D p r)/\∀b∈B,A4 V (Em pn id b)=true
 kn:(∀q∈D,q.Pairwise λa b=>Kn rN DJ (Em pn a b) 1)/\p.Pairwise (λa b=>Kn rN DJ (Em pn a b) 1)/\(∀a∈p,∀b∈r,Kn rN DJ (Em pn a b) 1)/\∀b∈B,Kn rN DJ (Em pn id b) 1
def SB.start{DJ:TE}{D:List (TC)}{p r:TC}(h:SB rN pn S DJ D p r)(id:Nat):KC rN pn S DJ D p r id []:=
 ⟨h.ok,λV=>⟨λa=>⟨(h.sem V).1 a,λb c=>by cases c⟩,λa=>(h.sem V).2 a.1⟩,h.kn.1,h.kn.2.1,h.kn.2.2,λb c=>by cases c⟩
def KC.set{DJ:TE}{D:List (TC)}{p r:TC}{id:Nat}{B:TC}(h:KC rN pn S DJ D p r id B){b:Nat}{l':Lit}(f:Rt rN (Em pn id b) l')(g:(Et DJ l').getD l'.1 0=FZ l'):KC rN pn S (Et DJ l') D p r id (B++[b]):=by
 obtain⟨m,n,o,s⟩:=h.kn;have e:∀ {l:Lit},Kn rN DJ l 1->Kn rN (Et DJ l') l 1:=λh=>kn_set l' h q7;refine⟨vC h.ok l',λV=>?_,λq k=>(m q k).imp e,n.imp e,λa i b j=>e (o a i b j),λc d=>?_⟩
 .rw[R3 h.ok f g V,h.sem V,and_assoc]
  grind
 .rcases F_.1 d with d|d
  .exact e (s c d)
  .rw[HN]at d;subst d;exact kn_new f g
def KC.placed{DJ:TE}{D:List (TC)}{p r:TC}{id:Nat}{B:TC}(h:KC rN pn S DJ D p r id B)(j_:id∈r)(c:r.Nodup)(e:∀b,b∈B↔b∈r.erase id):SB rN pn S DJ D (p++[id]) (r.erase id):=by
 obtain⟨d,i,j,k⟩:=h.kn;refine⟨h.ok,λV=>?_,d,?_,λa f b g=>?_⟩
 .rw[h.sem V,tz j_ c,and_assoc]
  simp_all
 .grind
 grind
def KC.fail{DJ:TE}{D:List (TC)}{p r:TC}{id:Nat}{B:TC}(h:KC rN pn S DJ D p r id B)(j_:id∈r)(a:r.Nodup)(j:∀b∈B,b∈r.erase id)(c:∀V,Rs rN DJ V->MG F V->(∀b∈r.erase id,A4 V (Em pn id b)=J)->False)(R:List (TC)):(HK D (p++[id]) (r.erase id) R).filter (E6 pn S F)=[]:=by rw[List.filter_eq_nil_iff];intro x l d;obtain⟨V,f,g,i⟩:=Bm.1 d;have e:=(tz j_ a).1 (Dz l i);exact c V ((h.sem V).2 ⟨⟨f,e.1⟩,λb k=>e.2 b (j b k)⟩) g e.2
def SB.leaf{M:TF}(C:Lg rN M){DJ:TE}{D:List (TC)}{p:TC}(h:SB rN pn S DJ D p [])(H:Lq rN DJ F)(I:∀f∈F,∀l∈[f.1,f.2.1,f.2.2.1,f.2.2.2],∃q∈D++[p],∃a∈q,∃b∈q,a≠b/\l=Em pn a b):E6 pn S F (D++[p])=J:=by
 rw[Bm];obtain⟨V,z⟩:=rs_ex C DJ;obtain⟨B,y⟩:=(h.sem V).1 z;obtain⟨N,P,_⟩:=h.kn;have n:∀q∈D++[p],q.Pairwise λa b=>Kn rN DJ (Em pn a b) 1:=λq m=>by grind
 have k:∀f∈F,∀l∈[f.1,f.2.1,f.2.2.1,f.2.2.2],∃x,Kn rN DJ l x/\x≠0:=λf g l K=>by
  obtain⟨q,m,a,E,b,G,r,rfl⟩:=I f g l K;obtain⟨i,s⟩:=E4 E;obtain⟨j,t⟩:=E4 G;have o:=n q m;rw[Ki]at o;have v:=Gn (ah s);have w:=Gn (ah t);rw[s]at v;rw[t]at w;rcases qcP i j with e|e|e
  .grind
  .grind
  .have:=o j i (ah t) (ah s) e;rw[←Fm v,←Fm w]at this;obtain⟨A,u,L⟩:=this;rw[ie (EC r)];refine⟨-1,⟨(A.1,xr A.2 J),u.not J,?_⟩,q7⟩;unfold kv at L ⊢;rw[xr_t]
   grind
 refine⟨V,B,ev_yes h.ok H (λf g=>?_) z,λq m=>?_⟩
 .obtain⟨a,R,Z⟩:=k f g f.1 d_;obtain⟨b,T,nb⟩:=k f g f.2.1 d_;obtain⟨c,X,nc⟩:=k f g f.2.2.1 d_;obtain⟨d,Y,nd⟩:=k f g f.2.2.2 d_
  grind
 .rcases F_.1 m with m|m
  .exact y.1 q m
  .rw[HN]at m;subst m;exact y.2.1
end
end Go.Am
namespace Go.Am
open Sx Go.Proofs
def ug{a b:Bool}{K:Tp}:P1.eqs [(.b a,.b b)] (@j_ _ ⟨K⟩)=K (decide (a=b)):=by cases a<;>cases b<;>rfl
structure XC where
 w:Nat
 v:Nat
 xc:Value
 r:Nat×Int×Int
 at_:Value
 ids:Value
 lay:Value
 us:Value
 pr:Nat
 up:Value
 va:Value
 fo:Value
def aj(c:XC)(n:Bool):Tn:=[EO DQ (DO c.w),EO DQ (DO c.v),c.xc,EO DU (DO c.r.1),EO DQ c.r.2.1,EO DQ c.r.2.2,c.at_,c.ids,c.lay,c.us,.map (O c.pr),c.up,c.va,c.fo,.bool n]
def Fb(l:Lit):Tn:=[EO DQ (DO l.1),.bool l.2]
def dQ(l:Lit):W (Fb l)=2:=rfl
def En(x:Int):Tn:=[EO DQ x]
def eO(x:Int):W (En x)=1:=rfl
def MZ(f:DZ):Tn:=Fb f.1++Fb f.2.1++Fb f.2.2.1++Fb f.2.2.2
def tZ(f:DZ):W (MZ f)=8:=rfl
section
variable {h:HL} {b:Nat} {c:XC} {n:Bool} (hb:h[b]?=O (.o (EJ (aj c n) 15 J))) {rN:List Lit} (hU:q_ h c.up 2 Fb rN) {r:TF} (hF:Lg rN r)
include hb hU hF
theorem wE{l:Lit}(q:l.1<W rN):∃l',Rt rN l l'/\aD cc ac 114 [.v (lM b),.i (DO l.1),.b l.2] (h_ aa h) [.i (DO l'.1),.b l'.2] (h_ aa h):=by
 have s:=x114 (ls:=[.v (lM b),.i (DO l.1),.b l.2]) (K:=λt g=>g=h/\∃l',Rt rN l l'/\t=[.i (DO l'.1),.b l'.2]) (H:=h) (o_ (az _) (mc (LI vc))) (by
  unfold f114;simp only[w7];refine c_ ?_;refine aN (m:=r l.1) (λm ls g=>∃k:Lit,ls=[.i (DO k.1),.b k.2]/\g=h/\m=r k.1/\k.1<W rN/\∀l',Rt rN k l'->Rt rN l l') ⟨l,rfl,rfl,rfl,q,λ_ h=>h⟩ ?_;rintro m ls g ⟨k,rfl,rfl,rfl,p,f⟩ j a;refine Fc ?_;refine c_ ?_;obtain⟨u,d⟩:=ak p;refine bA (ds:=[c.up]) hb (by simp[aj]) rfl ?_;refine c_ ?_;refine ab hU.g_ ?_;refine m9 ?_;refine bz (cs:=[EO DQ (DO u.1)]) hU rfl d rfl a_ ?_;refine c_ ?_;by_cases e:u.1=k.1
  .rw[A7 (by rw[e])];refine c_ ?_;have:=hF.rt _ _ d e;refine⟨Ei,k,f k (.here ?_),Ei⟩
   grind
  .rw[B3 (λh=>e (Ky h))];refine c_ ?_;refine bA (ds:=[c.up]) hb (by simp[aj]) rfl ?_;refine c_ ?_;refine ab hU.g_ ?_;refine m9 ?_;refine aJ hU rfl d ?_;rw[show Fb u=[EO DQ (DO u.1),.bool u.2]from rfl];refine c_ ?_;rw[ug];exact a (r u.1) _ _ (hF.rk _ _ d e) ⟨(u.1,xr k.2 u.2),rfl,rfl,rfl,hF.cl _ u d,λl' h=>f l' (.step d e h)⟩)
 grind
variable {DJ:TE} (hW:IF rN DJ) (hV:q_ h c.va 1 En DJ)
include hW hV
theorem me{l:Lit}(k:l.1<W rN):∃x,Kn rN DJ l x/\aD cc ac 115 [.v (lM b),.i (DO l.1),.b l.2] (h_ aa h) [.i x] (h_ aa h):=by
 obtain⟨a,g,j⟩:=wE hb hU hF k;have e:a.1<W DJ:=by rw[hW.1];exact g.lt
 obtain⟨y,f⟩:=ak e;have m:=hW.2 y (A9 f);have d:kv DJ a=if a.2 then -y else y:=by
  unfold kv
  simp_all
 refine⟨kv DJ a,⟨a,g,rfl⟩,?_⟩;exact xK GT (o_ (az _) (mc (LI vc))) (by
  unfold f115;simp only[w7];refine c_ ?_;refine ai j ?_;refine c_ ?_;rw[d];cases p:a.2 with
  |true=>
   refine c_ ?_;refine bA (ds:=[c.va]) hb (by simp[aj]) rfl ?_;refine c_ ?_;refine ab hV.g_ ?_;refine m9 ?_;refine aJ hV rfl f ?_;rw[show En y=[EO DQ y]from rfl];simp(disch:=omega)only[↓qb]
   try simp_all
  |false=>
   refine c_ ?_;refine bA (ds:=[c.va]) hb (by simp[aj]) rfl ?_;refine c_ ?_;refine ab hV.g_ ?_;refine m9 ?_;refine aJ hV rfl f ?_;rw[show En y=[EO DQ y]from rfl];refine c_ ?_
   simp_all)
theorem even_c{F:List DZ}(m:q_ h c.fo 8 MZ F)(V:W F<=1000000)(y:∀f∈F,f.1.1<W rN/\f.2.1.1<W rN/\f.2.2.1.1<W rN/\f.2.2.2.1<W rN) :
  ∃e:Bool,aD cc ac 89 [.v (lM b)] (h_ aa h) [.b e] (h_ aa h)/\(e=J->Lq rN DJ F)/\(e=U->∃f∈F,∃x,Sg rN DJ f x/\x<0):=by
 have Y:=x89 (ls:=[.v (lM b)]) (K:=λrs T=>T=h/\∃e:Bool,rs=[.b e]/\(e=J->Lq rN DJ F)/\(e=U->∃f∈F,∃x,Sg rN DJ f x/\x<0)) (H:=h) (o_ (az _) vc) (by
  unfold f89;simp only[w7];refine c_ ?_;refine bA (ds:=[c.fo]) hb (by simp[aj]) rfl ?_;refine c_ ?_;refine ab m.g_ ?_;refine m9 ?_;refine aO m ?_;refine bY (W F) (λj=>∀(i:Nat) f,i<j->F[i]?=O f->∀x,Sg rN DJ f x->¬x<0) (j0:=0) rfl (Eg _) (λi f h=>a_) ?_;intro j hj hi M t;refine c_ ?_;by_cases p:j<W F
  case neg=>
   obtain rfl:j=W F:=a_;rw[aw (B7 _)];refine c_ ?_;refine⟨Ei,J,Ei,λ_ f w x L=>?_,λh=>by cases h⟩;obtain⟨i,z⟩:=E4 w
   grind
  rw[aB p];refine c_ ?_;obtain⟨f,w⟩:=ak p;obtain⟨Z,l2,l3,l4⟩:=y f (A9 w);obtain⟨d,A,N⟩:=me hb hU hF hW hV Z;obtain⟨l,B,P⟩:=me hb hU hF hW hV l2;obtain⟨u,C,R⟩:=me hb hU hF hW hV l3;obtain⟨x4,D,S⟩:=me hb hU hF hW hV l4;have r1:=A.Ns hW;have r2:=B.Ns hW;have r3:=C.Ns hW;have r4:=D.Ns hW;have s2:d*l=0∨d*l=1∨d*l = -1:=by grind
  have s3:d*l*u=0∨d*l*u=1∨d*l*u = -1:=by grind
  have s4:=w3 r1 r2 r3 r4;refine aJ m rfl w ?_;rw[show MZ f=[EO DQ (DO f.1.1),.bool f.1.2,EO DQ (DO f.2.1.1),.bool f.2.1.2,EO DQ (DO f.2.2.1.1),.bool f.2.2.1.2,EO DQ (DO f.2.2.2.1),.bool f.2.2.2.2]from rfl];refine c_ ?_;refine bo (g9:=Int) 4 (λj s=>[.i s,.i (DO j)]) (λ_ _=>h) (λj s=>s=(match j with|0=>1|1=>d|2=>d*l|3=>d*l*u|_=>d*l*u*x4)) (j0:=0) (s0:=1) rfl rfl (Eg _) rfl ?_;rintro k s hk q E a;refine c_ ?_;obtain rfl|rfl|rfl|rfl|rfl:k=0∨k=1∨k=2∨k=3∨k=4:=a_
  .rw[r_ q7];refine c_ ?_;refine af (x:=()) rfl ?_;refine af (x:=[.i (DO f.1.1),.b f.1.2]) rfl ?_;refine c_ ?_;refine ai N ?_;refine c_ ?_;rw[q,Kt (by simp only;omega) (by simp only;omega)];refine m9 ?_;exact a _ a_ d_
  .rw[r_ q7];refine c_ ?_;refine af (x:=()) rfl ?_;refine af (x:=[.i (DO f.2.1.1),.b f.2.1.2]) rfl ?_;refine c_ ?_;refine ai P ?_;refine c_ ?_;rw[q,Kt (by simp only;omega) (by simp only;omega)];refine m9 ?_;exact a _ a_ rfl
  .rw[r_ q7];refine c_ ?_;refine af (x:=()) rfl ?_;refine af (x:=[.i (DO f.2.2.1.1),.b f.2.2.1.2]) rfl ?_;refine c_ ?_;refine ai R ?_;refine c_ ?_;rw[q,Kt (by simp only;omega) (by simp only;omega)];refine m9 ?_;exact a _ a_ rfl
  .rw[r_ q7];refine c_ ?_;refine af (x:=()) rfl ?_;refine af (x:=[.i (DO f.2.2.2.1),.b f.2.2.2.2]) rfl ?_;refine c_ ?_;refine ai S ?_;refine c_ ?_;rw[q,Kt (by simp only;omega) (by simp only;omega)];refine m9 ?_;exact a _ a_ rfl
  .rw[s_ q7];refine c_ ?_;simp only at q;have X:Sg rN DJ f s:=⟨d,l,u,x4,A,B,C,D,q⟩;by_cases I:s<0
   .rw[r_ I];refine c_ ?_
    grind
   .rw[s_ a_];refine c_ ?_;rw[aI a_];refine t p λi g z G x L=>?_;by_cases e:i=j
    .subst e;rw[w]at G;cases G;obtain⟨a1,a2,a3,a4,q1,q2,q3,q4,rfl⟩:=L;rw[q1.det A,q2.det B,q3.det C,q4.det D,←q];exact I
    grind)
 grind
end
abbrev K2:=Nat×Nat
def Gf(k:K2):Tn:=[EO DQ (DO k.1),EO DQ (DO k.2)]
abbrev kk2:TK:=[.i DQ,.i DQ]
def Yt(a b:K2):C2 kk2 (Gf a) (Gf b)=O (decide (a=b)):=by
 have c:dc DQ DQ=J:=rfl;obtain⟨d,e⟩:=a;obtain⟨f,g⟩:=b;have e3:∀x y:Nat,decide (DO x=DO y)=decide (x=y):=λx y=>decide_eq_decide.2 ⟨λh=>Ky h,λh=>by rw[h]⟩;simp only[Gf,C2,c,jg,x3,e3]
 grind
def Pn(a:K2):∃r,fU kk2 (Gf a) (Gf a)=O r:=by have b:dc DQ DQ=J:=rfl;simp only[Gf,fU,b,jg];exact⟨_,rfl⟩
def Xg(h:HL)(id:Nat)(pn:Ti):Prop:=∃a:List (K2×FO),E8 Gf h id a/\(∀(i:Nat) k u,a[i]?=O (k,u)->u=EO DQ (DO (pn k.1 k.2)))/\∀k,k∉a.map Prod.fst->pn k.1 k.2=0
def Xg.ke{h h':HL}{id:Nat}{pn:Ti}(d:Xg h id pn)(c:∀o,h[id]?=O o->h'[id]?=O o):Xg h' id pn:=by obtain⟨e,a,b⟩:=d;exact⟨e,a.ke Gf c,b⟩
def ad{h:HL}{id:Nat}{pn:Ti}(a:Xg h id pn)(x y:Nat){K:Tf}(j:K [EO DQ (DO (pn x y))]):P1.oo (.fn (Hv cc 124 U (EO DQ (DO 0)) (.map (O id)) (EU ⟨[EO DQ (DO x),EO DQ (DO y)]⟩) U)) h (@j_ _ ⟨K⟩):=by
 obtain⟨l,c,f,g⟩:=a;refine pD Gf Yt e_ e_ Pn c (x,y) rfl (λb e=>by cases e) (λp a b e=>?_) (λk=>?_) λi u d=>?_
 .obtain⟨i,d⟩:=E4 a
  grind
 .simp_all
 grind
def kS{h:HL}{b:Nat}{c:XC}{n:Bool}(a:h[b]?=O (.o (EJ (aj c n) 15 J))){pn:Ti}(d:Xg h c.pr pn)(x y:Nat):aD cc ac 83 [.v (lM b),.i (DO x),.i (DO y)] (h_ aa h) [.i (DO (Em pn x y).1),.b (Em pn x y).2] (h_ aa h):=by
 exact xK x83 (o_ (az _) (mc (mc vc))) (by
  unfold f83;simp only[w7];refine c_ ?_;unfold Em;by_cases e:x<y
  .rw[rv e,aB e];refine c_ ?_;refine bA (ds:=[.map (O c.pr)]) a (by simp[aj]) rfl ?_;refine c_ ?_;refine ab rfl ?_;refine m9 ?_;refine ad d x y ?_;refine c_ ?_
   simp_all
  .rw[ts e,aw a_];refine c_ ?_;refine bA (ds:=[.map (O c.pr)]) a (by simp[aj]) rfl ?_;refine c_ ?_;refine ab rfl ?_;refine m9 ?_;refine ad d y x ?_;refine c_ ?_
   simp_all)
end Go.Am
namespace Go.Am
namespace Sx
section
variable [El]
end
section
variable [El]
end
end Sx
end Go.Am
namespace Go.Am
open Sx Go.Proofs
def Vk{g n:Nat}{ls a:TG}{sg:Ko}(i:ac g=O sg)(e:sg.plain=J)(d:kF ls=J)(h:Mc n (.f g) ls .empty Ld=O a):∀H,aD cc ac g ls H a H:=by obtain⟨j,k,c,b⟩:=(zx n).f g ls .empty Ld a (gP d) h;rw[Sn]at b;cases b;exact BK g sg ls _ _ i e c
def PL(a:TG):Option (TG)->Bool:=λo=>@Option.rec _ (λ_=>Bool) U (λb=>tl b a) o
def mf{g n:Nat}{ls a:TG}{sg:Ko}(i:ac g=O sg)(d:sg.plain=J)(c:kF ls=J)(h:PL a (Mc n (.f g) ls .empty Ld)=J):∀H,aD cc ac g ls H a H:=by
 cases e:Mc n (.f g) ls .empty Ld with
 |none=>rw[e]at h;cases h
 |some b=>rw[e]at h;have h:tl b a=J:=h;rw[sy h]at e;exact Vk i d c e
end Go.Am
namespace Go.Am
open Sx
def mA(t:Nat):Int:=match t with
 |0=>1|1=>0|2=>-1|3=>0|4=>-1|5=>0|6=>1|_=>0
def mB(t:Nat):Int:=match t with
 |0=>0|1=>-1|2=>0|3=>1|4=>0|5=>-1|6=>0|_=>1
def mC(t:Nat):Int:=match t with
 |0=>0|1=>1|2=>0|3=>-1|4=>0|5=>-1|6=>0|_=>1
def mD(t:Nat):Int:=match t with
 |0=>1|1=>0|2=>-1|3=>0|4=>1|5=>0|6=>-1|_=>0
def EL(s t:Nat):Nat:=if s<4 then(if t<4 then(s+t)%4 else 4+(t+4-s)%4)else(if t<4 then 4+(s+t)%4 else(t+8-s)%4)
abbrev Mv:=Nat×Int×Int
def ae(a b:Mv):Mv:=(EL a.1 b.1,mA b.1*a.2.1+mB b.1*a.2.2+b.2.1,mC b.1*a.2.1+mD b.1*a.2.2+b.2.2)
def ET:Mv:=(0,0,0)
def Ew(n:Int)(m:Mv):Prop:=m.1<8/\-n<=m.2.1/\m.2.1<=n/\-n<=m.2.2/\m.2.2<=n/\(m.2.1+m.2.2)%2=0
def t8{t:Nat}(h:t<8):t=0∨t=1∨t=2∨t=3∨t=4∨t=5∨t=6∨t=7:=a_
def eH{s t:Nat}:EL s t<8:=by
 unfold EL
 grind
def CX{a b c:Nat}(e:a<8)(f:b<8)(g:c<8):EL (EL a b) c=EL a (EL b c):=by
 have d:((EW 8).all λa=>(EW 8).all λb=>(EW 8).all λc=>EL (EL a b) c==EL a (EL b c))=J:=by decide +kernel
 simp_all
def cD{a b c:Mv}(d:a.1<8)(e:b.1<8)(f:c.1<8):ae (ae a b) c=ae a (ae b c):=by
 obtain⟨g,i,j⟩:=a;obtain⟨k,l,h⟩:=b;obtain⟨m,n,o⟩:=c;simp only at d e f;unfold ae;refine Xl (CX d e f) ?_;simp only;clear d;rcases t8 e with rfl|rfl|rfl|rfl|rfl|rfl|rfl|rfl<;>rcases t8 f with rfl|rfl|rfl|rfl|rfl|rfl|rfl|rfl<;>
  (refine Xl ?_ ?_<;>simp[EL,mA,mB,mC,mD]<;>omega)
def qc{a:Mv}(b:a.1<8):ae a ET=a:=by obtain⟨t,x,y⟩:=a;have b:t<8:=b;unfold ae ET;simp only[mA,mB,mC,mD];refine Xl ?_ (Xl d_ d_);rcases t8 b with rfl|rfl|rfl|rfl|rfl|rfl|rfl|rfl<;>simp[EL]
def lX{a:Mv}(b:a.1<8):ae ET a=a:=by obtain⟨t,x,y⟩:=a;have b:t<8:=b;unfold ae ET;refine Xl ?_ (Xl d_ d_);rcases t8 b with rfl|rfl|rfl|rfl|rfl|rfl|rfl|rfl<;>simp[EL]
def I'(t:Nat):Nat:=match t with
 |1=>3|3=>1|n=>n
def Hk(m:Mv):Mv:=(I' m.1,-(mA (I' m.1)*m.2.1+mB (I' m.1)*m.2.2),-(mC (I' m.1)*m.2.1+mD (I' m.1)*m.2.2))
def Zf{m:Mv}(h:m.1<8):ae m (Hk m)=ET:=by obtain⟨t,x,y⟩:=m;have h:t<8:=h;unfold ae Hk ET;rcases t8 h with rfl|rfl|rfl|rfl|rfl|rfl|rfl|rfl<;>simp[EL,mA,mB,mC,mD,I']<;>omega
def aU{n k:Int}{m:Mv}(h:Ew n m)(a:n<=k):Ew k m:=by unfold Ew at *;omega
def Bn{n:Int}(h:0<=n):Ew n ET:=by unfold Ew ET;simp only;omega
def dX{n k:Int}{a b:Mv}(g:Ew n a)(h:Ew k b):Ew (n+k) (ae a b):=by obtain⟨d,j,l⟩:=a;obtain⟨o,p,f⟩:=b;unfold Ew ae at *;simp only at *;obtain⟨c,i⟩:=g;obtain⟨e,m⟩:=h;refine⟨eH,?_⟩;clear c;rcases t8 e with rfl|rfl|rfl|rfl|rfl|rfl|rfl|rfl<;>simp only[mA,mB,mC,mD]<;>omega
def eb{n:Int}{a:Mv}(d:Ew n a):Ew n (Hk a):=by obtain⟨c,f,g⟩:=a;unfold Ew Hk at *;simp only at *;obtain⟨b,e⟩:=d;rcases t8 b with rfl|rfl|rfl|rfl|rfl|rfl|rfl|rfl<;>simp[mA,mB,mC,mD,I']<;>omega
abbrev Ln:=Nat×Int
def wd(l:Ln):Mv:=match l.1 with
 |1=>(4,2*l.2,0)
 |2=>(6,0,2*l.2)
 |3=>(5,l.2,l.2)
 |_=>(7,-l.2,l.2)
def Bl{l:Ln}{n:Int}(h:-n<=l.2/\l.2<=n):Ew (2*n) (wd l):=by
 obtain⟨k,c⟩:=l;unfold wd Ew
 grind
def jx(l:Ln):(wd l).1<8:=by unfold wd;split<;>simp
def xz(l:Ln):ae (wd l) (wd l)=ET:=by obtain⟨k,c⟩:=l;unfold wd ae ET;simp only;split<;>simp[EL,mA,mB,mC,mD]<;>omega
abbrev Cl:=Int×Int×Nat
def u_(c:Cl)(e:Nat):Ln:=match e with
 |0=>(match c.2.2 with
  |0=>(2,c.2.1)
  |1=>(1,c.1+1)
  |2=>(2,c.2.1+1)
  |_=>(1,c.1))
 |1=>(3,c.1+c.2.1+1)
 |_=>(4,c.2.1-c.1)
def E5(c:Cl)(e:Nat):Cl:=match e with
 |0=>(match c.2.2 with
  |0=>(c.1,c.2.1-1,2)
  |1=>(c.1+1,c.2.1,3)
  |2=>(c.1,c.2.1+1,0)
  |_=>(c.1-1,c.2.1,1))
 |1=>(c.1,c.2.1,[1,0,3,2].getD c.2.2 0)
 |_=>(c.1,c.2.1,[3,2,1,0].getD c.2.2 0)
def qT(t q:Nat):Nat:=if t<4 then(q+t)%4 else([0,3,2,1].getD ((q+t)%4) 0+(if t%2=0 then 0 else 2))%4
def aq(m:Mv)(c:Cl):Cl:=(mA m.1*c.1+mB m.1*c.2.1+m.2.1-(if mA m.1+mB m.1=1 then 0 else 1),mC m.1*c.1+mD m.1*c.2.1+m.2.2-(if mC m.1+mD m.1=1 then 0 else 1),qT m.1 c.2.2)
def aV(l:Ln)(c:Cl):Bool:=match l.1 with
 |1=>decide (l.2<=c.1)
 |2=>decide (l.2<=c.2.1)
 |3=>decide (l.2<=c.1+c.2.1+(if c.2.2=1∨c.2.2=2 then 1 else 0))
 |_=>decide (l.2<=c.2.1-c.1-(if c.2.2=2∨c.2.2=3 then 0 else 1))
def vf{l:Ln}{c:Cl}{e:Nat}(a:1<=l.1/\l.1<=4)(b:c.2.2<4)(d:e<3)(h:aV l c≠aV l (E5 c e)):l=u_ c e:=by
 obtain⟨k,n⟩:=l;obtain⟨x,y,q⟩:=c;simp only at a b;obtain rfl|rfl|rfl|rfl:q=0∨q=1∨q=2∨q=3:=a_
 all_goals obtain rfl|rfl|rfl:e=0∨e=1∨e=2:=a_
 all_goals obtain rfl|rfl|rfl|rfl:k=1∨k=2∨k=3∨k=4:=a_
 all_goals
  simp[aV,E5,u_]at h ⊢
 all_goals omega
def eT(t e:Nat):Nat:=if e=0 then 0 else if t%2=0/\t<4∨t=5∨t=7 then e else 3-e
def jv{m:Mv}{c:Cl}{e:Nat}(a:m.1<8)(b:c.2.2<4)(d:e<3):aq m (E5 c e)=E5 (aq m c) (eT m.1 e):=by
 obtain⟨t,f,g⟩:=m;obtain⟨x,y,q⟩:=c;simp only at a b;rcases t8 a with rfl|rfl|rfl|rfl|rfl|rfl|rfl|rfl
 all_goals obtain rfl|rfl|rfl|rfl:q=0∨q=1∨q=2∨q=3:=a_
 all_goals obtain rfl|rfl|rfl:e=0∨e=1∨e=2:=a_
 all_goals simp[aq,E5,eT,qT,mA,mB,mC,mD]
 all_goals omega
def eF{m:Mv}{c:Cl}{e:Nat}(a:m.1<8)(b:c.2.2<4)(d:e<3):ae m (wd (u_ (aq m c) (eT m.1 e)))=ae (wd (u_ c e)) m:=by
 obtain⟨t,f,g⟩:=m;obtain⟨x,y,q⟩:=c;simp only at a b;rcases t8 a with rfl|rfl|rfl|rfl|rfl|rfl|rfl|rfl
 all_goals obtain rfl|rfl|rfl|rfl:q=0∨q=1∨q=2∨q=3:=a_
 all_goals obtain rfl|rfl|rfl:e=0∨e=1∨e=2:=a_
 all_goals simp[aq,eT,qT,mA,mB,mC,mD,ae,wd,u_,EL]
 all_goals omega
def jY{t e:Nat}(a:e<3):eT t e<3:=by
 unfold eT
 grind
def fi{t q:Nat}:qT t q<4:=by unfold qT;split<;>omega
def VH{g:Mv}{l:Ln}{c:Cl}{e:Nat}(b:g.1<8)(f:1<=l.1/\l.1<=4)(d:c.2.2<4)(a:e<3)(h:aV l (aq g c)≠aV l (aq g (E5 c e))):ae g (wd l)=ae (wd (u_ c e)) g:=by rw[jv b d a]at h;have:=vf f fi (jY a) h;rw[this];exact eF b d a
def iq{g:Mv}{c:Cl}{e:Nat}(a:g.1<8)(b:c.2.2<4)(d:e<3):aq (ae (wd (u_ c e)) g) (E5 c e)=aq g c:=by
 obtain⟨t,f,h⟩:=g;obtain⟨x,y,q⟩:=c;simp only at a b;rcases t8 a with rfl|rfl|rfl|rfl|rfl|rfl|rfl|rfl
 all_goals obtain rfl|rfl|rfl|rfl:q=0∨q=1∨q=2∨q=3:=a_
 all_goals obtain rfl|rfl|rfl:e=0∨e=1∨e=2:=a_
 all_goals simp[aq,E5,qT,mA,mB,mC,mD,ae,wd,u_,EL]
 all_goals omega
end Go.Am
namespace Go.Am
open Sx Go.Proofs
def mP(f:TT)(ls a:TG):Bool:=PL a (Mc 60 (.f f) ls .empty Ld)
def fm{f:TT}{ls a:TG}{sg:Ko}(h:mP f ls a=J)(d:ac f=O sg)(c:sg.plain=J)(b:kF ls=J):Cc f ls a:=mf (n:=60) d c b h
abbrev EG(m:Mv):TG:=[.i (DO m.1),.i m.2.1,.i m.2.2]
abbrev EB(c:Cl):TG:=[.i c.1,.i c.2.1,.i (DO c.2.2)]
def ph{n:Int}(h:-16384<=n/\n<=16384):Cc 122 [.i n] [.b U]:=by
 refine q122 rfl ?_;unfold f122;simp only[w7]
 repeat (first|simp(disch:=omega)only[↓qb])
 try rfl
def ZV{t x y:Int}(f:0<=t/\t<8)(b:-16384<=x/\x<=16384)(c:-16384<=y/\y<=16384)(e:(x+y)%2=0):Cc 94 [.i t,.i x,.i y] [.i 0]:=by
 refine q94 rfl ?_;unfold f94;simp only[w7];rcases Int.le_total 0 (x+y)with a|a
 .repeat (first|simp(disch:=omega)only[↓qb]|refine am (ph b) ?_|refine am (ph c) ?_|rw[Hq a a_])
 .have d:-(-(x+y)%2)=0:=a_
  repeat (first|simp(disch:=omega)only[↓qb]|refine am (ph b) ?_|refine am (ph c) ?_|rw[II a a_])
def xh{n:Int}{m:Mv}(h:Ew n m)(g:n<=16384):Cc 94 (EG m) [.i 0]:=by obtain⟨b,c,d,e,f,a⟩:=h;exact ZV ⟨IK _,jw⟩ a_ a_ a
def xE{t:Nat}(h:t<8):rp gl1 0 [(DO t,4)] 4=O [EO DQ (mA t),EO DQ (mB t),EO DQ (mC t),EO DQ (mD t)]:=by rcases t8 h with rfl|rfl|rfl|rfl|rfl|rfl|rfl|rfl<;>kernel_rfl
def CM{n t:Nat}(h:t<n):G4 n (DO t)=O ():=by
 show(match Nat.blt t n with
  |J=>O ()
  |U=>Q)=O ()
 rw[show Nat.blt t n=J by simp_all]
def ZZ{t:Nat}(a:t<8){x y:Int}(h:-200000<=x/\x<=200000/\-200000<=y/\y<=200000):Cc 128 [.i (mA t),.i (mB t),.i (mC t),.i (mD t),.i x,.i y] [.i (mA t*x+mB t*y),.i (mC t*x+mD t*y)]:=by
 rcases t8 a with rfl|rfl|rfl|rfl|rfl|rfl|rfl|rfl
 all_goals
  simp only[mA,mB,mC,mD];refine q128 rfl ?_;unfold f128;simp only[w7]
  repeat (first|simp(disch:=omega)only[↓qb])
  (try simp only[Li,Lf.i.injEq,and_true,true_and]);(try omega)
def thenT(s t:Nat):Bool:=mP 131 [.i (mA s),.i (mB s),.i (mC s),.i (mD s),.i (mA t),.i (mB t),.i (mC t),.i (mD t)] [.i (mA (EL s t)),.i (mB (EL s t)),.i (mC (EL s t)),.i (mD (EL s t))]
def numT(t:Nat):Bool:=mP 130 [.i (mA t),.i (mB t),.i (mC t),.i (mD t)] [.i (.ofNat t)]
def Ce:((EW 8).all λs=>numT s&&(EW 8).all λt=>thenT s t)=J:=e_
def So{s t:Nat}(a:s<8)(b:t<8):Cc 131 [.i (mA s),.i (mB s),.i (mC s),.i (mD s),.i (mA t),.i (mB t),.i (mC t),.i (mD t)] [.i (mA (EL s t)),.i (mB (EL s t)),.i (mC (EL s t)),.i (mD (EL s t))]:=by have h:=D7.1 Ce s (D2.2 a);rw[y_]at h;exact fm (D7.1 h.2 t (D2.2 b)) rfl e_ rfl
def Z8{t:Nat}(a:t<8):Cc 130 [.i (mA t),.i (mB t),.i (mC t),.i (mD t)] [.i (.ofNat t)]:=by have h:=D7.1 Ce t (D2.2 a);rw[y_]at h;exact fm h.1 rfl e_ rfl
def Vq{m:Mv}{n:Int}(h:Ew n m)(a:n<=16384):Cc 129 (EG m) (EG m++[.i 0]):=by
 refine q129 rfl ?_;unfold f129;simp only[w7]
 repeat (first|simp(disch:=omega)only[↓qb]|refine am (xh h a) ?_)
 rfl
def then_c{a b:Mv}{n k:Int}(c:Ew n a)(d:Ew k b)(p:0<=n/\0<=k/\n+k<=16384):Cc 96 (EG a++EG b) (EG (ae a b)++[.i 0]):=by
 have j:=dX c d;refine q96 rfl ?_;unfold f96;simp only[w7];simp only[EG,Fe,E7]
 repeat (first|simp(disch:=omega)only[↓qb]|refine am (xh c a_) ?_|refine am (xh d a_) ?_|refine af (CM d.1) ?_|refine af (xE d.1) ?_|refine am (ZZ d.1 ⟨by have:=c.2;omega,by have:=c.2;omega,by have:=c.2;omega,by have:=c.2;omega⟩) ?_|refine af (CM c.1) ?_|refine af (xE c.1) ?_|refine am (So c.1 d.1) ?_|refine am (Z8 eH) ?_)
 have q:∀z:Int,(-n<=z/\z<=n)∨True:=λ_=>.inr trivial;obtain⟨l,e,f,g,h,o⟩:=j;unfold ae at e f g h;simp only at e f g h;rw[Hn a_ a_,Hn a_ a_];refine am (Vq (m:=ae a b) ⟨l,e,f,g,h,o⟩ a_) ?_;simp only[EG,Fe,E7];refine c_ ?_;rfl
def lchk_c{k c:Int}(b:1<=k/\k<=4)(a:-4096<=c/\c<=4096):Cc 143 [.i k,.i c] [.i 0]:=by
 refine q143 rfl ?_;unfold f143;simp only[w7]
 repeat (first|simp(disch:=omega)only[↓qb])
 try rfl
def of1_c{k c:Int}{m:Mv}(d:1<=k/\k<=4)(b:-4096<=c/\c<=4096)(a:m=wd (k.toNat,c)):Cc 127 [.i k,.i c] (EG m++[.i 0]):=by
 subst a;obtain rfl|rfl|rfl|rfl:k=1∨k=2∨k=3∨k=4:=a_
 all_goals
  refine q127 rfl ?_;unfold f127;simp only[w7]
  repeat (first|simp(disch:=omega)only[↓qb]|refine am (lchk_c a_ a_) ?_)
  simp[wd]
def mlof_c{l:Ln}(b:1<=l.1/\l.1<=4)(a:-4096<=l.2/\l.2<=4096):Cc 127 [.i (DO l.1),.i l.2] (EG (wd l)++[.i 0]):=
 of1_c (k:=DO l.1) ⟨jw,jw⟩ a rfl
def pchk_c{x y:Int}(h:-65536<=x/\x<=65536/\-65536<=y/\y<=65536):Cc 145 [.i x,.i y] [.i 0]:=by
 refine q145 rfl ?_;unfold f145;simp only[w7]
 repeat (first|simp(disch:=omega)only[↓qb])
 try rfl
def ptM(m:Mv)(x y:Int):Int×Int:=(mA m.1*x+mB m.1*y+2*m.2.1,mC m.1*x+mD m.1*y+2*m.2.2)
def P3{t:Nat}(a:t<8){n x y:Int}(h:-n<=x/\x<=n/\-n<=y/\y<=n):-n<=mA t*x+mB t*y/\mA t*x+mB t*y<=n/\-n<=mC t*x+mD t*y/\mC t*x+mD t*y<=n:=by rcases t8 a with rfl|rfl|rfl|rfl|rfl|rfl|rfl|rfl<;>simp only[mA,mB,mC,mD]<;>omega
def RA{m:Mv}(a:Ew 16384 m){x y:Int}(h:-8000<=x/\x<=8000/\-8000<=y/\y<=8000):Cc 138 (EG m++[.i x,.i y]) [.i (ptM m x y).1,.i (ptM m x y).2,.i 0]:=by
 have c:=P3 a.1 h;have b:=a.2;refine q138 rfl ?_;unfold f138;simp only[w7];simp only[EG,Fe,E7]
 repeat (first|simp(disch:=omega)only[↓qb]|refine am (xh a a_) ?_|refine am (pchk_c a_) ?_|refine af (CM a.1) ?_|refine af (xE a.1) ?_|refine am (ZZ a.1 a_) ?_)
 rfl
def Yb{c:Cl}(h:-4096<=c.1/\c.1<=4096/\-4096<=c.2.1/\c.2.1<=4096/\c.2.2<4):Cc 110 (EB c) [.i 0]:=by
 have a:(DO c.2.2)<=3:=jw;refine q110 rfl ?_;unfold f110;simp only[w7]
 repeat (first|simp(disch:=omega)only[↓qb])
 try rfl
def ZY{x y q:Int}(h:-1000000<=x/\x<=1000000/\-1000000<=y/\y<=1000000):Cc 137 [.i x,.i y,.i q] [.i (2*x+1),.i (2*y+1)]:=by
 refine q137 rfl ?_;unfold f137;simp only[w7]
 repeat (first|simp(disch:=omega)only[↓qb])
 (try simp only[Li,Lf.i.injEq,and_true,true_and]);(try omega)
def sdX(q:Nat):Int:=[0,1,0,-1].getD q 0
def sdY(q:Nat):Int:=[-1,0,1,0].getD q 0
def pick_q{q:Nat}(h:q<4):rp gl0 0 [(DO q,17)] 2=O [EO DQ (sdX q),EO DQ (sdY q)]:=by
 obtain rfl|rfl|rfl|rfl:q=0∨q=1∨q=2∨q=3:=a_
 all_goals kernel_rfl
def eP{m:Mv}(e:Ew 16384 m){c:Cl}(d:-1000<=c.1/\c.1<=1000/\-1000<=c.2.1/\c.2.1<=1000/\c.2.2<4):Cc 111 (EG m++EB c) (EB (aq m c)):=by
 obtain⟨t,n,o⟩:=m;obtain⟨x,y,q⟩:=c;have i:Ew 16384 (t,0,0):=⟨e.1,d_,d_,d_,d_,d_⟩;have a:=RA (aU e a_) (x:=2*x+1) (y:=2*y+1) (by simp only at d;omega);have b:=RA (aU i a_) (x:=sdX q) (y:=sdY q) (by
  have j:q<4:=d.2.2.2.2;obtain rfl|rfl|rfl|rfl:q=0∨q=1∨q=2∨q=3:=a_
  all_goals simp[sdX,sdY])
 obtain⟨X,k⟩ : ∃X,(ptM (t,n,o) (2*x+1) (2*y+1)).1=X:=⟨_,rfl⟩;obtain⟨Y,l⟩ : ∃Y,(ptM (t,n,o) (2*x+1) (2*y+1)).2=Y:=⟨_,rfl⟩;obtain⟨rN,f⟩ : ∃rN,(ptM (t,0,0) (sdX q) (sdY q)).1=rN:=⟨_,rfl⟩;obtain⟨V,g⟩ : ∃V,(ptM (t,0,0) (sdX q) (sdY q)).2=V:=⟨_,rfl⟩;rw[k,l]at a;rw[f,g]at b;have h:=e.2;have p:t<8:=e.1;have j:q<4:=d.2.2.2.2;simp only at h d;refine q111 rfl ?_;unfold f111;simp only[w7];simp only[EG,EB,Fe,E7]
 repeat (first|simp(disch:=omega)only[↓qb]|refine am (ZY a_) ?_|refine af (CM j) ?_|refine af (pick_q j) ?_|refine am a ?_|refine am b ?_)
 rcases t8 p with rfl|rfl|rfl|rfl|rfl|rfl|rfl|rfl
 all_goals obtain rfl|rfl|rfl|rfl:q=0∨q=1∨q=2∨q=3:=a_
 all_goals
  simp[ptM,mA,mB,mC,mD,sdX,sdY]at k l f g;subst f g
  repeat (first|simp(disch:=omega)only[↓qb]|refine af (by simp only[jz,putL,E1,Int.reduceToNat,Int.reduceAdd,Int.reduceMul,Int.reduceMod,Int.reduceSub,Int.reduceNeg,Int.reduceDiv,Nat.reduceAdd,Nat.reduceMul,Nat.reduceLeDiff,j1,qdG,↓reduceIte,qcE,an,qcl,qdm,Fe,E7,Hd,Int.toNat_zero,ag,qdh,Int.zero_add];exact rfl) ?_|refine By 6 ?_)
  try simp[aq,mA,mB,mC,mD,qT]
  try omega
abbrev Gs:=Int×Int×Int
def q9(c:Gs):Tn:=[EO DQ c.1,EO DU c.2.1,EO DU c.2.2]
def okC(c:Gs):Prop:=-9223372036854775808<=c.1/\c.1<=9223372036854775807/\0<=c.2.1/\c.2.1<=255/\0<=c.2.2/\c.2.2<=255
def Vi(c:Gs):Bool:=decide (1<=c.2.2)&&decide (c.2.2<=3)
def Zg(k:Int):Cc 118 [.i k] [.b (decide (1<=k)&&decide (k<=3))]:=by
 refine q118 rfl ?_;unfold f118;simp only[w7];by_cases a:1<=k
 .by_cases c:k<=3
  .simp(disch:=omega)only[↓qb];simp[a,c]
  .simp(disch:=omega)only[↓qb];simp[a,c]
 .simp(disch:=omega)only[↓qb];simp[a]
def chk1_c(c:Gs):Cc 117 [.i c.1,.i c.2.1,.i c.2.2] [.b (!Vi c)]:=by
 refine q117 rfl ?_;unfold f117;simp only[w7]
 repeat (first|simp(disch:=omega)only[↓qb]|refine am (Zg c.2.2) ?_)
 simp[Vi]
abbrev clo1:FO:=.func (.func 117) ⟨[]⟩ ⟨[]⟩
def b5:aH clo1=J:=rfl
abbrev _root_.TD:=List Gs
def o5{h:HL}{x:TV}{l:TD}(d:q_ h x 3 q9 l)(u:W l<=4294967296):∃n:Int,aD cc ac 140 [.v x,.v clo1] (h_ aa h) [.i n] (h_ aa h)/\(0<=n↔∃c∈l,Vi c=U):=by
 obtain⟨m,g,p,n,rfl,rfl,q⟩:=x140 (K:=λm g=>∃n:Int,m=[.i n]/\g=h/\(0<=n↔∃c∈l,Vi c=U)) (H:=h) (o_ d.g_ (o_ b5 vc)) (by
  unfold f140;simp only[w7];refine c_ ?_;refine aO d ?_;refine bY (W l) (λj=>∀i,i<j->∀c,l[i]?=O c->Vi c=J) rfl (Eg _) (λi k=>absurd k (qdL _)) ?_;intro j t k o f;refine c_ ?_;by_cases e:j<W l
  .have a:DO j<DO (W l):=k_;rw[r_ a];refine c_ ?_;obtain⟨c,b⟩ : ∃c,l[j]?=O c:=⟨_,Gn e⟩;refine aJ d rfl b ?_;unfold q9
   repeat (first|simp(disch:=omega)only[↓qb]|refine gK (lJ (chk1_c c _) rfl [.agg [.i DQ c.1,.i DU c.2.1,.i DU c.2.2]] rfl rfl) ?_)
   cases s:Vi c with
   |true=>
    show P1.cond U _ _;refine c_ ?_;rw[Hn jw jw]
    grind
   |false=>
    show P1.cond J _ _;refine c_ ?_
    grind
  .have a:DO (W l)<=DO j:=k_;rw[s_ a];refine c_ ?_;refine⟨_,rfl,Ei,λh=>a_,λ⟨c,b,s⟩=>?_⟩;obtain⟨i,r⟩:=E4 b
   grind)
 exact⟨n,p,q⟩
def CB{h:HL}{x:TV}{l:TD}(c:q_ h x 3 q9 l)(i:W l<=4294967296):aD cc ac 116 [.v x,.v clo1] (h_ aa h) [.b (!l.all Vi)] (h_ aa h):=by
 obtain⟨n,e,f⟩:=o5 c i;obtain⟨d,a,g,rfl,rfl⟩:=x116 (K:=λd a=>d=[.b (!l.all Vi)]/\a=h) (H:=h) (o_ c.g_ (o_ b5 vc)) (by
  unfold f116;simp only[w7]
  repeat (first|simp(disch:=omega)only[↓qb]|refine ai e ?_)
  cases j:l.all Vi with
  |true=>
   have:¬0<=n:=λh=>by grind
   refine c_ ?_
   simp_all
  |false=>
   have:0<=n:=f.2 (by simp_all)
   refine c_ ?_
   simp_all)
 exact g
def D_(w v c e:Nat):Ts:=
 match e,c%4 with
 |0,0=>if 0<c / 4 / w then O (c+2-4*w)else Q
 |0,1=>if c / 4%w+1<w then O (c+6)else Q
 |0,2=>if c / 4 / w+1<v then O (c+4*w-2)else Q
 |0,_=>if 0<c / 4%w then O (c-6)else Q
 |1,0=>O (c+1)
 |1,1=>O (c-1)
 |1,2=>O (c+1)
 |1,_=>O (c-1)
 |2,0=>O (c+3)
 |2,1=>O (c+1)
 |2,2=>O (c-1)
 |2,_=>O (c-3)
 |_,_=>Q
def L0(w v c e:Nat):TG:=match D_ w v c e with
 |O n=>[.i (.ofNat (min c n)),.i (.ofNat e),.i 0]
 |Q=>[.i 0,.i 0,.i 7]
def Lw(w c:Nat):TG:=[.i (.ofNat (c / 4%w)),.i (.ofNat (c / 4 / w)),.i (.ofNat (c%4)),.i 0]
def Sl(w v:Nat):Bool:=(EW (4*w*v)).all λc=>(EW 3).all λe=>PL (L0 w v c e) (Mc 60 (.f 119) [.i (.ofNat w),.i (.ofNat v),.i (.ofNat c),.i (.ofNat e)] .empty Ld)
def Sj(w v:Nat):Bool:=(EW (4*w*v)).all λc=>PL (Lw w c) (Mc 60 (.f 75) [.i (.ofNat w),.i (.ofNat v),.i (.ofNat c)] .empty Ld)
def xY(w v:Nat):List (Nat×Nat):=(EW (4*w*v)).flatMap λc=>(EW 3).filterMap λe=>match D_ w v c e with
 |O n=>if c<n then O (c,e)else Q
 |Q=>Q
def V'(w v:Nat):Bool:=Sl w v&&Sj w v
def tE:∀w v:Nat,1<=w->w<=5->1<=v->v<=5->V' w v=J:=by
 have a:((EW 5).all λw=>(EW 5).all λv=>V' (w+1) (v+1))=J:=e_;intro w v c d e f;have b:=D7.1 a (w-1) (D2.2 a_);have g:=D7.1 b (v-1) (D2.2 a_)
 simp_all
def nbr_ne{w v c e n:Nat}(d:1<=w)(h:D_ w v c e=O n):n≠c:=by
 have f:c / 4%w<=c / 4:=qdP _ _;have g:c / 4 / w<=c / 4:=qc8 _ _;have b:c%4=0∨c%4=1∨c%4=2∨c%4=3:=a_;rcases e with _|_|_|e<;>rcases b with a|a|a|a<;>simp only[D_,a]at h<;>
  first
  |grind
  |grind
  |(cases h;done)
def Si{w v:Nat}(h:V' w v=J):Sl w v=J/\Sj w v=J:=by
 unfold V' at h
 simp_all
def Nc{w v:Nat}(f:V' w v=J){c e:Nat}(b:c<4*w*v)(d:e<3):Cc 119 [.i (.ofNat w),.i (.ofNat v),.i (.ofNat c),.i (.ofNat e)] (L0 w v c e):=by have a:=D7.1 (Si f).1 c (D2.2 b);exact mf (n:=60) rfl e_ rfl (D7.1 a e (D2.2 d))
def MM{w v:Nat}(b:V' w v=J){c:Nat}(a:c<4*w*v):Cc 75 [.i (.ofNat w),.i (.ofNat v),.i (.ofNat c)] (Lw w c):=
 mf (n:=60) rfl e_ rfl (D7.1 (Si b).2 c (D2.2 a))
def Ia(w v:Int):Prop:=1<=w/\1<=v/\w<=256/\v<=256/\w*v<=256
instance (w v : Int) : Decidable (Ia w v) := by unfold Ia; infer_instance
def Nb{w v a b:Int}(h:0<=w/\w<=a/\0<=v/\v<=b):0<=w*v/\w*v<=a*b:=
 ⟨Int.mul_nonneg h.1 h.2.2.1,Int.mul_le_mul h.2.1 h.2.2.2 h.2.2.1 a_⟩
def d3(w v:Int):Cc 107 [.i w,.i v] [.i (if Ia w v then 0 else 1)]:=by
 refine q107 rfl ?_;unfold f107;simp only[w7];by_cases c:1<=w
 .by_cases d:1<=v
  .by_cases e:w<=256
   .by_cases f:v<=256
    .have h:=Nb (w:=w) (v:=v) (a:=256) (b:=256) a_;by_cases g:w*v<=256
     .simp(disch:=omega)only[↓qb];simp[Ia,c,d,e,f,g]
     .simp(disch:=omega)only[↓qb];simp[Ia,g]
    .simp(disch:=omega)only[↓qb];simp[Ia,f]
   .simp(disch:=omega)only[↓qb];simp[Ia,e]
  .simp(disch:=omega)only[↓qb];simp[Ia,d]
 .simp(disch:=omega)only[↓qb];simp[Ia,c]
def tA{w v:Int}(h:Ia w v):Cc 107 [.i w,.i v] [.i 0]:=by have:=d3 w v;grind
def Mf(w v:Int):Prop:=1<=w/\w<=5/\1<=v/\v<=5
def R7{w v:Int}(h:Mf w v):Ia w v:=by unfold Mf at h;have:=Nb (w:=w) (v:=v) (a:=5) (b:=5) a_;unfold Ia;omega
def sm4{w v:Int}(h:Mf w v):4<=4*w*v/\4*w*v<=100:=by
 unfold Mf at h;have c:=Nb (w:=4*w) (v:=v) (a:=20) (b:=5) a_;have d:4*w<=4*w*v:=by have:=Int.mul_le_mul_of_nonneg_left h.2.2.1 (show 0<=4*w by omega);omega
 omega
def has_c{w v:Int}(h:Mf w v)(c:Int):Cc 108 [.i w,.i v,.i c] [.b (decide (0<=c)&&decide (c<4*w*v))]:=by
 have e:=sm4 h;unfold Mf at h;refine q108 rfl ?_;unfold f108;simp only[w7];by_cases a:0<=c
 .by_cases d:c<4*w*v
  .simp(disch:=omega)only[↓qb];simp[a,d]
  .simp(disch:=omega)only[↓qb];simp[a,d]
 .simp(disch:=omega)only[↓qb];simp[a]
def Dm{w v c:Int}(h:Mf w v)(a:¬(0<=c/\c<4*w*v)):Cc 75 [.i w,.i v,.i c] [.i 0,.i 0,.i 0,.i 7]:=by
 refine q75 rfl ?_;unfold f75;simp only[w7]
 repeat (first|simp(disch:=omega)only[↓qb]|refine am (tA (R7 h)) ?_)
 have e:(decide (0<=c)&&decide (c<4*w*v))=U:=z_;refine am (e▸has_c h c) ?_;simp(disch:=omega)only[↓qb,GG]
def zJ{w v c e:Int}(h:Mf w v)(a:¬(0<=c/\c<4*w*v)):Cc 78 [.i w,.i v,.i c,.i e] [.i 0,.i 7]:=by
 refine q78 rfl ?_;unfold f78;simp only[w7]
 repeat (first|simp(disch:=omega)only[↓qb]|refine am (Dm h a) ?_)
def Dn{w v c e:Int}(h:Mf w v)(a:¬(0<=c/\c<4*w*v)):Cc 119 [.i w,.i v,.i c,.i e] [.i 0,.i 0,.i 7]:=by
 refine q119 rfl ?_;unfold f119;simp only[w7]
 repeat (first|simp(disch:=omega)only[↓qb]|refine am (zJ h a) ?_)
def vW{x y q:Int}(h:-4096<=x/\x<=4096/\-4096<=y/\y<=4096/\q<=3):Cc 110 [.i x,.i y,.i q] [.i 0]:=by refine q110 rfl ?_;unfold f110;simp only[w7];simp(disch:=omega)only[↓qb]
def rR{x y q e:Int}(h:-4096<=x/\x<=4096/\-4096<=y/\y<=4096/\q<=3)(a:2<e):Cc 76 [.i x,.i y,.i q,.i e] [.i 0,.i 0,.i 0,.i 1]:=by
 refine q76 rfl ?_;unfold f76;simp only[w7]
 repeat (first|simp(disch:=omega)only[↓qb]|refine am (vW h) ?_)
def U'{w v:Int}(h:Mf w v):∃a b:Nat,w = .ofNat a/\v = .ofNat b/\1<=a/\a<=5/\1<=b/\b<=5:=by
 unfold Mf at h;obtain⟨a,rfl⟩:=qbY (show 0<=w by omega);obtain⟨b,rfl⟩:=qbY (show 0<=v by omega)
 grind
def ZM{a b c:Nat}(h:(c:Int)<4*(a:Int)*(b:Int)):c<4*a*b:=by grind
def xR{w v c e:Int}(h:Mf w v)(f:0<=c/\c<4*w*v)(g:2<e):Cc 78 [.i w,.i v,.i c,.i e] [.i 0,.i 1]:=by
 have p:=sm4 h;obtain⟨a,b,rfl,rfl,d⟩:=U' h;obtain⟨k,rfl⟩:=qbY f.1;have j:k<4*a*b:=ZM f.2;have l:4*a*b<=100:=by grind
 refine q78 rfl ?_;unfold f78;simp only[w7];refine c_ ?_;refine am (MM (tE a b d.1 d.2.1 d.2.2.1 d.2.2.2) j) ?_;unfold Lw;refine c_ ?_;have m:k / 4%a<=k / 4:=qdP _ _;have n:k / 4 / a<=k / 4:=qc8 _ _;have o:(0:Int)<=((k / 4 / a:Nat):Int):=IK _;have r:(0:Int)<=((k / 4%a:Nat):Int):=IK _;refine am (rR (x:=DO (k / 4%a)) (y:=DO (k / 4 / a)) (q:=DO (k%4)) jw g) ?_;simp(disch:=omega)only[↓qb]
def zI{w v c e:Int}(h:Mf w v)(a:0<=c/\c<4*w*v)(b:2<e):Cc 119 [.i w,.i v,.i c,.i e] [.i 0,.i 0,.i 1]:=by
 refine q119 rfl ?_;unfold f119;simp only[w7]
 repeat (first|simp(disch:=omega)only[↓qb]|refine am (xR h a b) ?_)
def H5(w v c e:Int):Bool:=decide (0<=c)&&decide (c<4*w*v)&&decide (e<=2)&&(match D_ w.toNat v.toNat c.toNat e.toNat with
 |O n=>Nat.blt c.toNat n
 |Q=>U)
def name_c{w v c e:Int}(h:Mf w v)(o:0<=e):∃a b r:Int,Cc 119 [.i w,.i v,.i c,.i e] [.i a,.i b,.i r]/\(H5 w v c e=J↔r=0/\a=c/\b=e):=by
 by_cases g:0<=c/\c<4*w*v
 .by_cases m:e<=2
  .obtain⟨a,b,rfl,rfl,d⟩:=U' h;obtain⟨k,rfl⟩:=qbY g.1;obtain⟨j,rfl⟩:=qbY o;have p:k<4*a*b:=ZM g.2;have f:=Nc (tE a b d.1 d.2.1 d.2.2.1 d.2.2.2) p (e:=j) a_;unfold L0 at f;cases e:D_ a b k j with
   |none=>
    rw[e]at f;refine⟨_,_,_,f,?_⟩;have:H5 (.ofNat a) (.ofNat b) (k:Int) (j:Int)=U:=by
     unfold H5
     simp_all
    rw[this];simp
   |some n=>
    rw[e]at f;refine⟨_,_,_,f,?_⟩;have q:=nbr_ne d.1 e;have l:D_ (DO a).toNat (DO b).toNat (k:Int).toNat (j:Int).toNat=O n:=e;unfold H5;rw[l];simp only[y_,Gp,IV,Int.toNat_natCast]
    grind
  .refine⟨_,_,_,zI h g a_,?_⟩;have:H5 w v c e=U:=by unfold H5;simp[m]
   rw[this];simp
 .refine⟨_,_,_,Dn h g,?_⟩;have:H5 w v c e=U:=by
   unfold H5
   grind
  rw[this];simp
def AO{w v c e:Int}(h:H5 w v c e=J):0<=c/\c<4*w*v/\e<=2:=by
 unfold H5 at h
 simp_all
def Ks(a b:Gs):Bool:=decide (a.1<b.1)||(decide (a.1=b.1)&&decide (a.2.1<b.2.1))
def G2:TD->Bool
 |a::b::l=>Ks a b&&G2 (b::l)
 |_=>J
def jH:∀ {l:TD},G2 l=J↔∀(i:Nat) a b,l[i]?=O a->l[i+1]?=O b->Ks a b=J
 | []=>by simp[G2]
 | [a]=>by simp[G2]
 |a::b::l=>by
  simp only[G2,y_];rw[jH (l:=b::l)];constructor
  .grind
  .intro h;exact⟨h 0 a b rfl rfl,λi x y c d=>h (i+1) x y (by simpa using c) (by simpa using d)⟩
def w6(w v:Int)(c:Gs):Bool:=H5 w v c.1 c.2.1
def Is(w v:Int)(l:TD):Int:=if l.all Vi=U then 1 else if l.all (w6 w v)=U then 7 else if G2 l=J then 0 else 6
def Ci(c:Gs):Cc 120 [.i c.1,.i c.2.1,.i c.2.2] [.i c.1,.i c.2.1]:=by refine q120 rfl ?_;unfold f120;simp only[w7];simp(disch:=omega)only[↓qb]
def u'{a b:Gs}(h:0<=a.1/\a.1<=1000/\0<=b.1/\b.1<=1000/\0<=a.2.1/\a.2.1<=255/\0<=b.2.1/\b.2.1<=255):∃d:Int,Cc 121 [.i a.1,.i a.2.1,.i b.1,.i b.2.1] [.i d]/\(d<0↔Ks a b=J):=by
 by_cases c:a.1=b.1
 .refine⟨a.2.1-b.2.1,?_,by simp only[Ks,IP,y_,Gp];omega⟩;refine q121 rfl ?_;unfold f121;simp only[w7];simp(disch:=omega)only[↓qb]
 .refine⟨a.1-b.1,?_,by simp only[Ks,IP,y_,Gp];omega⟩;refine q121 rfl ?_;unfold f121;simp only[w7];simp(disch:=omega)only[↓qb]
def gA{w v:Int}(L:Mf w v){h:HL}{x:TV}{l:TD}(q:q_ h x 3 q9 l)(E:∀c∈l,okC c)(hn:W l<=4294967296) :
  aD cc ac 93 [.i w,.i v,.v x] (h_ aa h) [.i (Is w v l)] (h_ aa h):=by
 obtain⟨P,M,S,rfl,rfl⟩:=x93 (K:=λP M=>P=[.i (Is w v l)]/\M=h) (H:=h) (mc (mc (o_ q.g_ vc))) (by
  unfold f93;simp only[w7]
  repeat (first|simp(disch:=omega)only[↓qb]|refine am (tA (R7 L)) ?_|refine ai (CB q hn) ?_)
  cases u:l.all Vi with
  |false=>simp(disch:=omega)only[↓qb,GG];exact⟨by simp[Is,u],Ei⟩
  |true=>
   simp(disch:=omega)only[↓qb,Fv];refine aO q ?_;refine bY (W l) (λj=>∀i,i<j->∀c,l[i]?=O c->w6 w v c=J) rfl (Eg _) (λi D=>absurd D (qdL _)) ?_;intro j hj D t s;refine c_ ?_;by_cases k:j<W l
   .rw[aB k];refine c_ ?_;obtain⟨c,m⟩:=ak k;have n:=A9 m;have I:=E c n;unfold okC at I;have R:w6 w v c=U->Is w v l=7:=λf=>by have:l.all (w6 w v)=U:=List.all_eq_false.2 ⟨c,n,by simp[f]⟩;simp[Is,u,this]
    refine aJ q rfl m ?_;unfold q9;refine c_ ?_;obtain⟨a,b,r,G,g⟩:=name_c (c:=c.1) (e:=c.2.1) L a_;refine am G ?_;refine c_ ?_;by_cases N:r=0
    .subst N
     repeat (first|simp(disch:=omega)only[↓qb]|refine am (Ci c) ?_)
     by_cases p:a=c.1/\b=c.2.1
     .have f:w6 w v c=J:=g.2 ⟨rfl,p.1,p.2⟩;simp(disch:=omega)only[↓qb,Fv];rw[aI a_]
      grind
     .have f:w6 w v c=U:=by rw[←Ii];intro f;have:=g.1 f;omega
      rw[IG p];simp(disch:=omega)only[↓qb,GG]
      simp_all
    .have f:w6 w v c=U:=by rw[←Ii];intro f;exact N (g.1 f).1
     refine c_ ?_
     simp_all
   .obtain rfl:j=W l:=a_;rw[aw (B7 _)];refine c_ ?_;have f:l.all (w6 w v)=J:=D7.2 λc m=>by
     obtain⟨i,X⟩:=E4 m
     grind
    refine bY (j0:=1) (max 1 (W l)) (λj=>1<=j/\∀(i:Nat) a b,i+1<j->l[i]?=O a->l[i+1]?=O b->Ks a b=J) rfl (qcf _ _) ⟨B7 _,λi a b D=>a_⟩ ?_;intro j Y ⟨h1,hi2⟩ t s;refine c_ ?_;refine aO q ?_;by_cases k:j<W l
    .rw[aB k];refine c_ ?_;rw[ko h1 a_];obtain⟨c,m⟩:=ak (l:=l) (i:=j-1) a_;obtain⟨d,B⟩:=ak k;have A:=E c (A9 m);have C:=E d (A9 B);have T:=AO (D7.1 f c (A9 m));have V:=AO (D7.1 f d (A9 B));have h4:=sm4 L;unfold okC at A C;refine aJ q rfl m ?_;unfold q9
     repeat (first|simp(disch:=omega)only[↓qb]|refine am (Ci c) ?_)
     refine aJ q rfl B ?_;unfold q9
     repeat (first|simp(disch:=omega)only[↓qb]|refine am (Ci d) ?_)
     obtain⟨o,ho,ad⟩:=u' (a:=c) (b:=d) a_;refine am ho ?_;refine c_ ?_;by_cases Z:o<0
     .simp(disch:=omega)only[↓qb];rw[aI a_]
      grind
     .have F:G2 l=U:=by
       rw[←Ii,jH]
       grind
      refine c_ ?_;exact⟨by simp[Is,u,f,F],Ei⟩
    .rw[aw a_];refine c_ ?_;have y:G2 l=J:=jH.2 λi a b y z=>hi2 i a b jw y z;exact⟨by simp[Is,u,f,y],Ei⟩)
 exact S
def ra(w n:Nat):Cl:=(DO (n / 4%w),DO (n / 4 / w),n%4)
def rkN(w n:Nat):Nat:=10*(n / 4%w+n / 4 / w)+(if n / 4 / w=0/\n / 4%w≠0 then [1,2,1,0]else [0,1,2,1]).getD (n%4) 0
def xn(w v c e:Nat):TG:=match D_ w v c e with
 |O n=>[.i (.ofNat n),.i 0]
 |Q=>[.i 0,.i 7]
def tabNb(w v:Nat):Bool:=(EW (4*w*v)).all λc=>(EW 3).all λe=>mP 78 [.i (.ofNat w),.i (.ofNat v),.i (.ofNat c),.i (.ofNat e)] (xn w v c e)
def tabLn(w v:Nat):Bool:=(xY w v).all λu=>mP 126 [.i (.ofNat w),.i (.ofNat v),.i (.ofNat u.1),.i (.ofNat u.2)] [.i (.ofNat (u_ (ra w u.1) u.2).1),.i (u_ (ra w u.1) u.2).2,.i 0]
def eqLn(a b:Ln):Bool:=Nat.beq a.1 b.1&&decide (a.2=b.2)
def YI{a b:Ln}:eqLn a b=J↔a=b:=by
 unfold eqLn;rw[y_,Gp,qdj]
 simp_all
def eqCl(a b:Cl):Bool:=decide (a.1=b.1)&&(decide (a.2.1=b.2.1)&&Nat.beq a.2.2 b.2.2)
def YH{a b:Cl}:eqCl a b=J↔a=b:=by
 unfold eqCl;rw[y_,y_,Gp,Gp,qdj,qdj]
 simp_all
def nbT(w v c e:Nat):Bool:=match D_ w v c e with
 |O n=>Nat.blt n (4*w*v)&&((match D_ w v n e with
  |O m=>Nat.beq m c
  |Q=>U)&&(eqLn (u_ (ra w c) e) (u_ (ra w n) e)&&(eqCl (ra w n) (E5 (ra w c) e) && !Nat.beq n c)))
 |Q=>J
def ZC(w c e:Nat):Bool:=Nat.ble 1 (u_ (ra w c) e).1&&(Nat.ble (u_ (ra w c) e).1 4&&(decide (-10<=(u_ (ra w c) e).2)&&decide ((u_ (ra w c) e).2<=10)))
def wayT(w v n:Nat):Bool:=Nat.beq n 0||(EW 3).any λe=>match D_ w v n e with
 |O m=>Nat.blt (rkN w m) (rkN w n)
 |Q=>U
def W7(w v:Nat):Bool:=(EW (4*w*v)).all λc=>wayT w v c&&(EW 3).all λe=>nbT w v c e&&ZC w c e
def l9(w v:Nat):Bool:=tabNb w v&&(tabLn w v&&W7 w v)
def all71:∀w v:Nat,1<=w->w<=5->1<=v->v<=5->l9 w v=J:=by
 have a:((EW 5).all λw=>(EW 5).all λv=>l9 (w+1) (v+1))=J:=e_;intro w v c d e f;have b:=D7.1 a (w-1) (D2.2 a_);have g:=D7.1 b (v-1) (D2.2 a_)
 simp_all
def Sh(w v:Nat):Prop:=1<=w/\w<=5/\1<=v/\v<=5
section
variable {w v:Nat}
def vI(h:Sh w v):tabNb w v=J/\tabLn w v=J/\W7 w v=J:=by
 have:=all71 w v h.1 h.2.1 h.2.2.1 h.2.2.2;unfold l9 at this
 simp_all
def nb_c(h:Sh w v){c e:Nat}(a:c<4*w*v)(b:e<3):Cc 78 [.i (.ofNat w),.i (.ofNat v),.i (.ofNat c),.i (.ofNat e)] (xn w v c e):=
 fm (D7.1 (D7.1 (vI h).1 c (D2.2 a)) e (D2.2 b)) rfl e_ rfl
def ln_c(h:Sh w v){u e:Nat}(a:(u,e)∈xY w v):Cc 126 [.i (.ofNat w),.i (.ofNat v),.i (.ofNat u),.i (.ofNat e)] [.i (.ofNat (u_ (ra w u) e).1),.i (u_ (ra w u) e).2,.i 0]:=
 fm (D7.1 (vI h).2.1 (u,e) a) rfl e_ rfl
def Nd(h:Sh w v){c:Nat}(a:c<4*w*v):wayT w v c=J/\∀e,e<3->nbT w v c e=J/\ZC w c e=J:=by
 have:=D7.1 (vI h).2.2 c (D2.2 a)
 simp_all
def de(h:Sh w v){c e n:Nat}(f:c<4*w*v)(g:e<3)(i:D_ w v c e=O n):n<4*w*v/\D_ w v n e=O c/\u_ (ra w c) e=u_ (ra w n) e/\ra w n=E5 (ra w c) e/\n≠c:=by
 have:=((Nd h f).2 e g).1;unfold nbT at this;rw[i]at this;simp only[y_]at this;obtain⟨j,a,b,d,k⟩:=this;refine⟨k_,?_,YI.1 b,YH.1 d,λe=>?_⟩
 .split at a
  .simp_all
  .cases a
 simp_all
def ZF(h:Sh w v){c e:Nat}(a:c<4*w*v)(b:e<3):1<=(u_ (ra w c) e).1/\(u_ (ra w c) e).1<=4/\-10<=(u_ (ra w c) e).2/\(u_ (ra w c) e).2<=10:=by
 have:=((Nd h a).2 e b).2;unfold ZC at this
 simp_all
def zd(h:Sh w v){P:Tz}(h0:P 0)(o:∀c e n,c<4*w*v->e<3->D_ w v c e=O n->P c->P n):∀n,n<4*w*v->P n:=by
 have a:∀k n,n<4*w*v->rkN w n<k->P n:=by
  intro k
  induction k with
  |zero=>omega
  |succ k p=>
   intro n b l;have hw:=(Nd h b).1;unfold wayT at hw;rw[IP]at hw;rcases hw with hw|hw
   .simp_all
   .obtain⟨e,d,f⟩:=qcn.1 hw;have d:=D2.1 d;split at f
    next m g=>
     rw[IV]at f;obtain⟨i,j,_⟩:=de h b d g
     grind
    .cases f
 intro n b;exact a (rkN w n+1) n b a_
def ZX{c e n:Nat}(b:c<4*w*v)(d:e<3)(f:D_ w v c e=O n)(a:c<n):(c,e)∈xY w v:=by unfold xY;rw[Gv];refine⟨c,D2.2 b,Np.2 ⟨e,D2.2 d,?_⟩⟩;simp[f,a]
def yY(h:Sh w v){c e n:Nat}(f:c<4*w*v)(a:e<3)(g:D_ w v c e=O n):(min c n,e)∈xY w v/\u_ (ra w (min c n)) e=u_ (ra w c) e:=by
 obtain⟨i,j,k,_,l⟩:=de h f a g;rcases I3 c n with d|b
 .rw[Xk a_];exact⟨ZX f a g d,rfl⟩
 .rw[qdz b];exact⟨ZX i a j a_,k.symm⟩
end
def bD(c:Gs):Ku:=(c.1,c.2.1)
def Es(l:TD)(u e:Nat):Bool:=decide (((DO u,DO e):Ku)∈l.map bD)
def Lt(H:HL)(id:Nat)(l:TD):Prop:=∃a c,H[id]?=O (.o (.map a c))/\Lp a (l.map bD)
def gS{l:TD}(h:l.Pairwise λa b=>Ks a b=J):(l.map bD).Nodup:=by
 rw[List.Nodup,KZ];refine h.imp λ{a b} c e=>?_;unfold Ks at c;simp only[IP,y_,Gp]at c;unfold bD at e
 simp_all
def S8{H:HL}{w v:Int}{x:TV}{l:TD}(k:q_ H x 3 q9 l)(A:(l.map bD).Nodup)(I:W l<=1000) :
  ∃G,aD cc ac 123 [.i w,.i v,.v x] (h_ aa H) [.v (.map (O (W H)))] (h_ aa (H++[G]))/\Lt (H++[G]) (W H) l:=by
 obtain⟨r,h',t,rfl,G,rfl,u⟩:=x123 (K:=λr h'=>r=[.v (.map (O (W H)))]/\∃G,h'=H++[G]/\Lt h' (W H) l) (H:=H) (mc (mc (o_ k.g_ vc))) (by
  unfold f123;simp only[w7];refine c_ ?_;refine aO k ?_;refine c_ ?_;refine aO k ?_;refine bo (g9:=HO) (W l) (λj _=>[.i (DO j)]) (λ_ G=>H++[G]) (λj G=>Lt (H++[G]) (W H) (l.take j)) (j0:=0) (s0:=.o (.map [] 0)) rfl rfl (Eg _) ⟨[],0,d_,rfl,λe h=>(by cases h)⟩ ?_;rintro j G L ⟨f,c,p,g⟩ s d;refine c_ ?_;by_cases b:j<W l
  .rw[aB b];refine c_ ?_;obtain⟨a,q⟩:=ak b;have m:=k.pre (h':=H++[G]) ⟨[G],rfl⟩;refine aJ m rfl q ?_;unfold q9;refine c_ ?_;have y:bD a∉(l.take j).map bD:=by
    intro z;rw[List.map_take]at z;have B:=A;have E:(l.map bD)[j]?=O (bD a):=k_;have F:l.map bD=(l.map bD).take j++bD a::(l.map bD).drop (j+1):=by
     conv=>lhs;rw[←Xi j (l.map bD)]
     rw[RK k_]
     simp_all
    grind
   refine bK (mu_set (C:=cc) (T:=aa) (n:=W (H++[G])) e_ e_ p g y) ?_;rw[aI a_];have e:bJ (H++[G]) [.set (W H) (.map (f++[{ key:=Vl (bD a),val:=.bool J,born:=c }]) (c+1))]=H++[.o (.map (f++[{ key:=Vl (bD a),val:=.bool J,born:=c }]) (c+1))]:=by show(H++[G]).set (W H) _=_;simp
   rw[e];refine d _ b ⟨f++[{ key:=Vl (bD a),val:=.bool J,born:=c }],c+1,d_,?_⟩;have D:(l.take (j+1)).map bD=(l.take j).map bD++[bD a]:=by rw[Kx,q,ME];rfl
   rw[D];exact g.push _ _
  .obtain rfl:j=W l:=a_;rw[aw (B7 _)];refine c_ ?_;refine⟨Ei,G,rfl,?_⟩;rw[y0]at g;exact⟨f,c,p,g⟩)
 exact⟨G,t,u⟩
def u9(m:Mv):Tn:=[EO DU (DO m.1),EO DQ m.2.1,EO DQ m.2.2]
def cZ(m:Mv):W (u9 m)=3:=rfl
def Gt(w:Nat)(l:TD)(g:Mv)(c n e:Nat):Mv:=if Es l (min c n) e then ae (wd (u_ (ra w (min c n)) e)) g else g
def Ag{w v:Nat}(h:Sh w v){l:TD}{c e n:Nat}(a:c<4*w*v)(b:e<3)(j:D_ w v c e=O n){k:Int}{g:Mv}(d:Ew k g)(m:0<=k):Ew (k+20) (Gt w l g c n e):=by
 unfold Gt;obtain⟨_,i⟩:=yY h a b j;split
 .rw[i];have f:=ZF h a b;have:=dX (Bl (n:=10) ⟨f.2.2.1,f.2.2.2⟩) d
  grind
 .exact aU d a_
abbrev _root_.TR:=List Mv
def XE{w v:Nat}(d:Sh w v){l:TD}{h:HL}{x B z A D:TV}{j:Nat}{G:TR}(p:I7 h B [EO DQ (.ofNat w),EO DQ (.ofNat v),x])(t:I7 h z [.map (O j)])(E:Lt h j l)(o:I7 h A [D])(m:q_ h D 3 u9 G)
  {c e n:Nat} (q:c<4*w*v) (r:e<3) (y:D_ w v c e=O n) {g:Mv} (u:G[c]?=O g) {k:Int} (F:Ew k g) (H:0<=k/\k<=16000) :
  aD cc ac 125 [.i (.ofNat c),.i (.ofNat e),.v B,.v z,.v A] (h_ aa h) (EG (Gt w l g c n e)) (h_ aa h):=by
 obtain⟨P,N,L,M⟩:=E;have I:=tE w v d.1 d.2.1 d.2.2.1 d.2.2.2;obtain⟨K,s⟩:=yY d q r y;have b:=ZF d q r;rw[←s]at b;have a:=Nc I q r;unfold L0 at a;rw[y]at a;simp only at a;exact xK x125 (mc (mc (o_ p.g_ (o_ t.g_ (o_ o.g_ vc))))) (by
  unfold f125;simp only[w7]
  repeat (first|simp(disch:=omega)only[↓qb]|refine tb (ds:=[EO DQ (.ofNat w),EO DQ (.ofNat v)]) p d_ rfl ?_|refine am a ?_|refine cY t rfl ?_|refine ab rfl ?_|refine cI (lu_set (C:=cc) (T:=aa) e_ e_ L M (DO (min c n),DO e)) ?_)
  unfold Gt Es;by_cases f:((DO (min c n),DO e):Ku)∈l.map bD
  .rw[FX f]
   repeat (first|simp(disch:=omega)only[↓qb,Fv,if_true]|refine tb (ds:=[EO DQ (.ofNat w),EO DQ (.ofNat v)]) p d_ rfl ?_|refine am (ln_c d K) ?_)
   refine am (mlof_c ⟨b.1,b.2.1⟩ ⟨a_,a_⟩) ?_;simp only[EG,Fe,E7]
   repeat (first|simp(disch:=omega)only[↓qb]|refine cY o rfl ?_|refine ab m.g_ ?_)
   refine aJ m rfl u ?_;unfold u9;refine c_ ?_;refine am (then_c (Bl (n:=10) ⟨b.2.2.1,b.2.2.2⟩) F a_) ?_;simp only[EG,Fe,E7];refine c_ ?_
   simp_all
  .rw[Ga f]
   repeat (first|simp(disch:=omega)only[↓qb,GG,FG,if_false]|refine cY o rfl ?_|refine ab m.g_ ?_)
   refine aJ m rfl u ?_;unfold u9;refine c_ ?_
   simp_all)
def du{j7:Type}{e:Nat}{enc:j7->Tn}(b:∀a,W (enc a)=e){h:HL}{id cx len:Nat}{l:List j7}{i:Nat}{a:j7}{n:Int}{new:Tn}{K:Tb}(f:h[id]?=O (.o (EJ (l.flatMap enc) e J)))(k:n=DO i)(g:i<W l)(c:W l=len)(d:new=enc a)(j:K [] (sd h id e enc (l.set i a))) :
  P1.km (D8 e (DW (O ⟨id,0,le e⟩) len cx) n) (@j_ _ ⟨λx=>P1.heap (.st x new) h (@j_ _ ⟨K⟩)⟩):=by
 have m:sd h id e enc l=h:=gi f;have:=r_set (C:=cc) (Sg:=ac) (T:=aa) (h:=h) (id:=id) (cx:=cx) (len:=len) (l:=l) b (ah f) k g c d j;rw[m]at this;exact this
def cA{j7:Type}{h:HL}{id e j:Nat}{enc:j7->Tn}{l:List j7}(a:j≠id):(sd h id e enc l)[j]?=h[j]?:=by
 unfold sd
 grind
def l_(n:Nat):Tn:=[EO DQ (DO n)]
def bc(n:Nat):W (l_ n)=1:=rfl
def D0(t:Bool):Tn:=[.bool t]
def cS(t:Bool):W (D0 t)=1:=rfl
def gO(q:TC):W (q.flatMap l_)=W q:=by rw[aT (e:=1) (enc:=l_) λa _=>bc a,e2]
def WQ(b:Nat)(h:HL)(v:FO)(q:TC):Prop:=∃id off cx vs,v=DW (O ⟨id,off,le 1⟩) (W q) cx/\b<=id/\h[id]?=O (.o (.cells vs 1 J))/\cut vs off (W q*1)=O (q.flatMap l_)/\(cx=0∨cx=W q+1)
def WQ.ls{b:Nat}{h:HL}{v:TV}{q:TC}(g:WQ b h v q):q_ h v 1 l_ q:=by obtain⟨id,c,d,i,rfl,j,e,f,_⟩:=g;exact⟨λa _=>bc a,by rw[gO,e2],.inr ⟨id,c,d,i,J,rfl,e,f⟩⟩
def WQ.ke{b:Nat}{h h':HL}{v:TV}{q:TC}(k:WQ b h v q)(i:∀(j:Nat) o,b<=j->h[j]?=O o->h'[j]?=O o):WQ b h' v q:=by obtain⟨id,a,d,l,e,c,f,g⟩:=k;exact⟨id,a,d,l,e,c,i _ _ c f,g⟩
def r_tail{b:Nat}{h:HL}{v:TV}{a:Nat}{q:TC}{K:TV->Prop}(p:WQ b h v (a::q))(m:∀v',WQ b h v' q->aH v'=J->K v'):P1.km (GV 1 v (O 1) Q Q) (@j_ _ ⟨K⟩):=by
 obtain⟨id,c,d,e,rfl,i,j,l,r⟩:=p;have n:GV 1 (DW (O ⟨id,c,le 1⟩) (W (a::q)) d) (O 1) Q Q=O (DW (O ⟨id,c+1,le 1⟩) (W q) (d-1)):=by
  unfold GV;have f:¬(le 1≠O 1/\le 1≠le 1):=d_;simp only[ts f];have g:(0:Int)<=(O (1:Int)).getD 0/\(O (1:Int)).getD 0<=(Q:Tt).getD (W (a::q):Int)/\bW (W (a::q)) d Q Q:=by
   refine⟨d_,?_,?_⟩
   .grind
   .unfold bW;left;simp
  rw[rv g];rw[eW,eW,eW];simp[bM]
 refine af n (m _ ⟨id,c+1,d-1,e,rfl,i,j,?_,?_⟩ ?_)
 .have:=mX (l:cut e c (W (a::q)*1)=O _) (o:=1) (k:=W q*1) jw;rw[this];simp only[kD,l_,Fe,E7,qcE,an,e2];rw[←gO q]
  grind
 .grind
 .simp[aH,q8,aW,bG,bu,aR,aL,le]
def r_apQ{b:Nat}{h:HL}{v:TV}{q:TC}{n m:Nat}{new:Tn}{K:Tb}(A:WQ b h v q)(t:b<=W h)(x:m=W h)(f:new=l_ n)(F:W q<=1000)
  (l:∀v' h',WQ b h' v' (q++[n])->aH v'=J->(∀(j:Nat) o,j<b->h[j]?=O o->h'[j]?=O o)->W h<=W h'->K [v'] h') :
  P1.heap (.ap cc 1 8 v (DW (O ⟨m,0,O 11⟩) 1 2)) (h++[.o (.cells new 1 J)]) (@j_ _ ⟨K⟩):=by
 subst x f;obtain⟨id,d,C,B,rfl,D,r,E,s⟩:=A;have w:=ah r;have p:Ip (h++[HO.o (EJ (l_ n) 1 J)]) (DW (O ⟨W h,0,le 1⟩) 1 2) 1 1 (l_ n):=⟨rfl,.inr ⟨W h,0,2,l_ n,J,rfl,d_,Sx.A2 rfl⟩⟩;have k:(h++[HO.o (EJ (l_ n) 1 J)])[id]?=O (.o (.cells B 1 J)):=jw;have z:aY (W q+1) 8=J:=by unfold aY;rw[FE a_,FE a_];rfl
 have g:∀i,aH (DW (O ⟨i,0,le 1⟩) (W q+1) 0)=J:=λi=>by simp[aH,q8,aW,bG,bu,aR,aL,le]
 have e:(q.flatMap l_++l_ n)=(q++[n]).flatMap l_:=d_;have a:W (q++[n])=W q+1:=d_;rcases s with rfl|rfl
 .have c:Gx cc 1 8 (DW (O ⟨id,d,le 1⟩) (W q) 0) (DW (O ⟨W h,0,le 1⟩) 1 2) (w_ aa (h++[HO.o (EJ (l_ n) 1 J)])) (W (h++[HO.o (EJ (l_ n) 1 J)]))=O ([.set id .dead,.push (EJ (q.flatMap l_++l_ n) 1 J)],[DW (O ⟨W (h++[HO.o (EJ (l_ n) 1 J)]),0,le 1⟩) (W q+1) 0]):=by
   unfold Gx;rw[oO p];simp only[ne_eq,not_true_eq_false,if_false];rw[bI k]
   simp_all
  refine bK (show(Hp.ap cc 1 8 (DW (O ⟨id,d,le 1⟩) (W q) 0) (DW (O ⟨W h,0,le 1⟩) 1 2)).run _ _=_ from c) ?_;refine l _ _ ⟨W (h++[HO.o (EJ (l_ n) 1 J)]),0,0,q.flatMap l_++l_ n,by rw[a],z_,?_,?_,.inl rfl⟩ (g _) (λj o u y=>?_) ?_
  .show(((h++[HO.o (EJ (l_ n) 1 J)]).set id (.o .dead))++[HO.o (EJ (q.flatMap l_++l_ n) 1 J)])[_]?=_
   simp_all
  .rw[e,a];exact Sx.A2 (by rw[gO,a,e2])
  .show(((h++[HO.o (EJ (l_ n) 1 J)]).set id (.o .dead))++[HO.o (EJ (q.flatMap l_++l_ n) 1 J)])[j]?=_
   grind
  .show (W h)<=W (((h++[HO.o (EJ (l_ n) 1 J)]).set id (.o .dead))++[HO.o (EJ (q.flatMap l_++l_ n) 1 J)]);simp;omega
 .have c:Gx cc 1 8 (DW (O ⟨id,d,le 1⟩) (W q) (W q+1)) (DW (O ⟨W h,0,le 1⟩) 1 2) (w_ aa (h++[HO.o (EJ (l_ n) 1 J)])) (W (h++[HO.o (EJ (l_ n) 1 J)]))=O ([.push (EJ (q.flatMap l_++l_ n) 1 J)],[DW (O ⟨W (h++[HO.o (EJ (l_ n) 1 J)]),0,le 1⟩) (W q+1) 0]):=by
   unfold Gx;rw[oO p];simp only[ne_eq,not_true_eq_false,if_false];rw[bI k]
   simp_all
  refine bK (show(Hp.ap cc 1 8 (DW (O ⟨id,d,le 1⟩) (W q) (W q+1)) (DW (O ⟨W h,0,le 1⟩) 1 2)).run _ _=_ from c) ?_;refine l _ _ ⟨W (h++[HO.o (EJ (l_ n) 1 J)]),0,0,q.flatMap l_++l_ n,by rw[a],z_,?_,?_,.inl rfl⟩ (g _) (λj o u y=>?_) ?_
  .show((h++[HO.o (EJ (l_ n) 1 J)])++[HO.o (EJ (q.flatMap l_++l_ n) 1 J)])[_]?=_
   simp_all
  .rw[e,a];exact Sx.A2 (by rw[gO,a,e2])
  .show((h++[HO.o (EJ (l_ n) 1 J)])++[HO.o (EJ (q.flatMap l_++l_ n) 1 J)])[j]?=_
   grind
  .show (W h)<=W ((h++[HO.o (EJ (l_ n) 1 J)])++[HO.o (EJ (q.flatMap l_++l_ n) 1 J)]);simp
abbrev _root_.Ty:=List Bool
structure RS(H h:HL)(w v:Nat)(x:Value)(l:TD)(A:TR)(B:Ty):Prop where
 pre:xk H h
 len:H.length+6<=h.length
 p:h[H.length]?=some (.o (.cells [.int .i64 (.ofNat w),.int .i64 (.ofNat v),x] 3 true))
 mp:Lt h (H.length+1) l
 mv:h[H.length+2]?=some (.o (.cells [.map (some (H.length+1))] 1 true))
 ol:h[H.length+3]?=some (.o (.cells (A.flatMap u9) 3 true))
 ov:h[H.length+4]?=some (.o (.cells [.slice (some ⟨H.length+3,0,le 3⟩) (4*w*v) (4*w*v+1)] 1 true))
 kn:h[H.length+5]?=some (.o (.cells (B.flatMap D0) 1 true))
 la:A.length=4*w*v
 lb:B.length=4*w*v
section
variable {H h:HL} {w v:Nat} {x:FO} {l:TD} {A:TR} {B:Ty}
def RS.lsA(c:RS H h w v x l A B):q_ h (DW (O ⟨W H+3,0,le 3⟩) (4*w*v) (4*w*v+1)) 3 u9 A:=by have b:=aT (e:=3) (enc:=u9) (l:=A) λa _=>cZ a;rw[←c.la];exact⟨λa _=>cZ a,b,.inr ⟨_,0,_,_,J,rfl,c.ol,Sx.A2 b⟩⟩
def RS.lsB(c:RS H h w v x l A B):q_ h (DW (O ⟨W H+5,0,le 1⟩) (4*w*v) (4*w*v+1)) 1 D0 B:=by have b:=aT (e:=1) (enc:=D0) (l:=B) λa _=>cS a;rw[←c.lb];exact⟨λa _=>cS a,b,.inr ⟨_,0,_,_,J,rfl,c.kn,Sx.A2 b⟩⟩
def RS.ke{h':HL}(a:RS H h w v x l A B)(b:∀(j:Nat) o,j<W H+6->h[j]?=O o->h'[j]?=O o)(k:W h<=W h'):RS H h' w v x l A B:=by
 obtain⟨g,c,m,n⟩:=a.mp;refine⟨?_,VP a.len k,b _ _ a_ a.p,⟨g,c,b _ _ a_ m,n⟩,b _ _ a_ a.mv,b _ _ a_ a.ol,b _ _ a_ a.ov,b _ _ a_ a.kn,a.la,a.lb⟩;have d:=a.pre;refine⟨h'.drop (W H),?_⟩;apply Kj;intro i;rcases I3 i (W H) with e|e
 .rw[Kh e];have f:H[i]?=O H[i]:=Gn e;rw[f];exact b _ _ a_ (d.get f)
 grind
def lr{j7:Type}{id e:Nat}{enc:j7->Tn}{L:List j7}(a:xk H h)(j_:W H<=id):xk H (sd h id e enc L):=a.set j_ _
def iC{j7:Type}{h:HL}{id e:Nat}{enc:j7->Tn}{L:List j7}:W (sd h id e enc L)=W h:=by simp[sd]
def RS.HH(a:RS H h w v x l A B){A':TR}(d:W A'=W A):RS H (sd h (W H+3) 3 u9 A') w v x l A' B:=by obtain⟨b,c,f,g⟩:=a.mp;have e:=a.len;exact⟨lr a.pre a_,by rw[iC];exact e,by rw[cA a_];exact a.p,⟨b,c,by rw[cA a_];exact f,g⟩,by rw[cA a_];exact a.mv,bS a_,by rw[cA a_];exact a.ov,by rw[cA a_];exact a.kn,by rw[d];exact a.la,a.lb⟩
def RS.putB(a:RS H h w v x l A B){B':Ty}(d:W B'=W B):RS H (sd h (W H+5) 1 D0 B') w v x l A B':=by obtain⟨b,c,f,g⟩:=a.mp;have e:=a.len;exact⟨lr a.pre a_,by rw[iC];exact e,by rw[cA a_];exact a.p,⟨b,c,by rw[cA a_];exact f,g⟩,by rw[cA a_];exact a.mv,by rw[cA a_];exact a.ol,by rw[cA a_];exact a.ov,bS a_,a.la,by rw[d];exact a.lb⟩
end
def gg{a b:Tn}{e e':Nat}{x y:Bool}(h:O (HO.o (.cells a e x))=O (HO.o (.cells b e' y))):e=e':=by simp_all
def nL{j7:Type}{n0 e:Nat}{enc:j7->Tn}{l:List j7}{h:HL}{v:TV}(b:i' n0 h v e enc l)(a:l≠[]):∃id cx,v=DW (O ⟨id,0,le e⟩) (W l) cx/\n0<=id/\h[id]?=O (.o (EJ (l.flatMap enc) e J))/\(cx=0∨cx=W l+1):=by
 rcases b with⟨_,h⟩|h
 .exact absurd h a
 .exact h
def T1{DJ:TE}{l:Lit}(h:DJ.getD l.1 0=0):Et DJ l=DJ.set l.1 (FZ l):=by unfold Et;rw[rv h]
def O0{DJ:TE}{l:Lit}(h:DJ.getD l.1 0≠0):Et DJ l=DJ:=by unfold Et;rw[ts h]
section
variable {h:HL} {b:Nat} {c:XC} {n:Bool} (hb:h[b]?=O (.o (EJ (aj c n) 15 J))) {rN:List Lit} (hU:q_ h c.up 2 Fb rN) {r:TF} (hF:Lg rN r) {DJ:TE} (hW:IF rN DJ) (hV:i' 0 h c.va 1 En DJ)
include hb hU hF hW hV
theorem setN_c{l:Lit}(F:l.1<W rN):∃l' h',Rt rN l l'/\aD cc ac 88 [.v (lM b),.i (DO l.1),.b l.2,.v (EQ Q)] (h_ aa h) [.b (decide ((Et DJ l').getD l'.1 0=FZ l'))] (h_ aa h')/\
  i' 0 h' c.va 1 En (Et DJ l')/\(∀(j:Nat) o,h[j]?=O o->i_ c.va≠O j->h'[j]?=O o)/\h'.length=W h:=by
 obtain⟨l',G,B⟩:=wE hb hU hF F;have f:l'.1<W DJ:=by rw[hW.1];exact G.lt
 have k:DJ≠[]:=λe=>k_;obtain⟨id,C,m,_,j_,D⟩:=nL hV k;have d:=hV.ls eO;obtain⟨y,A⟩:=ak f;have u:DJ.getD l'.1 0=y:=k_;have q:id≠b:=λe=>by simp_all
 have I:=x88 (ls:=[.v (lM b),.i (DO l.1),.b l.2,.v (EQ Q)]) (K:=λL h'=>L=[.b (decide ((Et DJ l').getD l'.1 0=FZ l'))]/\i' 0 h' c.va 1 En (Et DJ l')/\(∀(j:Nat) o,h[j]?=O o->i_ c.va≠O j->h'[j]?=O o)/\h'.length=W h) (H:=h) (o_ (az _) (mc (LI (o_ rfl vc)))) (by
  unfold f88;simp only[w7];refine c_ ?_;refine ai B ?_;simp(disch:=omega)only[↓DT];refine di (λls h'=>ls=[.i (FZ l')]/\h'=h) ?_ ?_
  case refine_2=>
   intro M g;unfold FZ at g;cases w:l'.2 with
   |true=>
    rw[w]at g;refine c_ ?_
    simp_all
   |false=>
    rw[w]at g;refine c_ ?_
    simp_all
  rintro ls h' ⟨rfl,rfl⟩;refine c_ ?_;refine bA (ds:=[c.va]) hb (by simp[aj]) rfl ?_;refine c_ ?_;refine ab d.g_ ?_;refine m9 ?_;refine aJ d rfl A ?_;rw[show En y=[EO DQ y]from rfl];refine c_ ?_;by_cases s:y=0
  case neg=>
   rw[tx s];refine c_ ?_;refine bA (ds:=[c.va]) hb (by simp[aj]) rfl ?_;refine c_ ?_;refine ab d.g_ ?_;refine m9 ?_;refine aJ d rfl A ?_;rw[show En y=[EO DQ y]from rfl];refine c_ ?_;rw[O0 a_,u];by_cases e:y=FZ l'
   .rw[ub e,FX e]
    simp_all
   .rw[tx e,Ga e]
    simp_all
  rw[ub s];refine c_ ?_;refine bA (ds:=[c.va]) hb (by simp[aj]) rfl ?_;refine c_ ?_;refine ab d.g_ ?_;refine m9 ?_;rw[m];refine du (enc:=En) (l:=DJ) (i:=l'.1) (a:=FZ l') eO j_ rfl f rfl rfl ?_;refine m9 ?_;refine af (x:=J) rfl ?_;simp(disch:=omega)only[↓qb,Fv];have t:(sd h' id 1 En (DJ.set l'.1 (FZ l')))[b]?=O (.o (EJ (aj c n) 15 J)):=by rw[cA (EC q)];exact hb
  have z:i' 0 (sd h' id 1 En (DJ.set l'.1 (FZ l'))) c.va 1 En (DJ.set l'.1 (FZ l')):=.inr ⟨id,C,k_,Eg _,bS (ah j_),k_⟩;have p:=z.ls eO;refine bA (ds:=[c.va]) t (by simp[aj]) rfl ?_;refine c_ ?_;refine ab p.g_ ?_;refine m9 ?_;refine aJ p rfl (Kw f) ?_;rw[show En (FZ l')=[EO DQ (FZ l')]from rfl];simp(disch:=omega)only[↓qb]
  try rw[ub rfl]
  rw[←m,T1 a_,List.getD_eq_getElem?_getD,Kw f];refine⟨d_,z,λj o E k=>?_,iC⟩;rw[cA]
  .exact E
  .rintro rfl;exact k (by rw[m];rfl))
 grind
theorem setT_c{n0 d:Nat}{x:TV}{T:TC}(ht:h[d]?=O (.o (EJ [x] 1 J)))(hT:i' n0 h x 1 l_ T)(av:n0<=W h)(an:W T<=1000000)(d1:i_ c.va≠O d)(d2:i_ x≠O d)(d3:∀j,i_ x=O j->i_ c.va≠O j){l:Lit}(hl:l.1<W rN) :
  ∃l' x' h',Rt rN l l'/\aD cc ac 88 [.v (lM b),.i (DO l.1),.b l.2,.v (lM d)] (h_ aa h) [.b (decide ((Et DJ l').getD l'.1 0=FZ l'))] (h_ aa h')/\
   i' 0 h' c.va 1 En (Et DJ l')/\h'[d]?=O (.o (EJ [x'] 1 J))/\i' n0 h' x' 1 l_ (if DJ.getD l'.1 0=0 then T++[l'.1]else T)/\
   (∀(j:Nat) o,h[j]?=O o->j≠d->i_ c.va≠O j->i_ x≠O j->h'[j]?=O o)/\h.length<=W h'/\(i_ x'=i_ x∨∃j,i_ x'=O j/\h.length<=j):=by
 obtain⟨l',hr,cf⟩:=wE hb hU hF hl;have q:l'.1<W DJ:=by rw[hW.1];exact hr.lt
 have k:DJ≠[]:=λe=>k_;obtain⟨id,cx,A,_,j_,ap⟩:=nL hV k;have p:=hV.ls eO;obtain⟨y,hy⟩:=ak q;have L:DJ.getD l'.1 0=y:=k_;have u:i_ c.va=O id:=by rw[A];rfl
 have F:id≠b:=λe=>by simp_all
 have E:d≠b:=λe=>by simp_all
 have G:id≠d:=λe=>d1 (by rw[u,e]);have Z:i_ x≠O b:=λe=>by
  rcases hT with⟨e3,_⟩|⟨i,ag,e3,_,hh,_⟩
  .rw[e3]at e;cases e
  .rw[e3]at e;have e4:i=b:=by simpa[Sx.i_]using e
   simp_all
 have ay:=x88 (ls:=[.v (lM b),.i (DO l.1),.b l.2,.v (lM d)]) (K:=λrs h'=>∃x',rs=[.b (decide ((Et DJ l').getD l'.1 0=FZ l'))]/\i' 0 h' c.va 1 En (Et DJ l')/\h'[d]?=O (.o (EJ [x'] 1 J))/\i' n0 h' x' 1 l_ (if DJ.getD l'.1 0=0 then T++[l'.1]else T)/\
   (∀(j:Nat) o,h[j]?=O o->j≠d->i_ c.va≠O j->i_ x≠O j->h'[j]?=O o)/\h.length<=W h'/\(i_ x'=i_ x∨∃j,i_ x'=O j/\h.length<=j)) (H:=h) (o_ (az _) (mc (LI (o_ (az _) vc)))) (by
  unfold f88;simp only[w7];refine c_ ?_;refine ai cf ?_;simp(disch:=omega)only[↓DT];refine di (λls h'=>ls=[.i (FZ l')]/\h'=h) ?_ ?_
  case refine_2=>
   intro jj w;unfold FZ at w;cases M:l'.2 with
   |true=>
    rw[M]at w;refine c_ ?_
    simp_all
   |false=>
    rw[M]at w;refine c_ ?_
    simp_all
  rintro ls h' ⟨rfl,rfl⟩;refine c_ ?_;refine bA (ds:=[c.va]) hb (by simp[aj]) rfl ?_;refine c_ ?_;refine ab p.g_ ?_;refine m9 ?_;refine aJ p rfl hy ?_;rw[show En y=[EO DQ y]from rfl];refine c_ ?_;by_cases s:y=0
  case neg=>
   rw[tx s];refine c_ ?_;refine bA (ds:=[c.va]) hb (by simp[aj]) rfl ?_;refine c_ ?_;refine ab p.g_ ?_;refine m9 ?_;refine aJ p rfl hy ?_;rw[show En y=[EO DQ y]from rfl];refine c_ ?_;rw[O0 a_,L,ts s];by_cases e:y=FZ l'
   .rw[ub e,FX e]
    simp_all
   .rw[tx e,Ga e]
    simp_all
  rw[ub s];refine c_ ?_;refine bA (ds:=[c.va]) hb (by simp[aj]) rfl ?_;refine c_ ?_;refine ab p.g_ ?_;refine m9 ?_;rw[A];refine du (enc:=En) (l:=DJ) (i:=l'.1) (a:=FZ l') eO j_ rfl q rfl rfl ?_;refine m9 ?_;refine af (x:=U) rfl ?_;simp(disch:=omega)only[↓qb,GG];have k1:∀(j:Nat) o,h'[j]?=O o->j≠id->(sd h' id 1 En (DJ.set l'.1 (FZ l')))[j]?=O o:=λj o m k=>by rw[cA k];exact m
  have hO:i' 0 (sd h' id 1 En (DJ.set l'.1 (FZ l'))) c.va 1 En (DJ.set l'.1 (FZ l')):=.inr ⟨id,cx,k_,Eg _,bS (ah j_),k_⟩;have S:=k1 _ _ hb (EC F);have z:=k1 _ _ ht (EC G);have D:i' n0 (sd h' id 1 En (DJ.set l'.1 (FZ l'))) x 1 l_ T:=hT.ke λj o m f=>k1 j o m λe=>d3 j f (by rw[u,e]);have ad:W (sd h' id 1 En (DJ.set l'.1 (FZ l')))=W h':=iC;generalize sd h' id 1 En (DJ.set l'.1 (FZ l'))=g at *;refine af (x:=lM d) rfl (ab (az _) (cY (bp z) rfl ?_));refine c_ ?_;refine ab (D.g_ bc) ?_;refine m9 ?_;refine i'.KG bc D a_ rfl rfl rfl (by unfold aY;rw[FE a_,FE a_];rfl) ?_;intro x' t R gx kg lg bx;have B:∀(j:Nat) o,g[j]?=O o->i_ x≠O j->t[j]?=O o:=λj o m k=>kg j o m k;have aE:W g<=W t:=lg;have I:=B _ _ z d2;have V:=B _ _ S Z;have N:i' 0 t c.va 1 En (DJ.set l'.1 (FZ l')):=hO.ke λj o m f=>B j o m λe=>d3 j e f;refine c_ ?_;refine ab gx ?_;refine m9 ?_;refine af (x:=lM d) rfl (ab (az _) ?_);refine oZ I rfl ?_;have Y:∀j,i_ x'=O j->j≠d:=λj m e=>by grind
  refine af (x:=()) (df (bV ⟨_,_,_,rfl⟩ λi hi=>?_) fj) ?_
  .have h1:=ah z;have M:W g=i:=by simpa[Sx.i_]using hi
   omega
  refine m9 ?_;have ax:(t.set d (.o (EJ [x'] 1 J)))[d]?=O (.o (EJ [x'] 1 J)):=ew I;have kt:∀(j:Nat) o,t[j]?=O o->j≠d->(t.set d (.o (EJ [x'] 1 J)))[j]?=O o:=λj o m k=>cV m (EC k);have X:=kt _ _ V (EC E);have P:i' 0 (t.set d (.o (EJ [x'] 1 J))) c.va 1 En (DJ.set l'.1 (FZ l')):=N.ke λj o m f=>kt j o m λe=>d1 (by rw[f,e]);have al:i' n0 (t.set d (.o (EJ [x'] 1 J))) x' 1 l_ (T++[l'.1]):=R.ke λj o m f=>kt j o m (Y j f);have C:=P.ls eO;refine bA (ds:=[c.va]) X (by simp[aj]) rfl ?_;refine c_ ?_;refine ab C.g_ ?_;refine m9 ?_;refine aJ C rfl (Kw q) ?_;rw[show En (FZ l')=[EO DQ (FZ l')]from rfl];simp(disch:=omega)only[↓qb]
  try rw[ub rfl]
  rw[←A,T1 a_,List.getD_eq_getElem?_getD,Kw q,L,rv s]
  grind)
 grind
end
section
variable {h:HL} {b:Nat} {c:XC} {n:Bool} (hb:h[b]?=O (.o (EJ (aj c n) 15 J))) {rN:List Lit} (hU:i' 0 h c.up 2 Fb rN) {r:TF} (hF:Lg rN r) {DJ:TE} (hW:IF rN DJ) (hV:i' 0 h c.va 1 En DJ)
include hb hU hF hW hV
theorem ei{p q:Lit}(hp:p.1<W rN)(hq:q.1<W rN):∃la lb h',Rt rN p la/\Rt rN q lb/\aD cc ac 82 [.v (lM b),.i (DO p.1),.b p.2,.i (DO q.1),.b q.2] (h_ aa h) [] (h_ aa h')/\
  h'[b]?=O (.o (EJ (aj c (Gi rN DJ n la lb).2) 15 J))/\i' 0 h' c.up 2 Fb (Gi rN DJ n la lb).1/\(∀(j:Nat) o,h[j]?=O o->j≠b->i_ c.up≠O j->h'[j]?=O o)/\h'.length=W h:=by
 have d:=hU.ls dQ;have S:=hV.ls eO;obtain⟨la,w,c1⟩:=wE hb d hF hp;obtain⟨lb,rb,c2⟩:=wE hb d hF hq;have kn:∀ {l u:Lit},Rt rN l u->aD cc ac 115 [.v (lM b),.i (DO u.1),.b u.2] (h_ aa h) [.i (kv DJ u)] (h_ aa h):=λ{l u} hr=>by obtain⟨x,kx,F⟩:=me hb d hF hW S hr.lt;rw[kx.det ⟨u,.here hr.root,rfl⟩]at F;exact F
 have L:=kn w;have k2:=kn rb;refine⟨la,lb,?_⟩;have an:=w.lt;have X:rN≠[]:=λe=>k_;obtain⟨id,F,C,_,al,ag⟩:=nL hU X;have D:i_ c.up=O id:=by rw[C];rfl
 have A:id≠b:=λe=>by simp_all
 have y:∀m:Bool,i' 0 (h.set b (.o (EJ (aj c m) 15 J))) c.up 2 Fb rN:=λm=>hU.ke λj o t ad=>cV t λe=>by simp_all
 have ap:=x82 (ls:=[.v (lM b),.i (DO p.1),.b p.2,.i (DO q.1),.b q.2]) (K:=λrs h'=>rs=[]/\h'[b]?=O (.o (EJ (aj c (Gi rN DJ n la lb).2) 15 J))/\i' 0 h' c.up 2 Fb (Gi rN DJ n la lb).1/\(∀(j:Nat) o,h[j]?=O o->j≠b->i_ c.up≠O j->h'[j]?=O o)/\h'.length=W h) (H:=h) (o_ (az _) (mc (LI (mc (LI vc))))) (by
  unfold f82;simp only[w7];refine c_ ?_;refine ai c1 ?_;refine c_ ?_;refine ai c2 ?_;refine c_ ?_;by_cases e:la.1=lb.1
  .rw[ub (congrArg DO e)];refine c_ ?_;refine bA (ds:=[.bool n]) hb (by simp[aj]) rfl ?_;refine c_ ?_;have s:Gi rN DJ n la lb=(rN,n||xr la.2 lb.2):=by unfold Gi;rw[rv e]
   rw[s];cases n with
   |true=>refine c_ ?_;refine gz (b:=b) hb (by simp[aj]) ?_;refine m9 ?_;exact⟨Ei,ew hb,y J,λj o t G _=>cV t (EC G),HP ..⟩
   |false=>refine c_ ?_;rw[ug];refine gz (b:=b) hb (by simp[aj]) ?_;refine m9 ?_;refine⟨Ei,?_,y _,λj o t G _=>cV t (EC G),HP ..⟩;rw[qcv];exact ew hb
  rw[tx (λh=>e (Ky h))];refine c_ ?_;have E:∀ {i:Nat} {a:Lit} (m:Bool) {g:HL},i<W rN->(g=h∨g=h.set b (.o (EJ (aj c m) 15 J)))->g[b]?=O (.o (EJ (aj c m) 15 J))->∀ {K:Tb},(∀h':HL,h'[b]?=O (.o (EJ (aj c m) 15 J))->i' 0 h' c.up 2 Fb (rN.set i a)->(∀(j:Nat) o,h[j]?=O o->j≠b->i_ c.up≠O j->h'[j]?=O o)->W h'=W h->K [] h')->P1.km (D8 2 c.up (DO i)) (@j_ _ ⟨λx=>P1.heap (.st x [EO DQ (DO a.1),.bool a.2]) g (@j_ _ ⟨K⟩)⟩):=λ{i a} m {g} hi hg T K hK=>by
   have k:g[id]?=O (.o (EJ (rN.flatMap Fb) 2 J)):=by grind
   have V:W g=W h:=by grind
   rw[C];refine du (enc:=Fb) (l:=rN) (i:=i) (a:=a) dQ k rfl hi rfl rfl ?_;refine hK _ ?_ ?_ ?_ ?_
   .rw[cA (EC A)];exact T
   .exact .inr ⟨id,F,k_,Eg _,bS (ah k),k_⟩
   .intro j o t G h2;have B:j≠id:=λe=>h2 (by rw[D,e]);rw[cA B]
    grind
   .rw[iC,V]
  refine ai L ?_;refine c_ ?_;by_cases I:kv DJ la=0
  .rw[A7 I];refine c_ ?_;refine ai L ?_;simp(disch:=omega)only[↓qb]
   try rw[A7 I]
   refine m9 ?_;refine bA (ds:=[c.up]) hb (by simp[aj]) rfl ?_;refine c_ ?_;refine ab d.g_ ?_;refine m9 ?_;rw[ug];have s:Gi rN DJ n la lb=(rN.set la.1 (lb.1,xr la.2 lb.2),n):=by unfold Gi;simp_all
   rw[s];refine E (a:=(lb.1,xr la.2 lb.2)) n w.lt (.inl rfl) hb λh' M N P R=>?_
   try simp(disch:=omega)only[↓qb]
   simp_all
  rw[B3 I];refine c_ ?_;refine ai k2 ?_;refine c_ ?_;by_cases z:kv DJ lb=0
  .rw[A7 z];refine c_ ?_;refine ai L ?_;simp(disch:=omega)only[↓qb]
   try rw[B3 I]
   refine m9 ?_;refine bA (ds:=[c.up]) hb (by simp[aj]) rfl ?_;refine c_ ?_;refine ab d.g_ ?_;refine m9 ?_;rw[ug];have s:Gi rN DJ n la lb=(rN.set lb.1 (la.1,xr la.2 lb.2),n):=by unfold Gi;simp_all
   rw[s];refine E (a:=(la.1,xr la.2 lb.2)) n rb.lt (.inl rfl) hb λh' M N P R=>?_
   try simp(disch:=omega)only[↓qb]
   simp_all
  rw[B3 z];refine c_ ?_;refine bA (ds:=[.bool n]) hb (by simp[aj]) rfl ?_;refine c_ ?_;have s:Gi rN DJ n la lb=(rN.set la.1 (lb.1,xr la.2 lb.2),n || !decide (kv DJ la=kv DJ lb)):=by unfold Gi;simp_all
  rw[s];cases n with
  |true=>
   refine c_ ?_;refine gz (b:=b) hb (by simp[aj]) ?_;refine m9 ?_;have f:(h.set b (.o (EJ (aj c J) 15 J)))[b]?=O (.o (EJ (aj c J) 15 J)):=ew hb;refine bA (ds:=[c.up]) f (by simp[aj]) rfl ?_;refine c_ ?_;refine ab d.g_ ?_;refine m9 ?_;rw[ug];refine E (a:=(lb.1,xr la.2 lb.2)) J w.lt (.inr rfl) f λh' M N P R=>?_
   try simp(disch:=omega)only[↓qb]
   simp_all
  |false=>
   refine c_ ?_;refine ai L ?_;refine c_ ?_;refine ai k2 ?_;refine c_ ?_;have Y:∀m:Bool,m = !decide (kv DJ la=kv DJ lb)->∀h':HL,h'[b]?=O (.o (EJ (aj c m) 15 J))->h'[b]?=O (.o (EJ (aj c (U || !decide (kv DJ la=kv DJ lb))) 15 J)):=λm hm h' hh=>by simp_all
   by_cases Z:kv DJ la=kv DJ lb
   .rw[A7 Z];refine gz (b:=b) hb (by simp[aj]) ?_;refine m9 ?_;have f:(h.set b (.o (EJ (aj c U) 15 J)))[b]?=O (.o (EJ (aj c U) 15 J)):=ew hb;refine bA (ds:=[c.up]) f (by simp[aj]) rfl ?_;refine c_ ?_;refine ab d.g_ ?_;refine m9 ?_;rw[ug];refine E (a:=(lb.1,xr la.2 lb.2)) U w.lt (.inr rfl) f λh' M N P R=>?_
    try simp(disch:=omega)only[↓qb]
    simp_all
   .rw[B3 Z];refine gz (b:=b) hb (by simp[aj]) ?_;refine m9 ?_;have f:(h.set b (.o (EJ (aj c J) 15 J)))[b]?=O (.o (EJ (aj c J) 15 J)):=ew hb;refine bA (ds:=[c.up]) f (by simp[aj]) rfl ?_;refine c_ ?_;refine ab d.g_ ?_;refine m9 ?_;rw[ug];refine E (a:=(lb.1,xr la.2 lb.2)) J w.lt (.inr rfl) f λh' M N P R=>?_
    try simp(disch:=omega)only[↓qb]
    simp_all)
 grind
end
def I9(pn:Ti)(k:Int)(x y:Nat)(a:Bool):Lit:=((Em pn x y).1,xr (Em pn x y).2 (xr (decide (k=2)) a))
section
variable {h:HL} {b:Nat} {c:XC} {n:Bool} (hb:h[b]?=O (.o (EJ (aj c n) 15 J))) {rN:List Lit} (hU:q_ h c.up 2 Fb rN) {r:TF} (hF:Lg rN r) {DJ:TE} (hW:IF rN DJ) (hV:i' 0 h c.va 1 En DJ) {pn:Ti} (hp:Xg h c.pr pn)
include hb hU hF hW hV hp
theorem bend_c(k:Int){x y:Nat}(d:Bool)(X:k≠3->(Em pn x y).1<W rN):∃m C h',aD cc ac 80 [.v (lM b),.i k,.i (DO x),.i (DO y),.b d] (h_ aa h) [] (h_ aa h')/\
  h'[b]?=O (.o (EJ (aj c C) 15 J))/\i' 0 h' c.va 1 En m/\IF rN m/\(∀V,(C=U/\Rs rN m V)↔(n=U/\Rs rN DJ V/\(k≠3->A4 V (I9 pn k x y d)=J)))/\(∀(j:Nat) o,h[j]?=O o->j≠b->i_ c.va≠O j->h'[j]?=O o)/\h'.length=W h:=by
 have Y:=x80 (ls:=[.v (lM b),.i k,.i (DO x),.i (DO y),.b d]) (K:=λZ h'=>Z=[]/\∃m C,h'[b]?=O (.o (EJ (aj c C) 15 J))/\i' 0 h' c.va 1 En m/\IF rN m/\(∀V,(C=U/\Rs rN m V)↔(n=U/\Rs rN DJ V/\(k≠3->A4 V (I9 pn k x y d)=J)))/\(∀(j:Nat) o,h[j]?=O o->j≠b->i_ c.va≠O j->h'[j]?=O o)/\h'.length=W h) (H:=h) (o_ (az _) (mc (mc (mc (LI vc))))) (by
  unfold f80;simp only[w7];refine c_ ?_;by_cases e3:k=3
  .rw[ub e3];refine c_ ?_
   grind
  rw[tx e3];refine c_ ?_;refine ai (kS hb hp x y) ?_;simp(disch:=omega)only[↓DT];have step:∀t:Bool,t=decide (k=2)->∀K:Bool->Prop,K (decide (t=d))->P1.eqs [(.b t,.b d)] (@j_ _ ⟨K⟩):=λt _ K E=>by rw[ug];exact E
  have B:∀K:Bool->Prop,K (decide (k=2))->P1.cmp .eql k 2 (@j_ _ ⟨K⟩):=λK E=>by
   by_cases D:k=2
   .rw[ub D,←FX D];exact E
   .rw[tx D,←Ga D];exact E
  refine B _ ?_
  try rw[ug]
  refine di (λls h'=>ls=[.i (DO (I9 pn k x y d).1),.b (I9 pn k x y d).2]/\h'=h) ?_ ?_
  case refine_2=>
   intro jj z;have F:(I9 pn k x y d).2=if decide (k=2)=d then(Em pn x y).2 else !(Em pn x y).2:=by unfold I9;simp only;generalize decide (k=2)=t;generalize (Em pn x y).2=s;cases t<;>cases s<;>cases d<;>rfl
   by_cases e:decide (k=2)=d
   .rw[rv e]at F;rw[FX e];simp(disch:=omega)only[↓qb,Fv];refine z _ _ ⟨?_,rfl⟩;rw[F];rfl
   .rw[ts e]at F;rw[Ga e];simp(disch:=omega)only[↓qb,GG];refine z _ _ ⟨?_,rfl⟩;rw[F];rfl
  rintro ls h' ⟨rfl,rfl⟩;refine c_ ?_;refine bA (ds:=[.bool n]) hb (by simp[aj]) rfl ?_;refine c_ ?_;cases n with
  |true=>
   refine c_ ?_;refine gz (b:=b) hb (by simp[aj]) ?_;refine m9 ?_;refine⟨Ei,DJ,J,ew hb,hV.ke λj o u a=>cV u λe=>?_,hW,λV=>⟨λq=>(by cases q.1),λq=>(by cases q.1)⟩,λj o u I _=>cV u (EC I),HP ..⟩;subst e;rcases hV with⟨p,_⟩|⟨id,S,p,_,L,_⟩
   .rw[p]at a;cases a
   .rw[p]at a;cases a
    simp_all
  |false=>
   refine c_ ?_;obtain⟨f,g,P,R,T,M,N⟩:=setN_c hb hU hF hW hV (l:=I9 pn k x y d) (X e3);refine ai R ?_;refine c_ ?_;have A:i_ c.va≠O b:=λe=>by
    rcases hV with⟨p,_⟩|⟨id,S,p,_,L,_⟩
    .rw[p]at e;cases e
    .rw[p]at e;cases e
     simp_all
   have w:=M _ _ hb A;refine gz (b:=b) w (by simp[aj]) ?_;refine m9 ?_;refine⟨Ei,Et DJ f,!decide ((Et DJ f).getD f.1 0=FZ f),ew w,T.ke λj o u a=>cV u λe=>A (by rw[a,e]),vC hW f,λV=>?_,λj o u I L=>cV (M j o u L) (EC I),k_⟩;by_cases G:(Et DJ f).getD f.1 0=FZ f
   .rw[FX G,R3 hW P G V]
    simp_all
   .rw[Ga G];refine⟨λq=>(by cases q.1),λq=>?_⟩;have:=(B1 hW P G).2 V q.2.1
    simp_all)
 grind
end
def da{i n c e:Nat}:aH (DW (O ⟨i,0,le e⟩) n c)=J:=by simp[aH,q8,aW,bG,bu,aR,aL,le]
def PI{lb len cx i:Nat}(b:i<len):D8 1 (DW (O ⟨lb,0,le 1⟩) len cx) (DO i)=O (EQ (O ⟨lb,i,Q⟩)):=by
 rw[sI];have a:0<=DO i/\DO i<(len:Int):=⟨IK i,k_⟩;simp only[rv a];have:¬(le 1=O 1):=by simp[le]
 simp_all
def ER(v:FO):Tn:=[v]
def bh(v:TV):W (ER v)=1:=rfl
def Iq(h:HL)(v:FO)(l:TC):Prop:=(v=DW Q 0 0/\l=[])∨∃id vs,v=DW (O ⟨id,0,le 1⟩) (W l) 0/\h[id]?=O (.o (EJ (l.flatMap l_++vs) 1 J))
def Iq.nil(h:HL):Iq h (DW Q 0 0) []:=.inl ⟨rfl,rfl⟩
def Iq.cut{l:TC}{vs:Tn}:cut (l.flatMap l_++vs) 0 (W l*1)=O (l.flatMap l_):=by
 have:=gO l;refine gq.2 ⟨k_,?_⟩
 simp_all
def Iq.ls{h:HL}{v:TV}{l:TC}(c:Iq h v l):q_ h v 1 l_ l:=by
 rcases c with⟨rfl,rfl⟩|⟨id,d,rfl,b⟩
 .exact q_.nil h 1 l_
 .exact⟨λa _=>bc a,by rw[gO,e2],.inr ⟨id,0,0,_,J,rfl,b,Iq.cut⟩⟩
def Iq.g_{h:HL}{v:TV}{l:TC}(a:Iq h v l):aH v=J:=a.ls.g_
def Iq.ke{h h':HL}{v:TV}{l:TC}(d:Iq h v l)(c:∀(j:Nat) o,h[j]?=O o->i_ v=O j->h'[j]?=O o):Iq h' v l:=by
 rcases d with a|⟨id,e,rfl,b⟩
 .exact .inl a
 .exact .inr ⟨id,e,rfl,c _ _ b rfl⟩
def Iq.lt{h:HL}{v:TV}{l:TC}(c:Iq h v l){j:Nat}(a:i_ v=O j):j<W h:=by
 rcases c with⟨rfl,_⟩|⟨id,d,rfl,b⟩
 .cases a
 .cases a;exact ah b
def Iq.KG{h:HL}{v:TV}{l:TC}{a m:Nat}{new:Tn}{r:Ts}{K:Tb}(A:Iq h v l)(y:m=W h)(f:new=l_ a)(i:r=O 11)(C:W l<=1000000)
  (p:∀v' h',Iq h' v' (l++[a])->aH v'=J->(∃j,i_ v'=O j/\h.length<=j)->(∃a n c,v' = .slice a n c)->(∀(j:Nat) o,h[j]?=O o->i_ v≠O j->h'[j]?=O o)->W h<=W h'->K [v'] h') :
  P1.heap (.ap cc 1 8 v (DW (O ⟨m,0,r⟩) 1 2)) (h++[.o (.cells new 1 J)]) (@j_ _ ⟨K⟩):=by
 subst y f i;have q:Ip (h++[HO.o (EJ (l_ a) 1 J)]) (DW (O ⟨W h,0,le 1⟩) 1 2) 1 1 (l_ a):=⟨rfl,.inr ⟨W h,0,2,l_ a,J,rfl,d_,Sx.A2 rfl⟩⟩;have z:aY (W l+1) 8=J:=by unfold aY;rw[FE a_,FE a_];rfl
 have u:(l.flatMap l_++l_ a)=(l++[a]).flatMap l_:=d_;have d:W (l++[a])=W l+1:=d_;rcases A with⟨rfl,rfl⟩|⟨id,B,rfl,k⟩
 .have b:Gx cc 1 8 (DW Q 0 0) (DW (O ⟨W h,0,le 1⟩) 1 2) (w_ aa (h++[HO.o (EJ (l_ a) 1 J)])) (W (h++[HO.o (EJ (l_ a) 1 J)]))=O ([.push (EJ (l_ a) 1 J)],[DW (O ⟨W (h++[HO.o (EJ (l_ a) 1 J)]),0,le 1⟩) 1 0]):=by
   unfold Gx;rw[oO q]
   simp_all
  refine bK (show(Hp.ap cc 1 8 (DW Q 0 0) (DW (O ⟨W h,0,le 1⟩) 1 2)).run _ _=_ from b) ?_;refine p _ _ (.inr ⟨_,[],rfl,?_⟩) da ⟨_,rfl,d_⟩ ⟨_,_,_,rfl⟩ (λj o g _=>?_) (by simp[bJ,Er.onH])
  .show((h++[HO.o (EJ (l_ a) 1 J)])++[HO.o (EJ (l_ a) 1 J)])[_]?=_
   simp_all
  .exact dI (dI g)
 .have x:=ah k;have w:(h++[HO.o (EJ (l_ a) 1 J)])[id]?=O (.o (EJ (l.flatMap l_++B) 1 J)):=dI k;have b:Gx cc 1 8 (DW (O ⟨id,0,le 1⟩) (W l) 0) (DW (O ⟨W h,0,le 1⟩) 1 2) (w_ aa (h++[HO.o (EJ (l_ a) 1 J)])) (W (h++[HO.o (EJ (l_ a) 1 J)]))=O ([.set id .dead,.push (EJ (l.flatMap l_++l_ a) 1 J)],[DW (O ⟨W (h++[HO.o (EJ (l_ a) 1 J)]),0,le 1⟩) (W l+1) 0]):=by
   unfold Gx;rw[oO q];simp only[ne_eq,not_true_eq_false,if_false];rw[bI w];simp only[ne_eq,not_true_eq_false,if_false];rw[Iq.cut]
   simp_all
  refine bK (show(Hp.ap cc 1 8 (DW (O ⟨id,0,le 1⟩) (W l) 0) (DW (O ⟨W h,0,le 1⟩) 1 2)).run _ _=_ from b) ?_;have s:bJ (h++[HO.o (EJ (l_ a) 1 J)]) [.set id .dead,.push (EJ (l.flatMap l_++l_ a) 1 J)]=(h++[HO.o (EJ (l_ a) 1 J)]).set id (.o .dead)++[.o (EJ (l.flatMap l_++l_ a) 1 J)]:=rfl;rw[s];refine p _ _ (.inr ⟨_,[],by rw[d],?_⟩) da ⟨_,rfl,d_⟩ ⟨_,_,_,rfl⟩ (λj o g t=>?_) z_
  .simp_all
  .refine dI (cV (dI g) λe=>t ?_);rw[←e];rfl
def Iq.F0{h:HL}{v:TV}{l:TC}{a:Nat}{n:Int}{K:TV->Prop}(j:Iq h v (l++[a]))(g:n=DO (W l))(f:∀v',Iq h v' l->aH v'=J->i_ v'=i_ v->K v'):P1.km (GV 1 v Q (O n) Q) (@j_ _ ⟨K⟩):=by
 subst g;rcases j with⟨_,d⟩|⟨id,k,rfl,e⟩
 .simp at d
 have i:GV 1 (DW (O ⟨id,0,le 1⟩) (W (l++[a])) 0) Q (O (DO (W l))) Q=O (DW (O ⟨id,0,le 1⟩) (W l) 0):=by
  unfold GV;have b:¬(le 1≠O 1/\le 1≠le 1):=d_;simp only[ts b];have c:(0:Int)<=(Q:Tt).getD 0/\(Q:Tt).getD 0<=(O (DO (W l))).getD (W (l++[a]):Int)/\bW (W (l++[a])) 0 (O (DO (W l))) Q:=by
   refine⟨d_,d_,?_⟩;unfold bW
   grind
  rw[rv c,eW,eW,eW];simp[bM]
 refine af i (f _ (.inr ⟨id,l_ a++k,rfl,?_⟩) da rfl);rw[e];simp
end Go.Am
namespace Go.Am
open Sx
def Mn(T:TC)(DJ:TE):TE:=T.foldl (λw i=>w.set i 0) DJ
def Sy:∀ {T:TC} {DJ:TE},W (Mn T DJ)=W DJ
 | [],_=>rfl
 |i::T,DJ=>by show(Mn T (DJ.set i 0)).length=_;rw[Sy,HP]
def zY:∀ {T:TC} {DJ:TE} {j:Nat},(Mn T DJ)[j]?=if j∈T then(DJ[j]?).map λ_=>0 else DJ[j]?
 | [],_,_=>by simp[Mn]
 |i::T,DJ,j=>by
  show(Mn T (DJ.set i 0))[j]?=_;rw[zY,Kk]
  grind
def cn{T:TC}{i:Nat}{DJ:TE}:Mn (T++[i]) DJ=(Mn T DJ).set i 0:=by simp[Mn]
def q4{T:TC}{DJ a:TE}(h:Mn T DJ=a)(l:Lit):Mn (if DJ.getD l.1 0=0 then T++[l.1]else T) (Et DJ l)=a:=by
 unfold Et;by_cases b:DJ.getD l.1 0=0
 .rw[rv b,rv b,←h];refine Kj λj=>?_;rw[zY,zY,Kk]
  grind
 simp_all
def EA(us:Ty)(l:TC):TC:=l.filter λo=>!us.getD o U
def uN{us:Ty}{l:TC}{id:Nat}(b:l.Nodup)(c:id<W us):EA (us.set id J) l=(EA us l).erase id:=by
 unfold EA;have a:(l.filter λo=>!us.getD o U).Nodup:=b.filter _;rw[a.erase_eq_filter,List.filter_filter]
 grind
def qU{us:Ty}{l:TC}{o:Nat}:o∈EA us l↔o∈l/\us.getD o U=U:=by
 unfold EA
 simp_all
def w1{us:Ty}{id:Nat}(h:us.getD id U=U):(us.set id J).set id U=us:=by
 rw[List.set_set];refine Kj λj=>?_
 grind
end Go.Am
namespace Go.Am
open Sx Go.Proofs
def kK{h:HL}{b e:Nat}{cs ds:Tn}{K:Ta}{o n:Nat}(a:h[b]?=O (.o (.cells cs e J)))(g:o+n<=W cs)(f:ds=(cs.drop o).take n)(c:K (EQ (O ⟨b,o,Q⟩)) ds) :
  P1.km (EZ (lM b)) (@j_ _ ⟨λx=>P1.qa x (@j_ _ ⟨P1.km (Fq o x) (@j_ _ ⟨λy=>P1.qa y (@j_ _ ⟨P1.oo (.lg cc n y) h (@j_ _ ⟨K y⟩)⟩)⟩)⟩)⟩):=by
 refine af (x:=lM b) rfl (ab (az b) (af (x:=EQ (O ⟨b,0+o,Q⟩)) rfl (ab (by simp[aH,q8,aW,bG,bu,aR,aL]) ?_)));rw[Hd];have d:I7 h (EQ (O ⟨b,o,Q⟩)) ds:=by
  refine⟨b,o,cs,e,J,rfl,a,gq.2 ⟨?_,?_⟩⟩
  .grind
  simp_all
 refine cI (d.lg ?_) c
 grind
def nD{h:HL}{n0:Nat}{v:TV}{l:Tn}{i:Nat}{a:TV}{n:Int}{K:Ta}(d:i' n0 h v 1 ER l)(j:n=DO i)(b:l[i]?=O a)(g:∀id,i_ v=O id->K (EQ (O ⟨id,i,Q⟩)) [a]) :
  P1.km (D8 1 v n) (@j_ _ ⟨λx=>P1.oo (.lg cc 1 x) h (@j_ _ ⟨K x⟩)⟩):=by
 subst j;obtain⟨id,k,rfl,_,m,_⟩:=nL d (λe=>by rw[e]at b;cases b);refine af (PI (ah b)) ?_;obtain⟨p,c,f⟩:=(d.ls bh).at b;rw[PI (ah b)]at c;cases c;exact cI (f.lg rfl) (g id rfl)
def i'.Ny{j7:Type}{e:Nat}{enc:j7->Tn}{h:HL}{n0:Nat}{v:TV}{l:List j7}{i:Nat}{a:j7}{n:Int}{new:Tn}{K:Tb}(b:∀a,W (enc a)=e)(t:i' n0 h v e enc l)(s:n=DO i)(p:i<W l)(c:new=enc a)
  (r:∀h':HL,i' n0 h' v e enc (l.set i a)->(∀(j:Nat) o,h[j]?=O o->Sx.i_ v≠O j->h'[j]?=O o)->W h'=W h->K [] h') :
  P1.km (D8 e v n) (@j_ _ ⟨λx=>P1.heap (.st x new) h (@j_ _ ⟨K⟩)⟩):=by
 obtain⟨id,f,rfl,g,d,m⟩:=nL t (λe=>k_);refine du b d s p rfl c (r _ (.inr ⟨id,f,by rw[HP],g,bS (ah d),k_⟩) (λj o q k=>?_) iC);rw[cA (λe=>k (by rw[e];rfl))];exact q
structure S3x(c:XC)(k1:Nat):Prop where
 s1:∀j,i_ c.va=some j->j<k1/\i_ c.us≠some j/\i_ c.lay≠some j
 s2:∀j,i_ c.us=some j->j<k1/\i_ c.lay≠some j
 s3:∀j,i_ c.lay=some j->j<k1
structure Mt(h:HL)(c:XC)(k1:Nat)(DJ:TE)(us:Ty)(LV:List (TC))(lv:Tn):Prop where
 va:i' 0 h c.va 1 En DJ
 us:i' 0 h c.us 1 D0 us
 ly:i' 0 h c.lay 1 ER lv
 ln:lv.length=LV.length
 tr:∀(j:Nat) v l,lv[j]?=some v->LV[j]?=some l->Iq h v l
 nb:∀(j:Nat) v x,lv[j]?=some v->i_ v=some x->k1<=x
 dj:∀(i j:Nat) v w x,lv[i]?=some v->lv[j]?=some w->i_ v=some x->i_ w=some x->i=j
def Mt.ke{h h':HL}{c:XC}{k1:Nat}{DJ:TE}{us:Ty}{f:List (TC)}{lv:Tn}(a:Mt h c k1 DJ us f lv)(e:∀(j:Nat) o,h[j]?=O o->i_ c.va=O j∨i_ c.us=O j∨i_ c.lay=O j∨(∃v∈lv,i_ v=O j)->h'[j]?=O o):Mt h' c k1 DJ us f lv:=
 ⟨a.va.ke λj o d b=>e j o d (.inl b),a.us.ke λj o d b=>e j o d (.inr (.inl b)),a.ly.ke λj o d b=>e j o d (.inr (.inr (.inl b))),a.ln,
  λi v l g k=>(a.tr i v l g k).ke λj o d b=>e j o d (.inr (.inr (.inr ⟨v,A9 g,b⟩))),a.nb,a.dj⟩
section
variable {h h':HL} {c:XC} {k1:Nat} (s:S3x c k1) {DJ:TE} {us:Ty} {LV:List (TC)} {lv:Tn} (hM:Mt h c k1 DJ us LV lv)
include s hM
theorem Mt.setV{g:TE}(m:i' 0 h' c.va 1 En g)(f:∀(j:Nat) o,h[j]?=O o->i_ c.va≠O j->j<k1∨(∃v∈lv,i_ v=O j)->h'[j]?=O o):Mt h' c k1 g us LV lv:=
 ⟨m,hM.us.ke λj o b a=>f j o b (λe=>(s.s1 j e).2.1 a) (.inl (s.s2 j a).1),hM.ly.ke λj o b a=>f j o b (λe=>(s.s1 j e).2.2 a) (.inl (s.s3 j a)),hM.ln,
  λi v l d k=>(hM.tr i v l d k).ke λj o b a=>f j o b (λe=>by have n:=(s.s1 j e).1;have p:=hM.nb i v j d a;omega) (.inr ⟨v,A9 d,a⟩),hM.nb,hM.dj⟩
theorem Mt.setU{d:Ty}(m:i' 0 h' c.us 1 D0 d)(f:∀(j:Nat) o,h[j]?=O o->i_ c.us≠O j->h'[j]?=O o):Mt h' c k1 DJ d LV lv:=
 ⟨hM.va.ke λj o b a=>f j o b (s.s1 j a).2.1,m,hM.ly.ke λj o b a=>f j o b (λe=>(s.s2 j e).2 a),hM.ln,
  λi v l g k=>(hM.tr i v l g k).ke λj o b a=>f j o b (λe=>by have n:=(s.s2 j e).1;have p:=hM.nb i v j g a;omega),hM.nb,hM.dj⟩
theorem Mt.Md{st:Nat}{v':TV}{l':TC}(q:st<W LV)(B:i' 0 h' c.lay 1 ER (lv.set st v'))(u:Iq h' v' l')(p:∀x,i_ v'=O x->k1<=x)(C:∀(j:Nat) w x,j≠st->lv[j]?=O w->i_ v'=O x->i_ w≠O x)
  (n:∀(j:Nat) o,h[j]?=O o->i_ c.lay≠O j->(∀v,lv[st]?=O v->i_ v≠O j)->h'[j]?=O o):Mt h' c k1 DJ us (LV.set st l') (lv.set st v'):=by
 have D:st<W lv:=by rw[hM.ln];exact q
 have a:∀(j:Nat) v,(lv.set st v')[j]?=O v->(j=st/\v=v')∨(j≠st/\lv[j]?=O v):=λj v k=>by grind
 have f:∀x,x<k1->∀v,lv[st]?=O v->i_ v≠O x:=λx M v u e=>by have:=hM.nb st v x u e;omega
 refine⟨hM.va.ke λj o k d=>n j o k (s.s1 j d).2.2 (f j (s.s1 j d).1),hM.us.ke λj o k d=>n j o k (s.s2 j d).2 (f j (s.s2 j d).1),B,by rw[HP,HP];exact hM.ln,λj v l b g=>?_,λj v x b g=>?_,λi j v w x b g z A=>?_⟩
 .rcases a j v b with⟨rfl,rfl⟩|⟨e,b⟩
  .simp_all
  .rw[K7 (EC e)]at g;refine(hM.tr j v l b g).ke λy o E d=>n y o E (λt=>?_) λH r m=>e (hM.dj j st v H y b r d m);have I:=s.s3 y t;have K:=hM.nb j v y b d;omega
 .rcases a j v b with⟨rfl,rfl⟩|⟨_,b⟩
  .exact p x g
  .exact hM.nb j v x b g
 .rcases a i v b with⟨rfl,rfl⟩|⟨L,F⟩
  .grind
  .rcases a j w g with⟨rfl,rfl⟩|⟨t,G⟩
   .grind
   .exact hM.dj i j v w x F G z A
end
structure Ro(b:Nat)(c:XC)(rN:List Lit)(F:List DZ)(pn:Ti)(AT:List K3)(IDS:List (TC))(CR:TD)(k1:Nat)(mu:Tz)(P:HL->Prop):Prop where
 kp:∀h h',P h->(∀(j:Nat) o,j<k1->¬mu j->h[j]?=some o->h'[j]?=some o)->P h'
 lt:∀h,P h->k1<=h.length
 s:S3x c k1
 m1:∀j,i_ c.va=some j∨i_ c.us=some j∨i_ c.lay=some j->mu j
 bk:b<k1
 hb:∀h,P h->h[b]?=some (.o (.cells (aj c false) 15 true))
 up:∀h,P h->q_ h c.up 2 Fb rN
 fo:∀h,P h->q_ h c.fo 8 MZ F
 fl:F.length<=1000000
 fv:∀f∈F,f.1.1<rN.length/\f.2.1.1<rN.length/\f.2.2.1.1<rN.length/\f.2.2.2.1<rN.length
 pr:∀h,P h->Xg h c.pr pn
 ia:∀h,P h->q_ h c.at_ 3 Hg AT
 xc:∀h,P h->q_ h c.xc 3 q9 CR
 cl:CR.length<=1000000
 al:AT.length<=1000000
 il:IDS.length=AT.length
 ids:∃vs:List Value,vs.length=IDS.length/\∀h,P h->q_ h c.ids 1 ER vs/\∀(j:Nat) v l,vs[j]?=some v->IDS[j]?=some l->q_ h v 1 l_ l
 ib:∀l∈IDS,l.Nodup/\l.length<=1000000/\∀x∈l,∀y∈l,x≠y->(Em pn x y).1<rN.length
section
variable {b:Nat} {c:XC} {rN:List Lit} {F:List DZ} {pn:Ti} {AT:List K3} {IDS:List (TC)} {CR:TD} {k1:Nat} {mu:Tz} {P:HL->Prop} (R:Ro b c rN F pn AT IDS CR k1 mu P)
include R
theorem Ro.keepV{h h':HL}(g:P h)(i:∀(j:Nat) o,h[j]?=O o->i_ c.va≠O j->j<k1->h'[j]?=O o):P h':=R.kp h h' g λj o a d f=>i j o f (λe=>d (R.m1 j (.inl e))) a
theorem Ro.keepU{h h':HL}(g:P h)(i:∀(j:Nat) o,h[j]?=O o->i_ c.us≠O j->j<k1->h'[j]?=O o):P h':=R.kp h h' g λj o a d f=>i j o f (λe=>d (R.m1 j (.inr (.inl e)))) a
end
section
variable {b:Nat} {c:XC} {rN:List Lit} {F:List DZ} {pn:Ti} {AT:List K3} {IDS:List (TC)} {CR:TD} {k1:Nat} {mu:Tz} {P:HL->Prop} (R:Ro b c rN F pn AT IDS CR k1 mu P) {r:TF} (hF:Lg rN r)
include R hF
theorem lA{h:HL}(hP:P h){DJ:TE}{us:Ty}{LV:List (TC)}{lv:Tn}(hM:Mt h c k1 DJ us LV lv){S:(Nat->Bool)->Prop}{D:List (TC)}{st id:Nat}{d p:TC}(hN:SB rN pn S DJ D p (EA us d))(al:IDS[st]?=O d)(hp:LV[st]?=O p)(ad:id∈d)(cy:us.getD id U=U)(c0:∀x∈d,x<W us)(cw:W p<=1000000)
  {A:Nat} (ht:h[A]?=O (.o (EJ [DW Q 0 0] 1 J))) (dk:k1<=A) (cq:∀v∈lv,i_ v≠O A) :
  ∃ok q T x' v' h',aD cc ac 52 [.v (lM b),.i (DO st),.i (DO id),.v (lM A)] (h_ aa h) [.b ok] (h_ aa h')/\P h'/\Mt h' c k1 q (us.set id J) (LV.set st (p++[id])) (lv.set st v')/\IF rN q/\
   h'[A]?=O (.o (EJ [x'] 1 J))/\q_ h' x' 1 l_ T/\(W T<=W d/\∀i∈T,i<W rN)/\(∀j,i_ x'=O j->W h<=j/\∀v∈lv.set st v',i_ v≠O j)/\Mn T q=DJ/\(∃j,i_ v'=O j/\h.length<=j)/\
   (ok=J->SB rN pn S q D (p++[id]) ((EA us d).erase id)/\Lq rN q F)/\(ok=U->∀Rs,(HK D (p++[id]) ((EA us d).erase id) Rs).filter (E6 pn S F)=[])/\
   (∀(j:Nat) o,h[j]?=O o->j≠A->i_ c.va≠O j->i_ c.us≠O j->i_ c.lay≠O j->(∀v,lv[st]?=O v->i_ v≠O j)->h'[j]?=O o)/\h.length<=W h':=by
 have L:=R.ib d (A9 al);have an:=c0 id ad;have ag:id∈EA us d:=qU.2 ⟨ad,cy⟩;have bx:(EA us d).Nodup:=L.1.filter _;have a7:=ah hp;have a8:st<W lv:=by rw[hM.ln];exact a7
 obtain⟨v0,I⟩:=ak a8;have cf:=A9 I;have dC:=x52 (ls:=[.v (lM b),.i (DO st),.i (DO id),.v (lM A)]) (K:=λrs h'=>∃ok q T x' v',rs=[.b ok]/\P h'/\Mt h' c k1 q (us.set id J) (LV.set st (p++[id])) (lv.set st v')/\IF rN q/\
   h'[A]?=O (.o (EJ [x'] 1 J))/\q_ h' x' 1 l_ T/\(W T<=W d/\∀i∈T,i<W rN)/\(∀j,i_ x'=O j->W h<=j/\∀v∈lv.set st v',i_ v≠O j)/\Mn T q=DJ/\(∃j,i_ v'=O j/\h.length<=j)/\
   (ok=J->SB rN pn S q D (p++[id]) ((EA us d).erase id)/\Lq rN q F)/\(ok=U->∀Rs,(HK D (p++[id]) ((EA us d).erase id) Rs).filter (E6 pn S F)=[])/\
   (∀(j:Nat) o,h[j]?=O o->j≠A->i_ c.va≠O j->i_ c.us≠O j->i_ c.lay≠O j->(∀v,lv[st]?=O v->i_ v≠O j)->h'[j]?=O o)/\h.length<=W h') (H:=h) (o_ (az _) (mc (mc (o_ (az _) vc)))) (by
  unfold f52;simp only[w7];refine c_ ?_;refine bA (ds:=[c.us]) (R.hb h hP) (by simp[aj]) rfl ?_;refine c_ ?_;refine ab (hM.us.g_ cS) ?_;refine m9 ?_;refine hM.us.Ny cS rfl an (a:=J) rfl ?_;intro g1 co bl dl;refine m9 ?_;have b8:P g1:=R.keepU hP λj o z hb _=>bl j o z hb;have E:=hM.setU R.s co bl;refine kK (ds:=[c.lay]) (R.hb g1 b8) (by simp[aj]) rfl ?_;refine c_ ?_;refine ab (E.ly.g_ bh) ?_;refine m9 ?_;refine kK (ds:=[c.lay]) (R.hb g1 b8) (by simp[aj]) rfl ?_;refine c_ ?_;refine ab (E.ly.g_ bh) ?_;refine m9 ?_;refine nD E.ly rfl I ?_;intro lb cr;refine c_ ?_;have bd:=E.tr st v0 p I hp;refine ab bd.g_ ?_;refine m9 ?_;refine bd.KG rfl rfl rfl cw ?_;intro v' g2 ax cl M c1 bm aE;refine c_ ?_;refine ab cl ?_;refine m9 ?_;obtain⟨vb,M,dB⟩:=M;have ap:=R.s.s3;have cb:i' 0 g2 c.lay 1 ER lv:=E.ly.ke λj o z hb=>bm j o z λe=>by have a1:=ap j hb;have a2:=hM.nb st v0 j I e;omega
  refine cb.Ny bh rfl a8 (a:=v') rfl ?_;intro C cp bn dm;have dn:=R.lt h hP;have c6:∀j,i_ v0=O j->k1<=j:=λj z=>hM.nb st v0 j I z;refine af (x:=()) (df (bV ⟨_,_,_,rfl⟩ λi n=>?_) (df (bV ⟨_,_,_,rfl⟩ λi n=>?_) (df (bV ⟨_,_,_,rfl⟩ λi n=>?_) (df (bV (kJ bd.ls) λi n=>?_) (df (bV c1 λi n=>?_) fj))))) ?_
  .have a1:=R.bk;have:W g1=i:=by simpa[i_]using n
   omega
  .have a1:=R.bk;have:W g1=i:=by simpa[i_]using n
   omega
  .have a1:=ap lb cr;have:W g1=i:=by simpa[i_]using n
   omega
  .have a1:=R.bk
   grind
  .have a1:=R.bk
   grind
  refine m9 ?_;have b6:∀(j:Nat) o,h[j]?=O o->i_ c.us≠O j->i_ c.lay≠O j->i_ v0≠O j->C[j]?=O o:=λj o z Y b2 b3=>bn j o (bm j o (bl j o z Y) b3) b2;have bb:P C:=R.kp h C hP λj o j1 j2 z=>b6 j o z (λe=>j2 (R.m1 j (.inr (.inl e)))) (λe=>j2 (R.m1 j (.inr (.inr e)))) λe=>by grind
  have a9:Mt C c k1 DJ (us.set id J) (LV.set st (p++[id])) (lv.set st v'):=by
   refine E.Md R.s a7 cp (ax.ke λj o z hb=>bn j o z λe=>?_) (λx hx=>?_) (λj w x _ hw hx c2=>?_) λj o z Y b2=>bn j o (bm j o z (b2 v0 I)) Y
   .grind
   .grind
   .rw[M]at hx;cases hx;obtain⟨l2,aE⟩ : ∃l2,LV[j]?=O l2:=ak (by rw[←hM.ln];exact ah hw);have:=(E.tr j w l2 hw aE).lt c2;omega
  have b9:C[A]?=O (.o (EJ [DW Q 0 0] 1 J)):=b6 A _ ht (λe=>by
   have:=(R.s.s2 A e).1;omega) (λe=>by
   grind) (cq v0 cf)
  have c7:W h<=W C:=a_;have c9:vb<W C:=by have:=ax.lt M;omega
  refine bA (ds:=[c.ids]) (R.hb C bb) (by simp[aj]) rfl ?_;refine c_ ?_;obtain⟨vs,i2,i4⟩:=R.ids;obtain⟨i1,i3⟩:=i4 C bb;refine ab i1.g_ ?_;refine m9 ?_;obtain⟨vi,bP⟩:=ak (l:=vs) (i:=st) jw;refine aJ i1 rfl bP ?_;rw[show ER vi=[vi]from rfl];refine c_ ?_;have b7:=i3 st vi d bP al;refine ab b7.g_ ?_;refine m9 ?_;refine aO b7 ?_;have c8:∀v∈lv.set st v',∀j,i_ v=O j->j<W C:=λv hv j z=>by obtain⟨i,n⟩:=E4 hv;obtain⟨l2,aE⟩ : ∃l2,(LV.set st (p++[id]))[i]?=O l2:=ak (by rw[←a9.ln];exact ah n);exact(a9.tr i v l2 n aE).lt z
  refine aN (m:=W d) (λm ls g=>∃j q T x',ls=[.i (DO j)]/\m=W d-j/\j<=W d/\P g/\Mt g c k1 q (us.set id J) (LV.set st (p++[id])) (lv.set st v')/\IF rN q/\g[A]?=O (.o (EJ [x'] 1 J))/\i' (W C) g x' 1 l_ T/\(W T<=j/\∀i∈T,i<W rN)/\Mn T q=DJ/\
   KC rN pn S q D p (EA us d) id (EA (us.set id J) (d.take j))/\(∀(i:Nat) o,C[i]?=O o->i≠A->i_ c.va≠O i->g[i]?=O o)/\C.length<=W g) ⟨0,DJ,[],_,rfl,rfl,Eg _,bb,a9,hN.ok,b9,.inl ⟨rfl,rfl⟩,⟨B7 _,λi n=>by cases n⟩,rfl,hN.start id,λi o n _ _=>n,B7 _⟩ ?_
  rintro m ls g ⟨j,q,T,x',rfl,rfl,z,u,G,B,be,N,ay,b0,Z,bs,ct⟩ dj av;refine Fc ?_;have cd:∀ {k:Nat} {y:Nat},y∈EA (us.set id J) (d.take k)->y∈(EA us d).erase id:=λ{k y} hy=>by rw[←uN L.1 an];obtain⟨a1,a2⟩:=qU.1 hy;exact qU.2 ⟨Xj a1,a2⟩
  have ca:∀ {g':HL},(∀(i:Nat) o,C[i]?=O o->i≠A->i_ c.va≠O i->g'[i]?=O o)->(∀(j:Nat) o,h[j]?=O o->j≠A->i_ c.va≠O j->i_ c.us≠O j->i_ c.lay≠O j->(∀v,lv[st]?=O v->i_ v≠O j)->g'[j]?=O o):=λ{g'} hk j o z Y b2 b3 b4 b5=>hk j o (b6 j o z b3 b4 (b5 v0 I)) Y b2;have ci:∀ {g':HL} {x2:TV} {T2:TC},i' (W C) g' x2 1 l_ T2->∀j,i_ x2=O j->W h<=j/\∀v∈lv.set st v',i_ v≠O j:=λ{g' x2 T2} ho j z=>by
   have:=(ho.i_ z).1
   grind
  refine c_ ?_;by_cases a0:j<W d
  case neg=>
   obtain rfl:j=W d:=a_;rw[aw (B7 _)];refine c_ ?_;obtain⟨e,ce,e1,e2⟩:=even_c (R.hb g u) (R.up g u) hF B (G.va.ls eO) (R.fo g u) R.fl R.fv;refine ai ce ?_;refine c_ ?_;rw[y0]at Z;have hB:∀y,y∈EA (us.set id J) d↔y∈(EA us d).erase id:=λy=>by rw[uN L.1 an]
   refine⟨e,q,T,x',v',Ei,u,G,B,be,N.ls bc,ay,ci N,b0,⟨vb,M,a_⟩,λhe=>⟨Z.placed ag bx hB,e1 he⟩,λhe R'=>?_,ca bs,a_⟩;obtain⟨f,hf,x,hx,hn⟩:=e2 he;exact Z.fail ag bx (λy hy=>(hB y).1 hy) (λV hV cm _=>ev_no B hf hx hn V hV cm) R'
  rw[aB a0];refine c_ ?_;obtain⟨y,hy⟩:=ak a0;have c3:=A9 hy;have cn:q_ g vi 1 l_ d:=(i4 g u).2 st vi d bP al;refine aJ cn rfl hy ?_;rw[show l_ y=[EO DQ (DO y)]from rfl];refine c_ ?_;refine bA (ds:=[c.us]) (R.hb g u) (by simp[aj]) rfl ?_;refine c_ ?_;refine ab (G.us.g_ cS) ?_;refine m9 ?_;obtain⟨t,c4⟩:=ak (l:=us.set id J) (i:=y) jw;have dA:(us.set id J).getD y U=t:=jw;refine aJ (G.us.ls cS) rfl c4 ?_;rw[show D0 t=[.bool t]from rfl];refine c_ ?_;have bC:EA (us.set id J) (d.take (j+1))=EA (us.set id J) (d.take j)++if t=J then []else [y]:=by
   rw[Kx,hy];unfold EA
   grind
  cases t with
  |true=>
   simp(disch:=omega)only[↓qb,Fv];rw[aI a_];refine av _ _ _ ?_ ⟨j+1,q,T,x',rfl,rfl,a0,u,G,B,be,N,⟨a_,ay.2⟩,b0,?_,bs,ct⟩
   .omega
   grind
  |false=>
   simp(disch:=omega)only[↓qb,GG];have ck:id≠y:=λe=>by grind
   refine ai (kS (R.hb g u) (R.pr g u) id y) ?_;refine c_ ?_;obtain⟨X,x2,g',hr,cs,s1,s2,s3,s4,s5,s6⟩:=setT_c (R.hb g u) (R.up g u) hF B G.va be N a_ a_ (λe=>by
    have:=(R.s.s1 A e).1;omega) (λe=>by
    grind) (λi n e=>by
    have a1:=(N.i_ n).1;have a2:=(R.s.s1 i e).1;omega) (L.2.2 id ad y c3 ck)
   refine ai cs ?_;refine c_ ?_;have a5:P g':=R.keepV u λi o n Y b2=>s4 i o n a_ Y λe=>by grind
   have a4:Mt g' c k1 (Et q X) (us.set id J) (LV.set st (p++[id])) (lv.set st v'):=G.setV R.s s1 λi o n Y b2=>s4 i o n (λe=>by
    grind) Y λe=>by
    grind
   have a6:∀(i:Nat) o,C[i]?=O o->i≠A->i_ c.va≠O i->g'[i]?=O o:=λi o n Y b2=>s4 i o (bs i o n Y b2) Y b2 λe=>by
    have a1:=(N.i_ e).1
    grind
   have hz:=q4 b0 X;have ax:W (if q.getD X.1 0=0 then T++[X.1]else T)<=j+1/\∀i∈(if q.getD X.1 0=0 then T++[X.1]else T),i<W rN:=by
    have:=ay.1;split
    .refine⟨z_,λi n=>?_⟩;rcases F_.1 n with n|n
     .exact ay.2 i n
     .rw[HN]at n;rw[n];exact hr.lt
    grind
   by_cases a3:(Et q X).getD X.1 0=FZ X
   .rw[FX a3];simp(disch:=omega)only[↓qb,Fv];rw[aI a_];refine av _ _ _ ?_ ⟨j+1,Et q X,_,x2,rfl,rfl,a0,a5,a4,vC B X,s2,s3,?_,hz,?_,a6,a_⟩
    .omega
    .exact ax
    .rw[bC];exact Z.set hr a3
   .rw[Ga a3];simp(disch:=omega)only[↓qb,GG];obtain⟨cx,dr⟩:=B1 B hr a3;refine⟨U,Et q X,_,x2,v',Ei,a5,a4,vC B X,s2,s3.ls bc,?_,ci s3,hz,⟨vb,M,a_⟩,λhe=>(by cases he),λ_ R'=>?_,ca a6,a_⟩
    .grind
    .refine Z.fail ag bx (λy hy=>cd hy) (λV hV _ c5=>?_) R'
     grind)
 grind
end
section
variable {b:Nat} {c:XC} {rN:List Lit} {F:List DZ} {pn:Ti} {AT:List K3} {IDS:List (TC)} {CR:TD} {k1:Nat} {mu:Tz} {P:HL->Prop} (R:Ro b c rN F pn AT IDS CR k1 mu P)
include R
theorem m0{h:HL}(N:P h){DJ:TE}{us:Ty}{L:List (TC)}{lv:Tn}(l:Mt h c k1 DJ us L lv){st id:Nat}{p:TC}(hp:L[st]?=O (p++[id]))(bs:W p<=1000000)(Y:id<W us)
  {x:TV} {T:TC} (M:q_ h x 1 l_ T) (bt:∀j,i_ x=O j->k1<=j/\∀v∈lv,i_ v≠O j) (be:W T<=1000000) (a5:∀i∈T,i<W DJ) :
  ∃v' h',aD cc ac 53 [.v (lM b),.i (DO st),.v x] (h_ aa h) [] (h_ aa h')/\P h'/\Mt h' c k1 (Mn T DJ) (us.set id U) (L.set st p) (lv.set st v')/\(∀v,lv[st]?=O v->i_ v'=i_ v)/\
   (∀(j:Nat) o,h[j]?=O o->i_ c.va≠O j->i_ c.us≠O j->i_ c.lay≠O j->h'[j]?=O o)/\h'.length=W h:=by
 have u:=ah hp;have z:st<W lv:=by rw[l.ln];exact u
 obtain⟨n,d⟩:=ak z;have bb:=A9 d;have bx:=x53 (ls:=[.v (lM b),.i (DO st),.v x]) (K:=λrs h'=>rs=[]/\∃v',P h'/\Mt h' c k1 (Mn T DJ) (us.set id U) (L.set st p) (lv.set st v')/\(∀v,lv[st]?=O v->i_ v'=i_ v)/\
   (∀(j:Nat) o,h[j]?=O o->i_ c.va≠O j->i_ c.us≠O j->i_ c.lay≠O j->h'[j]?=O o)/\h'.length=W h) (H:=h) (o_ (az _) (mc (o_ M.g_ vc))) (by
  unfold f53;simp only[w7];refine c_ ?_;have r:=l.tr st n _ d hp;have ad:W (p++[id])=W p+1:=d_;refine bA (ds:=[c.lay]) (R.hb h N) (by simp[aj]) rfl ?_;refine c_ ?_;refine ab (l.ly.g_ bh) ?_;refine m9 ?_;refine aJ (l.ly.ls bh) rfl d ?_;rw[show ER n=[n]from rfl];refine c_ ?_;refine ab r.g_ ?_;refine m9 ?_;refine aO r.ls ?_;rw[ad];have al:∀K:Int->Prop,K (DO (W p))->P1.C5 .sub DQ (DO (W p+1)) 1 (@j_ _ ⟨K⟩):=λK hK=>by
   rw[Rx k_ jw]
   simp_all
  refine al _ ?_;refine m9 ?_;refine bA (ds:=[c.us]) (R.hb h N) (by simp[aj]) rfl ?_;refine c_ ?_;refine ab (l.us.g_ cS) ?_;refine m9 ?_;refine bA (ds:=[c.lay]) (R.hb h N) (by simp[aj]) rfl ?_;refine c_ ?_;refine ab (l.ly.g_ bh) ?_;refine m9 ?_;refine aJ (l.ly.ls bh) rfl d ?_;rw[show ER n=[n]from rfl];refine c_ ?_;refine ab r.g_ ?_;refine m9 ?_;refine aJ (a:=id) r.ls rfl d_ ?_;rw[show l_ id=[EO DQ (DO id)]from rfl];refine c_ ?_;refine l.us.Ny cS rfl Y (a:=U) rfl ?_;intro g1 a0 D bl;refine m9 ?_;have S:P g1:=R.keepU N λj o f hb _=>D j o f hb;have k:=l.setU R.s a0 D;refine bA (ds:=[c.lay]) (R.hb g1 S) (by simp[aj]) rfl ?_;refine c_ ?_;refine ab (k.ly.g_ bh) ?_;refine m9 ?_;refine bA (ds:=[c.lay]) (R.hb g1 S) (by simp[aj]) rfl ?_;refine c_ ?_;refine ab (k.ly.g_ bh) ?_;refine m9 ?_;refine aJ (k.ly.ls bh) rfl d ?_;rw[show ER n=[n]from rfl];refine c_ ?_;have X:=k.tr st n _ d hp;refine ab X.g_ ?_;refine m9 ?_;refine X.F0 rfl ?_;intro v' a4 ax an;refine ab ax ?_;refine m9 ?_;refine k.ly.Ny bh rfl z (a:=v') rfl ?_;intro A a2 E bm;refine m9 ?_
  have a6:=R.s.s3;have ag:∀j,i_ n=O j->k1<=j:=λj f=>l.nb st n j d f;have av:∀(j:Nat) o,h[j]?=O o->i_ c.us≠O j->i_ c.lay≠O j->A[j]?=O o:=λj o f q b2=>E j o (D j o f q) b2;have a3:P A:=R.kp h A N λj o j1 j2 f=>av j o f (λe=>j2 (R.m1 j (.inr (.inl e)))) (λe=>j2 (R.m1 j (.inr (.inr e))));have ay:Mt A c k1 DJ (us.set id U) (L.set st p) (lv.set st v'):=by
   refine k.Md R.s u a2 (a4.ke λj o f hb=>E j o f λe=>?_) (λx M=>ag x (by rw[←an];exact M)) (λj w x a7 hw M a8=>a7 (l.dj j st w n x hw d a8 (by rw[←an];exact M))) λj o f q _=>E j o f q
   grind
  have ap:q_ A x 1 l_ T:=M.ke λj o f hb=>av j o f (λe=>by
   have a1:=(R.s.s2 j e).1
   grind) λe=>by
   grind
  refine aO ap ?_;refine aN (m:=W T) (λm ls g=>∃j,ls=[.i (DO j)]/\m=W T-j/\j<=W T/\P g/\Mt g c k1 (Mn (T.take j) DJ) (us.set id U) (L.set st p) (lv.set st v')/\(∀(i:Nat) o,A[i]?=O o->i_ c.va≠O i->g[i]?=O o)/\g.length=W A) ⟨0,rfl,rfl,Eg _,a3,ay,λi o t _=>t,rfl⟩ ?_;rintro m ls g ⟨j,rfl,rfl,f,V,B,Z,bn⟩ bd I;refine Fc ?_;refine c_ ?_;by_cases G:j<W T
  case neg=>
   obtain rfl:j=W T:=a_;rw[aw (B7 _)];refine c_ ?_
   grind
  rw[aB G];refine c_ ?_;obtain⟨y,hy⟩:=ak G;have a9:q_ g x 1 l_ T:=ap.ke λi o t hb=>Z i o t λe=>by
   have a1:=(R.s.s1 i e).1
   grind
  refine aJ a9 rfl hy ?_;rw[show l_ y=[EO DQ (DO y)]from rfl];refine c_ ?_;refine bA (ds:=[c.va]) (R.hb g V) (by simp[aj]) rfl ?_;refine c_ ?_;refine ab (B.va.g_ eO) ?_;refine m9 ?_;refine B.va.Ny eO rfl (by rw[Sy];exact a5 y (A9 hy)) (a:=0) rfl ?_;intro g' aE C bk;refine m9 ?_;rw[aI a_];refine I _ _ _ ?_ ⟨j+1,rfl,rfl,G,R.keepV V λi o t q _=>C i o t q,B.setV R.s ?_ λi o t q _=>C i o t q,λi o t q=>C i o (Z i o t q) q,a_⟩
  .omega
  .rw[Kx,hy,show(O y).toList=[y]from rfl,cn];exact aE)
 grind
end
def Nz{e id n o cx:Nat}:GV e (DW (O ⟨id,o,le e⟩) n cx) Q (O (DO n)) (O (DO n))=O (DW (O ⟨id,o,le e⟩) n (n+1)):=by unfold GV;simp only;rw[ts d_,rv (by simp[bW])];simp[eW,bM]
def P8{j7:Type}{h:HL}{e:Nat}{enc:j7->Tn}{l:List j7}(b:q_ h (DW Q 0 0) e enc l):l=[]:=by
 rcases b.2.2 with⟨_,g⟩|⟨id,c,f,i,d,a,_,_⟩
 .simp_all
 .cases a
def clclC{h:HL}{x:TV}{l:TD}(k:q_ h x 3 q9 l)(P:W l<=1000000) :
  ∃b r h',aD cc ac 85 [.v x] (h_ aa h) [.v b] (h_ aa h')/\(∀g:HL,aD cc ac 84 [.v b] (h_ aa g) [.v r] (h_ aa g))/\i' (W h) h' r 3 q9 l/\aH b=J/\(∀(j:Nat) o,h[j]?=O o->h'[j]?=O o)/\h.length<=W h':=by
 have m:∃b h',aD cc ac 85 [.v x] (h_ aa h) [.v b] (h_ aa h')/\i' (W h) h' b 3 q9 l/\(∀(j:Nat) o,h[j]?=O o->h'[j]?=O o)/\h.length<=W h':=by
  by_cases f:x=DW Q 0 0
  .subst f;refine⟨DW Q 0 0,h,?_,.inl ⟨rfl,P8 k⟩,λj o i=>i,B7 _⟩;exact xK x85 (o_ rfl vc) (by
    unfold f85;simp only[w7]
    repeat (first|simp(disch:=omega)only[↓qb]|refine af (x:=J) rfl ?_)
    simp_all)
  .have B:∃a n c,x=DW (O a) n c:=by
    rcases k.2.2 with⟨C,_⟩|⟨id,D,y,T,I,rfl,_,_⟩
    .exact absurd C f
    simp_all
   have R:=x85 (ls:=[.v x]) (K:=λG h'=>∃b,G=[.v b]/\i' (W h) h' b 3 q9 l/\(∀(j:Nat) o,h[j]?=O o->h'[j]?=O o)/\h.length<=W h') (H:=h) (o_ k.g_ vc) (by
    unfold f85;simp only[w7];refine c_ ?_;obtain⟨a,n,c,rfl⟩:=B;refine af (x:=U) rfl ?_;refine c_ ?_;have z:i' (W h) (h++[HO.o (EJ [] 3 J)]) (DW (O ⟨W h,0,le 3⟩) 0 1) 3 q9 []:=i'.emp aG (B7 _);refine z.XH (λ_=>rfl) d_ (k.pre ⟨_,rfl⟩) z_ z_ ?_;intro L h' s t u w _;refine c_ ?_;refine ab t ?_;refine m9 ?_;refine⟨L,Ei,by simpa using s,λj o i=>u j o (dI i) λe=>?_,by simp at w;omega⟩;have M:=ah i;have N:W h=j:=by simpa[i_]using e
    omega)
   grind
 obtain⟨b,h',p,A,q,d⟩:=m;rcases A with⟨rfl,rfl⟩|⟨id,y,rfl,E,F,S⟩
 .refine⟨DW Q 0 0,DW Q 0 0,h',p,λg=>?_,.inl ⟨rfl,rfl⟩,rfl,q,d⟩;exact xK x84 (o_ rfl vc) (by
   unfold f84;simp only[w7]
   repeat (first|simp(disch:=omega)only[↓qb]|refine af (x:=(0:Int)) rfl ?_|refine af (x:=Value.slice Q 0 0) rfl ?_|refine ab rfl ?_)
   simp_all)
 .refine⟨_,DW (O ⟨id,0,le 3⟩) (W l) (W l+1),h',p,λg=>?_,.inr ⟨id,_,rfl,E,F,.inr rfl⟩,da,q,d⟩;exact xK x84 (o_ da vc) (by
   unfold f84;simp only[w7];refine c_ ?_;refine af (x:=DO (W l)) rfl ?_;refine af (x:=DO (W l)) rfl ?_;refine af Nz ?_;refine ab da ?_
   simp_all)
def clclN{h:HL}{x:TV}{l:TC}(k:q_ h x 1 l_ l)(P:W l<=1000000) :
  ∃b r h',aD cc ac 87 [.v x] (h_ aa h) [.v b] (h_ aa h')/\(∀g:HL,aD cc ac 86 [.v b] (h_ aa g) [.v r] (h_ aa g))/\i' (W h) h' r 1 l_ l/\aH b=J/\(∀(j:Nat) o,h[j]?=O o->h'[j]?=O o)/\h.length<=W h':=by
 have m:∃b h',aD cc ac 87 [.v x] (h_ aa h) [.v b] (h_ aa h')/\i' (W h) h' b 1 l_ l/\(∀(j:Nat) o,h[j]?=O o->h'[j]?=O o)/\h.length<=W h':=by
  by_cases f:x=DW Q 0 0
  .subst f;refine⟨DW Q 0 0,h,?_,.inl ⟨rfl,P8 k⟩,λj o i=>i,B7 _⟩;exact xK x87 (o_ rfl vc) (by
    unfold f87;simp only[w7]
    repeat (first|simp(disch:=omega)only[↓qb]|refine af (x:=J) rfl ?_)
    simp_all)
  .have B:∃a n c,x=DW (O a) n c:=by
    rcases k.2.2 with⟨C,_⟩|⟨id,D,y,T,I,rfl,_,_⟩
    .exact absurd C f
    simp_all
   have R:=x87 (ls:=[.v x]) (K:=λG h'=>∃b,G=[.v b]/\i' (W h) h' b 1 l_ l/\(∀(j:Nat) o,h[j]?=O o->h'[j]?=O o)/\h.length<=W h') (H:=h) (o_ k.g_ vc) (by
    unfold f87;simp only[w7];refine c_ ?_;obtain⟨a,n,c,rfl⟩:=B;refine af (x:=U) rfl ?_;refine c_ ?_;have z:i' (W h) (h++[HO.o (EJ [] 1 J)]) (DW (O ⟨W h,0,le 1⟩) 0 1) 1 l_ []:=i'.emp aG (B7 _);refine z.XH (λ_=>rfl) d_ (k.pre ⟨_,rfl⟩) z_ z_ ?_;intro L h' s t u w _;refine c_ ?_;refine ab t ?_;refine m9 ?_;refine⟨L,Ei,by simpa using s,λj o i=>u j o (dI i) λe=>?_,by simp at w;omega⟩;have M:=ah i;have N:W h=j:=by simpa[i_]using e
    omega)
   grind
 obtain⟨b,h',p,A,q,d⟩:=m;rcases A with⟨rfl,rfl⟩|⟨id,y,rfl,E,F,S⟩
 .refine⟨DW Q 0 0,DW Q 0 0,h',p,λg=>?_,.inl ⟨rfl,rfl⟩,rfl,q,d⟩;exact xK x86 (o_ rfl vc) (by
   unfold f86;simp only[w7]
   repeat (first|simp(disch:=omega)only[↓qb]|refine af (x:=(0:Int)) rfl ?_|refine af (x:=Value.slice Q 0 0) rfl ?_|refine ab rfl ?_)
   simp_all)
 .refine⟨_,DW (O ⟨id,0,le 1⟩) (W l) (W l+1),h',p,λg=>?_,.inr ⟨id,_,rfl,E,F,.inr rfl⟩,da,q,d⟩;exact xK x86 (o_ da vc) (by
   unfold f86;simp only[w7];refine c_ ?_;refine af (x:=DO (W l)) rfl ?_;refine af (x:=DO (W l)) rfl ?_;refine af Nz ?_;refine ab da ?_
   simp_all)
abbrev SkO:=K3×FO×List Nat
def LC(s:SkO):Tn:=Hg s.1++[s.2.1]
def jK(s:SkO):W (LC s)=4:=rfl
def StO(n0:Nat)(h:HL)(v:FO)(l:List (K3×List Nat)):Prop:=∃L:List SkO,i' n0 h v 4 LC L/\(∀s∈L,i' n0 h s.2.1 1 l_ s.2.2)/\L.map (λs=>(s.1,s.2.2))=l
section
variable {b:Nat} {c:XC} {rN:List Lit} {F:List DZ} {pn:Ti} {AT:List K3} {IDS:List (TC)} {CR:TD} {k1:Nat} {mu:Tz} {P:HL->Prop} (R:Ro b c rN F pn AT IDS CR k1 mu P)
include R
theorem f2{h:HL}(M:P h){DJ:TE}{us:Ty}{n:List (TC)}{lv:Tn}(hM:Mt h c k1 DJ us n lv)(ad:W n=W AT)(ag:∀l∈n,W l<=1000000) :
  ∃xc sv h',aD cc ac 51 [.v (lM b)] (h_ aa h) [.i (DO c.w),.i (DO c.v),.v xc,.i (DO c.r.1),.i c.r.2.1,.i c.r.2.2,.v sv] (h_ aa h')/\
   i' (W h) h' xc 3 q9 CR/\StO (W h) h' sv (AT.zip n)/\(∀(j:Nat) o,h[j]?=O o->h'[j]?=O o)/\h.length<=W h':=by
 have bb:=x51 (ls:=[.v (lM b)]) (K:=λrs h'=>∃xc sv,rs=[.i (DO c.w),.i (DO c.v),.v xc,.i (DO c.r.1),.i c.r.2.1,.i c.r.2.2,.v sv]/\
   i' (W h) h' xc 3 q9 CR/\StO (W h) h' sv (AT.zip n)/\(∀(j:Nat) o,h[j]?=O o->h'[j]?=O o)/\h.length<=W h') (H:=h) (o_ (az _) vc) (by
  unfold f51;simp only[w7];refine c_ ?_;refine bA (ds:=[EO DQ (DO c.w),EO DQ (DO c.v),c.xc]) (R.hb h M) (by simp[aj]) rfl ?_;refine c_ ?_;have hC:=R.xc h M;refine ab hC.g_ ?_;refine m9 ?_;obtain⟨x1,xc,f,c1,c2,o1,a4,Y,aE⟩:=clclC hC R.cl;refine ai c1 ?_;refine c_ ?_;refine ai (c2 f) ?_;refine c_ ?_;have q:P f:=R.kp h f M λj o _ _ V=>Y j o V;refine kK (ds:=[EO DU (DO c.r.1),EO DQ c.r.2.1,EO DQ c.r.2.2]) (R.hb f q) (by simp[aj]) rfl ?_;refine c_ ?_;refine bA (ds:=[c.at_]) (R.hb f q) (by simp[aj]) rfl ?_;refine c_ ?_;have E:=R.ia f q;refine ab E.g_ ?_;refine m9 ?_;refine aO E ?_;refine af (dG (by have:=R.al;omega)) ?_;refine m9 ?_;have a1:=R.lt h M;have a6:=R.bk;refine af (x:=()) (df (bV ⟨_,_,_,rfl⟩ λi d=>?_) fj) ?_
  .have:W f=i:=by simpa[i_]using d
   omega
  have ay:(DO (W AT)).toNat=W AT:=rfl;rw[ay];have z0:HO.o (EJ (aQ [EO DQ 0,EO DQ 0,EO DU 0,DW Q 0 0] (W AT)) 4 J)=HO.o (EJ ((FJ (W AT) (((0,0,0),DW Q 0 0,[]):SkO)).flatMap LC) 4 J):=by rw[←cP];rfl
  rw[z0];obtain⟨k,e2⟩ : ∃k,k=f++[HO.o (EJ ((FJ (W AT) (((0,0,0),DW Q 0 0,[]):SkO)).flatMap LC) 4 J)]:=⟨_,rfl⟩;rw[←e2];have av:k[W f]?=O (.o (EJ ((FJ (W AT) (((0,0,0),DW Q 0 0,[]):SkO)).flatMap LC) 4 J)):=by rw[e2];exact aG
  have D:∀(j:Nat) o,f[j]?=O o->k[j]?=O o:=λj o V=>jw;have bd:W k=W f+1:=by rw[e2];simp
  have N:P k:=R.kp f k q λj o _ _ V=>D j o V;refine m9 ?_;refine bA (ds:=[c.at_]) (R.hb k N) (by simp[aj]) rfl ?_;refine c_ ?_;have G:=R.ia k N;refine ab G.g_ ?_;refine m9 ?_;refine aO G ?_;have a2:W (AT.zip n)=W AT:=k_;refine aN (m:=W AT) (λm ls g=>∃j L,ls=[.i (DO j)]/\m=W AT-j/\j<=W AT/\L.length=W AT/\i' (W h) g (DW (O ⟨W f,0,le 4⟩) (W AT) (W AT+1)) 4 LC L/\(∀s∈L,i' (W h) g s.2.1 1 l_ s.2.2/\i_ s.2.1≠O (W f))/\(L.take j).map (λs=>(s.1,s.2.2))=(AT.zip n).take j/\
   (∀(i:Nat) o,k[i]?=O o->i≠f.length->g[i]?=O o)/\k.length<=W g) ⟨0,FJ (W AT) ((0,0,0),DW Q 0 0,[]),rfl,rfl,Eg _,qcU ..,.inr ⟨W f,_,by rw[qcU],aE,av,.inr k_⟩,λs A=>by rw[qdn A];exact⟨.inl ⟨rfl,rfl⟩,λe=>by cases e⟩,rfl,λi o d _=>d,B7 _⟩ ?_
  rintro m ls g ⟨j,L,rfl,rfl,V,a0,I,T,ax,z,a9⟩ a3 B;refine Fc ?_;have C:∀(i:Nat) o,h[i]?=O o->g[i]?=O o:=λi o d=>z i o (D i o (Y i o d)) jw;have S:P g:=R.kp h g M λi o _ _ d=>C i o d;have u:Mt g c k1 DJ us n lv:=hM.ke λi o d _=>C i o d;refine c_ ?_;by_cases t:j<W AT
  case neg=>
   obtain rfl:j=W AT:=a_;rw[aw (B7 _)];refine c_ ?_;refine⟨xc,_,rfl,o1.ke λi o d hb=>z i o (D i o d) jw,⟨L,I,λs A=>(T s A).1,?_⟩,λi o d=>C i o d,a_⟩
   grind
  rw[aB t];refine c_ ?_;obtain⟨a,ha⟩:=ak t;refine aJ (R.ia g S) rfl ha ?_;rw[show Hg a=[EO DQ a.1,EO DQ a.2.1,EO DU (DO a.2.2)]from rfl];refine c_ ?_;refine bA (ds:=[c.lay]) (R.hb g S) (by simp[aj]) rfl ?_;refine c_ ?_;refine ab (u.ly.g_ bh) ?_;refine m9 ?_;obtain⟨v,hv⟩:=ak (l:=lv) (i:=j) (by rw[hM.ln,ad];exact t);obtain⟨p,hp⟩:=ak (l:=n) (i:=j) a_;refine aJ (u.ly.ls bh) rfl hv ?_;rw[show ER v=[v]from rfl];refine c_ ?_;have hT:=(u.tr j v p hv hp).ls;refine ab hT.g_ ?_;refine m9 ?_;obtain⟨y1,y2,g',c3,c4,o3,a5,k3,l3⟩:=clclN hT (ag p (A9 hp));refine ai c3 ?_;refine c_ ?_;refine ai (c4 g') ?_;refine c_ ?_;have an:i' (W h) g' (DW (O ⟨W f,0,le 4⟩) (W AT) (W AT+1)) 4 LC L:=I.ke λi o d _=>k3 i o d;refine an.Ny jK rfl a_ (a:=(a,y2,p)) rfl ?_;intro g4 ap y a8;refine m9 ?_;rw[aI (by have:=R.al;omega)];have a7:W f<W g:=a_;refine B _ _ _ ?_ ⟨j+1,L.set j (a,y2,p),rfl,rfl,t,jw,ap,λs A=>?_,?_,λi o d X=>y i o (k3 i o (z i o d X)) λe=>X (by cases e;rfl),a_⟩
  .omega
  .rcases qbC A with A|rfl
   .obtain⟨q1,Z⟩:=T s A;refine⟨q1.ke λi o d hb=>y i o (k3 i o d) λe=>Z ?_,Z⟩;rw[hb,←e];rfl
   .have Z:i_ y2≠O (W f):=λe=>by have:=(o3.i_ e).1;omega
    refine⟨?_,Z⟩;have o5:i' (W g) g4 y2 1 l_ p:=o3.ke λi o d hb=>y i o d λe=>Z (by rw[hb,←e];rfl);rcases o5 with h0|⟨id,cx,r1,r2,r3⟩
    .exact .inl h0
    .exact .inr ⟨id,cx,r1,a_,r3⟩
  .rw[Kx,Kx,ME,List.take_set_of_le a_,ax]
   grind)
 grind
end
end Go.Am
namespace Go.Am
open Sx
structure Gl(IDS:List (TC))(N:Nat):Prop where
 ne:∀l∈IDS,l≠[]
 lt:∀l∈IDS,∀x∈l,x<N
 nd:∀l∈IDS,l.Nodup
 dj:IDS.Pairwise λa b=>∀x∈a,x∉b
structure Xe(rN:List Lit)(pn:Ti)(S:(Nat->Bool)->Prop)(F:List DZ)(N:Nat)(DJ:TE)(us:Ty)(I0:List (TC))(D:List (TC))(p ids:TC)(li:List (TC)):Prop where
 nod:SB rN pn S DJ D p (EA us ids)
 ul:us.length=N
 dl:D.length=I0.length
 pm:(p++EA us ids).Perm ids
 dm:∀(i:Nat) d l,D[i]?=some d->I0[i]?=some l->d.Perm l
 fr:∀l∈li,∀x∈l,us.getD x false=false
 ev:(p≠[]∨D≠[])->Lq rN DJ F
section
variable {rN:List Lit} {pn:Ti} {S:(Nat->Bool)->Prop} {F:List DZ} {N:Nat} {DJ:TE} {us:Ty} {I0 D:List (TC)} {p ids:TC} {li:List (TC)} (g:Gl (I0++ids::li) N) (hn:Xe rN pn S F N DJ us I0 D p ids li)
include g hn
theorem Xe.child{id:Nat}(j_:id∈EA us ids){c:TE}(h1:SB rN pn S c D (p++[id]) ((EA us ids).erase id))(i:Lq rN c F):Xe rN pn S F N c (us.set id J) I0 D (p++[id]) ids li:=by
 have f:ids∈I0++ids::li:=d_;obtain⟨d,m⟩:=qU.1 j_;have b:=uN (us:=us) (g.nd ids f) (id:=id) (by rw[hn.ul];exact g.lt ids f id d);refine⟨by rw[b];exact h1,by rw[HP];exact hn.ul,hn.dl,?_,hn.dm,λl b x h=>?_,λ_=>i⟩
 .rw[b,Gu];refine List.Perm.trans ?_ hn.pm
  grind
 .have a:=g.dj;rw[qcd]at a;have j:=(MB.1 a.2.1).1 l b id d;have k:id≠x:=λe=>j (by rw[e];exact h);have:=hn.fr l b x h
  simp_all
theorem Xe.pne(h0:EA us ids=[]):p≠[]:=λe=>by have:=hn.pm;rw[h0,e]at this;exact g.ne ids d_ this.symm.eq_nil
theorem Xe.next{l:TC}{h:List (TC)}(h0:EA us ids=[])(j:li=l::h):Xe rN pn S F N DJ us (I0++[ids]) (D++[p]) [] l h:=by
 subst j;have k:EA us l=l:=by unfold EA;rw[qc6];intro x m;rw[hn.fr l d_ x m];rfl
 have b:=hn.nod;rw[h0]at b;refine⟨by rw[k];exact b.next,hn.ul,by simp[hn.dl],k_,λi d f c a=>?_,λf a=>hn.fr f (by simp[a]),λ_=>hn.ev (.inl (Xe.pne g hn h0))⟩;rw[qbX]at c a;by_cases e:i<W D
 .rw[rv e]at c;rw[rv (by rw[←hn.dl];exact e)]at a;exact hn.dm i d f c a
 .rw[ts e]at c;rw[ts (by rw[←hn.dl];exact e),←hn.dl]at a;have:i-W D=0:=by grind
  rw[this]at c a;cases c;cases a;have:=hn.pm
  simp_all
theorem Xe.leaf{r:TF}(m:Lg rN r)(h0:EA us ids=[])(n:li=[])(t:∀f∈F,∀l∈[f.1,f.2.1,f.2.2.1,f.2.2.2],∃q∈I0++ids::li,∃a∈q,∃b∈q,a≠b/\l=Em pn a b):E6 pn S F (D++[p])=J:=by
 subst n;have c:=hn.nod;rw[h0]at c;refine c.leaf m (hn.ev (.inl (Xe.pne g hn h0))) λf j l u=>?_;obtain⟨q,h,a,w,b,x,o,e⟩:=t f j l u;rcases F_.1 h with h|h
 .obtain⟨i,k⟩:=E4 h;obtain⟨d,s⟩:=ak (l:=D) (i:=i) (by rw[hn.dl];exact ah k);have v:=hn.dm i d q s k
  grind
 .rw[HN]at h;subst h;have v:=hn.pm
  grind
end
section
variable {g9:Type} (f:List (TC)->g9->g9×Bool) (ok:List (TC)->Bool)
def nm(D:List (TC))(p r:TC)(li:List (TC))(l:TC):List (List (TC)):=l.flatMap λa=>HK D (p++[a]) (r.erase a) li
def PN{D:List (TC)}{p r:TC}{li:List (TC)}(a:r≠[]):nm D p r li r=HK D p r li:=(AW a).symm
def yN{D:List (TC)}{p r:TC}{li:List (TC)}{l m:TC}:(nm D p r li (l++m)).filter ok=(nm D p r li l).filter ok++(nm D p r li m).filter ok:=by
 unfold nm
 simp_all
def PP{D:List (TC)}{p r:TC}{li:List (TC)}{a:Nat}:nm D p r li [a]=HK D (p++[a]) (r.erase a) li:=by unfold nm;simp
end
end Go.Am
namespace Go.Am
open Sx Go.Proofs
def T5(l:Nat):M3 (.func (.yield l) #[] #[]) (.func (.yield l) #[] #[])=O ():=by
 unfold M3
 simp_all
abbrev stY(c:XC)(xc a:FO):List S0:=[.agg [.i DQ (DO c.w),.i DQ (DO c.v),.v xc,.i DU (DO c.r.1),.i DQ c.r.2.1,.i DQ c.r.2.2,.v a]]
structure Yl{g9:Type}(l:Nat)(c:XC)(AT:List K3)(CR:TD)(k1:Nat)(mu:Tz)(f:List (TC)->g9->g9×Bool)(X:List (List (TC)))(live:g9->Prop)(po:g9->(Nat->Prop)->HL->Prop):Prop where
 kp:∀s B h h',po s B h->(∀(j:Nat) o,B j->h[j]?=some o->h'[j]?=some o)->po s B h'
 lt:∀s B h,po s B h->∀j,B j->j<h.length
 sp:∀s B h,po s B h->∀j,B j->(mu j∨k1<=j)/\i_ c.va≠some j/\i_ c.us≠some j/\i_ c.lay≠some j
 y:∀s B h,po s B h->live s->∀x∈X,∀n0 xc sv,(∀j,B j->j<n0)->n0<=h.length->i' n0 h xc 3 q9 CR->StO n0 h sv (AT.zip x)->
  ∃h' B',iO cc l (ao (stY c xc sv)) (h_ aa h) (.bool (f x s).2) (h_ aa h')/\po (f x s).1 B' h'/\(∀(j:Nat) o,h[j]?=some o->¬B j->j<n0->h'[j]?=some o)/\h.length<=h'.length/\(∀j,B' j->B j∨n0<=j)/\((f x s).2=true->live (f x s).1)
def MS(q1 q2 q3:Nat):FO:=.func (.func 50) ⟨[]⟩ ⟨[lM q1,lM q2,lM q3]⟩
structure Qc(h:HL)(b l q1 q2 q3:Nat):Prop where
 c1:h[q1]?=some (.o (.cells [lM b] 1 true))
 c2:h[q2]?=some (.o (.cells [.func (.yield l) #[] #[]] 1 true))
 c3:h[q3]?=some (.o (.cells [MS q1 q2 q3] 1 true))
def Qc.ke{h h':HL}{b l q1 q2 q3:Nat}(c:Qc h b l q1 q2 q3)(a:∀(j:Nat) o,h[j]?=O o->j=q1∨j=q2∨j=q3->h'[j]?=O o):Qc h' b l q1 q2 q3:=
 ⟨a _ _ c.c1 (.inl rfl),a _ _ c.c2 (.inr (.inl rfl)),a _ _ c.c3 (.inr (.inr rfl))⟩
section
variable {b:Nat} {c:XC} {rN:List Lit} {F:List DZ} {pn:Ti} {AT:List K3} {IDS:List (TC)} {CR:TD} {k1:Nat} {mu:Tz} {P:HL->Prop} (R:Ro b c rN F pn AT IDS CR k1 mu P)
 {g9:Type} {l:Nat} {f:List (TC)->g9->g9×Bool} {X:List (List (TC))} {live:g9->Prop} {po:g9->(Nat->Prop)->HL->Prop} (Y:Yl l c AT CR k1 mu f X live po)
include R Y
theorem leaf_c{h:HL}(p:P h){DJ:TE}{us:Ty}{a:List (TC)}{lv:Tn}(z:Mt h c k1 DJ us a lv)(m:W a=W AT)(n:∀l∈a,W l<=1000000){q1 q2 q3:Nat}(e:Qc h b l q1 q2 q3){s:g9}{B:Tz}(u:po s B h)(r:live s)(A:a∈X) :
  ∃h' B',aD cc ac 50 [.i (DO (W AT)),.v (lM q1),.v (lM q2),.v (lM q3)] (h_ aa h) [.b (f a s).2] (h_ aa h')/\po (f a s).1 B' h'/\(∀(j:Nat) o,h[j]?=O o->¬B j->h'[j]?=O o)/\h.length<=W h'/\(∀j,B' j->B j∨h.length<=j)/\((f a s).2=J->live (f a s).1):=by
 have D:=x50 (ls:=[.i (DO (W AT)),.v (lM q1),.v (lM q2),.v (lM q3)]) (K:=λL h'=>L=[.b (f a s).2]/\∃B',po (f a s).1 B' h'/\(∀(j:Nat) o,h[j]?=O o->¬B j->h'[j]?=O o)/\h.length<=W h'/\(∀j,B' j->B j∨h.length<=j)/\((f a s).2=J->live (f a s).1)) (H:=h) (mc (o_ (az _) (o_ (az _) (o_ (az _) vc)))) (by
  unfold f50;simp only[w7];refine c_ ?_;refine cY (bp e.c1) rfl ?_;refine c_ ?_;refine ab (az _) ?_;refine m9 ?_;refine bA (ds:=[c.at_]) (R.hb h p) (by simp[aj]) rfl ?_;refine c_ ?_;have hA:=R.ia h p;refine ab hA.g_ ?_;refine m9 ?_;refine aO hA ?_;rw[ub rfl];refine c_ ?_;refine cY (bp e.c2) rfl ?_;refine c_ ?_;refine ab rfl ?_;refine m9 ?_;refine cY (bp e.c1) rfl ?_;refine c_ ?_;refine ab (az _) ?_;refine m9 ?_;obtain⟨xc,w,g,x,G,I,d,E⟩:=f2 R p z m n;refine ai x ?_;refine c_ ?_;have k:po s B g:=Y.kp s B h g u λj o _ q=>d j o q;obtain⟨h',B',C,M,N,S,T,V⟩:=Y.y s B g k r a A (W h) xc w (λj q=>Y.lt s B h u j q) E G I;have t:=d _ _ e.c2;refine cY (bp t) rfl ?_;refine c_ ?_;refine ab rfl ?_;refine m9 ?_;refine af (T5 l) ?_;refine m9 ?_;refine u2 (ys:=stY c xc w) C ?_;refine c_ ?_
  grind)
 grind
end
def yS{j7:Type}{h:HL}{v:TV}{e:Nat}{enc:j7->Tn}{l:List j7}(c:q_ h v e enc l){j:Nat}(a:i_ v=O j):j<W h:=by
 rcases c.2.2 with⟨rfl,_⟩|⟨id,d,g,i,f,rfl,b,_⟩
 .cases a
 .cases a;exact ah b
def lL(q1 q2 q3:Nat):aH (MS q1 q2 q3)=J:=by simp[MS,aH,q8,aW,bG,bu,aR,aL]
def Re{j7:Type}{a:j7}:∀ {D Z:List j7} {x:j7},(D++x::Z).set (W D) a=D++a::Z
 | [],_,_=>rfl
 |d::D,Z,x=>by simp_all
def Bf{j7:Type}{D Z:List j7}{x:j7}:(D++x::Z)[W D]?=O x:=by simp_all
structure Sep(lv:Tn)(B:Tz)(k1 q1 q2 q3:Nat):Prop where
 lb:∀v∈lv,∀j,i_ v=some j->¬B j
 q:∀j,j=q1∨j=q2∨j=q3->k1<=j/\¬B j/\∀v∈lv,i_ v≠some j
section
variable {b:Nat} {c:XC} {rN:List Lit} {F:List DZ} {pn:Ti} {AT:List K3} {IDS:List (TC)} {CR:TD} {k1:Nat} {mu:Tz} {P:HL->Prop} (R:Ro b c rN F pn AT IDS CR k1 mu P)
 {g9:Type} {l:Nat} {f:List (TC)->g9->g9×Bool} {X:List (List (TC))} {live:g9->Prop} {po:g9->(Nat->Prop)->HL->Prop} (Y:Yl l c AT CR k1 mu f X live po)
 {r:TF} (hF:Lg rN r) {N:Nat} (hG:Gl IDS N) (hf0:∀f∈F,∀l∈[f.1,f.2.1,f.2.2.1,f.2.2.2],∃q∈IDS,∃a∈q,∃b∈q,a≠b/\l=Em pn a b) {S:(Nat->Bool)->Prop} {q1 q2 q3:Nat}
include R Y hF hG hf0
theorem node_c:∀(m:Nat) (I0 D:List (TC)) (p d:TC) (li:List (TC)) (DJ:TE) (us:Ty) (lv:Tn) (h:HL) (s:g9) (B:Tz),m=(li.map λl=>W l+1).sum+W (EA us d)->IDS=I0++d::li->Xe rN pn S F N DJ us I0 D p d li->(∀x∈HK D p (EA us d) li,x∈X)->P h->Mt h c k1 DJ us (D++p::li.map λ_=>[]) lv->
  Qc h b l q1 q2 q3->Sep lv B k1 q1 q2 q3->po s B h->live s->
  ∃h' B' ag,aD cc ac 50 [.i (DO (W D)),.v (lM q1),.v (lM q2),.v (lM q3)] (h_ aa h) [.b (Ij f ((HK D p (EA us d) li).filter (E6 pn S F)) s).2] (h_ aa h')/\P h'/\Mt h' c k1 DJ us (D++p::li.map λ_=>[]) ag/\
   po (Ij f ((HK D p (EA us d) li).filter (E6 pn S F)) s).1 B' h'/\((Ij f ((HK D p (EA us d) li).filter (E6 pn S F)) s).2=J->live (Ij f ((HK D p (EA us d) li).filter (E6 pn S F)) s).1)/\
   (∀v∈ag,∀j,i_ v=O j->((∃w∈lv,i_ w=O j)∨h.length<=j)/\¬B' j)/\(∀j,B' j->B j∨h.length<=j)/\(∀(j:Nat) o,k1<=j->h[j]?=O o->(∀v∈lv,i_ v≠O j)->¬B j->h'[j]?=O o)/\h.length<=W h':=by
 intro m
 induction m using Nat.strongRecOn with
 |_ m ih=>
 intro I0 D p d li DJ us lv h s B hm hI hN hX hP hM hq hs hJ M;have ex:W D=W I0:=hN.dl;have dD:W IDS=W I0+(W li+1):=by rw[hI];simp
 have et:=R.il;have an:IDS[W D]?=O d:=jw;have bx:(D++p::li.map λ_=>([]:TC))[W D]?=O p:=Bf;have ax:W (D++p::li.map λ_=>([]:TC))=W AT:=by simp;omega
 have aE:d∈IDS:=A9 an;obtain⟨ea,eC,eE⟩:=R.ib d aE;have eF:W p+W (EA us d)=W d:=by
  have:=hN.pm.length_eq
  grind
 obtain⟨v0,dk⟩:=ak (l:=lv) (i:=W D) (by rw[hM.ln,ax];omega);have cs:=hM.tr (W D) v0 p dk bx;obtain⟨vs,i2,i4⟩:=R.ids;obtain⟨i1,i3⟩:=i4 h hP;obtain⟨vi,a9⟩:=ak (l:=vs) (i:=W D) a_;have a6:=i3 (W D) vi d a9 an;have ev:W D<=1000000:=by have:=R.al;omega
 obtain⟨V,eV⟩ : ∃V,V=Ij f ((HK D p (EA us d) li).filter (E6 pn S F)) s:=⟨_,rfl⟩;rw[←eV];have eP:=x50 (ls:=[.i (DO (W D)),.v (lM q1),.v (lM q2),.v (lM q3)]) (K:=λrs h'=>rs=[.b V.2]/\∃B' ag,P h'/\Mt h' c k1 DJ us (D++p::li.map λ_=>[]) ag/\po V.1 B' h'/\(V.2=J->live V.1)/\
   (∀v∈ag,∀j,i_ v=O j->((∃w∈lv,i_ w=O j)∨h.length<=j)/\¬B' j)/\(∀j,B' j->B j∨h.length<=j)/\(∀(j:Nat) o,k1<=j->h[j]?=O o->(∀v∈lv,i_ v≠O j)->¬B j->h'[j]?=O o)/\h.length<=W h') (H:=h) (mc (o_ (az _) (o_ (az _) (o_ (az _) vc)))) (by
  unfold f50;simp only[w7];refine c_ ?_;refine cY (bp hq.c1) rfl ?_;refine c_ ?_;refine ab (az _) ?_;refine m9 ?_;refine bA (ds:=[c.at_]) (R.hb h hP) (by simp[aj]) rfl ?_;refine c_ ?_;have hA:=R.ia h hP;refine ab hA.g_ ?_;refine m9 ?_;refine aO hA ?_;rw[tx (λe=>jw)];refine c_ ?_;refine cY (bp hq.c1) rfl ?_;refine c_ ?_;refine ab (az _) ?_;refine m9 ?_;refine bA (ds:=[c.lay]) (R.hb h hP) (by simp[aj]) rfl ?_;refine c_ ?_;refine ab (hM.ly.g_ bh) ?_;refine m9 ?_;refine aJ (hM.ly.ls bh) rfl dk ?_;rw[show ER v0=[v0]from rfl];refine c_ ?_;refine ab cs.g_ ?_;refine m9 ?_;refine aO cs.ls ?_;refine cY (bp hq.c1) rfl ?_;refine c_ ?_;refine ab (az _) ?_;refine m9 ?_;refine bA (ds:=[c.ids]) (R.hb h hP) (by simp[aj]) rfl ?_;refine c_ ?_;refine ab i1.g_ ?_;refine m9 ?_;refine aJ i1 rfl a9 ?_;rw[show ER vi=[vi]from rfl];refine c_ ?_;refine ab a6.g_ ?_;refine m9 ?_;refine aO a6 ?_;by_cases hr:EA us d=[]
  · -- a stack is done
   have ec:W (EA us d)=0:=by rw[hr];rfl
   rw[ub (congrArg DO a_)];refine c_ ?_;refine cY (bp hq.c3) rfl ?_;refine c_ ?_;refine ab (lL q1 q2 q3) ?_;refine m9 ?_;rw[aI a_,show DO (W D)+1=DO (W D+1)from rfl];cases hQ:li with
   |nil=>
    subst hQ;have b0:=hN.leaf (hI▸hG) hF hr rfl (λf hf l hl=>by
     have:=hf0 f hf l hl
     rwa [hI]at this)
    have d3:D++[p]∈X:=hX _ (by rw[hr,AU];simp);have bC:V=((f (D++[p]) s).1,(f (D++[p]) s).2):=by
     rw[eV,hr,AU,qcZ,b0,rv rfl,List.filter_nil,qd];cases ez:(f (D++[p]) s).2 with
     |true=>rfl
     |false=>rfl
    have dB:W D+1=W AT:=by simp at dD;omega
    rw[dB];obtain⟨h',B',cf,j1,j2,j3,j4,j5⟩:=leaf_c R Y hP hM ax (λl hl=>by
     obtain⟨i,n⟩:=E4 hl;rcases F_.1 hl with hl|hl
     .obtain⟨i,n⟩:=E4 hl;obtain⟨l2,a0⟩:=ak (l:=I0) (i:=i) jw;rw[(hN.dm i l l2 n a0).length_eq];exact(R.ib l2 jw).2.1
     grind) hq hJ M d3
    refine gK (iV cf rfl [.leaf (.i DQ (DO (W AT))),.leaf (.v (lM q1)),.leaf (.v (lM q2)),.leaf (.v (lM q3))] rfl rfl rfl) ?_;refine c_ ?_;rw[bC];refine⟨Ei,B',lv,R.kp h h' hP λj o jk jm hj=>j2 j o hj λhB=>?_,hM.ke λj o hj hb=>j2 j o hj λhB=>?_,j1,j5,λv z j hj=>⟨.inl ⟨v,z,hj⟩,λhB=>?_⟩,j4,λj o _ hj _ hB=>j2 j o hj hB,j3⟩
    .rcases(Y.sp s B h hJ j hB).1 with e|e
     .exact jm e
     .omega
    .obtain⟨_,a1,a2,a3⟩:=Y.sp s B h hJ j hB;rcases hb with hb|hb|hb|⟨v,z,hb⟩
     .exact a1 hb
     .exact a2 hb
     .exact a3 hb
     .exact hs.lb v z j hb hB
    .rcases j4 j hB with e|e
     .exact hs.lb v z j hj e
     .obtain⟨i,n⟩:=E4 z;obtain⟨l2,a0⟩:=ak (l:=D++p::([]:List (TC)).map λ_=>([]:TC)) (i:=i) (by rw[←hM.ln];exact ah n);have:=(hM.tr i v l2 n a0).lt hj;omega
   |cons l0 Q'=>
    subst hQ;have c5:EA us l0=l0:=by unfold EA;rw[qc6];intro x hx;rw[hN.fr l0 d_ x hx];rfl
    have d0:=hN.next (hI▸hG) hr rfl
    have cl:D++p::(l0::Q').map (λ_=>([]:TC))=(D++[p])++[]::Q'.map λ_=>[]:=d_;have bC:V=Ij f ((HK (D++[p]) [] (EA us l0) Q').filter (E6 pn S F)) s:=by rw[eV,hr,AV,c5]
    obtain⟨h',B',ag,cf,r1,r2,r3,r4,r5,r6,r7,r8⟩:=ih ((Q'.map λl=>W l+1).sum+W (EA us l0)) jw (I0++[d]) (D++[p]) [] l0 Q' DJ us lv h s B rfl (by rw[hI];simp) d0 (λx hx=>hX x (by rw[hr,AV];rwa [c5]at hx)) hP (by rw[←cl];exact hM) hq hs hJ M;rw[←bC]at cf r3 r4;rw[show(D++[p]).length=W D+1 from by simp]at cf;refine gK (iV cf rfl [.leaf (.i DQ (DO (W D+1))),.leaf (.v (lM q1)),.leaf (.v (lM q2)),.leaf (.v (lM q3))] rfl rfl rfl) ?_;refine c_ ?_;rw[←cl]at r2;exact⟨Ei,B',ag,r1,r2,r3,r4,r5,r6,r7,r8⟩
  · -- something is left
   have ec:=qbG.2 hr;rw[tx (λe=>jw)];refine c_ ?_;refine cY (bp hq.c1) rfl ?_;refine c_ ?_;refine ab (az _) ?_;refine m9 ?_;refine bA (ds:=[c.ids]) (R.hb h hP) (by simp[aj]) rfl ?_;refine c_ ?_;refine ab i1.g_ ?_;refine m9 ?_;refine aJ i1 rfl a9 ?_;rw[show ER vi=[vi]from rfl];refine c_ ?_;refine ab a6.g_ ?_;refine m9 ?_;refine aO a6 ?_;have ei:Mt h c k1 DJ us (D++p::li.map λ_=>[]) lv:=hM;have d9:∀ {g:HL} {u:Tn} {W2:TE} {dA:Ty} {bt:List (TC)},Mt g c k1 W2 dA bt u->∀v∈u,∀i,i_ v=O i->i<W g:=λ{g u W2 dA bt} cm v z i n=>by obtain⟨k,hk⟩:=E4 z;obtain⟨l2,a0⟩:=ak (l:=bt) (i:=k) (by rw[←cm.ln];exact ah hk);exact(cm.tr k v l2 hk a0).lt n
   refine aN (m:=W d) (λm ls g=>∃j u I s2,ls=[.i (DO j)]/\m=W d-j/\j<=W d/\P g/\Mt g c k1 DJ us (D++p::li.map λ_=>[]) u/\Ij f ((nm D p (EA us d) li (EA us (d.take j))).filter (E6 pn S F)) s=(s2,J)/\po s2 I g/\live s2/\
    (∀v∈u,∀i,i_ v=O i->((∃w∈lv,i_ w=O i)∨h.length<=i)/\¬I i)/\(∀i,I i->B i∨h.length<=i)/\(∀(i:Nat) o,k1<=i->h[i]?=O o->(∀v∈lv,i_ v≠O i)->¬B i->g[i]?=O o)/\h.length<=W g)
    ⟨0,lv,B,s,rfl,rfl,Eg _,hP,hM,rfl,hJ,M,λv z i n=>⟨.inl ⟨v,z,n⟩,hs.lb v z i n⟩,λi n=>.inl n,λi o _ n _ _=>n,B7 _⟩ ?_
   rintro m ls g ⟨j,u,I,s2,rfl,rfl,hj,a7,ay,b7,ck,c6,bP,eu,c0,ej⟩ es b6;refine Fc ?_;have c8:∀i,i=q1∨i=q2∨i=q3->i<W h:=λi n=>by
    rcases n with rfl|rfl|rfl
    .exact ah hq.c1
    .exact ah hq.c2
    .exact ah hq.c3
   have b5:Qc g b l q1 q2 q3:=hq.ke λi o n hb=>c0 i o (hs.q i hb).1 n (hs.q i hb).2.2 (hs.q i hb).2.1;have ap:∀i,i=q1∨i=q2∨i=q3->k1<=i/\¬I i/\∀v∈u,i_ v≠O i:=λi n=>by
    obtain⟨a1,a2,a3⟩:=hs.q i n;have a4:=c8 i n
    grind
   refine c_ ?_;by_cases b3:j<W d
   case neg=>
    obtain rfl:j=W d:=a_;rw[aw (B7 _)];refine c_ ?_;rw[y0,PN hr,←eV]at b7
    grind
   rw[aB b3];simp(disch:=omega)only[↓DT];obtain⟨y,hy⟩:=ak b3;have b8:=A9 hy;have dr:y<W us:=by rw[hN.ul];exact hG.lt d aE y b8
   have dC:q_ g vi 1 l_ d:=(i4 g a7).2 (W D) vi d a9 an;have be:∀ {t:Bool},us.getD y U=t->EA us (d.take (j+1))=EA us (d.take j)++if t=J then []else [y]:=λ{t} ht=>by
    rw[Kx,hy];unfold EA
    grind
   refine di (λls g'=>ls=[]/\∃A E s3,P g'/\Mt g' c k1 DJ us (D++p::li.map λ_=>[]) A/\Ij f ((nm D p (EA us d) li (EA us (d.take (j+1)))).filter (E6 pn S F)) s=(s3,J)/\po s3 E g'/\live s3/\
    (∀v∈A,∀i,i_ v=O i->((∃w∈lv,i_ w=O i)∨h.length<=i)/\¬E i)/\(∀i,E i->B i∨h.length<=i)/\(∀(i:Nat) o,k1<=i->h[i]?=O o->(∀v∈lv,i_ v≠O i)->¬B i->g'[i]?=O o)/\h.length<=W g') ?_ ?_
   case refine_1=>rintro ls g' ⟨rfl,A,E,s3,z1,z2,z3,z4,z5,z6,z7,z8,z9⟩;refine c_ ?_;rw[aI a_];exact b6 _ _ _ a_ ⟨j+1,A,E,s3,rfl,rfl,b3,z1,z2,z3,z4,z5,z6,z7,z8,z9⟩
   intro jj d7;refine aJ dC rfl hy ?_;rw[show l_ y=[EO DQ (DO y)]from rfl];simp(disch:=omega)only[↓DT];refine cY (bp b5.c1) rfl ?_;simp(disch:=omega)only[↓DT];refine ab (az _) ?_
   try simp(disch:=omega)only[↓DT]
   refine bA (ds:=[c.us]) (R.hb g a7) (by simp[aj]) rfl ?_;simp(disch:=omega)only[↓DT];refine ab (ay.us.g_ cS) ?_
   try simp(disch:=omega)only[↓DT]
   obtain⟨t,eg⟩:=ak dr;have a5:us.getD y U=t:=jw;refine aJ (ay.us.ls cS) rfl eg ?_;rw[show D0 t=[.bool t]from rfl];simp(disch:=omega)only[↓DT];cases t with
   |true=>
    simp(disch:=omega)only[↓DT]
    grind
   |false=>
    simp(disch:=omega)only[↓DT];obtain⟨Z,eZ⟩ : ∃Z,Z=li.map λ_=>([]:TC):=⟨_,rfl⟩;rw[←eZ]at ay bx ax;have ef:y∈EA us d:=qU.2 ⟨b8,a5⟩;obtain⟨L,ca⟩ : ∃L,L=g++[HO.o (EJ [DW Q 0 0] 1 J)]:=⟨_,rfl⟩;rw[←ca];have av:∀(i:Nat) o,g[i]?=O o->L[i]?=O o:=λi o n=>jw;have eX:W L=W g+1:=by rw[ca];simp
    have cw:L[W g]?=O (.o (EJ [DW Q 0 0] 1 J)):=jw;have c4:=R.lt g a7;have bs:∀j,i_ c.va=O j->j<k1:=λj e=>(R.s.s1 j e).1;have bn:∀j,i_ c.us=O j->j<k1:=λj e=>(R.s.s2 j e).1;have bk:=R.s.s3;refine di (λls G=>∃t W2 T x2 A E s3,ls=[.b t]/\P G/\Mt G c k1 W2 (us.set y J) (D++(p++[y])::Z) A/\W2.length=W rN/\G[W g]?=O (.o (EJ [x2] 1 J))/\q_ G x2 1 l_ T/\T.length<=1000000/\(∀i∈T,i<W rN)/\Mn T W2=DJ/\
     (∀i,i_ x2=O i->k1<=i/\∀v∈A,i_ v≠O i)/\Ij f ((HK D (p++[y]) ((EA us d).erase y) li).filter (E6 pn S F)) s2=(s3,t)/\po s3 E G/\(t=J->live s3)/\(∀v∈A,∀i,i_ v=O i->((∃w∈u,i_ w=O i)∨g.length<=i)/\¬E i)/\(∀i,E i->I i∨g.length<=i)/\
     (∀(i:Nat) o,k1<=i->g[i]?=O o->(∀v∈u,i_ v≠O i)->¬I i->G[i]?=O o)/\g.length<=W G) ?_ ?_
    case refine_1=>
     rintro ls G ⟨t,W2,T,x2,A,E,s3,rfl,z1,z2,z3,z4,z5,z6,z7,z8,z9,y1,y2,y3,y4,y5,y6,y7⟩;simp(disch:=omega)only[↓DT];have a8:Qc G b l q1 q2 q3:=b5.ke λi o n hb=>y6 i o (ap i hb).1 n (ap i hb).2.2 (ap i hb).2.1;refine cY (bp a8.c1) rfl ?_;simp(disch:=omega)only[↓DT];refine ab (az _) ?_
     try simp(disch:=omega)only[↓DT]
     refine cY (bp z4) rfl ?_;simp(disch:=omega)only[↓DT];refine ab z5.g_ ?_
     try simp(disch:=omega)only[↓DT]
     obtain⟨v4,g3,cr,cq,cn,eG,d8,eD⟩:=m0 R z1 z2 (st:=W D) (id:=y) (p:=p) Bf a_ jw z5 z9 z6 (λi n=>by rw[z3];exact z7 i n);refine ai cr ?_;simp(disch:=omega)only[↓DT];rw[z8,w1 a5,Re]at cn;have co:Mt g3 c k1 DJ us (D++p::li.map λ_=>[]) (A.set (W D) v4):=by rw[←eZ];exact cn
     have dj:W D<W A:=by rw[z2.ln];simp
     have bl:∀v∈A.set (W D) v4,∀i,i_ v=O i->((∃w∈lv,i_ w=O i)∨h.length<=i)/\¬E i:=λv z i n=>by
      obtain⟨v5,dn,e5⟩ : ∃v5∈A,i_ v5=O i:=by
       rcases qbC z with z|rfl
       .exact⟨v,z,n⟩
       .obtain⟨v5,dn⟩:=ak dj
        grind
      obtain⟨a1,a2⟩:=y4 v5 dn i e5;refine⟨?_,a2⟩;rcases a1 with⟨w,hw,e⟩|e
      .exact(bP w hw i e).1
      omega
     have cb:∀i,E i->B i∨h.length<=i:=λi n=>by grind
     have cx:∀(i:Nat) o,k1<=i->h[i]?=O o->(∀v∈lv,i_ v≠O i)->¬B i->g3[i]?=O o:=λi o C n b1 b2=>by
      have eB:=ah n;refine d8 i o (y6 i o C (c0 i o C n b1 b2) (λv z e=>?_) λe=>?_) (λe=>by have:=bs i e;omega) (λe=>by have:=bn i e;omega) λe=>by have:=bk i e;omega
      .rcases(bP v z i e).1 with⟨w,hw,e2⟩|e2
       .exact b1 w hw e2
       .omega
      grind
     have ci:po s3 E g3:=Y.kp s3 E G g3 y2 λi o n ho=>by
      obtain⟨_,a1,a2,a3⟩:=Y.sp s3 E G y2 i n
      grind
     cases t with
     |true=>simp(disch:=omega)only[↓DT,Fv];refine d7 _ _ ⟨rfl,A.set (W D) v4,E,s3,cq,co,?_,ci,y3 rfl,bl,cb,cx,a_⟩;rw[be a5,ts q7,yN,vK,b7,rv rfl,PP];exact y1
     |false=>
      simp(disch:=omega)only[↓DT,GG];have hV:V=(s3,U):=by
       have ee:EA us d=(EA us (d.take j)++[y])++EA us (d.drop (j+1)):=by have e1:=be a5;rw[ts q7]at e1;rw[←e1];unfold EA;rw[←qcr,Xi]
       have e2:=congrArg (nm D p (EA us d) li) ee;rw[PN hr]at e2;rw[eV,e2,yN,yN,Gu,vK,b7,rv rfl,PP,vK,y1];rfl
      rw[hV];exact⟨Ei,E,A.set (W D) v4,cq,co,ci,λe=>(by cases e),bl,cb,cx,a_⟩
    intro eM bd;have d2:P L:=R.kp g L a7 λi o _ _ n=>av i o n;have dT:Mt L c k1 DJ us (D++p::Z) u:=ay.ke λi o n _=>av i o n;have bm:Qc L b l q1 q2 q3:=b5.ke λi o n _=>av i o n;have cd:po s2 I L:=Y.kp s2 I g L ck λi o _ n=>av i o n;have ek:W D<W u:=by rw[ay.ln];simp
    refine cY (bp bm.c1) rfl ?_;simp(disch:=omega)only[↓DT];refine ab (az _) ?_
    try simp(disch:=omega)only[↓DT]
    obtain⟨ok,W2,T,x2,v',G,cp,p1,p2,p3,p4,p5,p6,p7,p8,p9,o1,o2,o3,o4⟩:=lA R hF d2 dT hN.nod an bx b8 a5 (λx hx=>by rw[hN.ul];exact hG.lt d aE x hx) a_ cw c4 (λv z e=>by grind)
    rw[Re]at p2;obtain⟨vb,eL,el⟩:=p9;refine ai cp ?_;simp(disch:=omega)only[↓DT];have c7:∀v∈u.set (W D) v',v∈u∨v=v':=λv z=>qbC z;have bb:∀i,I i->i<W g:=λi n=>Y.lt s2 I g ck i n;have b9:∀(i:Nat) o,k1<=i->L[i]?=O o->i≠g.length->(∀v∈u,i_ v≠O i)->G[i]?=O o:=λi o C n eb b1=>o3 i o n eb (λe=>by have:=bs i e;omega) (λe=>by have:=bn i e;omega) (λe=>by have:=bk i e;omega) λv z=>b1 v (A9 z);have ce:po s2 I G:=Y.kp s2 I L G cd λi o n ho=>by obtain⟨_,a1,a2,a3⟩:=Y.sp s2 I L cd i n;exact o3 i o ho jw a1 a2 a3 λv z e=>(bP v (A9 z) i e).2 n
    have ad:∀i,i_ x2=O i->k1<=i/\L.length<=i/\i<W G/\∀v∈u.set (W D) v',i_ v≠O i:=λi n=>by obtain⟨a1,a2⟩:=p7 i n;exact⟨a_,a1,yS p5 n,a2⟩
    have b4:∀v∈u.set (W D) v',∀i,i_ v=O i->((∃w∈u,i_ w=O i)∨L.length<=i)/\¬I i:=λv z i n=>by
     rcases c7 v z with z|rfl
     .grind
     grind
    have ct:W T<=1000000:=a_;cases ok with
    |false=>
     simp(disch:=omega)only[↓DT,GG];refine bd _ _ ⟨J,W2,T,x2,u.set (W D) v',I,s2,rfl,p1,p2,p3.1,p4,p5,ct,p6.2,p8,λi n=>⟨(ad i n).1,(ad i n).2.2.2⟩,?_,ce,λ_=>c6,λv z i n=>?_,λi n=>.inl n,λi o C n b1 b2=>b9 i o C (av i o n) jw b1,a_⟩
     .rw[o2 rfl li];rfl
     grind
    |true=>
     simp(disch:=omega)only[↓DT,Fv];have a8:Qc G b l q1 q2 q3:=bm.ke λi o n hb=>b9 i o (ap i hb).1 n (by grind) (ap i hb).2.2
     refine cY (bp a8.c3) rfl ?_;simp(disch:=omega)only[↓DT];refine ab (lL q1 q2 q3) ?_
     try simp(disch:=omega)only[↓DT]
     obtain⟨d4,d5⟩:=o1 rfl;have d1:=hN.child (hI▸hG) ef d4 d5;have d6:(EA us d).erase y=EA (us.set y J) d:=(uN ea dr).symm;have c9:Sep (u.set (W D) v') I k1 q1 q2 q3:=⟨λv z i n=>(b4 v z i n).2,λi n=>by
      obtain⟨a1,a2,a3⟩:=ap i n
      grind⟩
     obtain⟨g3,E,A,cf,r1,r2,r3,r4,r5,r6,r7,r8⟩:=ih ((li.map λl=>W l+1).sum+W (EA (us.set y J) d)) jw I0 D (p++[y]) d li W2 (us.set y J) (u.set (W D) v') G s2 I rfl hI d1 (λx hx=>hX x (by
      rw[AW hr]
      grind)) p1 (by rw[←eZ];exact p2) a8 c9 ce c6
     rw[←d6]at cf r3 r4;rw[←eZ]at r2;refine gK (iV cf rfl [.leaf (.i DQ (DO (W D))),.leaf (.v (lM q1)),.leaf (.v (lM q2)),.leaf (.v (lM q3))] rfl rfl rfl) ?_;simp(disch:=omega)only[↓DT];have cy:∀i,k1<=i->W L<=i->∀o,G[i]?=O o->(∀v∈u.set (W D) v',i_ v≠O i)->g3[i]?=O o:=λi C n o ho b1=>r7 i o C ho b1 λe=>by have:=bb i e;omega
     refine bd _ _ ⟨_,W2,T,x2,A,E,_,rfl,r1,r2,p3.1,?_,p5.ke λi o n hb=>cy i (ad i hb).1 (ad i hb).2.1 o n (ad i hb).2.2.2,ct,p6.2,p8,λi n=>⟨(ad i n).1,λv z e=>?_⟩,rfl,r3,r4,λv z i n=>?_,λi n=>?_,λi o C n b1 b2=>?_,a_⟩
     .refine r7 (W g) _ c4 p4 (λv z e=>?_) λe=>by have:=bb _ e;omega
      grind
     .obtain⟨_,_,a3,a4⟩:=ad i n;rcases(r5 v z i e).1 with⟨w,hw,e2⟩|e2
      .exact a4 w hw e2
      .omega
     .obtain⟨a1,a2⟩:=r5 v z i n;refine⟨?_,a2⟩;rcases a1 with⟨w,hw,e⟩|e
      .grind
      omega
     .grind
     .have eA:=ah n;refine r7 i o C (b9 i o C (av i o n) a_ b1) (λv z e=>?_) b2
      grind)
 grind
end
def v7{l a:Nat}{st:LoopState}{b:Tm}{vs:Tn}{h:HL}{j:Code}{K:HL->Prop}(d:h[l]?=O (.lp a st b vs))(c:K (h.set l (.lp a .done (O j) vs))):P1.I1 l (O j) h (@j_ _ ⟨K⟩):=
 ⟨{ GD (aa a) a vs with state:=st,pending:=b },h.set l (.lp a .done (O j) vs),wM d,lI,c⟩
def i'.D6{j7:Type}{n0 e:Nat}{enc:j7->Tn}{l:List j7}{h h':HL}{v:TV}(i:i' n0 h v e enc l)(g:∀(j:Nat) cs,Sx.i_ v=O j->h[j]?=O (.o (.cells cs e J))->h'[j]?=O (.o (.cells cs e J))):i' n0 h' v e enc l:=by
 rcases i with b|⟨id,a,rfl,c,d,f⟩
 .exact .inl b
 .exact .inr ⟨id,a,rfl,c,g _ _ rfl d,f⟩
def i'.n0{j7:Type}{n0 e:Nat}{enc:j7->Tn}{l:List j7}{h:HL}{v:TV}(f:i' n0 h v e enc l):i' 0 h v e enc l:=by
 rcases f with b|⟨id,a,rfl,g,c,d⟩
 .exact .inl b
 .exact .inr ⟨id,a,rfl,Eg _,c,d⟩
def i'.wid{j7:Type}{n0 e:Nat}{enc:j7->Tn}{l:List j7}{h:HL}{v:TV}(c:i' n0 h v e enc l){j:Nat}(a:Sx.i_ v=O j):∃cs,h[j]?=O (.o (.cells cs e J)):=by
 rcases c with⟨rfl,_⟩|⟨id,d,rfl,f,b,g⟩
 .cases a
 .cases a;exact⟨_,b⟩
section
variable {b:Nat} {c:XC} {rN:List Lit} {F:List DZ} {pn:Ti} {AT:List K3} {IDS:List (TC)} {CR:TD} {k1:Nat} {mu:Tz} {P:HL->Prop} (R:Ro b c rN F pn AT IDS CR k1 mu P)
 {g9:Type} {l:Nat} {f:List (TC)->g9->g9×Bool} {X:List (List (TC))} {live:g9->Prop} {po:g9->(Nat->Prop)->HL->Prop} (Y:Yl l c AT CR k1 mu f X live po)
 {r:TF} (hF:Lg rN r) {N:Nat} (hG:Gl IDS N) (hf0:∀f∈F,∀l∈[f.1,f.2.1,f.2.2.1,f.2.2.2],∃q∈IDS,∃a∈q,∃b∈q,a≠b/\l=Em pn a b) {S:(Nat->Bool)->Prop} {q0:Nat}
include R Y hF hG hf0
theorem iter_c{d:TC}{li:List (TC)}{DJ:TE}{us:Ty}{lv:Tn}{h:HL}{s:g9}{B:Tz}(hI:IDS=d::li)(hN:Xe rN pn S F N DJ us [] [] [] d li)(hX:∀x∈Ec (EA us d::li),x∈X)(hP:P h)(G:Mt h c k1 DJ us ([]::li.map λ_=>[]) lv)
  (h0:h[q0]?=O (.o (EJ [lM b] 1 J))) (al:k1<=q0) (ag:¬B q0) (an:∀v∈lv,i_ v≠O q0) (V:∀v∈lv,∀j,i_ v=O j->¬B j) (D:po s B h) (t:live s) :
  ∃h' B',aD cc ac 49 [.v (.func (.yield l) #[] #[]),.v (lM q0)] (h_ aa h) [] (h_ aa h')/\po (Ij f ((Ec (EA us d::li)).filter (E6 pn S F)) s).1 B' h'/\P h':=by
 have y:HK [] [] (EA us d) li=Ec (EA us d::li):=by unfold HK;rw[show Ec (EA us d::li)=(KY (W (EA us d)) (EA us d)).flatMap λp=>(Ec li).map (p :: ·)from rfl];simp
 have av:=x49 (ls:=[.v (.func (.yield l) #[] #[]),.v (lM q0)]) (K:=λrs h'=>rs=[]/\∃B',po (Ij f ((Ec (EA us d::li)).filter (E6 pn S F)) s).1 B' h'/\P h') (H:=h) (o_ rfl (o_ (az _) vc)) (by
  unfold f49;simp only[w7];refine c_ ?_;have M:=R.lt h hP;obtain⟨g,e1⟩ : ∃g,g=h++[HO.o (EJ [.func (.yield l) #[] #[]] 1 J)]:=⟨_,rfl⟩;rw[←e1];have l1:W g=W h+1:=by rw[e1];simp
  obtain⟨u,A⟩ : ∃u,u=g++[HO.o (EJ [.nilFunc] 1 J)]:=⟨_,rfl⟩;rw[←A];have l2:W u=W h+2:=by rw[A];simp;omega
  have ad:Value.func (.func 50) ⟨[]⟩ ⟨[lM q0,lM (W h),lM (W g)]⟩=MS q0 (W h) (W g):=rfl;refine ab (lL q0 (W h) (W g)) ?_;refine m9 ?_;have L:u[W g]?=O (.o (EJ [.nilFunc] 1 J)):=by rw[A];exact aG
  refine oZ L rfl ?_;obtain⟨m,e3⟩ : ∃m,m=u.set (W g) (.o (EJ [MS q0 (W h) (W g)] 1 J)):=⟨_,rfl⟩;have C:u.set (W g) (.o (EJ [.func (.func 50) ⟨[]⟩ ⟨[lM q0,lM (W h),lM (W g)]⟩] 1 J))=m:=e3.symm
  try rw[C]
  have z:∀(i:Nat) o,h[i]?=O o->m[i]?=O o:=λi o n=>by grind
  have l3:W m=W h+2:=jw;have c3:m[W g]?=O (.o (EJ [MS q0 (W h) (W g)] 1 J)):=jw;have c2:m[W h]?=O (.o (EJ [.func (.yield l) #[] #[]] 1 J)):=by grind
  have w:P m:=R.kp h m hP λi o _ _ n=>z i o n;have I:Mt m c k1 DJ us ([]::li.map λ_=>[]) lv:=G.ke λi o n _=>z i o n;have E:po s B m:=Y.kp s B h m D λi o _ n=>z i o n;refine m9 ?_;refine cY (bp (z _ _ h0)) rfl ?_;refine c_ ?_;refine ab (az _) ?_;refine m9 ?_;refine bA (ds:=[.bool U]) (R.hb m w) (by simp[aj]) rfl ?_;simp(disch:=omega)only[↓qb,GG];refine cY (bp c3) rfl ?_;refine c_ ?_;refine ab (lL q0 (W h) (W g)) ?_;refine m9 ?_;have hq:Qc m b l q0 (W h) (W g):=⟨z _ _ h0,c2,c3⟩;have ap:∀v∈lv,∀i,i_ v=O i->i<W h:=λv Z i n=>by obtain⟨k,hk⟩:=E4 Z;obtain⟨l2,T⟩:=ak (l:=[]::li.map λ_=>([]:TC)) (i:=k) (by rw[←G.ln];exact ah hk);exact(G.tr k v l2 hk T).lt n
  have hs:Sep lv B k1 q0 (W h) (W g):=⟨V,λi n=>by
   rcases n with rfl|rfl|rfl
   .grind
   .exact⟨M,λe=>by have:=Y.lt s B h D _ e;omega,λv Z e=>jw⟩
   .exact⟨a_,λe=>by have:=Y.lt s B h D _ e;omega,λv Z e=>jw⟩⟩
  obtain⟨h',B',ax,cf,r1,r2,r3,_⟩:=node_c R Y hF hG hf0 (S:=S) (q1:=q0) (q2:=W h) (q3:=W g) _ [] [] [] d li DJ us lv m s B rfl hI hN (λx hx=>hX x (by rw[←y];exact hx)) w I hq hs E t;rw[y]at cf r3;refine gK (iV cf rfl [.leaf (.i DQ (DO 0)),.leaf (.v (lM q0)),.leaf (.v (lM (W h))),.leaf (.v (lM (W g)))] rfl rfl rfl) ?_;refine c_ ?_
  grind)
 grind
end
def stC(c:XC)(xc a:FO):Tn:=[EO DQ (DO c.w),EO DQ (DO c.v),xc,EO DU (DO c.r.1),EO DQ c.r.2.1,EO DQ c.r.2.2,a]
def z7:Tn:=[EO DQ 0,EO DQ 0,DW Q 0 0,EO DU 0,EO DQ 0,EO DQ 0,DW Q 0 0]
structure I6(CR:TD)(AT:List K3)(C:Tz)(h:HL)(xc sv:Value)(x:List (TC)):Prop where
 xo:i' 0 h xc 3 q9 CR
 xb:∀j,i_ xc=some j->C j
 st:∃L:List SkO,i' 0 h sv 4 LC L/\(∀j,i_ sv=some j->C j)/\(∀s∈L,i' 0 h s.2.1 1 l_ s.2.2/\∀j,i_ s.2.1=some j->C j)/\L.map (λs=>(s.1,s.2.2))=AT.zip x
def I6.ke{CR:TD}{AT:List K3}{C k:Tz}{h h':HL}{xc n:TV}{x:List (TC)}(t:I6 CR AT C h xc n x)(f:∀j,C j->k j)(g:∀(j:Nat) b e,C j->e≠7->h[j]?=O (.o (.cells b e J))->h'[j]?=O (.o (.cells b e J))):I6 CR AT k h' xc n x:=by obtain⟨p,l,L,q,m,d,r⟩:=t;exact⟨p.D6 λj b c a=>g j b 3 (l j c) q7 a,λj a=>f j (l j a),L,q.D6 λj b c a=>g j b 4 (m j c) q7 a,λj a=>f j (m j a),λs i=>⟨(d s i).1.D6 λj b c a=>g j b 1 ((d s i).2 j c) q7 a,λj a=>f j ((d s i).2 j a)⟩,r⟩
def Bu{CR:TD}{AT:List K3}{h:HL}{n0:Nat}{xc f:TV}{x:List (TC)}(e:i' n0 h xc 3 q9 CR)(i:StO n0 h f (AT.zip x)):I6 CR AT (λj=>n0<=j/\j<W h) h xc f x:=by obtain⟨L,b,c,g⟩:=i;exact⟨e.n0,λj a=>e.i_ a,L,b.n0,λj a=>b.i_ a,λs d=>⟨(c s d).n0,λj a=>(c s d).i_ a⟩,g⟩
def Bnd(c:XC)(k1:Nat)(mu:Tz)(B:Tz)(h:HL):Prop:=∀j,B j->j<W h/\(mu j∨k1<=j)/\i_ c.va≠O j/\i_ c.us≠O j/\i_ c.lay≠O j
def fS(x:List (TC))(_:Option (List (TC))):Option (List (TC))×Bool:=(O x,U)
structure JSv(c:XC)(AT:List K3)(CR:TD)(k1:Nat)(mu:Tz)(l a1 a2:Nat)(s:Option (List (TC)))(B:Tz)(h:HL):Prop where
 bs:B l/\B a1/\B a2
 bd:Bnd c k1 mu B h
 ne:l≠a1/\l≠a2/\a1≠a2
 m2:h[a2]?=some (.o (.cells [.int .i64 0] 1 true))
 st:match s with
  |none=>h[l]?=some (.lp 96 .ready none [lM a1,lM a2])/\h[a1]?=some (.o (.cells z7 7 true))
  |some x=>h[l]?=some (.lp 96 .done (some .ret) [lM a1,lM a2])/\∃xc sv,h[a1]?=some (.o (.cells (stC c xc sv) 7 true))/\I6 CR AT (λj=>B j/\j≠l/\j≠a1/\j≠a2) h xc sv x
section
variable {c:XC} {AT:List K3} {CR:TD} {k1:Nat} {mu:Tz} {l a1 a2:Nat} (s3:S3x c k1)
include s3
theorem N7{B:Tz}{h h':HL}{n0:Nat}(g:Bnd c k1 mu B h)(k:k1<=n0)(i:W h<=W h'):Bnd c k1 mu (λj=>B j∨(n0<=j/\j<W h')) h':=by
 intro j d;rcases d with d|⟨d,f⟩
 .obtain⟨a,b⟩:=g j d;exact⟨a_,b⟩
 .exact⟨f,.inr a_,λe=>by have:=(s3.s1 j e).1;omega,λe=>by have:=(s3.s2 j e).1;omega,λe=>by have:=s3.s3 j e;omega⟩
theorem yl_S(hl:k1<=l)(X:List (List (TC))):Yl l c AT CR k1 mu fS X (λs=>s=Q) (JSv c AT CR k1 mu l a1 a2):=by
 refine⟨λs B h p u H=>?_,λs B h u j d=>(u.bd j d).1,λs B h u j d=>(u.bd j d).2,λs B h u Y x hx n0 xc g t hn o1 o2=>?_⟩
 .obtain⟨f,S,a,A,C⟩:=u;refine⟨f,λj d=>?_,a,H _ _ f.2.2 A,?_⟩
  .obtain⟨q1,q2⟩:=S j d
   grind
  .cases s with
   |none=>simp_all
   |some x=>obtain⟨h1,xc,g,h2,E⟩:=C;exact⟨H _ _ f.1 h1,xc,g,H _ _ f.2.1 h2,E.ke (λj d=>d) λj cs e d _ ho=>H j _ d.1 ho⟩
 .obtain⟨f,S,a,A,C⟩:=u;subst Y;obtain⟨G,Z⟩:=C;have al:=t l f.1;have ad:=t a1 f.2.1;have ag:=t a2 f.2.2;obtain⟨bb,p,hu,hK⟩:=xy96 (K:=λrs p=>rs=[.b U]/\JSv c AT CR k1 mu l a1 a2 (O x) (λj=>B j∨(n0<=j/\j<W p)) p/\(∀(j:Nat) o,h[j]?=O o->¬B j->j<n0->p[j]?=O o)/\h.length<=W p) (ys:=stY c xc g) (ls:=[.i (DO c.w),.i (DO c.v),.v xc,.i (DO c.r.1),.i c.r.2.1,.i c.r.2.2,.v g]) G ⟨rfl,rfl,by
   intro y hy z hz;simp only[Fy,kG,or_false]at hy;subst hy;simp only[S0.cells,Fy,kG,or_false]at hz;have N:aH xc=J:=i'.g_ (e:=3) (enc:=q9) (λ_=>rfl) o1;have P:aH g=J:=by obtain⟨L,E,_⟩:=o2;exact E.g_ jK
   rcases hz with rfl|rfl|rfl|rfl|rfl|rfl|rfl
   all_goals first|trivial|exact N|exact P⟩ (by
   have N:aH xc=J:=i'.g_ (e:=3) (enc:=q9) (λ_=>rfl) o1;have P:aH g=J:=by obtain⟨L,E,_⟩:=o2;exact E.g_ jK
   unfold y96;simp only[w7];refine c_ ?_;refine ab (az _) ?_;refine m9 ?_;refine ab (az _) ?_;refine m9 ?_;have hm:(h++[HO.o (.cells z7 7 J)])[W h]?=O (.o (.cells z7 7 J)):=aG;refine oZ hm rfl ?_;obtain⟨m,eA⟩ : ∃m,m=(h++[HO.o (.cells z7 7 J)]).set (W h) (.o (EJ (stC c xc g) 7 J)):=⟨_,rfl⟩;have M:(h++[HO.o (EJ [EO DQ 0,EO DQ 0,DW Q 0 0,EO DU 0,EO DQ 0,EO DQ 0,DW Q 0 0] 7 J)]).set (W h) (.o (EJ [EO DQ (DO c.w),EO DQ (DO c.v),xc,EO DU (DO c.r.1),EO DQ c.r.2.1,EO DQ c.r.2.2,g] 7 J))=m:=eA.symm;rw[M];have I:∀(i:Nat) o,h[i]?=O o->m[i]?=O o:=λi o F=>by grind
   have lA:W m=W h+1:=k_;have mA:m[W h]?=O (.o (EJ (stC c xc g) 7 J)):=k_;refine m9 ?_;refine hj (I _ _ G) ?_;obtain⟨gB,eB⟩ : ∃gB,gB=m.set l (.lp 96 .busy Q [lM a1,lM a2]):=⟨_,rfl⟩;rw[←eB];have kB:∀(i:Nat) o,i≠l->m[i]?=O o->gB[i]?=O o:=λi o a F=>by grind
   have lB:W gB=W h+1:=k_;have pB:gB[l]?=O (.lp 96 .busy Q [lM a1,lM a2]):=jw;refine m9 ?_;refine cY (bp (kB _ _ a_ mA)) rfl ?_;simp only[stC];refine c_ ?_;refine ab N ?_;refine m9 ?_;refine ab P ?_;refine m9 ?_;refine oZ (kB a1 _ (EC a.1) (I _ _ Z)) rfl ?_;obtain⟨k,eC⟩ : ∃k,k=gB.set a1 (.o (EJ [EO DQ (DO c.w),EO DQ (DO c.v),xc,EO DU (DO c.r.1),EO DQ c.r.2.1,EO DQ c.r.2.2,g] 7 J)):=⟨_,rfl⟩;rw[←eC];have kC:∀(i:Nat) o,i≠a1->gB[i]?=O o->k[i]?=O o:=λi o a F=>by grind
   have mC:k[a1]?=O (.o (EJ (stC c xc g) 7 J)):=jw;have nC:k[a2]?=O (.o (EJ [EO DQ 0] 1 J)):=kC _ _ (EC a.2.2) (kB _ _ (EC a.2.1) (I _ _ A));refine m9 ?_;refine oZ nC rfl ?_;have eD:k.set a2 (.o (EJ [EO DQ 0] 1 J))=k:=gi nC;rw[eD];refine m9 ?_;refine v7 (kC _ _ a.1 pB) ?_;obtain⟨D,eE⟩ : ∃D,D=k.set l (.lp 96 .done (O .ret) [lM a1,lM a2]):=⟨_,rfl⟩;rw[←eE];have kE:∀(i:Nat) o,i≠l->k[i]?=O o->D[i]?=O o:=λi o a F=>by grind
   have lE:W D=W h+1:=k_;refine m9 ?_;have n:∀(i:Nat) o,i≠l->i≠a1->h[i]?=O o->D[i]?=O o:=λi o q1 q2 F=>kE i o q1 (kC i o q2 (kB i o q1 (I i o F)));refine⟨Ei,⟨⟨.inl f.1,.inl f.2.1,.inl f.2.2⟩,N7 s3 S a_ a_,a,kE _ _ (EC a.2.1) nC,?_,xc,g,kE _ _ (EC a.1) mC,?_⟩,λj o d hB _=>n j o (λe=>hB (by rw[e];exact f.1)) (λe=>hB (by rw[e];exact f.2.1)) d,a_⟩
   .grind
   .refine(Bu o1 o2).ke (λj d=>⟨.inr ⟨d.1,a_⟩,a_,a_,a_⟩) λj cs e d _ ho=>n j _ a_ a_ ho)
  obtain⟨e1,R,T,V⟩:=hK;have e2:bb=U:=by simp_all
  subst e2;exact⟨p,_,hu,R,T,V,λj d=>d.imp id λq=>q.1,λe=>by cases e⟩
end
abbrev T7:=FO×FO×List (TC)
def MY(c:XC)(t:T7):Tn:=stC c t.1 t.2.1
def pC(c:XC)(t:T7):W (MY c t)=7:=rfl
def fA(a:Nat)(x:List (TC))(s:List (List (TC))):List (List (TC))×Bool:=(s++[x],!decide (W s+1=a))
structure JA(c:XC)(AT:List K3)(CR:TD)(k1:Nat)(mu:Tz)(lim l a1 a2:Nat)(s:List (List (TC)))(B:Tz)(h:HL):Prop where
 bs:B l/\B a1/\B a2
 bd:Bnd c k1 mu B h
 ne:l≠a1/\l≠a2/\a1≠a2
 m1:h[a1]?=some (.o (.cells [.int .i64 (DO lim)] 1 true))
 lp:h[l]?=some (if s.length<lim then .lp 160 .ready none [lM a1,lM a2]else .lp 160 .done (some (.exit 0)) [lM a1,lM a2])
 out:∃(xo:Value) (L:List T7),h[a2]?=some (.o (.cells [xo] 1 true))/\i' 0 h xo 7 (MY c) L/\(∀j,i_ xo=some j->B j)/\L.map (λt=>t.2.2)=s/\∀t∈L,I6 CR AT (λj=>B j/\j≠l/\j≠a1/\j≠a2) h t.1 t.2.1 t.2.2
section
variable {c:XC} {AT:List K3} {CR:TD} {k1:Nat} {mu:Tz} {l a1 a2:Nat} (s3:S3x c k1)
include s3
theorem yl_A{f:Nat}(bl:f<=1000)(hl:k1<=l)(X:List (List (TC))):Yl l c AT CR k1 mu (fA f) X (λs=>W s<f) (JA c AT CR k1 mu f l a1 a2):=by
 refine⟨λs B h N R hk=>?_,λs B h R j d=>(R.bd j d).1,λs B h R j d=>(R.bd j d).2,λs B h R a6 x hx n0 xc A P hn o1 o2=>?_⟩
 .obtain⟨k,hd,g,T,p,M,L,V,C,E,al,hL⟩:=R;refine⟨k,λj d=>?_,g,hk _ _ k.2.1 T,hk _ _ k.1 p,M,L,hk _ _ k.2.2 V,C.ke λj o d m=>hk j o (E j m) d,E,al,λt I=>(hL t I).ke (λj d=>d) λj cs e d _ C=>hk j _ d.1 C⟩;obtain⟨q1,q2⟩:=hd j d
  grind
 .obtain⟨k,hd,g,T,p,M,L,V,C,E,al,hL⟩:=R;rw[rv a6]at p;have bn:=P l k.1;have be:=P a1 k.2.1;have bk:=P a2 k.2.2;have a3:W L=W s:=jw;obtain⟨bb,N,hu,hK⟩:=xy160 (K:=λrs N=>rs=[.b (fA f x s).2]/\JA c AT CR k1 mu f l a1 a2 (s++[x]) (λj=>B j∨(n0<=j/\j<W N)) N/\(∀(j:Nat) o,h[j]?=O o->¬B j->j<n0->N[j]?=O o)/\h.length<=W N) (ys:=stY c xc A) (ls:=[.i (DO c.w),.i (DO c.v),.v xc,.i (DO c.r.1),.i c.r.2.1,.i c.r.2.2,.v A]) p ⟨rfl,rfl,by
   intro y hy z hz;simp only[Fy,kG,or_false]at hy;subst hy;simp only[S0.cells,Fy,kG,or_false]at hz;have g1:aH xc=J:=i'.g_ (e:=3) (enc:=q9) (λ_=>rfl) o1;have g2:aH A=J:=by obtain⟨L,h3,_⟩:=o2;exact h3.g_ jK
   rcases hz with rfl|rfl|rfl|rfl|rfl|rfl|rfl
   all_goals first|trivial|exact g1|exact g2⟩ (by
   have g1:aH xc=J:=i'.g_ (e:=3) (enc:=q9) (λ_=>rfl) o1;have g2:aH A=J:=by obtain⟨L,h3,_⟩:=o2;exact h3.g_ jK
   unfold y160;simp only[w7];refine c_ ?_;refine ab (az _) ?_;refine m9 ?_;refine ab (az _) ?_;refine m9 ?_;have hm:(h++[HO.o (.cells z7 7 J)])[W h]?=O (.o (.cells z7 7 J)):=aG;refine oZ hm rfl ?_;obtain⟨G,eA⟩ : ∃G,G=(h++[HO.o (.cells z7 7 J)]).set (W h) (.o (EJ (stC c xc A) 7 J)):=⟨_,rfl⟩;have aE:(h++[HO.o (EJ [EO DQ 0,EO DQ 0,DW Q 0 0,EO DU 0,EO DQ 0,EO DQ 0,DW Q 0 0] 7 J)]).set (W h) (.o (EJ [EO DQ (DO c.w),EO DQ (DO c.v),xc,EO DU (DO c.r.1),EO DQ c.r.2.1,EO DQ c.r.2.2,A] 7 J))=G:=eA.symm;rw[aE];have kA:∀(i:Nat) o,h[i]?=O o->G[i]?=O o:=λi o Z=>by grind
   have lA:W G=W h+1:=k_;have mA:G[W h]?=O (.o (EJ (stC c xc A) 7 J)):=k_;refine m9 ?_;refine hj (kA _ _ p) ?_;obtain⟨gB,eB⟩ : ∃gB,gB=G.set l (.lp 160 .busy Q [lM a1,lM a2]):=⟨_,rfl⟩;rw[←eB];have kB:∀(i:Nat) o,i≠l->G[i]?=O o->gB[i]?=O o:=λi o g Z=>by grind
   have lB:W gB=W h+1:=k_;have pB:gB[l]?=O (.lp 160 .busy Q [lM a1,lM a2]):=jw;have H:=kB _ _ (EC g.2.1) (kA _ _ V);have ay:i_ M≠O l:=λe=>by
    obtain⟨cs,S⟩:=C.wid e
    simp_all
   have a7:i' 0 gB M 7 (MY c) L:=C.ke λj o d m=>kB j o (λe=>ay (by rw[m,e])) (kA j o d);refine m9 ?_;refine cY (bp H) rfl ?_;refine c_ ?_;refine ab (C.g_ (pC c)) ?_;refine m9 ?_;refine cY (bp (kB _ _ a_ mA)) rfl ?_;simp only[stC];refine c_ ?_;refine ab g1 ?_;refine m9 ?_;refine ab g2 ?_;refine m9 ?_;refine a7.KG (a:=((xc,A,x):T7)) (pC c) (Eg _) rfl rfl rfl (by unfold aY;rw[FE a_,FE a_];rfl) ?_;intro v' gC hC gv kC lC bC;have F:∀(j:Nat) o,gB[j]?=O o->i_ M≠O j->gC[j]?=O o:=λj o d k=>kC j o d k;have bx:W gB<=W gC:=lC;refine c_ ?_;refine ab gv ?_;refine m9 ?_;have ax:i_ M≠O a2:=λe=>by
    obtain⟨cs,S⟩:=C.wid e
    simp_all
   have av:i_ M≠O a1:=λe=>by
    obtain⟨cs,S⟩:=C.wid e
    simp_all
   have ag:=F _ _ H ax;refine oZ ag rfl ?_;obtain⟨n,eD⟩ : ∃n,n=gC.set a2 (.o (EJ [v'] 1 J)):=⟨_,rfl⟩;rw[←eD];have kD:∀(i:Nat) o,i≠a2->gC[i]?=O o->n[i]?=O o:=λi o g Z=>by grind
   have lD:W n=W gC:=k_;have mD:n[a2]?=O (.o (EJ [v'] 1 J)):=jw;have a8:i_ v'≠O a2:=λe=>by grind
   have ap:i' 0 n v' 7 (MY c) (L++[(xc,A,x)]):=hC.ke λj o d m=>kD j o (λe=>a8 (by rw[m,e])) d;refine m9 ?_;refine cY (bp mD) rfl ?_;refine c_ ?_;refine ab gv ?_;refine m9 ?_;refine aO (ap.ls (pC c)) ?_;have nD:n[a1]?=O (.o (EJ [EO DQ (DO f)] 1 J)):=kD _ _ g.2.2 (F _ _ (kB _ _ (EC g.1) (kA _ _ T)) av);refine cY (bp nD) rfl ?_;refine c_ ?_;have pD:n[l]?=O (.lp 160 .busy Q [lM a1,lM a2]):=kD _ _ g.2.1 (F _ _ pB ay);have an:W (L++[((xc,A,x):T7)])=W s+1:=by simp[a3]
   rw[an];have a9:i_ v'≠O l:=λe=>by grind
   have ad:∀(o:HO),o=(if W s+1<f then HO.lp 160 .ready Q [lM a1,lM a2]else .lp 160 .done (O (.exit 0)) [lM a1,lM a2])->∀D,D=n.set l o->JA c AT CR k1 mu f l a1 a2 (s++[x]) (λj=>B j∨(n0<=j/\j<W D)) D/\(∀(j:Nat) o,h[j]?=O o->¬B j->j<n0->D[j]?=O o)/\h.length<=W D:=by
    intro o bt D eE;have kE:∀(i:Nat) o,i≠l->n[i]?=O o->D[i]?=O o:=λi o g Z=>by grind
    have lE:W D=W n:=k_;have u:∀(i:Nat) o,i≠l->i≠a2->i_ M≠O i->h[i]?=O o->D[i]?=O o:=λi o q1 q2 q3 Z=>kE i o q1 (kD i o q2 (F i o (kB i o q1 (kA i o Z)) q3));have bs:W (s++[x])=W s+1:=d_;refine⟨⟨⟨.inl k.1,.inl k.2.1,.inl k.2.2⟩,N7 s3 hd a_ a_,g,kE _ _ (EC g.1) nD,?_,v',L++[(xc,A,x)],kE _ _ (EC g.2.1) mD,ap.ke λj o d m=>kE j o (λe=>a9 (by rw[m,e])) d,λj d=>?_,k_,λt I=>?_⟩,λj o d hB _=>u j o (λe=>hB (by rw[e];exact k.1)) (λe=>hB (by rw[e];exact k.2.2)) (λe=>hB (E j e)) d,a_⟩
    .grind
    .rcases bC with e|⟨i,e,Z⟩
     .simp_all
     .rw[e]at d;cases d;have:=(hC.i_ e).2;omega
    .rcases F_.1 I with I|I
     .refine(hL t I).ke (λj d=>⟨.inl d.1,d.2⟩) λj cs e d he Y=>u j _ d.2.1 d.2.2.2 (λe2=>?_) Y;obtain⟨bm,S⟩:=C.wid e2
      grind
     .rw[HN]at I;subst I;refine(Bu o1 o2).ke (λj d=>⟨.inr ⟨d.1,a_⟩,a_,a_,a_⟩) λj cs e d _ Y=>u j _ a_ a_ (λe2=>by grind) Y
   by_cases he:W s+1=f
   .rw[ub (congrArg DO he)];refine c_ ?_;refine v7 pD ?_;refine m9 ?_;obtain⟨w1,w2,w3⟩:=ad _ (by rw[ts a_]) _ rfl;refine⟨?_,w1,w2,w3⟩;simp[fA,he]
   .rw[tx (λe=>he (Ky e))];refine c_ ?_;refine p_lp2 pD ?_;refine m9 ?_;obtain⟨w1,w2,w3⟩:=ad _ (by rw[rv a_]) _ rfl;refine⟨?_,w1,w2,w3⟩;simp[fA,he])
  obtain⟨e1,a0,a4,a5⟩:=hK;have e2:bb=(fA f x s).2:=by simp_all
  subst e2;refine⟨N,_,hu,a0,a4,a5,λj d=>d.imp id λq=>q.1,λe=>?_⟩;show(s++[x]).length<f;have:W s+1≠f:=by simpa[fA]using e
  simp;omega
end
def vis_S:∀L:List (List (TC)),(Ij fS L Q).1=L.head?
 | []=>rfl
 |x::L=>rfl
def vis_A{a:Nat}:∀(L s:List (List (TC))),W s<a->(Ij (fA a) L s).1=s++L.take (a-W s)
 | [],s,_=>by simp[Ij]
 |x::L,s,h=>by
  rw[qd];by_cases e:W s+1=a
  .have:(fA a x s).2=U:=by simp[fA,e]
   rw[this,ts q7,show a-W s=1 by omega];rfl
  .have:(fA a x s).2=J:=by simp[fA,e]
   rw[this,rv rfl];show(Ij (fA a) L (s++[x])).1=_;rw[vis_A L (s++[x]) z_];rw[show a-W s=(a-W (s++[x]))+1 by simp;omega,qcl,Gu];rfl
def AgP(h1:HL)(mu:Tz)(g:HL):Prop:=W h1<=W g/\∀(j:Nat) o,j<W h1->¬mu j->h1[j]?=O o->g[j]?=O o
structure NpR(b:Nat)(c:XC)(n:Bool)(h1:HL)(mu:Tz)(AT:List K3)(CR:TD)(IDS:List (TC))(pn:Ti)(S:(Nat->Bool)->Prop)(F:List DZ):Prop where
 hb:h1[b]?=some (.o (.cells (aj c n) 15 true))
 s:S3x c h1.length
 mb:¬mu b
 no:n=true->∀x,E6 pn S F x=false
 run:n=false->∃rN DJ us lv r N ids li,Ro b c rN F pn AT IDS CR h1.length mu (AgP h1 mu)/\Lg rN r/\Gl IDS N/\(∀f∈F,∀l∈[f.1,f.2.1,f.2.2.1,f.2.2.2],∃q∈IDS,∃a∈q,∃b∈q,a≠b/\l=Em pn a b)/\IDS=ids::li/\Xe rN pn S F N DJ us [] [] [] ids li/\EA us ids=ids/\Mt h1 c h1.length DJ us ([]::li.map λ_=>[]) lv/\∀v∈lv,i_ v=none
def NpC(h:HL)(w v:Nat)(a:FO)(t:Nat)(x y:Int)(AT:List K3)(CR:TD)(IDS:List (TC))(pn:Ti)(S:(Nat->Bool)->Prop)(F:List DZ):Prop:=
 ∀E:Nat->Prop,(∀j,E j->j<W h/\i_ a≠O j)->∃b c n h1,aD cc ac 18 [.i (DO w),.i (DO v),.v a,.i (DO t),.i x,.i y] (h_ aa h) [.v (lM b),.i 0] (h_ aa h1)/\
  (c.w=w/\c.v=v/\c.r=(t,x,y))/\(∀j,E j->i_ c.va≠O j/\i_ c.us≠O j/\i_ c.lay≠O j)/\(∀(j:Nat) o,h[j]?=O o->h1[j]?=O o)/\h.length<=W h1/\(∀j,i_ c.va=O j∨i_ c.us=O j∨i_ c.lay=O j->W h<=j)/\
  NpR b c n h1 (λj=>E j∨i_ c.va=O j∨i_ c.us=O j∨i_ c.lay=O j) AT CR IDS pn S F
section
variable {b:Nat} {c:XC} {n:Bool} {h1:HL} {mu:Tz} {AT:List K3} {CR:TD} {IDS:List (TC)} {pn:Ti} {S:(Nat->Bool)->Prop} {F:List DZ} (hn:NpR b c n h1 mu AT CR IDS pn S F)
include hn
theorem ZK{g9:Type}{l:Nat}{f:List (TC)->g9->g9×Bool}{d:g9->Prop}{po:g9->(Nat->Prop)->HL->Prop}(Y:Yl l c AT CR (W h1) mu f (Ec IDS) d po){g:HL}(D:AgP h1 mu g)(ad:∀j,i_ c.va=O j∨i_ c.us=O j∨i_ c.lay=O j->∀o,h1[j]?=O o->g[j]?=O o)
  {e:Nat} (h0:g[e]?=O (.o (EJ [lM b] 1 J))) (G:W h1<=e) {s:g9} {B:Tz} (y:¬B e) (X:po s B g) (h:d s) :
  ∃h' B',aD cc ac 49 [.v (.func (.yield l) #[] #[]),.v (lM e)] (h_ aa g) [] (h_ aa h')/\po (Ij f ((Ec IDS).filter (E6 pn S F)) s).1 B' h'/\AgP h1 mu h':=by
 cases n with
 |true=>
  have he:(Ec IDS).filter (E6 pn S F)=[]:=List.filter_eq_nil_iff.2 λx _=>by rw[hn.no rfl x];decide
  rw[he];have E:g[b]?=O (.o (EJ (aj c J) 15 J)):=D.2 b _ (ah hn.hb) hn.mb hn.hb;have M:=x49 (ls:=[.v (.func (.yield l) #[] #[]),.v (lM e)]) (K:=λrs h'=>rs=[]/\∃B',po s B' h'/\AgP h1 mu h') (H:=g) (o_ rfl (o_ (az _) vc)) (by
   unfold f49;simp only[w7];refine c_ ?_;obtain⟨a,P⟩ : ∃a,a=g++[HO.o (EJ [.func (.yield l) #[] #[]] 1 J)]:=⟨_,rfl⟩;rw[←P];have l1:W a=W g+1:=by rw[P];simp
   obtain⟨k,T⟩ : ∃k,k=a++[HO.o (EJ [.nilFunc] 1 J)]:=⟨_,rfl⟩;rw[←T];refine ab (lL e (W g) (W a)) ?_;refine m9 ?_;have A:k[W a]?=O (.o (EJ [.nilFunc] 1 J)):=by rw[T];exact aG
   refine oZ A rfl ?_;obtain⟨m,e3⟩ : ∃m,m=k.set (W a) (.o (EJ [MS e (W g) (W a)] 1 J)):=⟨_,rfl⟩;have u:k.set (W a) (.o (EJ [.func (.func 50) ⟨[]⟩ ⟨[lM e,lM (W g),lM (W a)]⟩] 1 J))=m:=e3.symm
   try rw[u]
   have t:∀(i:Nat) o,g[i]?=O o->m[i]?=O o:=λi o Z=>by grind
   refine m9 ?_;refine cY (bp (t _ _ h0)) rfl ?_;refine c_ ?_;refine ab (az _) ?_;refine m9 ?_;refine bA (ds:=[.bool J]) (t _ _ E) (by simp[aj]) rfl ?_;simp(disch:=omega)only[↓qb,Fv];refine⟨Ei,B,Y.kp s B g m X λi o _ Z=>t i o Z,?_,λj o h1 w h3=>t j o (D.2 j o h1 w h3)⟩
   grind)
  obtain⟨rs,h',w,rfl,B',q⟩:=M;exact⟨h',B',w,q⟩
 |false=>
  obtain⟨rN,DJ,us,lv,r,N,L,li,R,hF,hG,C,V,hN,I,hM,p⟩:=hn.run rfl;have z:Mt g c (W h1) DJ us ([]::li.map λ_=>[]) lv:=hM.ke λj o hj hb=>by grind
  have hX:∀x∈Ec (EA us L::li),x∈Ec IDS:=λx hx=>by rwa [I,←V]at hx
  obtain⟨h',B',cf,j1,j2⟩:=iter_c R Y hF hG C (S:=S) V hN hX D z h0 G y (λv hv=>by rw[p v hv];simp) (λv hv j hj=>jw) X h
  grind
end
def Bv{j7:Type}{n0 e:Nat}{enc:j7->Tn}{l:List j7}{h:HL}{v:TV}(a:i' n0 h v e enc l):H0 v=O ():=by
 rcases a with⟨rfl,_⟩|⟨id,b,rfl,_⟩
 .rfl
 .simp[H0,bG,q8,aW,bu,aR,aL,le]
def Ru{a c:Prop}{ks:List (Nat×Prop)}(b:a):P1.F4 Q (@j_ _ ⟨a⟩) c ks:=b
def dA{c a:Prop}{ks:List (Nat×Prop)}(b:a):P1.F4 (O .ret) c (@j_ _ ⟨a⟩) ks:=b
def hK{g:HL}{b:Nat}:aD cc ac 19 [.v (lM b)] (h_ aa g) [.v (.func (.func 49) ⟨[]⟩ ⟨[lM (W g)]⟩)] (h_ aa (g++[.o (EJ [lM b] 1 J)])):=by
 exact xK x19 (o_ (az _) vc) (by
  unfold f19;simp only[w7];refine c_ ?_;refine ab (by simp[aH,q8,aW,bG,bu,aR,aL]) ?_
  try simp_all)
section
variable {h:HL} {w v:Nat} {xv:FO} {t:Nat} {x y:Int} {AT:List K3} {CR:TD} {IDS:List (TC)} {pn:Ti} {S:(Nat->Bool)->Prop} {F:List DZ}
def SvR(w v:Nat)(t:Nat)(x y:Int)(AT:List K3)(CR:TD)(h':HL)(o:Option (List (TC)))(a:TG):Prop:=
 match o with
 |Q=>a=[.i 0,.i 0,.v (DW Q 0 0),.i 0,.i 0,.i 0,.v (DW Q 0 0),.i 15]
 |O q=>∃xc b,a=[.i (DO w),.i (DO v),.v xc,.i (DO t),.i x,.i y,.v b,.i 0]/\I6 CR AT (λ_=>True) h' xc b q
def l3(av:aH xv=J)(a4:∀j,i_ xv=O j->j<W h)(C:NpC (h++[.o (.cells z7 7 J)]++[.o (EJ [EO DQ 0] 1 J)]) w v xv t x y AT CR IDS pn S F) :
  ∃X h',aD cc ac 6 [.i (DO w),.i (DO v),.v xv,.i (DO t),.i x,.i y] (h_ aa h) X (h_ aa h')/\SvR w v t x y AT CR h' ((Ec IDS).filter (E6 pn S F)).head? X/\∀(j:Nat) o,h[j]?=O o->h'[j]?=O o:=by
 have a5:=x6 (ls:=[.i (DO w),.i (DO v),.v xv,.i (DO t),.i x,.i y]) (K:=λX h'=>SvR w v t x y AT CR h' ((Ec IDS).filter (E6 pn S F)).head? X/\∀(j:Nat) o,h[j]?=O o->h'[j]?=O o) (H:=h) (mc (mc (o_ av (mc (mc (mc vc)))))) (by
  unfold f6;simp only[w7];refine c_ ?_;obtain⟨d,e1⟩ : ∃d,d=h++[HO.o (.cells z7 7 J)]:=⟨_,rfl⟩;rw[←e1]at C;have ad:h++[HO.o (EJ [EO DQ 0,EO DQ 0,DW Q 0 0,EO DU 0,EO DQ 0,EO DQ 0,DW Q 0 0] 7 J)]=d:=e1.symm
  try rw[ad]
  have l1:W d=W h+1:=by rw[e1];simp
  obtain⟨E,R⟩ : ∃E,E=d++[HO.o (EJ [EO DQ 0] 1 J)]:=⟨_,rfl⟩;rw[←R]at C;rw[←R];have l2:W E=W h+2:=by rw[R];simp;omega
  have m1:E[W h]?=O (.o (.cells z7 7 J)):=by simp_all
  have m2:E[W d]?=O (.o (EJ [EO DQ 0] 1 J)):=by rw[R];exact aG
  have k2:∀(i:Nat) o,h[i]?=O o->E[i]?=O o:=λi o T=>by grind
  obtain⟨b,c,n,r,cn,⟨hw,hv,hr⟩,hE,A,a3,a0,hn⟩:=C (λj=>j=W h∨j=W d) (λj k=>by grind)
  refine ai cn ?_;refine c_ ?_;refine ai hK ?_;refine c_ ?_;obtain⟨f,eA⟩ : ∃f,f=r++[HO.o (EJ [lM b] 1 J)]:=⟨_,rfl⟩;rw[←eA];have lA:W f=W r+1:=by rw[eA];simp
  have V:∀(i:Nat) o,r[i]?=O o->f[i]?=O o:=λi o T=>jw;obtain⟨gB,eB⟩ : ∃gB,gB=f++[HO.lp 96 .ready Q [lM (W h),lM (W d)]]:=⟨_,rfl⟩;have lB:W gB=W r+2:=by rw[eB];simp;omega
  have kB:∀(i:Nat) o,f[i]?=O o->gB[i]?=O o:=λi o T=>jw;have pB:gB[W f]?=O (.lp 96 .ready Q [lM (W h),lM (W d)]):=by rw[eB];exact aG
  have qB:gB[W r]?=O (.o (EJ [lM b] 1 J)):=kB _ _ (by rw[eA];exact aG);have Z:=hn.s;have Y:=yl_S (c:=c) (AT:=AT) (CR:=CR) (k1:=W r) (mu:=λj=>(j=W h∨j=W d)∨i_ c.va=O j∨i_ c.us=O j∨i_ c.lay=O j) (l:=W f) (a1:=W h) (a2:=W d) Z a_ (Ec IDS);have hJ:JSv c AT CR (W r) (λj=>(j=W h∨j=W d)∨i_ c.va=O j∨i_ c.us=O j∨i_ c.lay=O j) (W f) (W h) (W d) Q (λj=>j=W f∨j=W h∨j=W d) gB:=by
   refine⟨⟨.inl rfl,.inr (.inl rfl),.inr (.inr rfl)⟩,λj k=>?_,⟨a_,a_,a_⟩,kB _ _ (V _ _ (A _ _ m2)),pB,kB _ _ (V _ _ (A _ _ m1))⟩;rcases k with rfl|rfl|rfl
   .exact⟨a_,.inr a_,λe=>by have:=(Z.s1 _ e).1;omega,λe=>by have:=(Z.s2 _ e).1;omega,λe=>by have:=Z.s3 _ e;omega⟩
   .grind
   grind
  obtain⟨I,B',cf,M,al⟩:=ZK hn Y (g:=gB) ⟨a_,λj o _ _ k=>kB _ _ (V _ _ k)⟩ (λj _ o k=>kB _ _ (V _ _ k)) qB (B7 _) (λe=>a_) hJ rfl;rw[vis_S]at M;rw[eB]at cf;obtain⟨ay,aE,a,z,p⟩:=M;have ax:∀(j:Nat) o,h[j]?=O o->I[j]?=O o:=λj o k=>by
   have:=ah k;refine al.2 j o a_ (λe=>?_) (A _ _ (k2 _ _ k))
   grind
  cases N:((Ec IDS).filter (E6 pn S F)).head? with
  |none=>
   rw[N]at p;obtain⟨B,m⟩:=p;refine Bz (sg:=⟨[lv,lv],[]⟩) (xs:=[.leaf (.v (.func (.yield (W f)) #[] #[])),.leaf (.v (lM (W r)))]) cf rfl rfl rfl rfl B d_ ?_;obtain⟨u,eG⟩ : ∃u,u=I.set (W f) (.lp 96 .exhausted Q [lM (W h),lM (W d)]):=⟨_,rfl⟩;have D:∀(i:Nat) o,i≠f.length->I[i]?=O o->u[i]?=O o:=λi o T G=>jw
   try rw[←eG]
   refine Ru ?_;refine m9 ?_;refine oZ (D _ _ (EC a.1) m) rfl ?_;refine m9 ?_;have P:(u.set (W h) (.o (.cells z7 7 J)))[W d]?=O (.o (EJ [EO DQ 0] 1 J)):=cV (D _ _ (EC a.2.1) z) a.2.2;refine oZ P rfl ?_;refine m9 ?_;have an:((u.set (W h) (.o (.cells z7 7 J))).set (W d) (.o (EJ [EO DQ 15] 1 J)))[W h]?=O (.o (.cells z7 7 J)):=cV (ew (D _ _ (EC a.1) m)) (EC a.2.2);refine cI ((bp an).ld rfl) ?_;simp only[z7];refine c_ ?_;refine ab rfl ?_;refine m9 ?_;refine ab rfl ?_;refine m9 ?_;refine af (x:=()) rfl ?_;refine m9 ?_;refine af (x:=()) rfl ?_;refine m9 ?_;refine cI ((bp (ew P)).ld rfl) ?_;refine c_ ?_;refine⟨rfl,λj o k=>?_⟩;have:=ah k
   grind
  |some q=>
   rw[N]at p;obtain⟨B,xc,sv,m,G⟩:=p;refine Bz (sg:=⟨[lv,lv],[]⟩) (xs:=[.leaf (.v (.func (.yield (W f)) #[] #[])),.leaf (.v (lM (W r)))]) cf rfl rfl rfl rfl B d_ ?_;obtain⟨u,eG⟩ : ∃u,u=I.set (W f) (.lp 96 .exhausted (O .ret) [lM (W h),lM (W d)]):=⟨_,rfl⟩;have D:∀(i:Nat) o,i≠f.length->I[i]?=O o->u[i]?=O o:=λi o T G=>jw
   try rw[←eG]
   refine dA ?_;refine m9 ?_;have gx:aH xc=J:=i'.g_ (e:=3) (enc:=q9) (λ_=>rfl) G.xo;have⟨gs,ag⟩ : aH sv=J/\H0 sv=O ():=by obtain⟨L,h3,_⟩:=G.st;exact⟨h3.g_ jK,Bv h3⟩
   refine cI ((bp (D _ _ (EC a.1) m)).ld rfl) ?_;simp only[stC];refine c_ ?_;refine ab gx ?_;refine m9 ?_;refine ab gs ?_;refine m9 ?_;refine af (Bv G.xo) ?_;refine m9 ?_;refine af ag ?_;refine m9 ?_;refine cI ((bp (D _ _ (EC a.2.1) z)).ld rfl) ?_;refine c_ ?_;refine⟨⟨xc,sv,?_,G.ke (λ_ _=>trivial) λj cs e k _ ap=>D j _ k.2.1 ap⟩,λj o k=>?_⟩
   .rw[hw,hv,hr]
   grind)
 omega
end
def n4{j7:Type}{n0:Nat}{enc:j7->Tn}{h:HL}{v:TV}{l:List j7}(a:i' n0 h v 7 enc l):∃v',aD cc ac 36 [.v v] (h_ aa h) [.v v'] (h_ aa h)/\i' n0 h v' 7 enc l/\fb v'=O (DO (W l)):=by
 rcases a with⟨rfl,rfl⟩|⟨id,d,rfl,b,c,e⟩
 .refine⟨DW Q 0 0,?_,.inl ⟨rfl,rfl⟩,rfl⟩;exact xK x36 (o_ rfl vc) (by
   unfold f36;simp only[w7]
   repeat (first|simp(disch:=omega)only[↓qb]|refine af (x:=(0:Int)) rfl ?_|refine af (x:=Value.slice Q 0 0) rfl ?_|refine ab rfl ?_)
   simp_all)
 .refine⟨DW (O ⟨id,0,le 7⟩) (W l) (W l+1),?_,.inr ⟨id,_,rfl,b,c,.inr rfl⟩,rfl⟩;exact xK x36 (o_ da vc) (by
   unfold f36;simp only[w7];refine c_ ?_;refine af (x:=DO (W l)) rfl ?_;refine af (x:=DO (W l)) rfl ?_;refine af Nz ?_;refine ab da ?_
   simp_all)
section
variable {h:HL} {w v:Nat} {xv:FO} {t:Nat} {x y:Int} {AT:List K3} {CR:TD} {IDS:List (TC)} {pn:Ti} {S:(Nat->Bool)->Prop} {F:List DZ}
def yu(w v t:Nat)(x y:Int)(s:T7):Tn:=[EO DQ (DO w),EO DQ (DO v),s.1,EO DU (DO t),EO DQ x,EO DQ y,s.2.1]
def AlR(w v:Nat)(t:Nat)(x y:Int)(AT:List K3)(CR:TD)(h':HL)(o:List (List (TC)))(b:TG):Prop:=
 ∃(a:FO) (L:List T7),b=[.v a,.i 0]/\i' 0 h' a 7 (yu w v t x y) L/\fb a=O (DO (W L))/\L.map (λt=>t.2.2)=o/\∀t∈L,I6 CR AT (λ_=>True) h' t.1 t.2.1 t.2.2
def all_c(a:Int)(ay:aH xv=J)(bk:∀j,i_ xv=O j->j<W h)(G:NpC (h++[.o (EJ [EO DQ a] 1 J)]) w v xv t x y AT CR IDS pn S F) :
  ∃z h',aD cc ac 10 [.i (DO w),.i (DO v),.v xv,.i (DO t),.i x,.i y,.i a] (h_ aa h) z (h_ aa h')/\(a<1∨1000<a->z=[.v (DW Q 0 0),.i 1])/\(1<=a/\a<=1000->AlR w v t x y AT CR h' (((Ec IDS).filter (E6 pn S F)).take a.toNat) z)/\∀(j:Nat) o,h[j]?=O o->h'[j]?=O o:=by
 have bl:=x10 (ls:=[.i (DO w),.i (DO v),.v xv,.i (DO t),.i x,.i y,.i a]) (K:=λz h'=>(a<1∨1000<a->z=[.v (DW Q 0 0),.i 1])/\(1<=a/\a<=1000->AlR w v t x y AT CR h' (((Ec IDS).filter (E6 pn S F)).take a.toNat) z)/\∀(j:Nat) o,h[j]?=O o->h'[j]?=O o) (H:=h) (mc (mc (o_ ay (mc (mc (mc (mc vc))))))) (by
  unfold f10;simp only[w7];simp(disch:=omega)only[↓DT];obtain⟨A,I⟩ : ∃A,A=h++[HO.o (EJ [EO DQ a] 1 J)]:=⟨_,rfl⟩;rw[←I]at G;rw[←I];have l2:W A=W h+1:=by rw[I];simp
  have m1:A[W h]?=O (.o (EJ [EO DQ a] 1 J)):=by rw[I];exact aG
  have k2:∀(i:Nat) o,h[i]?=O o->A[i]?=O o:=λi o hi=>jw;obtain⟨b,c,n,f,cn,⟨hw,hv,hr⟩,hE,C,bd,bb,hn⟩:=G (λj=>j=W h) (λj d=>by grind)
  refine ai cn ?_;simp(disch:=omega)only[↓DT];have u:=C _ _ m1;refine cY (bp u) rfl ?_;simp(disch:=omega)only[↓DT];by_cases al:a<1
  .rw[r_ al];refine c_ ?_
   grind
  rw[s_ a_];simp(disch:=omega)only[↓DT];refine cY (bp u) rfl ?_;simp(disch:=omega)only[↓DT];by_cases an:1000<a
  .rw[DY an];refine c_ ?_
   grind
  rw[A6 a_];simp(disch:=omega)only[↓DT];obtain⟨m,rfl⟩ : ∃m:Nat,a=DO m:=⟨a.toNat,jw⟩;have be:1<=m:=jw;have av:m<=1000:=jw;obtain⟨p,e3⟩ : ∃p,p=f++[HO.o (EJ [DW Q 0 0] 1 J)]:=⟨_,rfl⟩;rw[←e3];have l3:W p=W f+1:=by rw[e3];simp
  have k3:∀(i:Nat) o,f[i]?=O o->p[i]?=O o:=λi o hi=>jw;have m3:p[W f]?=O (.o (EJ [DW Q 0 0] 1 J)):=by rw[e3];exact aG
  refine ai hK ?_;simp(disch:=omega)only[↓DT];obtain⟨k,R⟩ : ∃k,k=p++[HO.o (EJ [lM b] 1 J)]:=⟨_,rfl⟩;rw[←R];have lA:W k=W f+2:=by rw[R];simp;omega
  have M:∀(i:Nat) o,p[i]?=O o->k[i]?=O o:=λi o hi=>jw;obtain⟨gB,T⟩ : ∃gB,gB=k++[HO.lp 160 .ready Q [lM (W h),lM (W f)]]:=⟨_,rfl⟩;have lB:W gB=W f+3:=by rw[T];simp;omega
  have kB:∀(i:Nat) o,k[i]?=O o->gB[i]?=O o:=λi o hi=>jw;have pB:gB[W k]?=O (.lp 160 .ready Q [lM (W h),lM (W f)]):=by rw[T];exact aG
  have qB:gB[W p]?=O (.o (EJ [lM b] 1 J)):=kB _ _ (by rw[R];exact aG);have N:=hn.s;have Y:=yl_A (c:=c) (AT:=AT) (CR:=CR) (k1:=W f) (mu:=λj=>j=W h∨i_ c.va=O j∨i_ c.us=O j∨i_ c.lay=O j) (l:=W k) (a1:=W h) (a2:=W f) N av a_ (Ec IDS);have a3:∀j,W f<=j->i_ c.va≠O j/\i_ c.us≠O j/\i_ c.lay≠O j:=λj d=>⟨λe=>by have:=(N.s1 _ e).1;omega,λe=>by have:=(N.s2 _ e).1;omega,λe=>by have:=N.s3 _ e;omega⟩;have hJ:JA c AT CR (W f) (λj=>j=W h∨i_ c.va=O j∨i_ c.us=O j∨i_ c.lay=O j) m (W k) (W h) (W f) [] (λj=>j=W k∨j=W h∨j=W f) gB:=by
   refine⟨⟨.inl rfl,.inr (.inl rfl),.inr (.inr rfl)⟩,λj d=>?_,⟨a_,a_,a_⟩,kB _ _ (M _ _ (k3 _ _ u)),?_,DW Q 0 0,[],kB _ _ (M _ _ m3),.inl ⟨rfl,rfl⟩,λj d=>(by cases d),rfl,λt ht=>by cases ht⟩
   .grind
   grind
  obtain⟨hF,B',P,B,V⟩:=ZK hn Y (g:=gB) ⟨a_,λj o _ _ d=>kB _ _ (M _ _ (k3 _ _ d))⟩ (λj _ o d=>kB _ _ (M _ _ (k3 _ _ d))) qB a_ (λe=>a_) hJ z_;rw[vis_A _ _ z_,E7,qdG,Nat.sub_zero]at B;rw[T]at P;obtain⟨a7,a9,E,ap,q,xo,L,D,ho,a5,Z,hL⟩:=B;have a4:∀(j:Nat) o,h[j]?=O o->hF[j]?=O o:=λj o d=>by
   have:=ah d;refine V.2 j o a_ (λe=>?_) (C _ _ (k2 _ _ d))
   grind
  refine di (λls h'=>ls=[]/\h'[W f]?=O (.o (EJ [xo] 1 J))/\i' 0 h' xo 7 (MY c) L/\(∀t∈L,I6 CR AT (λ_=>True) h' t.1 t.2.1 t.2.2)/\∀(j:Nat) o,h[j]?=O o->h'[j]?=O o) ?_ ?_
  case refine_1=>
   rintro ls h' ⟨rfl,w1,w2,w3,w4⟩;refine c_ ?_;refine cY (bp w1) rfl ?_;refine c_ ?_;refine ab (w2.g_ (pC c)) ?_;refine m9 ?_;obtain⟨a0,cx,o2,o3⟩:=n4 w2;refine ai cx ?_;refine c_ ?_;refine⟨λhc=>a_,λ_=>⟨a0,L,rfl,?_,o3,Z,w3⟩,w4⟩;have e7:MY c=yu w v t x y:=by
    funext s
    unfold MY stC yu;rw[hw,hv,hr]
   simp_all
  intro jj ag;have a6:∀X:HL,(∀(i:Nat) o,i≠k.length->hF[i]?=O o->X[i]?=O o)->jj [] X:=λX kG=>by
   have aE:i_ xo≠O (W k):=λe=>by
    obtain⟨cs,a8⟩:=ho.wid e
    grind
   exact ag _ _ ⟨rfl,kG _ _ (EC E.2.1) D,ho.ke λj o d ad=>kG j o (λe=>aE (by rw[ad,e])) d,λt ht=>(hL t ht).ke (λ_ _=>trivial) λj cs e d _ ax=>kG j _ d.2.1 ax,λj o d=>by grind⟩
  by_cases r:W (((Ec IDS).filter (E6 pn S F)).take m)<m
  .rw[rv r]at q;refine Bz (sg:=⟨[lv,lv],[]⟩) (xs:=[.leaf (.v (.func (.yield (W k)) #[] #[])),.leaf (.v (lM (W p)))]) P rfl rfl rfl rfl q d_ ?_;refine Ru ?_
   try grind
  .rw[ts r]at q;refine Bz (sg:=⟨[lv,lv],[]⟩) (xs:=[.leaf (.v (.func (.yield (W k)) #[] #[])),.leaf (.v (lM (W p)))]) P rfl rfl rfl rfl q d_ ?_;refine⟨_,HN.2 rfl,?_⟩
   try grind)
 omega
end
end Go.Am
end

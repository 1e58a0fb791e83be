import Derived.Test.YtohimaenikegoaaGreatDoorOY7
import Derived.SevenTiedAt
import Derived.Test.YtohimaenikegoaaGreatDoorCards
import Derived.Test.YtohimaenikegoaaGreatDoorTie
set_option linter.all false
noncomputable section
open Int(ofNat)
open List(replicate)
namespace Go.Am
namespace Sx
open Go.ChangeShapes Go.WideShapes Go.ChangeAt Go.WideMaps Go.WideElems Go.RowKit
def Cw:TJ->Tn->Prop
 | [],[]=>True
 | .i k :: ks,v :: vs=>(∃n,v = .int k n/\(Lit.int k n).wf=true)/\Cw ks vs
 | .b :: ks,v :: vs=>(∃t,v = .bool t)/\Cw ks vs
 |_,_=>False
def Cw.len:∀ {ks:TJ} {vs:Tn},Cw ks vs->vs.length=ks.length
 | [],[],_=>rfl
 | .i k :: ks,v :: vs,h=>by simp[Cw.len h.2]
 | .b :: ks,v :: vs,h=>by simp[Cw.len h.2]
 | .v :: _,_,h=>by cases h
 | [],_ :: _,h=>by cases h
 | .i _ :: _,[],h=>by cases h
 | .b :: _,[],h=>by cases h
def Cw.E6:∀ {ks a:TJ} {vs c:Tn},Cw ks vs->Cw a c->Cw (ks++a) (vs++c)
 | [],_,[],_,_,h=>h
 | .i k :: ks,_,v :: vs,_,h,h'=>⟨h.1,Cw.E6 h.2 h'⟩
 | .b :: ks,_,v :: vs,_,h,h'=>⟨h.1,Cw.E6 h.2 h'⟩
 | .v :: _,_,_,_,h,_=>by cases h
 | [],_,_ :: _,_,h,_=>by cases h
 | .i _ :: _,_,[],_,h,_=>by cases h
 | .b :: _,_,[],_,h,_=>by cases h
def HK(F:TP->Option (TJ)):List Field->Nat->Option (TJ)
 | [],_=>some []
 |f :: a,off=>match Nat.beq f.offset off,F f.type with
  |true,some ks=>(HK F a (off+ks.length)).map (ks ++ ·)
  |_,_=>none
def wM(P:TI):Nat->TP->Option (TJ)
 |0,_=>none
 |d+1,t=>match P.underlying t with
  |some (.int k)=>some [.i k]
  |some .bool=>some [.b]
  |some (.struct a)=>match HK (wM P d) a.toList 0 with
   |some ks=>match Nat.beq ks.length (P.cellsOf t)with
    |true=>some ks
    |false=>none
   |none=>none
  |some (.array n e)=>match wM P d e with
   |some ks=>match Nat.beq (P.cellsOf e) ks.length&&Nat.beq (P.cellsOf t) (n*ks.length)with
    |true=>some (replicate n ks).flatten
    |false=>none
   |none=>none
  |_=>none
section
variable {H:Type} {enc:TypeId×Value->H} {P:TI}
def yS{F:TP->Option (TJ)}{w:TS}{b:Nat}{j:Tx}{c:Bool}{fuel:Nat}
  (i:∀t ks,F t=some ks->∀cs (x:DataW H×List MemPlace),DataW.trod enc P w b j c fuel t cs=some x->x.2=[]/\Cw ks cs/\∀w' d e h',DataW.trod enc P w' d e h' fuel t cs=some x) (cs:Tn) :
  ∀(g:List Field) (off:Nat) (ks:TJ) (xs:List (DataW H×List MemPlace)),HK F g off=some ks->g.mapM (λf=>DataW.trod enc P w b j c fuel f.type ((cs.drop f.offset).take (P.cellsOf f.type)))=some xs->
   xs.flatMap (·.2)=[]/\Cw ks ((cs.drop off).take ks.length)/\∀w' d e h',g.mapM (λf=>DataW.trod enc P w' d e h' fuel f.type ((cs.drop f.offset).take (P.cellsOf f.type)))=some xs
 | [],off,ks,xs,h1,a=>by
  simp only[HK,FL]at h1;subst h1;simp only[l2,cq,FL]at a;subst a;refine⟨rfl,by simp[Cw],λ_ _ _ _=>by simp⟩
 |f :: g,off,ks,xs,h1,a=>by
  simp only[HK]at h1;split at h1
  next k1 h p=>
   obtain⟨s,e3,rfl⟩:=Dv.1 h1;have h:=Dp h;rw[Wo]at a;obtain⟨x,q,a⟩:=EB.1 a;obtain⟨u,r,a⟩:=EB.1 a;cases a;obtain⟨k,l,m⟩:=i _ _ p _ _ q;obtain⟨n,v,o⟩:=yS i cs g _ s u e3 r;refine⟨by simp[k,n],?_,λw' d e h'=>?_⟩
   .rw[GA,jj];refine Cw.E6 ?_ (by simp_all);have y:=Cw.len l
    grind
   .rw[Wo,m w' d e h',o w' d e h'];rfl
  .cases h1
def N5{w:TS}{a:Nat}{k:Tx}{b:Bool}{fuel c:Nat}{e:TP}{ks:TJ}(t:c=ks.length)
  (j:∀cs (x:DataW H×List MemPlace),DataW.trod enc P w a k b fuel e cs=some x->x.2=[]/\Cw ks cs/\∀w' d f h',DataW.trod enc P w' d f h' fuel e cs=some x) (cs:Tn) :
  ∀(n:Nat) (xs:List (DataW H×List MemPlace)),(List.range n).mapM (λi=>DataW.trod enc P w a k b fuel e ((cs.drop (i*c)).take c))=some xs->
   xs.flatMap (·.2)=[]/\Cw (replicate n ks).flatten (cs.take (n*c))/\∀w' d f h',(List.range n).mapM (λi=>DataW.trod enc P w' d f h' fuel e ((cs.drop (i*c)).take c))=some xs
 |0,xs,h=>by
  simp only[List.range_zero,l2,cq,FL]at h;subst h;exact⟨rfl,by simp[Cw],λ_ _ _ _=>by simp⟩
 |n+1,xs,h=>by
  rw[Lb,List.mapM_append]at h;obtain⟨ys,h1,h⟩:=EB.1 h;obtain⟨u,g,h⟩:=EB.1 h;cases h;rw[Wo]at g;obtain⟨z,s,g⟩:=EB.1 g;cases g;obtain⟨l,m,o⟩:=N5 t j cs n ys h1;obtain⟨p,q,r⟩:=j _ _ s;refine⟨by simp[l,p],?_,λw' d f h'=>?_⟩
  .rw[List.replicate_succ',List.flatten_append,Jh,SI,jj];refine Cw.E6 m ?_;simpa using q
  .rw[Lb,List.mapM_append,o w' d f h',Wo,r w' d f h'];rfl
def kN:∀(d:Nat) (t:TP) (ks:TJ),wM P d t=some ks->∀(w:TS) (b:Nat) (j:Tx) (c:Bool) (fuel:Nat) (cs:Tn) (x:DataW H×List MemPlace),DataW.trod enc P w b j c fuel t cs=some x->
  x.2=[]/\Cw ks cs/\∀w' f g h',DataW.trod enc P w' f g h' fuel t cs=some x
 |0,_,_,h=>by cases h
 |d+1,t,ks,h=>by
  intro w b j c fuel cs x a;simp only[wM]at h;split at h
  next k e=>
   cases h;obtain⟨n,rfl,rfl,v⟩:=DataW.trod_int e a;refine⟨rfl,⟨⟨n,rfl,v⟩,trivial⟩,λw' f g h'=>?_⟩;cases fuel with
   |zero=>simp[DataW.trod]at a
   |succ m=>simp[DataW.trod,e,v]
  next e=>
   cases h;obtain⟨n,rfl,rfl⟩:=DataW.trod_bool e a;refine⟨rfl,⟨⟨n,rfl⟩,trivial⟩,λw' f g h'=>?_⟩;cases fuel with
   |zero=>simp[DataW.trod]at a
   |succ m=>simp[DataW.trod,e]
  next z e=>
   split at h
   next y p=>
    split at h
    next e3=>
     cases h;have e3:=Dp e3;cases fuel with
     |zero=>simp[DataW.trod]at a
     |succ m=>
      simp only[DataW.trod,e]at a;split at a
      next r=>
       obtain⟨s,q,rfl⟩:=Dv.1 a;obtain⟨l,i,o⟩:=yS (λt ks h cs x a=>kN d t ks h w b j c m cs x a) cs z.toList 0 ks s p q;rw[Yr,H4 (by omega)]at i;refine⟨l,i,λw' f g h'=>?_⟩;simp only[DataW.trod,e,r,if_true];rw[o w' f g h'];rfl
      .cases a
    .cases h
   .cases h
  next n e u=>
   split at h
   next y p=>
    split at h
    next e3=>
     cases h;rw[te]at e3;have e4:=Dp e3.1;have A:=Dp e3.2;cases fuel with
     |zero=>simp[DataW.trod]at a
     |succ m=>
      simp only[DataW.trod,u]at a;split at a
      next r=>
       obtain⟨s,q,rfl⟩:=Dv.1 a;obtain⟨l,i,o⟩:=N5 e4 (λcs x a=>kN d e y p w b j c m cs x a) cs n s q;rw[H4 (by simp_all)]at i;refine⟨l,i,λw' f g h'=>?_⟩;simp only[DataW.trod,u,r,if_true];rw[o w' f g h'];rfl
      .cases a
    .cases h
   .cases h
  .cases h
end
section
variable [Cf]
end
end Sx
end Go.Am
set_option maxRecDepth 100000
set_option maxHeartbeats 16000000
namespace Go.Am
namespace Sx
def BG{n:Int}(h:(Lit.int .u8 n).wf=true):0<=n/\n<=255:=by
 simp only[Lit.wf,te,Es]at h;exact h
def qj{H:Type}{enc:TypeId×Value->H}{P:TI}{w:TS}{a:Nat}{f:Tx}{b:Bool}:∀ {c:List TypeId} {vs:Tn} {ds:List (DataW H)} {e:List MemPlace},DataW.TrodAll enc P w a f b c vs ds e->ds.length=c.length
 | [],[],[],_,_=>rfl
 |_ :: _,_ :: _,_ :: _,_,h=>by
  obtain⟨p,q,_,d,_⟩:=h;simp[qj d]
 | [],_ :: _,_,_,h=>by cases h
 | [],[],_ :: _,_,h=>by cases h
 |_ :: _,[],_,_,h=>by cases h
 |_ :: _,_ :: _,[],_,h=>by cases h
end Sx
namespace Sx
open Go.ChangeShapes Go.WideShapes Go.ChangeAt Go.WideMaps Go.WideElems Go.RowKit
inductive Ez where
 |i (k:TL)
 |b
 |s (ks:TJ)
def Ez.lk:Ez->LK
 | .i k=>.i k
 | .b=>.b
 | .s _=>.v
def W6(w:TS)(ks:TJ)(v:Value):Prop:=
 v = .slice none 0 0∨∃(a:Addr) (len cap:Nat) (c:Tl) (t:TP) (fr:Nat×Nat) (b:Tn),v = .slice (some a) len cap/\a.spot=none/\len<=cap/\cap<=maxLen/\
  w.heap[a.block]?=some (.cells c t fr)/\(cap=0∨a.off+cap*ks.length<=c.size)/\b.length=len*ks.length/\(∀(i:Nat) v,b[i]?=some v->c[a.off+i]?=some v)/\
  ∀i,i<len->Cw ks ((b.drop (i*ks.length)).take ks.length)
def JF(w:TS):Ez->Value->Prop
 | .i k,v=>∃n,v = .int k n/\(Lit.int k n).wf=true
 | .b,v=>∃t,v = .bool t
 | .s ks,v=>W6 w ks v
def dQ(w:TS):List Ez->Tn->Prop
 | [],[]=>True
 |k :: ks,v :: vs=>JF w k v/\dQ w ks vs
 |_,_=>False
def bD(h:HL):List Ez->TG->Prop
 | [],[]=>True
 | .i k :: ks,.i n :: ls=>(Lit.int k n).wf=true/\bD h ks ls
 | .b :: ks,.b _ :: ls=>bD h ks ls
 | .s c :: ks,.v x :: ls=>(∃n a,FU h x c.length n a/\n<=maxLen/\∀i,i<n->Cw c ((a.drop (i*c.length)).take c.length))/\bD h ks ls
 |_,_=>False
def dQ.len{w:TS}:∀ {ks:List Ez} {vs:Tn},dQ w ks vs->vs.length=ks.length
 | [],[],_=>rfl
 |_ :: _,_ :: _,h=>by simp[dQ.len h.2]
 | [],_ :: _,h=>by cases h
 |_ :: _,[],h=>by cases h
def dQ.E6{w:TS}:∀ {ks a:List Ez} {vs b:Tn},dQ w ks vs->dQ w a b->dQ w (ks++a) (vs++b)
 | [],_,[],_,_,h=>h
 |_ :: _,_,_ :: _,_,h,h'=>⟨h.1,dQ.E6 h.2 h'⟩
 | [],_,_ :: _,_,h,_=>by cases h
 |_ :: _,_,[],_,h,_=>by cases h
def bD.E6{h:HL}:∀ {ks a:List Ez} {vs c:TG},bD h ks vs->bD h a c->bD h (ks++a) (vs++c)
 | [],_,[],_,_,h=>h
 | .i _ :: ks,_,.i _ :: _,_,h,h'=>⟨h.1,bD.E6 (ks:=ks) h.2 h'⟩
 | .b :: ks,_,.b _ :: _,_,h,h'=>bD.E6 (ks:=ks) h h'
 | .s _ :: ks,_,.v _ :: _,_,h,h'=>⟨h.1,bD.E6 (ks:=ks) h.2 h'⟩
 | [],_,_ :: _,_,h,_=>by cases h
 | .i _ :: _,_,[],_,h,_=>by cases h
 | .b :: _,_,[],_,h,_=>by cases h
 | .s _ :: _,_,[],_,h,_=>by cases h
 | .i _ :: _,_,.b _ :: _,_,h,_=>by cases h
 | .i _ :: _,_,.v _ :: _,_,h,_=>by cases h
 | .b :: _,_,.i _ :: _,_,h,_=>by cases h
 | .b :: _,_,.v _ :: _,_,h,_=>by cases h
 | .s _ :: _,_,.i _ :: _,_,h,_=>by cases h
 | .s _ :: _,_,.b _ :: _,_,h,_=>by cases h
def BQ(F:TP->Option (List Ez)):List Field->Nat->Option (List Ez)
 | [],_=>some []
 |f :: a,off=>match Nat.beq f.offset off,F f.type with
  |true,some ks=>(BQ F a (off+ks.length)).map (ks ++ ·)
  |_,_=>none
def kby:LK->Nat
 | .i .i64=>8
 |_=>0
def kbs:TJ->Nat
 | []=>0
 |k :: ks=>kby k+kbs ks
def Um:TJ->Option (List Ez)
 | []=>some []
 | .i k :: ks=>(Um ks).map (.i k :: ·)
 | .b :: ks=>(Um ks).map (.b :: ·)
 | .v :: _=>none
def wB{w:TS}:∀ {ks:TJ} {cs:Tn} {c:List Ez},Um ks=some c->Cw ks cs->dQ w c cs
 | [],[],_,h,_=>by cases h;exact trivial
 | .i k :: ks,v :: vs,_,h,a=>by
  obtain⟨l,h1,rfl⟩:=Dv.1 h;exact⟨a.1,wB h1 a.2⟩
 | .b :: ks,v :: vs,_,h,a=>by
  obtain⟨l,h1,rfl⟩:=Dv.1 h;exact⟨a.1,wB h1 a.2⟩
 | .v :: _,_,_,h,_=>by cases h
 | [],_ :: _,_,_,a=>by cases a
 | .i _ :: _,[],_,_,a=>by cases a
 | .b :: _,[],_,_,a=>by cases a
def r5(P:TI):Nat->TP->Option (List Ez)
 |0,_=>none
 |d+1,t=>match P.underlying t with
  |some (.int k)=>some [.i k]
  |some .bool=>some [.b]
  |some (.slice e)=>match wM P 20 e with
   |some ks=>match Nat.beq (P.cellsOf e) ks.length&&Nat.blt 0 ks.length&&Nat.ble (kbs ks) (P.bytesOf e)with
    |true=>some [.s ks]
    |false=>none
   |none=>none
  |some (.struct a)=>match BQ (r5 P d) a.toList 0 with
   |some ks=>match Nat.beq ks.length (P.cellsOf t)with
    |true=>some ks
    |false=>none
   |none=>none
  |some (.array _ _)=>match wM P 20 t with
   |some ks=>Um ks
   |none=>none
  |_=>none
section
variable {H:Type} {enc:TypeId×Value->H} {P:TI}
def LZ(w:TS)(v:Value):Prop:=∀a len cap,v = .slice (some a) len cap->a.spot=none/\∃c t fr,w.heap[a.block]?=some (.cells c t fr)
def jW{i6 c:Type}{f g:i6->Option c}:∀ {l:List i6},(∀x∈l,f x=g x)->l.mapM f=l.mapM g
 | [],_=>rfl
 |a :: l,h=>by
  rw[Wo,Wo,h a M9,jW λx b=>h x (E2 _ b)]
def bW{a:Addr}(h:a.spot=none)(i:Nat):a.add i=⟨a.block,a.off+i,none⟩:=by
 obtain⟨b,o,s⟩:=a;cases h;unfold Addr.add;simp
def Rg{w:TS}{t e:TP}{ks:TJ}(R:P.underlying t=some (.slice e))(X:wM P 20 e=some ks)(V:P.cellsOf e=ks.length)(h0:0<ks.length){q:Nat}(A:q=0){g:Bool}{fuel:Nat}{cs:Tn}{x:DataW H×List MemPlace}
  (S:DataW.trod enc P w q (λ_=>true) g fuel t cs=some x) (hl:∀v∈cs,LZ w v) :
  ∃v,cs=[v]/\W6 w ks v/\∀(w':TS) (E:Tx),(∀b,b<w.heap.size->w'.heap[b]?=w.heap[b]?)->(∀b,b<w.heap.size->E b=true)->DataW.trod enc P w' q E g fuel t cs=some x:=by
 subst A;have D:=S;rcases DataW.trod_slice R S with⟨rfl,rfl⟩|⟨a,d,f,h,k,n,rfl,rfl,rfl,hb,I,Z,Y,G,O,_⟩
 .refine⟨_,rfl,.inl rfl,λw' E _ _=>?_⟩;cases fuel with
  |zero=>simp[DataW.trod]at S
  |succ m=>simp[DataW.trod,R]
 .obtain⟨N,c,t',fr,z⟩:=hl _ M9 a d f rfl;obtain⟨al,hr⟩:=O rfl;rw[V]at G hr;have M:a.block<w.heap.size:=by
   grind
  have r:∀i,i<f->∃o y,w.cells? 0 (a.add (i*ks.length)) ks.length=some o/\DataW.trod enc P w 0 (λ_=>true) g n e o=some y/\(h++k)[i]?=some y:=by
   intro i C;by_cases s:i<d
   .have p:=G i s;have u:h[i]?=some h[i]:=FN (by omega);rw[u]at p;obtain⟨o,U,h5⟩:=EB.1 p
    simp_all
   .have p:=hr (i - d) (by omega);rw[show d+(i - d)=i by omega]at p;have u:k[i - d]?=some (k[i - d]'(by omega)):=FN (by omega);rw[u]at p;obtain⟨o,U,h5⟩:=EB.1 p
    grind
  have rd:∀i,i<f->∀j,j<ks.length->∀o,w.cells? 0 (a.add (i*ks.length)) ks.length=some o->c[a.off+i*ks.length+j]?=o[j]?:=by
   intro i C j L o J;have s:=(World.cells?_some J).2.2 j L;rw[bW N,bW rfl]at s;rw[←s];unfold World.cell?;simp[z]
  have Q:f=0∨a.off+f*ks.length<=c.size:=by
   by_cases W:f=0
   .omega
   .right;obtain⟨o,y,s,_,_⟩:=r (f - 1) (by omega);have p:=rd (f - 1) (by omega) (ks.length - 1) (by omega) o s;have K:=(World.cells?_some s).2.1;rw[FN (by omega)]at p;have u:=(Is.1 p).1;have U:f*ks.length=(f - 1)*ks.length+ks.length:=by
     rw[←Nat.succ_mul];congr 1;omega
    omega
  have ad:a.off+d*ks.length<=c.size∨d=0:=by
   grind
  refine⟨_,rfl,.inr ⟨a,d,f,c,t',fr,(c.toList.drop a.off).take (d*ks.length),rfl,N,I,Z,z,Q,?_,?_,?_⟩,?_⟩
  .grind
  .grind
  .intro i C;obtain⟨o,y,s,p,_⟩:=r i (by omega);obtain⟨_,u,_⟩:=kN 20 e ks X w 0 _ g n o y p;have K:=(World.cells?_some s).2.1;have:(((c.toList.drop a.off).take (d*ks.length)).drop (i*ks.length)).take ks.length=o:=by
    apply GB;intro j;by_cases L:j<ks.length
    .have ag:i*ks.length+ks.length<=d*ks.length:=by
      have:=QS ks.length (show i+1<=d by omega)
      grind
     grind
    grind
   rw[this];exact u
  .intro w' E hw an;have B:∀i,i<f->w'.cells? 0 (a.add (i*ks.length)) ks.length=w.cells? 0 (a.add (i*ks.length)) ks.length:=by
    intro i C;unfold World.cells?;have:∀j,w'.cell? ((a.add (i*ks.length)).add j)=w.cell? ((a.add (i*ks.length)).add j):=by
     intro j;rw[bW N,bW rfl];unfold World.cell?;rw[hw _ M]
    simp only[this]
   have T:∀i,i<f->(w'.cells? 0 (a.add (i*P.cellsOf e)) (P.cellsOf e)).bind (DataW.trod enc P w' 0 E g n e)=(h++k)[i]?:=by
    intro i C;rw[V,B i C];obtain⟨o,y,s,p,u⟩:=r i C;rw[s,u,Dj];exact(kN 20 e ks X w 0 _ g n o y p).2.2 w' 0 E g
   have F:∀i,i<f->(w.cells? 0 (a.add (i*P.cellsOf e)) (P.cellsOf e)).bind (DataW.trod enc P w 0 (λ_=>true) g n e)=(h++k)[i]?:=by
    grind
   unfold DataW.trod at D ⊢;simp only[R]at D ⊢;rw[n_ ⟨CM _,I,Z⟩]at D ⊢;rw[jW (λi C=>(T i (by grind)).trans (F i (by grind)).symm)];rw[jW (l:=List.range (f - d)) (λj L=>(T (d+j) (by grind)).trans (F (d+j) (by grind)).symm)]
   simp_all
def Ow{F:TP->Option (List Ez)}{w:TS}{a:Bool}{fuel:Nat}(cs:Tn)(g:∀v∈cs,LZ w v)
  (i:∀t ks,F t=some ks->∀cs (x:DataW H×List MemPlace),(∀v∈cs,LZ w v)->DataW.trod enc P w 0 (λ_=>true) a fuel t cs=some x->dQ w ks cs/\∀(w':TS) (d:Tx),(∀b,b<w.heap.size->w'.heap[b]?=w.heap[b]?)->(∀b,b<w.heap.size->d b=true)->DataW.trod enc P w' 0 d a fuel t cs=some x) :
  ∀(e:List Field) (off:Nat) (ks:List Ez) (xs:List (DataW H×List MemPlace)),BQ F e off=some ks->e.mapM (λf=>DataW.trod enc P w 0 (λ_=>true) a fuel f.type ((cs.drop f.offset).take (P.cellsOf f.type)))=some xs->
   dQ w ks ((cs.drop off).take ks.length)/\∀(w':TS) (d:Tx),(∀b,b<w.heap.size->w'.heap[b]?=w.heap[b]?)->(∀b,b<w.heap.size->d b=true)->e.mapM (λf=>DataW.trod enc P w' 0 d a fuel f.type ((cs.drop f.offset).take (P.cellsOf f.type)))=some xs
 | [],off,ks,xs,h1,c=>by
  simp only[BQ,FL]at h1;subst h1;simp only[l2,cq,FL]at c;subst c;refine⟨by simp[dQ],λ_ _ _ _=>by simp⟩
 |f :: e,off,ks,xs,h1,c=>by
  simp only[BQ]at h1;split at h1
  next k1 h k=>
   obtain⟨p,e3,rfl⟩:=Dv.1 h1;have h:=Dp h;rw[Wo]at c;obtain⟨x,l,c⟩:=EB.1 c;obtain⟨q,m,c⟩:=EB.1 c;cases c;obtain⟨j,r⟩:=i _ _ k _ _ (λv o=>g v (pD (ND o))) l;obtain⟨s,u⟩:=Ow cs g i e _ p q e3 m;refine⟨?_,λw' d y n=>?_⟩
   .rw[GA,jj];refine dQ.E6 ?_ (by simp_all);have g:=dQ.len j
    grind
   simp_all
  .cases h1
def Ox:∀(d:Nat) (t:TP) (ks:List Ez),r5 P d t=some ks->∀(w:TS) (a:Bool) (fuel:Nat) (cs:Tn) (x:DataW H×List MemPlace),(∀v∈cs,LZ w v)->DataW.trod enc P w 0 (λ_=>true) a fuel t cs=some x->
  dQ w ks cs/\∀(w':TS) (f:Tx),(∀b,b<w.heap.size->w'.heap[b]?=w.heap[b]?)->(∀b,b<w.heap.size->f b=true)->DataW.trod enc P w' 0 f a fuel t cs=some x
 |0,_,_,h=>by cases h
 |d+1,t,ks,h=>by
  intro w a fuel cs x o c;simp only[r5]at h;split at h
  next k e=>
   cases h;obtain⟨n,rfl,rfl,p⟩:=DataW.trod_int e c;refine⟨⟨⟨n,rfl,p⟩,trivial⟩,λw' f _ _=>?_⟩;cases fuel with
   |zero=>simp[DataW.trod]at c
   |succ m=>simp[DataW.trod,e,p]
  next e=>
   cases h;obtain⟨n,rfl,rfl⟩:=DataW.trod_bool e c;refine⟨⟨⟨n,rfl⟩,trivial⟩,λw' f _ _=>?_⟩;cases fuel with
   |zero=>simp[DataW.trod]at c
   |succ m=>simp[DataW.trod,e]
  next e r=>
   split at h
   next z i=>
    split at h
    next e3=>
     cases h;simp only[te,Gf]at e3;obtain⟨v,rfl,g,l⟩:=Rg r i (Dp e3.1.1) e3.1.2 rfl c o;exact⟨⟨g,trivial⟩,l⟩
    .cases h
   .cases h
  next s e=>
   split at h
   next z i=>
    split at h
    next e3=>
     cases h;have e3:=Dp e3;cases fuel with
     |zero=>simp[DataW.trod]at c
     |succ m=>
      simp only[DataW.trod,e]at c;split at c
      next j=>
       obtain⟨A,u,rfl⟩:=Dv.1 c;obtain⟨g,l⟩:=Ow cs o (λt ks h cs x o c=>Ox d t ks h w a m cs x o c) s.toList 0 ks A i u;rw[Yr,H4 (by omega)]at g;refine⟨g,λw' f p y=>?_⟩;simp only[DataW.trod,e,j,if_true]
       simp_all
      .cases c
    .cases h
   .cases h
  .split at h
   next q i=>
    obtain⟨_,g,l⟩:=kN 20 t q i w 0 _ a fuel cs x c;exact⟨wB h g,λw' f _ _=>l w' 0 f a⟩
   .cases h
  .cases h
abbrev EO:=ra×Option Pl
def wn(w:TS)(b:EO):Prop:=b.1 = .dead∨∃vs e p c t fr,b.1 = .cells vs e false/\b.2=some p/\p.p_=e/\vs.all flat=true/\vs.all bg=true/\vs.length<=p.room/\w.heap[p.b]?=some (.cells c t fr)/\c.size=p.o+p.room/\∀(i:Nat) v,vs[i]?=some v->c[p.o+i]?=some v
def pf:∀ {ks:TJ} {vs:Tn},Cw ks vs->vs.all flat=true/\vs.all bg=true
 | [],[],_=>⟨rfl,rfl⟩
 | .i k :: ks,v :: vs,h=>by
  obtain⟨⟨n,rfl,_⟩,c⟩:=h;obtain⟨a,b⟩:=pf c;exact⟨by simp[a,flat,gk,scalar],by simp[b];rfl⟩
 | .b :: ks,v :: vs,h=>by
  obtain⟨⟨n,rfl⟩,c⟩:=h;obtain⟨a,b⟩:=pf c;exact⟨by simp[a,flat,gk,scalar],by simp[b];rfl⟩
 | .v :: _,_,h=>by cases h
 | [],_ :: _,h=>by cases h
 | .i _ :: _,[],h=>by cases h
 | .b :: _,[],h=>by cases h
def wA{ks:TJ}(d:0<ks.length){c:Tn}{n:Nat}(o:c.length=n*ks.length)(h:∀i,i<n->Cw ks ((c.drop (i*ks.length)).take ks.length)):c.all flat=true/\c.all bg=true:=by
 have f:∀j,j<c.length->∃v,c[j]?=some v/\flat v=true/\bg v=true:=by
  intro j k;have g:j / ks.length<n:=by
   rw[Nat.div_lt_iff_lt_mul d];omega
  obtain⟨a,b⟩:=pf (h _ g);have p:=It j d;have m:=Nat.div_add_mod j ks.length;have e:((c.drop (j / ks.length*ks.length)).take ks.length)[j%ks.length]?=some c[j]:=by
   grind
  grind
 constructor<;>
 .rw[A5];intro v l;obtain⟨j,k⟩:=DZ l
  grind
section
variable [Cf] [D1]
def Ov{w:TS}{p:Ez}{v:TR}(e:∀ks,p = .s ks->0<ks.length)(h:JF w p v)(n0:Nat):∃(x:SL) (A:List EO),(∀b∈A,wn w b)/\x.is p.lk=true/\x.g_/\
  (∀mu:jn,(∀(i:Nat) b,A[i]?=some b->mu (n0+i)=b.2)->VR Cu mu x.val v)/\∀e:HL,(∀(i:Nat) b,A[i]?=some b->e[n0+i]?=some (.o b.1))->bD e [p] [x.lf]:=by
 cases p with
 |i k=>
  obtain⟨n,rfl,N⟩:=h;exact⟨.i k n,[],by simp,by simp[SL.is,Ez.lk,fq],trivial,λmu _=>.scalar rfl,λe _=>⟨N,trivial⟩⟩
 |b=>
  obtain⟨t,rfl⟩:=h;exact⟨.b t,[],by simp,rfl,trivial,λmu _=>.scalar rfl,λe _=>trivial⟩
 |s ks=>
  have J:=e ks rfl;rcases h with rfl|⟨a,len,cap,c,t,E,d,rfl,L,y,Q,f,z,m,u,j⟩
  .refine⟨.v (.slice none 0 0),[],by simp,rfl,rfl,λmu _=>.scalar rfl,λe _=>⟨⟨0,[],⟨by simp,.inl ⟨rfl,rfl⟩⟩,CM _,λi O=>by omega⟩,trivial⟩⟩
  .obtain⟨C,D⟩:=wA J m j;have F:aJ (.slice (some ⟨n0,0,le ks.length⟩) len 0)=true:=by simp[aJ,l_,aV,bF,bo,aR,aD,le]
   have I:a=⟨a.block,a.off,none⟩:=by cases a;cases L;rfl
   have q:∀e:HL,e[n0]?=some (.o (.cells d ks.length false))->bD e [.s ks] [.v (.slice (some ⟨n0,0,le ks.length⟩) len 0)]:=λe l=>
    ⟨⟨len,d,⟨m,.inr ⟨n0,0,0,d,false,rfl,l,t_ m⟩⟩,by omega,j⟩,trivial⟩
   by_cases g:cap=0
   .subst g;obtain rfl:len=0:=by omega
    have B:d=[]:=List.eq_nil_of_length_eq_zero (by omega);subst B;refine⟨.v (.slice (some ⟨n0,0,le ks.length⟩) 0 0),[(.cells [] ks.length false,some ⟨a.block,c.size,0,ks.length⟩)],λb r=>?_,rfl,F,λmu _=>.wb (CM _),λe l=>q e (l 0 _ rfl)⟩;simp only[Fm]at r;subst r;exact .inr ⟨[],ks.length,_,c,t,E,rfl,rfl,rfl,rfl,rfl,CM _,f,by simp,λi v M=>by simp at M⟩
   .have z:a.off+cap*ks.length<=c.size:=z.resolve_left g;have K:=QS ks.length y;refine⟨.v (.slice (some ⟨n0,0,le ks.length⟩) len 0),[(.cells d ks.length false,some ⟨a.block,a.off,c.size - a.off,ks.length⟩)],λb r=>?_,rfl,F,λmu l=>?_,λe l=>q e (l 0 _ rfl)⟩
    .simp only[Fm]at r;subst r;exact .inr ⟨d,ks.length,_,c,t,E,rfl,rfl,rfl,C,D,by grind,f,by grind,u⟩
    .have G:=l 0 _ rfl;rw[I];have:=VR.x9 (la:=Cu) (mu:=mu) (id:=n0) (off:=0) (len:=len) (cap:=cap) (cx:=0) G (by grind) y (.inl rfl);exact this
def uA{w:TS}:∀ {a:List Ez} {vs:Tn},(∀ks,Ez.s ks∈a->0<ks.length)->dQ w a vs->∀n0,∃(xs:List SL) (d:List EO),(∀b∈d,wn w b)/\aZ xs (a.map Ez.lk)=true/\(∀x∈xs,x.g_)/\xs.length=vs.length/\
  (∀mu:jn,(∀(i:Nat) b,d[i]?=some b->mu (n0+i)=b.2)->t0 Cu mu (xs.map SL.val) vs)/\∀c:HL,(∀(i:Nat) b,d[i]?=some b->c[n0+i]?=some (.o b.1))->bD c a (xs.map SL.lf)
 | [],[],_,_,n0=>⟨[],[],by simp,rfl,by simp,rfl,λmu _=>⟨rfl,λi x y h=>by simp at h⟩,λc _=>trivial⟩
 |M :: a,v :: vs,c,h,n0=>by
  obtain⟨x,d,a1,a2,G,u,z⟩:=Ov (λks e=>c ks (by simp_all)) h.1 n0;obtain⟨xs,j,I,A,J,B,C,D⟩:=uA (λks e=>c ks (E2 _ e)) h.2 (n0+d.length);have r:∀ {n:Type} {f:Nat->n} {g:EO->n},(∀(i:Nat) b,(d++j)[i]?=some b->f (n0+i)=g b)->(∀(i:Nat) b,d[i]?=some b->f (n0+i)=g b)/\∀(i:Nat) b,j[i]?=some b->f (n0+d.length+i)=g b:=by
   intro n f g h;refine⟨λi b t=>h i b ?_,λi b t=>?_⟩
   .grind
   .rw[QQ];refine h _ b ?_
    grind
  refine⟨x :: xs,d++j,λb t=>?_,by simp[aZ,a2,A],λy Q=>?_,by simp[B],λmu m=>?_,λc F=>?_⟩
  .grind
  .grind
  .obtain⟨k,l⟩:=r (f:=mu) (g:=λb=>b.2) m;have K:=u mu k;obtain⟨E,L⟩:=C mu l;refine⟨by simpa using E,λi p q N O=>?_⟩
   grind
  .obtain⟨k,l⟩:=r (f:=λi=>c[i]?) (g:=λb=>some (HO.o b.1)) F;exact bD.E6 (z c k) (D c l)
 | [],_ :: _,_,h,_=>by cases h
 |_ :: _,[],_,h,_=>by cases h
end
end
end Sx
namespace Sx
open Go.ChangeShapes Go.WideShapes Go.ChangeAt Go.WideMaps Go.WideElems Go.RowKit
section
variable {H:Type} {enc:TypeId×Value->H} {P:TI}
def pI{w:TS}{r:Reach}{d:Nat}{u:TP}{v:TR}(h:Cell.okWide P w r d u v):LZ w v:=by
 rintro a k b rfl;have g:∃e,w.has P r d a e b:=by
  unfold Cell.okWide at h;split at h<;>first|simp_all|(rename_i f;cases f;done)|skip
  all_goals
   unfold Cell.ok at h
   grind
 obtain⟨e,_,i,l,c,j,_⟩:=g;refine⟨i,?_⟩;unfold World.shape? at j
 grind
def PK{w:TS}{r:Reach}{f:Nat}{t:TP}{v:TR}(h:Value.okWide P w r f t v):∀x∈v.cells.toList,LZ w x:=by
 intro x e;unfold Value.okWide at h;split at h
 .obtain⟨a,rfl,_,j,_,_,b⟩:=h;obtain⟨i,d⟩:=DZ e;obtain⟨u,_,c⟩:=b i x (by simpa[Value.cells]using d);exact pI c
 .obtain⟨a,rfl,_,j,_,_,b⟩:=h;obtain⟨i,d⟩:=DZ e;obtain⟨u,_,c⟩:=b i x (by simpa[Value.cells]using d);exact pI c
 .have:x=v∨∃a,v = .agg a:=by
   cases v<;>first|(right;exact⟨_,rfl⟩)|(left;simpa[Value.cells]using e)
  rcases this with rfl|⟨a,rfl⟩
  .exact pI h
  .exfalso;unfold Cell.okWide at h;split at h<;>first|simp_all|(rename_i g;cases g;done)|skip
   all_goals
    unfold Cell.ok at h
    simp_all
def skC(P:TI)(t:TP)(a:List Ez):Option SK:=
 match P.underlying t,a with
 |some (.struct _),a=>some (.agg (a.map Ez.lk))
 |some (.array _ _),a=>some (.agg (a.map Ez.lk))
 |some (.int _),[k]=>some (.leaf k.lk)
 |some .bool,[k]=>some (.leaf k.lk)
 |some (.slice _),[k]=>some (.leaf k.lk)
 |_,_=>none
def y6(a:List Ez):Bool:=a.all λk=>match k with
 | .s b=>Nat.blt 0 b.length
 |_=>true
def Wa{a:List Ez}(h:y6 a=true):∀ks,Ez.s ks∈a->0<ks.length:=by
 intro ks b;have:=A5.1 h _ b
 simp_all
section
variable [Cf] [D1]
abbrev NT(mu:jn)(n0:Nat)(a:List EO):Prop:=∀(i:Nat) b,a[i]?=some b->mu (n0+i)=b.2
abbrev SO(c:HL)(n0:Nat)(a:List EO):Prop:=∀(i:Nat) b,a[i]?=some b->c[n0+i]?=some (.o b.1)
abbrev JK(W a:TS):Prop:=∀b,b<W.heap.size->a.heap[b]?=W.heap[b]?
def Bk{W:TS}{r:Reach}{a:Nat}{t:TP}{n:Nat}{e:TP}{v:TR}(b:P.underlying t=some (.array n e))(h:Value.okWide P W r a t v):∃cs,v = .agg cs:=by
 simp only[Value.okWide,b]at h
 grind
def MY{W:TS}{r:Reach}{V:Nat}{c:Bool}{t:TP}{f:List Ez}{C:SK}{v:TR}{d:DataW H}{B:List MemPlace}(h:r5 P 20 t=some f)(p:skC P t f=some C)(z:y6 f=true)(a:Value.okWide P W r V t v)(Z:DataW.Trod enc P W 0 (λ_=>true) c t v d B)(n0:Nat) :
  ∃(x:S0) (j:List EO),(∀b∈j,wn W b)/\x.is C=true/\x.g_/\(∀mu:jn,NT mu n0 j->VR Cu mu x.val v)/\(∀o:HL,SO o n0 j->bD o f (x.cells.map SL.lf))/\
   ∀(q:TS) (s:Tx),JK W q->(∀b,b<W.heap.size->s b=true)->DataW.Trod enc P q 0 s c t v d B:=by
 obtain⟨u,hf⟩:=Z;obtain⟨D,U⟩:=Ox 20 t f h W c u _ _ (PK a) hf;obtain⟨M,j,E,F,N,O,A,G⟩:=uA (Wa z) D n0;have g:∀(q:TS) (s:Tx),JK W q->(∀b,b<W.heap.size->s b=true)->DataW.Trod enc P q 0 s c t v d B:=λq s S Y=>⟨u,U q s S Y⟩;have T:(∀R,P.underlying t≠some (.struct R))->(∀n e,P.underlying t≠some (.array n e))->∀k,f=[k]->C = .leaf k.lk->∃(x:S0) (j:List EO),(∀b∈j,wn W b)/\x.is C=true/\x.g_/\(∀mu:jn,NT mu n0 j->VR Cu mu x.val v)/\(∀o:HL,SO o n0 j->bD o f (x.cells.map SL.lf))/\
   ∀(q:TS) (s:Tx),JK W q->(∀b,b<W.heap.size->s b=true)->DataW.Trod enc P q 0 s c t v d B:=by
  rintro ad ag k rfl rfl;have hv:v.cells.toList=[v]:=by
   have S:=dQ.len D;cases v with
   |agg Q=>
    exfalso;unfold Value.okWide at a;split at a
    .simp_all
    .simp_all
    .unfold Cell.okWide at a;split at a<;>first|simp_all|(rename_i X;cases X;done)|skip
     all_goals
      unfold Cell.ok at a
      simp_all
   |_=>simp[Value.cells]
  rw[hv]at D O A;obtain⟨x,rfl⟩ : ∃x,M=[x]:=List.length_eq_one_iff.1 O;refine⟨.leaf x,j,E,?_,λl hl=>?_,λmu m=>?_,λo w=>G o w,g⟩
  .show x.is k.lk=true;simpa[aZ]using F
  .simp only[S0.cells,Fm]at hl
   simp_all
  .exact(A mu m).2 0 _ _ rfl rfl
 unfold skC at p;split at p
 next R e=>
  cases p;obtain⟨Q,rfl,_⟩:=okWide_struct e a;refine⟨.agg M,j,E,F,N,λmu m=>?_,λo w=>G o w,g⟩;obtain⟨I,J⟩:=A mu m;refine .agg (by simpa[Value.cells]using I) λi x y K L=>J i x y (by simpa using K) (by simpa[Value.cells]using L)
 next n' e' e=>
  cases p;obtain⟨Q,rfl⟩:=Bk e a;refine⟨.agg M,j,E,F,N,λmu m=>?_,λo w=>G o w,g⟩;obtain⟨I,J⟩:=A mu m;refine .agg (by simpa[Value.cells]using I) λi x y K L=>J i x y (by simpa using K) (by simpa[Value.cells]using L)
 .simp_all
 .simp_all
 .simp_all
 .cases p
def YZ(P:TI):List TypeId->Option (List (List Ez)×List SK)
 | []=>some ([],[])
 |t :: c=>match r5 P 20 t,YZ P c with
  |some a,some (l,sks)=>match skC P t a,y6 a with
   |some b,true=>some (a :: l,b :: sks)
   |_,_=>none
  |_,_=>none
def N7{i6:Type}{c a:List EO}{f:Nat->i6}{g:EO->i6}{n0:Nat}(h:∀(i:Nat) b,(c++a)[i]?=some b->f (n0+i)=g b):(∀(i:Nat) b,c[i]?=some b->f (n0+i)=g b)/\∀(i:Nat) b,a[i]?=some b->f (n0+c.length+i)=g b:=by
 refine⟨λi b d=>h i b ?_,λi b d=>?_⟩
 .grind
 .rw[QQ];refine h _ b ?_
  grind
def rA{W:TS}{r:Reach}{K:Nat}{e:Bool}:∀(n:List TypeId) (l:List (List Ez)) (sks:TN) (vs:Tn) (ds:List (DataW H)) (z:List MemPlace) (n0:Nat),YZ P n=some (l,sks)->
  (∀(j:Nat) t v,n[j]?=some t->vs[j]?=some v->Value.okWide P W r K t v)->DataW.TrodAll enc P W 0 (λ_=>true) e n vs ds z->
  ∃(xs:List S0) (m:List EO),(∀b∈m,wn W b)/\cE xs sks=true/\(∀x∈xs,x.g_)/\(∀mu:jn,NT mu n0 m->t0 Cu mu (ak xs) vs)/\(∀k:HL,SO k n0 m->bD k l.flatten (cN xs))/\
   ∀(s:TS) (u:Tx),JK W s->(∀b,b<W.heap.size->u b=true)->DataW.TrodAll enc P s 0 u e n vs ds z
 | [],l,sks,[],[],z,n0,h,_,a=>by
  cases h;exact⟨[],[],by simp,rfl,by simp,λmu _=>⟨rfl,λi x y h=>by simp[ak]at h⟩,λk _=>trivial,λ_ _ _ _=>a⟩
 |t :: n,l,sks,v :: vs,d :: ds,z,n0,h,E,a=>by
  simp only[YZ]at h;split at h
  next T l' w U V=>
   split at h
   next sk e3 e4=>
    cases h;obtain⟨p,q,h1,c,rfl⟩:=a;obtain⟨x,m,Y,F,Z,G,I,J⟩:=MY U e3 e4 (E 0 t v rfl rfl) h1 n0;obtain⟨xs,A,b1,L,b3,M,N,O⟩:=rA n l' w vs ds q (n0+m.length) V (λj t v h1 c=>E (j+1) t v h1 c) c;refine⟨x :: xs,m++A,λb hb=>?_,by simp[cE,F,L],λy hy=>?_,λmu D=>?_,λk X=>?_,λs u h1 c=>⟨p,q,J s u h1 c,O s u h1 c,rfl⟩⟩
    .grind
    .grind
    .obtain⟨h1,c⟩:=N7 (f:=mu) (g:=λb=>b.2) D;have Q:=G mu h1;obtain⟨R,S⟩:=M mu c;refine⟨by simpa[ak]using R,λi p q B C=>?_⟩;cases i with
     |zero=>
      simp only[ak,DD,hB,FL]at B C;subst B C;exact Q
     |succ i=>exact S i p q (by simpa[ak]using B) (by simpa using C)
    .obtain⟨h1,c⟩:=N7 (f:=λi=>k[i]?) (g:=λb=>some (HO.o b.1)) X;rw[w5];exact bD.E6 (I k h1) (N k c)
   .cases h
  .cases h
 | [],_,_,_ :: _,_,_,_,_,_,a=>by cases a
 | [],_,_,[],_ :: _,_,_,_,_,a=>by cases a
 |_ :: _,_,_,[],_,_,_,_,_,a=>by cases a
 |_ :: _,_,_,_ :: _,[],_,_,_,_,a=>by cases a
def wx{C:ke}{f:TQ}{args:Tn}{r:TR}{H':Tu}{a:List EO}{W:TS}(X:∀b∈a,wn W b)(h:en C f args (a.map (·.1)) r H'){args':Tl}(m:∀mu:jn,NT mu 0 a->t0 Cu mu args args'.toList)(hr:flat r=true)
  (V:∀g vs,C.G g=some vs->Ek g<W.heap.size/\vs.all bg=true/\∃c e fr,W.heap[Ek g]?=some (.cells c e fr)/\cz (λ_=>none) vs c (Ft g)) (Y:∀g vs,C.G g=some vs->vs.all Sr=true) :
  Calls C.P f args' W λe w=>e = .returned r/\w.os=W.os/\w.output=W.output/\w.tape=W.tape/\∀b,b<W.heap.size->w.heap[b]?=W.heap[b]?:=by
 let mu:jn:=λid=>(a[id]?).bind (·.2)
 have z:NT mu 0 a:=λi b E=>by grind
 have n:∀(id:Nat) o,(a.map (·.1))[id]?=some o->∃b,a[id]?=some b/\o=b.1/\wn W b:=by
  grind
 have ad:∀(id:Nat) o,(a.map (·.1))[id]?=some o->o.owned=false:=by
  intro id o Z;obtain⟨b,_,rfl,q⟩:=n id o Z;rcases q with q|⟨vs,e,p,c,t,fr,q,_⟩<;>rw[q]<;>rfl
 have A:∀b,¬Ij mu (a.map (·.1)) b:=by
  rintro b ⟨id,o,p,l,d,_⟩
  grind
 have y:WR C W.heap.size mu (a.map (·.1)) W:=by
  refine⟨λid o l d=>?_,λi j oi oj pi pj l d q=>?_,λi o p l d=>?_,λi o p l d _ D=>?_,λid l=>?_,λg vs F=>?_⟩
  .obtain⟨b,q1,rfl,k⟩:=n id o l;rcases k with k|⟨vs,e,p,c,t,fr,k,q4,J,K,L,M,N,s,u⟩
   .rw[k]at d;cases d
   .refine⟨p,by grind,?_⟩;rw[k];refine⟨J,M,L,c,t,fr,N,s,λh=>by(cases h),λi v I=>⟨v,u i v I,.of_flat (A5.1 K v (Cb I))⟩⟩
  .grind
  .grind
  .obtain⟨b,q1,rfl,k⟩:=n i o l;rcases k with k|⟨vs,e,p',c,t,fr,k,q4,J,K,L,M,N,s,u⟩
   .rw[k]at d;cases d
   grind
  .grind
  .obtain⟨l,d,c,e,fr,D,U⟩:=V g vs F;exact⟨l,d,c,e,fr,D,sZ (Y g vs F) U⟩
 intro T;obtain⟨v,ag,w',O,a2,x,_,B⟩:=h _ W.heap.size mu W args' (x5 _) (m mu z) y T;rw[sS hr O]at B;obtain⟨fr,Q,R,S⟩:=B;exact⟨.returned r,w',fr,⟨rfl,x.os,x.output,x.tape,λb E=>x.i_ b E (A b)⟩,Q,R,S⟩
def Wb{P:TI}{f:Func}{s:ChangeSpec}{c g d:Bool}{W e:TS}{args:Tl}{v:TR}{ds k:List (DataW H)}{a n:List MemPlace}
  (q:DataW.Whole enc P f.params.toList s.vars c W args.toList ds k a)
  (l:∀(b:Nat) (m:Tx) (r:Bool),DataW.TrodAll enc P e b m r f.resultTypes.toList (v.resultList f.resultTypes.size) (s.fn H (ds++k)).results [])
  (i:DataW.TrodAll enc P e 0 (λb=>decide (b<W.heap.size)) true f.params.toList args.toList (s.fn H (ds++k)).args n)
  (j:∀m:Nat->Bool,DataW.TrodVars enc P e m s.vars (s.fn H (ds++k)).vars [])
  (h1:e.os=W.os) (o:e.output=W.output) (p:∀b,b<W.heap.size->e.heap[b]?=W.heap[b]?) :
  s.post enc P f c g d false W args v e:=
 ⟨ds,k,a,[],n,[],q,l _ _ _,i,j _,Vm h1 o p _,λh=>by cases h⟩
end
end
section
variable [Cf]
def mQ{C:ke}{N:Tc}{Sg:Td}(k:C.P.follows .mixedOrders=true){g:TQ}{sg:GH}(l:Sg g=some sg){ls e:TG}{H H':Tu}(j:let _:C8:=KnoC C N;aI C Sg g ls H e H'){xs ys:List S0}(h1:cE xs sg.ps=true)(f:cN xs=ls)(h:cE ys sg.rs=true)(i:cN ys=e) :
  en C g (ak xs) H (gl (ak ys)) H':=by
 let _:C8:=KnoC C N
 obtain⟨m,p,q,a,b,c,d⟩:=j;rw[l]at a;cases a;obtain⟨n,_⟩:=cV b.1 h1 (b.2.1.trans f.symm);obtain⟨o,_⟩:=cV c.1 h (c.2.1.trans i.symm);rw[n,o]at d;exact wk k d
end
end Sx
end Go.Am
namespace Go.Am
open Sx Go.Proofs
abbrev C4:=Int×Int×Fin 4
def IC(a:C4):Cl:=(a.1,a.2.1,a.2.2.val)
def wG(a:C4):Tn:=bU (IC a)
def XW(a b:C4):Int:=IE (IC a) (IC b)
def c7(a b:C4):Go.Proofs.ltOf XW a b=CP (IC b) (IC a):=by
 unfold Go.Proofs.ltOf XW;rw[Wm,Es];exact Zo _ _
def H2:Go.Sort.SWO (Go.Proofs.ltOf XW) where
 irrefl x:=by rw[c7];exact wS
 trans x y z h1 h2:=by
  rw[c7]at *;exact Pc h1 h2
 ntrans x y z h1 h2:=by
  rw[c7]at *;rw[vm]at *;omega
def hu(a b:C4):en cc 58 [.agg ⟨wG a⟩,.agg ⟨wG b⟩] [] (.int .i64 (XW a b)) []:=by
 have c:=uG (a:=IC a) (b:=IC b) a.2.2.isLt b.2.2.isLt [];exact mQ (N:=I_) GE (Sg:=ac) (sg:=⟨[.agg [.i .i64,.i .i64,.i .u8],.agg [.i .i64,.i .i64,.i .u8]],[M]⟩) rfl c (xs:=[.agg [.i .i64 a.1,.i .i64 a.2.1,.i .u8 (ofNat a.2.2.val)],.agg [.i .i64 b.1,.i .i64 b.2.1,.i .u8 (ofNat b.2.2.val)]]) rfl rfl (ys:=[.leaf (.i .i64 (XW a b))]) rfl rfl
abbrev r6:Value:=.func (.func 58) ⟨[]⟩ ⟨[]⟩
def WD{H:HL}{id cx:Nat}{J:List C4}(hY:H[id]?=some (.o (.cells ((J.map IC).flatMap bU) 3 true)))(h0:0<J.length)(k:J.length<=100000) :
  ∃D:List C4,D.Perm J/\(D.Pairwise λx y=>CP (IC x) (IC y)=false)/\aI cc ac 69 [.v (.slice (some ⟨id,0,le 3⟩) J.length cx),.v r6] (f_ aa H) [] (f_ aa (m' H id 3 bU (D.map IC))):=by
 have i:∀L:List C4,(L.map IC).flatMap bU=L.flatMap wG:=λL=>by rw[y1];rfl
 refine⟨Jv XW J,Rr H2 J,?_,?_⟩
 .refine(Rq H2 J).imp λ{x y} h=>?_;rw[c7]at h;exact h
 .have a:(f_ aa H)[id]?=some (.cells (J.flatMap wG) 3 true):=by
   rw[←i];unfold f_;rw[EL,hY];rfl
  have b:=yd (C:=cc) ta hj (enc:=wG) (e:=3) (λw=>by kernel_rfl) (λw=>by kernel_rfl) (λ_=>rfl) (λx v j=>by
   simp only[wG,bU,Dy,Wl,or_false]at j;rcases j with rfl|rfl|rfl<;>rfl) H2 (g:=58) (λf w=>by kernel_rfl) hu (cx:=cx) a rfl h0 (by omega)
  have c:(f_ aa H).set id (.cells ((Jv XW J).flatMap wG) 3 true)=f_ aa (m' H id 3 bU ((Jv XW J).map IC)):=by
   unfold m';rw[i,kz];rfl
  rw[c]at b;exact⟨⟨[lv,lv],[]⟩,[.leaf (.v (.slice (some ⟨id,0,le 3⟩) J.length cx)),.leaf (.v r6)],[],rfl,⟨rfl,rfl,λy d=>by
   simp only[Dy,Wl,or_false]at d;rcases d with rfl|rfl
   .exact aB (show aJ (.slice (some ⟨id,0,le 3⟩) J.length cx)=true by simp[aJ,l_,aV,bF,bo,aR,aD,le])
   .exact aB rfl⟩,⟨rfl,rfl,λy d=>by cases d⟩,⟨0,.inr ⟨.inl (by kernel_rfl),b⟩⟩⟩
def v3{L:TM}(h:∀c∈L,c.2.2<4):∃J:List C4,J.map IC=L:=by
 refine⟨L.map λc=>(c.1,c.2.1,⟨c.2.2%4,It _ (by omega)⟩),?_⟩;rw[SD]
 conv=>rhs;rw[←ca L]
 refine Yy λc a=>?_;have:=h c a;show(c.1,c.2.1,c.2.2%4)=c
 grind
structure N1(h0 h4:HL)(b mp mw:Nat)(w v:Nat)(xv:Value)(r:Mv)(xa xu:Value)(IM:TM):Prop where
 hb:h4[b]?=some (.o (.cells (ah ⟨w,v,xv,r,xa,.slice none 0 0,.slice none 0 0,xu,mp,.slice none 0 0,.slice none 0 0,.slice none 0 0⟩ false) 15 true))
 bn:h0.length<=b
 mpn:h0.length<=mp
 mwn:h0.length<=mw
 mm:mw≠mp
 old:∀(j:Nat) o,h0[j]?=some o->h4[j]?=some o
 at_:e_ h0.length h4 xa 3 bU (C7 IM)
 us:e_ h0.length h4 xu 1 y0 (replicate IM.length false)
 pr:h4[mp]?=some (.o (.map [] 0))
 wh:C6 EP h4 mw ((C7 IM).map λc=>(c,.int .i64 (ofNat 0)))
structure NW(h5 g:HL)(mw:Nat)(IM:TM)(n:Nat):Prop where
 m:∃ps:List (K3×Value),C6 EP g mw ps/\ps.map Prod.fst=C7 IM/\∀(i:Nat) k u,ps[i]?=some (k,u)->u = .int .i64 (ofNat (if (Dn IM).idxOf k<n then(Dn IM).idxOf k else 0))
 k:∀(j:Nat) o,h5[j]?=some o->j≠mw->g[j]?=some o
def d9{h0 y:HL}{b Z t w v:Nat}{xv:TR}{r:Mv}{X xu:TR}{a:TM}(f:N1 h0 y b Z t w v xv r X xu a)(a3:a.length<=36)(U:0<a.length)(hq:∀c∈a,c.2.2<4){xi:TR}{K:Te}(hK:∀g,N2 h0 g b Z t w v xv r X xu a->hO (hA P1) b xi t g K) :
  c8 (hA P1) b t xi y K:=by
 have a4:=ai f.hb;have aE:h0.length<=y.length:=by have:=f.bn;omega
 have a7:=sX a;unfold c8;simp only[u7];refine br (ds:=[X]) f.hb (by simp[ah]) rfl ?_;refine b_ ?_;refine ab (e_.g_ (e:=3) (enc:=bU) cF f.at_) ?_;refine j8 ?_;obtain⟨J,hJ⟩:=v3 (L:=C7 a) λc x=>hq c (ob.1 x);have T:C7 a≠[]:=λe=>by
  obtain⟨c,x⟩:=aq U;have:=ob.2 (Cb x)
  simp_all
 obtain⟨id,cx,H,O,hY,a6⟩:=gS f.at_ T;have ad:J.length=(C7 a).length:=by grind
 rw[←hJ]at hY;obtain⟨D,a1,a2,l⟩:=WD (cx:=cx) hY (by grind) (by omega);have hD:D.map IC=Dn a:=Y2 (by grind) (by grind);rw[hD]at l;rw[ad,←H]at l;refine am l ?_;refine b_ ?_;obtain⟨z,Y⟩ : ∃z,z=m' y id 3 bU (Dn a):=⟨_,rfl⟩;rw[←Y];have M:id≠b:=λe=>by
  rw[e,f.hb]at hY
  simp_all
 have V:∀(j:Nat) o,y[j]?=some o->j≠id->z[j]?=some o:=λj o p av=>by
  rw[Y,bV av];exact p
 have l5:z.length=y.length:=by rw[Y,gV]
 have ag:(Dn a).length=(C7 a).length:=(jf a).length_eq;have s:e_ h0.length z X 3 bU (Dn a):=.inr ⟨id,cx,by rw[ag];exact H,O,by rw[Y];exact bA (ai hY),by omega⟩;have al:=V _ _ f.hb (De M);refine br (ds:=[X]) al (by simp[ah]) rfl ?_;refine b_ ?_;refine ab (e_.g_ (e:=3) (enc:=bU) cF s) ?_;refine j8 ?_;refine bu (e_.ls cF s) ?_;have E:∀ {j e:Nat} {l:Tn} {d:Bool} {g:HL} {G:List (K3×Value)},C6 EP g t G->g[j]?=some (.o (.cells l e d))->j≠t:=λhm p q=>by
  subst q;obtain⟨es,c,I,_⟩:=hm
  simp_all
 have N:id≠t:=E f.wh hY;have F:=f.wh.i_ EP λo ho=>V t o ho (De N);refine aG (m:=(Dn a).length) (λm ls g=>∃n,ls=[.i (ofNat n)]/\m=(Dn a).length - n/\n<=(Dn a).length/\NW z g t a n) ⟨0,rfl,rfl,CM _,⟨_,F,by rw[SD];exact ca _,λi k u hi=>?_⟩,λ_ _ h _=>h⟩ ?_
 .grind
 rintro m ls g ⟨n,rfl,rfl,hn,A⟩ a0 C;refine Da ?_;refine b_ ?_;by_cases B:n<(Dn a).length
 case neg=>
  obtain rfl:n=(Dn a).length:=by omega
  rw[aK (x5 _)];refine j8 ?_;obtain⟨G,m1,W,m3⟩:=A.m;have kg:∀ {j e:Nat} {l:Tn} {d:Bool},z[j]?=some (.o (.cells l e d))->g[j]?=some (.o (.cells l e d)):=λ{j e l d} p=>A.k j _ p (E F p);have kk:∀ {j e:Nat} {l:Tn} {d:Bool},y[j]?=some (.o (.cells l e d))->e≠3->g[j]?=some (.o (.cells l e d)):=λ{j e l d} p he=>kg (V j _ p λq=>by
   simp_all)
  refine hK g ⟨kk f.hb (by decide),f.bn,f.mpn,λj o p=>A.k j o (V j o (f.old j o p) (by grind)) (by have:=ai p;have:=f.mwn;omega),s.A1 λj l _ h=>kg h,f.us.A1 λj l _ h=>kk h (by decide),A.k Z _ (V Z _ f.pr λq=>?_) (De f.mm),G,m1,λc=>by rw[W];exact ob,λi k u hi=>?_⟩
  .have I:=f.pr
   simp_all
  grind
 rw[aL B];refine b_ ?_;obtain⟨c,x⟩:=aq B;refine aP (e_.ls cF (s.A1 λj l _ h=>A.k j _ h (E F h))) rfl x ?_;rw[show bU c=[.int .i64 c.1,.int .i64 c.2.1,.int .u8 (ofNat c.2.2)]from rfl];refine b_ ?_;obtain⟨G,m1,W,m3⟩:=A.m;have an:c∈C7 a:=(jf a).mem_iff.1 (Cb x);have ax:∀k:K3,Instr.sameBits 10000 (.agg ⟨EP k⟩) (.agg ⟨EP k⟩)=true:=λk=>by simp[EP,Instr.sameBits]
 refine eu EP yF (by kernel_rfl) (by kernel_rfl) sM m1 c (by rw[W];exact an) rfl (ax c) λo i0 ap hm=>?_;refine j8 ?_;have a5:(Dn a).idxOf c=n:=by
  have R:=Cb x;have Q:=qcw.2 R;have I:(Dn a)[(Dn a).idxOf c]?=some c:=by simp_all
  have S:=Ix (sj a)
  grind
 rw[aT (by omega)];have ay:i0<G.length:=by simpa using ai ap
 refine C _ _ _ (by omega) ⟨n+1,rfl,rfl,B,⟨_,hm,?_,λi k u hi=>?_⟩,λj o2 p P=>cW (A.k j o2 p P) (De P)⟩
 .rw[←W];refine GB λi=>?_
  grind
 .by_cases e:i0=i
  .simp_all
  .rw[Ha e]at hi;have T:(Dn a).idxOf k≠n:=λq=>by
    have hk:k∈C7 a:=by
     grind
    have Q:=qcw.2 ((jf a).mem_iff.2 hk);have I:(Dn a)[(Dn a).idxOf k]?=some k:=by grind
    rw[q,x]at I;have:=DU I;subst this;have S:(G.map Prod.fst).Nodup:=by rw[W];exact sY a
    rw[SA,M8]at S
    grind
   grind
def ME{a:TM}{n:Nat}{c:Cl}(h:a[n]?=some c):C7 (a.take (n+1))=EH (C7 (a.take n)) c:=by
 rw[H5,h];exact O_
structure NF(h5 g:HL)(b mp mw:Nat)(w v:Nat)(xv:Value)(r:Mv)(xu:Value)(L:TM):Prop where
 x:∃xa,g[b]?=some (.o (.cells (ah ⟨w,v,xv,r,xa,.slice none 0 0,.slice none 0 0,xu,mp,.slice none 0 0,.slice none 0 0,.slice none 0 0⟩ false) 15 true))/\e_ h5.length g xa 3 bU L
 m:C6 EP g mw (L.map λc=>(c,.int .i64 (ofNat 0)))
 k:∀(j:Nat) o,h5[j]?=some o->j≠b->j≠mw->g[j]?=some o
 l:h5.length<=g.length
def hX{h h0:HL}{w v:Nat}{L:TR}{r:Mv}{xi:TR}{d:TM}(hg:aJ L=true)(a5:w*v<=9)(Y:aI cc ac 68 [.i (ofNat w),.i (ofNat v),.v L,.i (ofNat r.1),.i r.2.1,.i r.2.2] (f_ aa h) [.v xi,.i 0] (f_ aa h0))(H:po h0 xi 3 bU d)(a1:d.length<=36)
  {K:Te} (hK:∀g b mp X P G,N1 h0 g b mp X w v L r P G d->c8 (hA P1) b X xi g K) :
  a9 (hA P1) [.i (ofNat w),.i (ofNat v),.v L,.i (ofNat r.1),.i r.2.1,.i r.2.2] h K:=by
 unfold a9;simp only[u7];refine b_ ?_;refine am Y ?_;refine b_ ?_;rw[pL (by omega)];rw[z_ (by grind)];refine b_ ?_;refine bu H ?_;refine ae (dM (by omega)) ?_;refine j8 ?_;rw[show(ofNat d.length).toNat=d.length from rfl];have ay:=jJ H;obtain⟨z,e1⟩ : ∃z,z=h0++[HO.o (.cells (aN [.bool false] d.length) 1 true)]:=⟨_,rfl⟩;rw[←e1];have l1:z.length=h0.length+1:=by rw[e1];simp
 refine ae (x:=()) (cY (yI ay) (cY (oT ⟨_,_,_,rfl⟩ λi V=>?_) eR)) ?_
 .have:i=h0.length:=(DU V).symm;omega
 refine j8 ?_;obtain⟨G,al⟩ : ∃G:Value,G = .slice (some ⟨h0.length,0,le 1⟩) d.length (d.length+1):=⟨_,rfl⟩;have Q:Value.slice (some ⟨h0.length,0,some 11⟩) d.length (d.length+1)=G:=al.symm;rw[Q];obtain⟨t,e2⟩ : ∃t,t=z++[HO.o (.map [] 0)]:=⟨_,rfl⟩;rw[←e2];have l2:t.length=h0.length+2:=by rw[e2];simp;omega
 obtain⟨A,e3⟩ : ∃A,A=t++[HO.o (.cells (ah ⟨w,v,L,r,.slice none 0 0,.slice none 0 0,.slice none 0 0,G,z.length,.slice none 0 0,.slice none 0 0,.slice none 0 0⟩ false) 15 true)]:=⟨_,rfl⟩;have ad:t++[HO.o (.cells [.int .i64 (ofNat w),.int .i64 (ofNat v),L,.int .u8 (ofNat r.1),.int .i64 r.2.1,.int .i64 r.2.2,.slice none 0 0,.slice none 0 0,.slice none 0 0,G,.map (some z.length),.slice none 0 0,.slice none 0 0,.slice none 0 0,.bool false] 15 true)]=A:=e3.symm;rw[ad];have l3:A.length=h0.length+3:=by rw[e3];simp;omega
 obtain⟨B,e4⟩ : ∃B,B=A++[HO.o (.map [] 0)]:=⟨_,rfl⟩;rw[←e4];have l4:B.length=h0.length+4:=by rw[e4];simp;omega
 have k1:∀(j:Nat) o,h0[j]?=some o->z[j]?=some o:=λj o s=>by grind
 have k2:∀(j:Nat) o,z[j]?=some o->t[j]?=some o:=λj o s=>by grind
 have k3:∀(j:Nat) o,t[j]?=some o->A[j]?=some o:=λj o s=>by grind
 have W:∀(j:Nat) o,A[j]?=some o->B[j]?=some o:=λj o s=>by grind
 have N:∀(j:Nat) o,h0[j]?=some o->B[j]?=some o:=λj o s=>W j o (k3 j o (k2 j o (k1 j o s)));have mu:B[h0.length]?=some (.o (.cells (aN [.bool false] d.length) 1 true)):=W _ _ (k3 _ _ (k2 _ _ (by rw[e1];exact aH)));have mp:B[z.length]?=some (.o (.map [] 0)):=W _ _ (k3 _ _ (by rw[e2];exact aH));have mb:B[t.length]?=some (.o (.cells (ah ⟨w,v,L,r,.slice none 0 0,.slice none 0 0,.slice none 0 0,G,z.length,.slice none 0 0,.slice none 0 0,.slice none 0 0⟩ false) 15 true)):=W _ _ (by rw[e3];exact aH);have X:B[A.length]?=some (.o (.map [] 0)):=by rw[e4];exact aH
 refine bu (H.i_ λj o s _=>N j o s) ?_;have an:NF B B t.length z.length A.length w v L r G (C7 (d.take 0)):=⟨⟨_,mb,.inl ⟨rfl,rfl⟩⟩,⟨[],0,X,rfl⟩,λ_ _ h _ _=>h,x5 _⟩;refine aG (m:=d.length) (λm ls g=>∃n,ls=[.i (ofNat n)]/\m=d.length - n/\n<=d.length/\NF B g t.length z.length A.length w v L r G (C7 (d.take n))) ⟨0,rfl,rfl,CM _,an⟩ ?_;rintro m ls g ⟨n,rfl,rfl,hn,C⟩ a0 F;refine Da ?_;refine b_ ?_;obtain⟨P,U,ha⟩:=C.x;by_cases I:n<d.length
 case neg=>
  obtain rfl:n=d.length:=by omega
  rw[aK (x5 _)];refine j8 ?_;rw[Yt]at C ha;have z0:(aN [.bool false] d.length)=(replicate d.length false).flatMap y0:=by
   show aN (y0 false) d.length=_;rw[cS]
  refine hK g t.length z.length A.length P G ⟨U,by omega,by omega,by omega,by omega,λj o s=>C.k j o (N j o s) (by grind) (by grind),?_,?_,C.k _ _ mp (by omega) (by omega),C.m⟩
  .rcases ha with q|⟨id,cx,T,q2,q3⟩
   .exact .inl q
   .exact .inr ⟨id,cx,T,by omega,q3⟩
  .refine .inr ⟨h0.length,d.length+1,by simp_all,x5 _,?_,.inr (by simp_all)⟩;rw[←z0];exact C.k _ _ mu (by omega) (by omega)
 rw[aL I];refine b_ ?_;obtain⟨c,hc⟩:=aq I;have E:=ME hc;refine aP (H.i_ λj o s _=>C.k j o (N j o s) (by grind) (by grind)) rfl hc ?_;rw[show bU c=[.int .i64 c.1,.int .i64 c.2.1,.int .u8 (ofNat c.2.2)]from rfl];refine b_ ?_;refine hP EP yF (by kernel_rfl) (by kernel_rfl) sM C.m c rfl (λy e=>by cases e) (λp hp y e=>?_) (λhn=>?_) λi u V=>?_
 .obtain⟨q,_,rfl⟩:=CH.1 hp;cases e
 .have ap:c∉C7 (d.take n):=λq=>hn (CH.2 ⟨_,CH.2 ⟨c,q,rfl⟩,rfl⟩);simp(disch:=omega)only[↓mc,Ex];refine QX (u:=.int .i64 (ofNat 0)) EP yF (by kernel_rfl) (by kernel_rfl) sM C.m c hn rfl λo hm=>?_;obtain⟨M,ag⟩ : ∃M,M=g.set A.length o:=⟨_,rfl⟩;rw[←ag]at hm ⊢;have a7:M.length=g.length:=by simp_all
  have a4:∀ {j e:Nat} {y:Tn} {f:Bool},g[j]?=some (.o (.cells y e f))->A.length≠j:=λ{j e y f} s q=>by
   subst q;obtain⟨es,c,t,_⟩:=C.m
   simp_all
  have J:∀ {j e:Nat} {y:Tn} {f:Bool},g[j]?=some (.o (.cells y e f))->M[j]?=some (.o (.cells y e f)):=λ{j e y f} s=>by
   grind
  refine j8 ?_;refine jK (ds:=[P]) (J U) (by simp[ah]) rfl ?_;refine b_ ?_;have D:e_ B.length M P 3 bU (C7 (d.take n)):=ha.A1 λj y _ h=>J h;refine ab (e_.g_ (e:=3) (enc:=bU) cF D) ?_;refine j8 ?_;have a3:(C7 (d.take n)).length<=36:=by
   have:=sX (d.take n)
   grind
  refine D.GX (a:=c) cF (by have:=C.l;omega) rfl rfl rfl (by unfold ba;rw[DK (by omega),DK (by omega)];rfl) ?_;intro aE g2 S gx O a6 b2;refine b_ ?_;refine ab gx ?_;refine j8 ?_;have ax:∀ {j e:Nat} {y:Tn} {f:Bool},M[j]?=some (.o (.cells y e f))->e≠3->d_ P≠some j:=λ{j e y f} s he q=>by
   obtain⟨Z,t⟩:=D.wid q
   simp_all
  have R:=O _ _ (J U) (ax (J U) (by decide));refine gf (b:=t.length) R (by simp[ah]) ?_;refine j8 ?_;refine ae (x:=()) (cY (bS ⟨_,_,_,rfl⟩ λi V=>?_) eR) ?_
  .have T:M.length=i:=by simpa[d_]using V
   grind
  refine j8 ?_;rw[aT (by omega)];refine F _ _ _ (by omega) ⟨n+1,rfl,rfl,I,?_⟩;rw[E];unfold EH;rw[qs ap];refine⟨⟨aE,fG R,S.A1 λj y _ h=>cW h λe=>?_⟩,?_,λj S s T q2=>?_,?_⟩
  .grind
  .rw[Iu];refine hm.i_ EP λo3 av=>cW (O _ o3 av λq=>?_) ?_
   .obtain⟨Z,t⟩:=D.wid q;obtain⟨es,c',h5,_⟩:=hm
    simp_all
   .omega
  .have p1:=C.k j S s T q2;have p2:M[j]?=some S:=by
    grind
   refine cW (O j S p2 λq=>?_) (De T);have p3:=(D.d_ q).1
   grind
  .rw[Fy];have:=C.l;omega
 .have a2:c∈C7 (d.take n):=by
   grind
  have hu:u = .int .i64 (ofNat 0):=by
   grind
  subst hu;simp(disch:=omega)only[↓mc,DJ];rw[aT (by omega)];refine F _ _ _ (by omega) ⟨n+1,rfl,rfl,I,?_⟩;rw[E];unfold EH
  simp_all
structure PtI(w v:Nat)(l:TD)(G:TH):Prop where
 h3:S3 w v
 pat:NX w v l
 lt:l.Pairwise λa b=>FG a b=true
 k0:∀c∈l,c.2.2≠0
 g:Cs w v l G
section
variable {w v:Nat} {l:TD} {G:TH} (pt:PtI w v l G) {r:Mv} (hr:CD 4000 r)
include pt hr
theorem PtI.GW:GW w G r (4*w*v):=λc e=>by
 have f:=pt.g.ok c e;have h:=th pt.h3 pt.g hr e;constructor
 .have:=eh f hr;unfold Nw;rw[Es];obtain⟨_,a,b,c,d,_⟩:=this;omega
 .unfold JD
  grind
theorem PtI.nok:∀id e,id<4*w*v->e<3->JD (aA (af (G id) r) (DA (n4 w id) e))=true:=λid e hY a=>by
 have b:-(4000+15)<=(Dw w (Cp G r) id).1/\(Dw w (Cp G r) id).1<=4000+15/\-(4000+15)<=(Dw w (Cp G r) id).2.1/\(Dw w (Cp G r) id).2.1<=4000+15:=th pt.h3 pt.g hr hY;have d:=P7 (c:=Dw w (Cp G r) id) (e:=eT (Cp G r id).1 e) iW (lS a);show JD (EG w (Cp G r) id e)=true;rw[JQ pt.h3.sh hY a];unfold JD
 grind
theorem PtI.both{H:HL}{o:TR}(k:po H o 3 my l):∃d ix h',BothC [.i (ofNat w),.i (ofNat v),.v o,.i (ofNat r.1),.i r.2.1,.i r.2.2] H d ix 0 h'/\po h' d 3 q7 (DI w v G r)/\po h' ix 3 bU (B3 w v G r):=by
 obtain⟨y,h',c,x,u⟩:=Ze pt.h3.sh (lY pt.lt) pt.pat.len k (pt.pat.check k) (aY hr (show(4000:Int)<=16384 by decide));rcases u with⟨_,a⟩|⟨e,s,h⟩
 .exact absurd ⟨G,pt.g.g,pt.g.z⟩ a
 have t:∀c,c<4*w*v->e c=G c:=λc b=>Jl pt.h3.sh s pt.g b;rcases h with⟨_,a⟩|⟨d,ix,rfl,_,f,j⟩
 .refine absurd (λc b=>?_) a;have:=pt.GW hr c b
  simp_all
 have p:DI w v e r=DI w v G r:=Yy λc b=>by simp_all
 have q:B3 w v e r=B3 w v G r:=Yy λc b=>by simp_all
 rw[p]at f;rw[q]at j;have m:=f.ls da;have n:=j.ls cF;exact⟨d,ix,h',⟨c,x,m.g_,n.g_⟩,m,n⟩
theorem B7{h:HL}{k:TR}(e:po h k 3 my l):p2 h w v k r.1 r.2.1 r.2.2 (Dn (B3 w v G r)) l (q_ (B3 w v G r)) (DB (Er (q_ (B3 w v G r)))) (W8 w v l G r (DB (Er (q_ (B3 w v G r))))) (Hm (DB (Er (q_ (B3 w v G r)))) (y9 w v l G r) (y9 w v l G r).1.length):=by
 intro E M;have hN:(B3 w v G r).length=4*w*v:=by simp[B3]
 have D:=pt.h3.n;obtain⟨T,xi,B,m,_,a⟩:=pt.both hr e;have s:=Pp e.g_ m;have z:po B k 3 my l:=e.i_ λj o y _=>m.p.get y;have f:0<(B3 w v G r).length:=by
  have h1:0<w*v:=q4 pt.h3.1 pt.h3.2.2.1
  grind
 have A:=x29 (ls:=[.i (ofNat w),.i (ofNat v),.v k,.i (ofNat r.1),.i r.2.1,.i r.2.2]) (K:=λI g=>∃b,I=[.v (i' b),.i 0]/\NU B b w v k r (Dn (B3 w v G r)) l (q_ (B3 w v G r)) (DB (Er (q_ (B3 w v G r)))) (W8 w v l G r (DB (Er (q_ (B3 w v G r))))) (Hm (DB (Er (q_ (B3 w v G r)))) (y9 w v l G r) (y9 w v l G r).1.length) g) (H:=h) (km (km (pu e.g_ (km (km (km u_)))))) (by
  rw[d'];refine hX e.g_ (by omega) s a (by omega) λZ b mp mw xa xu U=>?_;refine d9 U (by omega) f (λc t=>?_) λg2 V=>?_
  .obtain⟨i,x⟩:=DZ t;have:=ai x;rw[eQ (by omega)]at x;rw[←DU x];exact iW
  refine eV V (by omega) a λg3 xd xl vs Q W=>?_;refine dT W (by omega) (by omega) λg4 xp X=>?_;refine d8 X pt.h3 pt.pat pt.k0 pt.g hr (pt.nok hr) z a (λH C=>?_) λg O=>⟨b,rfl,O⟩;obtain⟨S,ix,L,d,Y,_⟩:=pt.both hr C;exact⟨S,L,QF C.g_ d,d.p,Y⟩)
 obtain⟨I,g,J,b,rfl,c,n,t,P,F,u,N⟩:=A;have R:=m.p.len;refine⟨b,c,n,g,J,t,λj q=>?_,λj o y=>P j o (m.p.get y),by omega,λj q=>by have:=u j q;omega,N E λj q=>⟨by grind,(M j q).2⟩⟩
 grind
end
inductive FRc(w v:Nat):Nat->TD->Mv->(Nat->Mv)->List Dc->Prop
 |flat:FRc w v 0 [] CJ (λ_=>CJ) (vf w v)
 |fold {n:Nat} {l l':TD} {r:Mv} {G:TH} {L L':List Dc} {ln:Ln} {s o:Bool} (h:FRc w v n l r G L) (hln:∃p∈CL w v l G r (4*w*v),p.2.2=ln) (hp:l'.Perm (l++DH w v (λa=>af (G a) r) o ln (CL w v l G r (4*w*v)))) (hs:E_ l') (hL:L'.Perm (IR ln s o L)) (hS:L'.Pairwise λa b=>CP a.1 b.1=false):FRc w v (n+1) l' (fR ln s L r L.length) (O1 w ln s G r) L'
def VY{i6:Type}{n0 a e:Nat}{enc:i6->Tn}{L:List i6}{h:HL}{x:TR}(d:e_ a h x e enc L)(g:n0<=a):e_ n0 h x e enc L:=by
 rcases d with q|⟨id,b,c,f,e3⟩
 .exact .inl q
 .exact .inr ⟨id,b,c,by omega,e3⟩
def AU{w v n0:Nat}(u:S3 w v){h:HL}{j:Nat}(U:j<=4){z Q:TR}{r:Mv}{l:TD}{G:TH}{M:List Sk}(e:StH w v n0 h (kB j) z r Q l G M)(y:n0<=h.length)(hl:l.length<=108*j)(T:FRc w v j l r G (M.map FA)){ln:Ln}(K:∃p∈CL w v l G r (4*w*v),p.2.2=ln)(s o:Bool) :
  ∃E r' k l' L g h',aI cc ac 46 ([.i (.ofNat w),.i (.ofNat v),.v z]++CI r++[.v Q,.i (.ofNat ln.1),.i ln.2,.i (if s then 1 else 0),.b o]) (f_ aa h) [.i (.ofNat w),.i (.ofNat v),.v E,.i (ofNat r'.1),.i r'.2.1,.i r'.2.2,.v k] (f_ aa h')/\tx h h'/\StH w v n0 h' (kB (j+1)) E r' k l' L g/\l'.length<=108*(j+1)/\FRc w v (j+1) l' r' L (g.map FA)/\e_ n0 h' E 3 my l':=by
 obtain⟨W,X,Y,Z⟩:=u.n;have J:=X6 (show j<=5 by omega);have O:=Z2 U;obtain⟨P,t,f⟩:=K;have N:=X7 u e.st.co e.st.rk t;rw[f]at N;have C:=e.st.vk;obtain⟨rs,h',c,H⟩:=O8 u e.cr (λc I=>(C c I).1) (λc I=>(C c I).k0) (by omega) (aY e.st.rk (by omega)) e.st.co (pb e.ss e.pc) (e.st.pos u) (by have:=e.st.lenL;omega) (λa F=>by have:=e.st.cell u F;omega) (λa F=>⟨e.st.st.ne a F,by have:=e.st.lenP F;omega⟩) N.1 (by omega) s o;obtain⟨E,k,l',g,rfl,V,x,d,B,D,A,m,q⟩:=H;have S:=e.st.fold u (s:=s) (o:=o) J.1 ⟨P,t,f⟩ d B m (M_.2 q);refine⟨E,_,k,l',_,g,h',c,V,⟨x.ls (λ_=>rfl),S,D,A.low y⟩,?_,T.fold ⟨P,t,f⟩ d B m (M_.2 q),VY x y⟩;have R:=d.length_eq;rw[GA]at R;have h2:(DH w v (λa=>af (G a) r) o ln (CL w v l G r (4*w*v))).length<=(CL w v l G r (4*w*v)).length:=by
  unfold DH
  grind
 have h4:=lq (w:=w) (v:=v) (l:=l) (G:=G) (r:=r) (n:=4*w*v);omega
def YT(w v n:Nat)(H:HL)(c:TG)(h':HL):Prop:=
 ∃z r b l G a j,c=[.i (.ofNat w),.i (.ofNat v),.v z,.i (ofNat r.1),.i r.2.1,.i r.2.2,.v b]/\tx H h'/\j<=5/\j<=n/\l.length<=108*j/\StH w v H.length h' (kB j) z r b l G a/\FRc w v j l r G (a.map FA)/\e_ H.length h' z 3 my l
def Zc{a:Int}(h:0<=a/\a<=255):a%2=(if decide (a%2=1)then 1 else 0):=by
 grind
def Wu{a:Int}{n:Nat}(h:0<=a)(b:0<n):a.toNat%n<n/\a%ofNat n=ofNat (a.toNat%n):=by
 refine⟨It _ b,?_⟩
 grind
def WB{w8 v8:Int}(a5:0<=w8/\w8%4<=2/\w8<=255)(a4:0<=v8/\v8%4<=2/\v8<=255){H:HL}{xf:TR}{Fl:List SP}(X:po H xf 3 sD Fl)(Y:∀a∈Fl,MX a) :
  ∃w v rs h',(1+w8%4=ofNat w/\1+v8%4=ofNat v)/\S3 w v/\aI cc ac 18 [.i w8,.i v8,.v xf] (f_ aa H) rs (f_ aa h')/\YT w v Fl.length H rs h':=by
 obtain⟨W,hW⟩ : ∃W:Nat,1+w8%4=ofNat W:=⟨(1+w8%4).toNat,by grind⟩;obtain⟨V,hV⟩ : ∃V:Nat,1+v8%4=ofNat V:=⟨(1+v8%4).toNat,by grind⟩;have D:S3 W V:=by
  have a1:1+w8%4=(W:Int):=hW;have a2:1+v8%4=(V:Int):=hV;exact⟨by omega,by omega,by omega,by omega⟩
 obtain⟨b1,b2,b3,b4⟩:=D.n;have hN:=E4 D.sh;refine⟨W,V,?_⟩;obtain⟨x0,F,E,c0,av,ay,N,m⟩:=U6 D (H:=H);have O:StH W V H.length F (kB 0) qz CJ x0 [] (λ_=>CJ) E:=⟨.nil _ _ _,by rw[m];exact O' D,ay,N⟩;have a6:=x18 (ls:=[.i w8,.i v8,.v xf]) (K:=YT W V Fl.length H) (H:=H) (km (km (pu X.g_ u_))) (by
  unfold f18;simp only[u7];simp(disch:=omega)only[↓A9];rw[hW,hV];refine am c0 ?_;simp(disch:=omega)only[↓A9];refine cO (YT W V Fl.length H) ?_ ?_
  case refine_2=>
   intro jj al;refine bE (g9:=HL×Value×Mv×Value×List DO×(Nat->Mv)×List Sk) 5 (λj t=>[.i (ofNat j),.i (.ofNat W),.i (.ofNat V),.v t.2.1,.i (ofNat t.2.2.1.1),.i t.2.2.1.2.1,.i t.2.2.1.2.2,.v t.2.2.2.1]) (λ_ t=>t.1)
    (λj t=>j<=Fl.length/\tx H t.1/\t.2.2.2.2.1.length<=108*j/\StH W V H.length t.1 (kB j) t.2.1 t.2.2.1 t.2.2.2.1 t.2.2.2.2.1 t.2.2.2.2.2.1 t.2.2.2.2.2.2/\FRc W V j t.2.2.2.2.1 t.2.2.1 t.2.2.2.2.2.1 (t.2.2.2.2.2.2.map FA)/\e_ H.length t.1 t.2.1 3 my t.2.2.2.2.1)
    (j0:=0) (s0:=(F,qz,CJ,x0,[],(λ_=>CJ),E)) rfl rfl (CM _) ⟨CM _,av,by simp,O,by simp only;rw[m];exact .flat,.inl ⟨rfl,rfl⟩⟩ ?_
   rintro j ⟨h,z,r,S,l,G,T⟩ hj ⟨u,p,d,b,I,Q⟩ a0 C;simp only at p d b I Q ⊢;have f:∀h',tx h h'->jj [.i (.ofNat W),.i (.ofNat V),.v z,.i (ofNat r.1),.i r.2.1,.i r.2.2,.v S] h':=λh' B=>al _ _ ⟨z,r,S,l,G,T,j,rfl,p.trans B,hj,u,d,b.pre B,I,Q.i_ λ_ _ q _=>B.get q⟩;refine b_ ?_;refine bu (X.pre p) ?_;by_cases x:j<Fl.length
   case neg=>
    rw[aK (by omega)];refine b_ ?_;exact f h (.refl _)
   rw[aL x];refine b_ ?_;by_cases ag:j<5
   case neg=>
    rw[tf (show(5:Int)<=ofNat j by grind)];refine b_ ?_;exact f h (.refl _)
   rw[td (show ofNat j<5 by grind)];refine b_ ?_;have a3:=X6 (show j<=5 by omega);obtain⟨zl,h1,k,c1,g,A,ap,an⟩:=Vp D b.cr (b.ss.g_) (λc hc=>(b.st.vk c hc).1) (λc hc=>(b.st.vk c hc).k0) (by omega) (aY b.st.rk (by omega)) b.st.co;simp only[CI,DC,Ds]at c1;refine am c1 ?_;refine b_ ?_;refine bu A ?_;by_cases F:k.length=0
   .rw[s_ (show ofNat k.length=0 by rw[F];rfl)];refine b_ ?_;exact f h1 g
   rw[ua (show ¬ofNat k.length=0 from λe=>F (Jg e))];refine b_ ?_;obtain⟨a,R⟩:=aq x;obtain⟨k1,k2,k3,k4,k5,k6⟩:=Y a (Cb R);have s:=(X.pre p).pre g;refine Ji (o:=0) (cs:=[.int .u8 a.1]) s rfl R (by omega) rfl ?_;refine b_ ?_;refine bu A ?_;obtain⟨L,M⟩:=Wu k1 (show 0<k.length by omega);rw[E0 (by omega) (show(0:Int)<ofNat k.length by grind)];rw[M];refine j8 ?_;obtain⟨y,hy⟩:=aq L;refine aP A rfl hy ?_;rw[show sG y=[.int .u8 (ofNat y.1),.int .i64 y.2]from rfl];refine b_ ?_;refine Ji (o:=1) (cs:=[.int .u8 a.2.1]) s rfl R (by omega) rfl ?_;refine b_ ?_;refine Ji (o:=2) (cs:=[.int .u8 a.2.2]) s rfl R (by omega) rfl ?_;refine b_ ?_;rw[Zc ⟨k3,k4⟩];obtain⟨z',r',aE,l',G',U,h2,c2,ax,P,J,ad,Z⟩:=AU D (j:=j) (by omega) (b.pre g) (by have:=(p.trans g).len;omega) d I (an y (Cb hy)) (decide (a.2.1%2=1)) (decide (a.2.2%2=1));simp only[CI,DC,Ds]at c2;refine Jb λt ht=>?_;subst ht;refine am c2 ?_;refine b_ ?_;rw[aT (by omega)];exact C (h2,z',r',aE,l',G',U) ag ⟨x,(p.trans g).trans ax,J,P,ad,Z⟩
  rintro ls h ⟨z,r,S,l,G,T,j,rfl,p,hj,u,d,b,I,Q⟩;simp(disch:=omega)only[↓A9];exact⟨z,r,S,l,G,T,j,rfl,p,hj,u,d,b,I,Q⟩)
 simp_all
def yZ{l l':TD}(h:l'.map aO=l.map aO)(u e:Nat):Ch l' u e=Ch l u e:=by unfold Ch;rw[h]
def yD{w v:Nat}{l l':TD}{G:TH}(h:l'.map aO=l.map aO)(g:Cs w v l G):Cs w v l' G:=by
 refine⟨λc e n a b d=>?_,g.z,g.ok⟩;have:=g.g c e n a b d;unfold Eg at this ⊢;rw[yZ h];exact this
def KI{l l':TD}(h:l'.map aO=l.map aO)(d:l.Pairwise λa b=>FG a b=true):l'.Pairwise λa b=>FG a b=true:=by
 have c:∀m:List DO,(m.Pairwise λa b=>FG a b=true)↔(m.map aO).Pairwise λa b=>(decide (a.1<b.1)||(decide (a.1=b.1)&&decide (a.2<b.2)))=true:=λm=>by
  rw[M_];rfl
 simp_all
def RO{w v:Nat}{l l':TD}(h:l'.map aO=l.map aO)(m:∀c∈l,VK w v c)(k:∀c∈l',1<=c.2.2/\c.2.2<=3):∀c∈l',VK w v c:=λc i=>by
 have f:aO c∈l.map aO:=by grind
 obtain⟨d,j,e⟩:=CH.1 f;obtain⟨⟨u,b,n,o,p,a⟩,_⟩:=m d j;unfold aO at e;simp only[QR]at e;have g:=k c i;exact⟨⟨u,b,n,by omega,by omega,a.1,a.2.1,a.2.2.1,a.2.2.2.1,by omega,by omega⟩,g⟩
def Yo{w v:Nat}(f:S3 w v){l:TD}{G:TH}(i:∀c∈l,VK w v c)(d:l.Pairwise λa b=>FG a b=true)(j:l.length<=1000)(g:Cs w v l G):PtI w v l G:=by
 have k:=f.sh;refine⟨f,⟨k,λc h=>?_,j,Ul i d⟩,d,λc h=>(i c h).k0,g⟩;have:=kx (i c h) (by have:=f.n;omega);obtain⟨⟨u,e,n,m,o,p,q,_,_,r,s⟩,_⟩:=i c h;have:=f.n;unfold Jk
 grind
def W7(w v:Nat)(H:HL)(a:TG)(h':HL):Prop:=
 ∃z l G,a=[.i (.ofNat w),.i (.ofNat v),.v z]/\tx H h'/\l.length<=432/\e_ H.length h' z 3 my l/\PtI w v l G/\∀c∈l,VK w v c
def l6{w8 v8:Int}(a0:0<=w8/\w8<=255)(aE:0<=v8/\v8<=255){H:HL}{V W:TR}{Fl:List SP}{O:TE}(P:po H V 3 sD Fl)(ad:∀a∈Fl,MX a)(R:po H W 1 EQ O)(S:∀a∈O,0<=a/\a<=255) :
  ∃w v N h',S3 w v/\aI cc ac 8 [.i w8,.i v8,.v V,.v W] (f_ aa H) N (f_ aa h')/\W7 w v H N h':=by
 have a5:=x8 (ls:=[.i w8,.i v8,.v V,.v W]) (K:=λN h'=>∃w v,S3 w v/\W7 w v H N h') (H:=H) (km (km (pu P.g_ (pu R.g_ u_)))) (by
  unfold f8;simp only[u7];simp(disch:=omega)only[↓A9];refine bu P ?_;have step:∀K:Bool->Prop,K (decide (4<Fl.length))->P1.cmp .gtr (ofNat Fl.length) 4 (@hY _ ⟨K⟩):=λK Y=>by
   by_cases e:4<Fl.length
   .rw[Co (show(4:Int)<ofNat Fl.length by grind),←Fo e];exact Y
   .rw[z_ (show ofNat Fl.length<=(4:Int)by grind),←Gg e];exact Y
  refine step _ ?_;refine cO (λls h=>∃U q,ls=[.i (w8%3),.i (v8%3),.v U]/\h=H/\po H U 3 sD q/\q.length<=4/\∀a∈q,MX a) ?_ ?_
  case refine_2=>
   intro jj T;by_cases e:4<Fl.length
   .rw[Fo e];refine b_ ?_;obtain⟨xt,et,lt,gt,_⟩:=qg P (n:=4) (by omega);refine ae et (ab gt ?_)
    try grind
   .rw[Gg e];refine b_ ?_
    grind
  rintro ls h ⟨U,q,rfl,rfl,Q,ax,C⟩;simp(disch:=omega)only[↓A9];obtain⟨w,v,a6,h1,_,X,c1,z,r,zs,l,G,Ms,j,rfl,hp,an,ap,ay,u,hR,hO⟩:=WB (w8:=w8%3) (v8:=v8%3) (by omega) (by omega) Q C;refine am c1 ?_;simp(disch:=omega)only[↓A9];refine cO (λls g=>ls=[]/\∃p,tx h g/\e_ h.length g z 3 my p/\p.map aO=l.map aO/\∀c∈p,1<=c.2.2/\c.2.2<=3) ?_ ?_
  .rintro ls g ⟨rfl,p,f,m,b,s⟩;refine b_ ?_;have I:p.length=l.length:=by
    have:=congrArg List.length b;simpa using this
   have J:=RO b u.st.vk s;exact⟨w,v,X,z,p,G,rfl,f,by omega,m,Yo X J (KI b u.st.so) (by omega) (yD b u.st.co),J⟩
  intro jj T;refine bE (g9:=HL×List DO) 432 (λi _=>[.i (ofNat i)]) (λ_ t=>t.1) (λi t=>tx h t.1/\e_ h.length t.1 z 3 my t.2/\t.2.map aO=l.map aO/\∀c∈t.2,1<=c.2.2/\c.2.2<=3) (j0:=0) (s0:=(h1,l)) rfl rfl (CM _) ⟨hp,hO,rfl,λc D=>(u.st.vk c D).2⟩ ?_;rintro i ⟨g,p⟩ hi ⟨f,m,b,s⟩ M A;simp only at f m b s ⊢;have I:p.length=l.length:=by
   have:=congrArg List.length b;simpa using this
  refine b_ ?_;refine bu (R.pre f) ?_;by_cases E:i<O.length
  case neg=>
   rw[aK (by omega)];refine b_ ?_
   grind
  rw[aL E];refine b_ ?_;refine bu (e_.ls (e:=3) (enc:=my) (λ_=>rfl) m) ?_;by_cases F:i<p.length
  case neg=>
   rw[aK (by omega)];refine b_ ?_
   grind
  rw[aL F];refine b_ ?_;obtain⟨k,Z⟩:=aq E;obtain⟨k1,k2⟩:=S k (Cb Z);refine aP (R.pre f) rfl Z ?_;rw[show EQ k=[.int .u8 k]from rfl];refine b_ ?_;have av:0<=k%8/\k%8<=7:=by omega
  have y:∀B L,tx h B->e_ h.length B z 3 my L->L.map aO=l.map aO->(∀c∈L,1<=c.2.2/\c.2.2<=3)->M [.i (ofNat i+1)] B:=λB L a1 a2 a3 a4=>A (B,L) (by omega) ⟨a1,a2,a3,a4⟩;by_cases h0:0<k%8
  case neg=>
   rw[z_ (by omega)];refine b_ ?_;rw[aT (by omega)]
   grind
  rw[Co h0];refine b_ ?_;by_cases h4:k%8<4
  case neg=>
   rw[tf (by omega)];refine b_ ?_;rw[aT (by omega)]
   grind
  rw[td h4];refine b_ ?_;obtain⟨c,D⟩:=aq F;obtain⟨id,cx,ez,x,hY,al⟩:=gS m (λe=>by simp_all);rw[ez];refine pX (enc:=my) (a:=c) (a':=(c.1,c.2.1,k%8)) (o:=2) (new:=[.int .u8 (k%8)]) (λ_=>rfl) hY rfl D rfl (x5 3) rfl ?_;refine j8 ?_;rw[aT (by omega)];have ag:=s c (Cb D);refine y _ (p.set i (c.1,c.2.1,k%8)) (iU f x) (.inr ⟨id,cx,by simp_all,x,bA (ai hY),by simp_all⟩) ?_ λd hd=>?_
  .rw[←b,sk];refine fS ?_;rw[EL,D];rfl
  grind)
 grind
def eJ(l:TD)(m:Nat)(f:Nat->Int):TD:=l.mapIdx λj c=>if j<m then(c.1,c.2.1,f j)else c
def cR{l:TD}{m j:Nat}{f:Nat->Int}{c:DO}(h:l[j]?=some c):(eJ l m f)[j]?=some (if j<m then(c.1,c.2.1,f j)else c):=by
 unfold eJ
 simp_all
def bI{l:TD}{m:Nat}{f:Nat->Int}:(eJ l m f).length=l.length:=by simp[eJ]
def lF{l:TD}{m:Nat}{f:Nat->Int}:(eJ l m f).map aO=l.map aO:=by
 refine GB λj=>?_;rw[EL,EL];cases h:l[j]? with
 |none=>
  have:(eJ l m f)[j]?=none:=by
   rw[qco]at h ⊢;rw[bI];exact h
  rw[this]
 |some c=>
  rw[cR h];simp only[EA];split<;>rfl
def rO{l:TD}{m:Nat}{f:Nat->Int}{c:DO}(h:l[m]?=some c):(eJ l m f).set m (c.1,c.2.1,f m)=eJ l (m+1) f:=by
 refine GB λj=>?_;rw[GC];by_cases e:m=j
 .subst e;rw[n_ rfl,n_ (by rw[bI];exact ai h),cR h,n_ (Nat.lt_succ_self m)]
 .rw[qs e];cases a:l[j]? with
  |none=>
   have b:∀k,(eJ l k f)[j]?=none:=λk=>by
    rw[qco]at a ⊢;rw[bI];exact a
   rw[b,b]
  |some d=>
   rw[cR a,cR a]
   grind
def qd{l:TD}{m:Nat}{f:Nat->Int}(h:∀c∈l,1<=c.2.2/\c.2.2<=3)(g:∀j,1<=f j/\f j<=3):∀c∈eJ l m f,1<=c.2.2/\c.2.2<=3:=λc b=>by
 obtain⟨j,a⟩:=DZ b;obtain⟨d,e⟩:=aq (l:=l) (i:=j) (by have:=ai a;rwa [bI]at this);rw[cR e]at a
 grind
def PC{l:TD}(h:l.Pairwise λa b=>FG a b=true){c:DO}(f:c∈l):gO l c.1 c.2.1=c.2.2:=by
 unfold gO;cases e:l.find? (J9 c.1 c.2.1)with
 |none=>
  have:=List.find?_eq_none.1 e c f;simp[J9]at this
 |some d=>
  have k:=r3 e;have g:=cm e;simp only[J9,te,Es]at g;have n:=lY h;obtain⟨i,o⟩:=DZ f;obtain⟨j,m⟩:=DZ k;rw[SA,M8]at n;have p:(l.map aO)[i]?=some (aO c):=by simp_all
  have q:(l.map aO)[j]?=some (aO c):=by rw[EL,m];simp[aO,g]
  grind
def Sp(w v:Nat)(pn:Ti)(P:TH)(V:Tx)(k:Ku):Bool:=ub V (Fb pn 2 k.1.toNat ((Cn w v k.1.toNat k.2.toNat).getD 0) (decide ((P k.1.toNat).1<4)))
def pF(k:Int)(b:Bool):Prop:=k=3∨(k=2/\b=true)∨(k=1/\b=false)
def JT{pn:Ti}{V:Tx}{k:Int}{x y:Nat}{c:Bool}(d:1<=k/\k<=3):(k≠3->ub V (Fb pn k x y c)=true)↔pF k (ub V (Fb pn 2 x y c)):=by
 have:k=1∨k=2∨k=3:=by omega
 unfold pF Fb ub;simp only;generalize V (CO pn x y).1=a;generalize (CO pn x y).2=b;rcases this with rfl|rfl|rfl<;>cases a<;>cases b<;>cases c<;>decide
section
variable {w v:Nat} {l:TD} {G:TH} (pt:PtI w v l G) (hv:∀c∈l,VK w v c)
include pt hv
theorem Zd{pn:Ti}{P:TH}{V:Tx}:(∀i e,i<4*w*v->e<3->Ew pn w v l P V i e)↔∀c∈l,pF c.2.2 (Sp w v pn P V (aO c)):=by
 constructor
 .intro h c b;obtain⟨⟨u,e,n,o,p,y,j,g,f,_⟩,s⟩:=hv c b;have:=h u e y j n g (by omega);rw[SH (cn f),←o,←p,PC pt.lt b]at this;have q:=this (by omega);unfold Sp aO;rw[o,p];simp only[o1,w3];rw[g];exact(JT s).1 q
 .intro h i e r j n g f d a;obtain⟨_,_,_,_,x⟩:=du pt.h3.sh r j g;have t:min i n=i:=SH (by omega);rw[t]at d a ⊢;unfold gO at d a ⊢;cases k:l.find? (J9 (ofNat i) (ofNat e))with
  |none=>grind
  |some c=>
   rw[k]at a;have b:=r3 k;have m:=cm k;simp only[J9,te,Es]at m;have:=h c b;unfold Sp aO at this;rw[m.1,m.2]at this;simp only[o1,w3]at this;rw[g]at this;exact(JT (hv c b).2).2 this a
end
def Q_{w v:Nat}{l l':TD}{G:TH}{r:Mv}(f:∀c∈l,c.2.2≠0)(a:∀c∈l',c.2.2≠0)(h:l'.map aO=l.map aO):y9 w v l' G r=y9 w v l G r:=by
 have b:∀id e,Eh w v l' (Cp G r) id e=Eh w v l (Cp G r) id e:=λid e=>by
  unfold Eh
  congr 1
  cases Cn w v id e with
  |none=>rfl
  |some n=>
   simp only;by_cases q:n<id
   .rw[n_ q,n_ q]
   .rw[qs q,qs q];have:(Vl l' id n e=0)↔(Vl l id n e=0):=by
     have d:Vl l' id n e≠0↔Ch l' (min id n) e=true:=pG a;have g:Vl l id n e≠0↔Ch l (min id n) e=true:=pG f;rw[yZ h]at d
     grind
    simp_all
 unfold y9;rw[tU,tU];unfold Fs
 congr 2
 funext id
 simp_all
def SW{pn:Ti}{V V':Tx}{q:TC}(h:NL pn V q)(h':NL pn V' q){a b:Nat}(m:a∈q)(n:b∈q)(g:a≠b):ub V (CO pn a b)=ub V' (CO pn a b):=by
 obtain⟨i,c⟩:=DZ m;obtain⟨j,d⟩:=DZ n;unfold NL at h h';rw[M8]at h h';have k:=FN (ai c);have l:=FN (ai d);rw[c]at k;rw[d]at l;rcases qdf i j with q|q|q
 .simp_all
 .simp_all
 .have e:=h j i (ai d) (ai c) q;have f:=h' j i (ai d) (ai c) q;rw[←DU k,←DU l]at e f;rw[JR (De g)];unfold ub at e f ⊢;simp only;rw[←LX,←LX,e,f]
def zX:∀ {IDS x:List (TC)},x∈Dk IDS->∀l∈IDS,∃q∈x,q.Perm l
 | [],x,_,l,a=>by cases a
 |m :: IDS,x,b,l,a=>by
  unfold Dk at b;obtain⟨p,c,b⟩:=Gc.1 b;obtain⟨t,e,rfl⟩:=CH.1 b;rcases Dy.1 a with rfl|a
  .exact⟨p,by simp,tL rfl c⟩
  .obtain⟨q,f,d⟩:=zX e l a
   grind
def Df(n j:Nat):Nat:=n / 2 ^ j%2
def Om(b:Tx):∀m,∃n,n<2 ^ m/\∀j,j<m->Df n j=if b j then 1 else 0
 |0=>⟨0,by decide,λj c=>by omega⟩
 |m+1=>by
  obtain⟨n,d,a⟩:=Om (λj=>b (j+1)) m;refine⟨2*n+(if b 0 then 1 else 0),?_,λj c=>?_⟩
  .grind
  .cases j with
   |zero=>
    unfold Df
    grind
   |succ j=>
    rw[←a j (by omega)];unfold Df;rw[Nat.pow_succ,Nat.mul_comm (2 ^ j) 2,←ax]
    grind
def yz:∀ {m n n':Nat},n<2 ^ m->n'<2 ^ m->(∀j,j<m->Df n j=Df n' j)->n=n'
 |0,n,n',h,h',_=>by omega
 |m+1,n,n',h,h',a=>by
  have b:=a 0 (by omega);have d:=yz (m:=m) (n:=n / 2) (n':=n' / 2) (by omega) (by omega) λj c=>by
   have:=a (j+1) (by omega);unfold Df at this ⊢;rw[Nat.pow_succ,Nat.mul_comm (2 ^ j) 2,←ax,←ax]at this;exact this
  unfold Df at b;omega
def CZ(f:TF):Nat->Nat
 |0=>0
 |k+1=>CZ f k+f k
def Ap{f g:TF}:∀k,CZ (λn=>f n+g n) k=CZ f k+CZ g k
 |0=>rfl
 |k+1=>by
  simp only[CZ];rw[Ap k];omega
def Ao{f:TF}:∀ {k},(∀n,n<k->f n=0)->CZ f k=0
 |0,_=>rfl
 |k+1,h=>by
  simp only[CZ];rw[Ao λn a=>h n (by omega),h k (by omega)]
def RB{f:TF}{n0:Nat}:∀ {k},n0<k->f n0=1->(∀n,n<k->n≠n0->f n=0)->CZ f k=1
 |0,h,_,_=>by omega
 |k+1,h,h1,a=>by
  simp only[CZ];by_cases e:n0=k
  .subst e;rw[Ao λn c=>a n (by omega) (by omega),h1]
  .rw[RB (k:=k) (by omega) h1 λn c=>a n (by omega),a k (by omega) λb=>e b.symm]
def yk{f:TF}:∀ {k n},n<=k->CZ f n<=CZ f k
 |0,n,h=>by
  simp_all
 |k+1,n,h=>by
  by_cases e:n=k+1
  .simp_all
  .have:=yk (f:=f) (k:=k) (n:=n) (by omega);simp only[CZ];omega
def LF{f:TF}{n k:Nat}(h:n<k):f n<=CZ f k:=by
 have:=yk (f:=f) (k:=k) (n:=n+1) (by omega);simp only[CZ]at this;omega
def Aq{f:TF}{a:Nat}:∀k,min a (CZ f k)<=CZ (λn=>min a (f n)) k
 |0=>by simp[CZ]
 |k+1=>by
  have:=Aq (f:=f) (a:=a) k;simp only[CZ];omega
def yj{f g:TF}:∀ {k},(∀n,n<k->f n=g n)->CZ f k=CZ g k
 |0,_=>rfl
 |k+1,h=>by
  simp only[CZ];rw[yj λn a=>h n (by omega),h k (by omega)]
def uH{i6:Type}{p:i6->Bool}{q:Nat->i6->Bool}{k:Nat}:∀ {L:List i6},(∀x∈L,(p x=true->∃n,n<k/\q n x=true)/\(∀n,n<k->q n x=true->p x=true)/\∀n n',n<k->n'<k->q n x=true->q n' x=true->n=n')->(L.filter p).length=CZ (λn=>(L.filter (q n)).length) k
 | [],_=>by
  exact(Ao λn _=>rfl).symm
 |x :: L,h=>by
  have o:=uH (p:=p) (q:=q) (k:=k) (L:=L) λy m=>h y (by simp[m]);obtain⟨i,j,l⟩:=h x (by simp);have e:CZ (λn=>((x :: L).filter (q n)).length) k=CZ (λn=>if q n x=true then 1 else 0) k+CZ (λn=>(L.filter (q n)).length) k:=by
   rw[←Ap]
   grind
  rw[e,←o,qdm];by_cases b:p x=true
  .obtain⟨n0,a,g⟩:=i b;rw[n_ b,Wk,RB (n0:=n0) a (by rw[n_ g]) λn c d=>qs λf=>d (l n n0 c a f g)];omega
  .rw[qs b,Ao λn c=>qs λf=>b (j n c f)];omega
section
variable {w v t a b e:Int} {x:Value} {H H1:HL} (hx:aJ x=true)
include hx
abbrev Kp(h h':HL):Prop:=∀(j:Nat) o,h[j]?=some o->h'[j]?=some o
def NoP(w v:Int)(x:Value)(t a b e:Int)(H:HL):Prop:=∀g,Kp H g->∃c,aI cc ac 29 [.i w,.i v,.v x,.i t,.i a,.i b] (f_ aa g) [.v (.pointer none),.i e] (f_ aa c)/\Kp g c
end
def KC:∀H,aI cc ac 10 [] H [.b true] H:=kW (n:=60) rfl (by kernel_rfl) rfl (by kernel_rfl)
def NoP.mono{w v t a b e:Int}{x:TR}{H H':HL}(h:NoP w v x t a b e H)(f:Kp H H'):NoP w v x t a b e H':=λg c=>h g λj o d=>c j o (f j o d)
def X5:Cc 12 [] [.i 0,.i 0,.i 0]:=by
 refine q12 rfl ?_;unfold f12;simp only[u7]
 try simp(disch:=omega)only[↓mc]
 try trivial
section
variable {w v:Nat} {l:TD} {G:TH} (pt:PtI w v l G) {r:Mv} (hr:CD 4000 r)
def MS(w v:Nat)(l:TD)(G:TH)(r:Mv):List (List (TC)):=
 (Dk (q_ (B3 w v G r))).filter (Db (DB (Er (q_ (B3 w v G r)))) (W8 w v l G r (DB (Er (q_ (B3 w v G r))))) (Hm (DB (Er (q_ (B3 w v G r)))) (y9 w v l G r) (y9 w v l G r).1.length))
include pt hr
theorem yE(a:Int){h:HL}{c:TR}(b:po h c 3 my l):∃h',aI cc ac 13 [.i (ofNat w),.i (ofNat v),.v c,.i (ofNat r.1),.i r.2.1,.i r.2.2,.i a] (f_ aa h) [.i (if 1<=a/\a<=1000 then ofNat ((MS w v l G r).take a.toNat).length else 0),.i (if 1<=a/\a<=1000 then 0 else 1)] (f_ aa h')/\Kp h h':=
 Ut a b.g_ (λj q=>Bf b q) (B7 pt hr (b.i_ λj o d _=>dt d))
end
def Ng{l:TD}{m:Nat}{f:Nat->Int}{Q:Int->Ku->Prop}:(∀c∈eJ l m f,Q c.2.2 (aO c))↔∀(j:Nat) c,l[j]?=some c->Q (if j<m then f j else c.2.2) (aO c):=by
 constructor
 .intro h j c b;have a:=cR (m:=m) (f:=f) b;have:=h _ (Cb a);split at this
  next q=>
   rw[n_ q];exact this
  grind
 .intro h c b;obtain⟨j,e⟩:=DZ b;obtain⟨d,g⟩:=aq (l:=l) (i:=j) (by have:=ai e;rwa [bI]at this);have a:=h j d g;rw[cR g]at e;have:=DU e;subst this;split
  next q=>
   rw[n_ q]at a;exact a
  simp_all
def Uu{w v:Nat}{pn:Ti}{P:TH}{V V':Tx}{k:Ku}(h:ub V (CO pn k.1.toNat ((Cn w v k.1.toNat k.2.toNat).getD 0))=ub V' (CO pn k.1.toNat ((Cn w v k.1.toNat k.2.toNat).getD 0))):Sp w v pn P V k=Sp w v pn P V' k:=by
 unfold Sp Fb ub at *;simp only at h ⊢;rw[g0.1 h]
section
variable {w v:Nat} {l:TD} {G:TH} (pt:PtI w v l G) (hv:∀c∈l,VK w v c) {r:Mv} (hr:r.1<8)
include pt hv
theorem e1{l':TD}(h:l'.map aO=l.map aO)(d:∀c∈l',1<=c.2.2/\c.2.2<=3):PtI w v l' G/\∀c∈l',VK w v c:=by
 have b:=RO h hv d;have a:l'.length=l.length:=by
  have:=congrArg List.length h;simpa using this
 exact⟨Yo pt.h3 b (KI h pt.lt) (by rw[a];exact pt.pat.len) (yD h pt.g),b⟩
theorem ki{m:Nat}{f:Nat->Int}(g:∀j,1<=f j/\f j<=3){pn:Ti}{x:List (TC)}:Db pn (W8 w v (eJ l m f) G r pn) (Hm pn (y9 w v (eJ l m f) G r) (y9 w v (eJ l m f) G r).1.length) x=true↔
  ∃V,(∀(j:Nat) c,l[j]?=some c->pF (if j<m then f j else c.2.2) (Sp w v pn (Cp G r) V (aO c)))/\e0 pn (y9 w v l G r) V (y9 w v l G r).1.length/\NQ (Hm pn (y9 w v l G r) (y9 w v l G r).1.length) V/\∀q∈x,NL pn V q:=by
 obtain⟨a,b⟩:=e1 pt hv (lF (m:=m) (f:=f)) (qd (λc d=>(hv c d).2) g);have e:=Q_ (w:=w) (v:=v) (G:=G) (r:=r) pt.k0 a.k0 (lF (l:=l) (m:=m) (f:=f));rw[zB,e];unfold hC W8;rw[e];refine exists_congr λV=>?_;rw[Zd a b,Ng (Q:=λk u=>pF k (Sp w v pn (Cp G r) V u)),and_assoc]
include hr
theorem L4{m:Nat}(hm:m<=l.length):(MS w v (eJ l m λ_=>3) G r).length=CZ (λn=>(MS w v (eJ l m λj=>1+ofNat (Df n j)) G r).length) (2 ^ m):=by
 have Y:=pt.h3.sh;have d:∀n j,Df n j<2:=λn j=>It _ (by omega);have F:∀n j,1<=1+ofNat (Df n j)/\1+ofNat (Df n j)<=3:=λn j=>by
  grind
 unfold MS;refine uH λx hx=>⟨λh=>?_,λn _ h=>?_,λn S O Q h h'=>?_⟩
 .obtain⟨V,z,A⟩:=(ki pt hv (λ_=>⟨by decide,by decide⟩)).1 h;obtain⟨n,O,hb⟩:=Om (λj=>match l[j]? with|some c=>Sp w v (DB (Er (q_ (B3 w v G r)))) (Cp G r) V (aO c)|none=>false) m;refine⟨n,O,(ki pt hv (F n)).2 ⟨V,λj c f=>?_,A⟩⟩;have E:=z j c f;by_cases q:j<m
  .rw[n_ q];have J:=hb j q;rw[f]at J;simp only at J;rw[J];have D:∀b:Bool,pF (1+ofNat (if b=true then 1 else 0)) b:=λb=>by
    cases b
    .exact .inr (.inr ⟨rfl,rfl⟩)
    .exact .inr (.inl ⟨rfl,rfl⟩)
   exact D _
  grind
 .obtain⟨V,z,A⟩:=(ki pt hv (F n)).1 h;refine(ki pt hv (λ_=>⟨by decide,by decide⟩)).2 ⟨V,λj c f=>?_,A⟩;have E:=z j c f;by_cases q:j<m
  .rw[n_ q];exact .inl rfl
  grind
 .obtain⟨V,z,_,_,A⟩:=(ki pt hv (F n)).1 h;obtain⟨V',H,_,_,I⟩:=(ki pt hv (F S)).1 h';refine yz O Q λj hj=>?_;obtain⟨c,f⟩:=aq (l:=l) (i:=j) (by omega);have E:=z j c f;have o:=H j c f;rw[n_ hj]at E o;have B:=Cb f;obtain⟨⟨u,e,k,T,U,R,W,p,N,_⟩,_⟩:=hv c B;have K:Ch l (min u k) e=true:=by
   rw[SH (cn N)];unfold Ch;rw[Es];exact CH.2 ⟨c,B,by unfold aO;rw[T,U]⟩
  have s:=(wC Y pt.g hr R W p K).1;have M:=(du Y R W p).1;obtain⟨q,hq,q1,q2⟩:=kS (L:=B3 w v G r) (x:=u) (y:=k) (c:=Dw w (Cp G r) u) (eQ R) (by rw[eQ M];exact congrArg some s);obtain⟨y,Z,X⟩:=zX hx q hq;have C:=Uu (w:=w) (v:=v) (P:=Cp G r) (k:=aO c) (V:=V) (V':=V') (pn:=DB (Er (q_ (B3 w v G r)))) (by
   unfold aO;rw[T,U];simp only[o1,w3];rw[p,QU];exact SW (A y Z) (I y Z) (X.mem_iff.2 q1) (X.mem_iff.2 q2) (by omega))
  rw[←C]at o;have b1:=d n j;have b2:=d S j;generalize Sp w v (DB (Er (q_ (B3 w v G r)))) (Cp G r) V (aO c)=t at E o;generalize Df n j=a at *;generalize Df S j=b at *;have D:∀a:Nat,a<2->pF (1+ofNat a) t->a=if t then 1 else 0:=λa ha h=>by
   obtain rfl|rfl:a=0∨a=1:=by omega
   .rcases h with h|⟨h,_⟩|⟨_,h⟩
    .simp_all
    .simp_all
    .rw[h];rfl
   .rcases h with h|⟨_,h⟩|⟨h,_⟩
    .simp_all
    .rw[h];rfl
    simp_all
  grind
end
def m5{a b:Nat}{K:Tw}(h:b<=5)(f:K (ofNat (a / 2 ^ b))):P1.E5 .shr .i64 (ofNat a) .u64 (ofNat b) (@hY _ ⟨K⟩):=by
 refine Q8 (qa 0) (K:=λn=>if n=ofNat (a / 2 ^ b)then dk else none) (λn i=>?_) ?_
 .by_cases e:n=ofNat (a / 2 ^ b)
  .rw[e];exact f
  simp_all
 .have c:∀(K:Int->RT),(BA ac aa (GG 0)).E5 .shr .i64 (ofNat a) .u64 (ofNat b) K=Hg .shr .i64 (ofNat a) .u64 (ofNat b) K:=λ_=>rfl;rw[c];have d:PF 0 (ofNat b)=true:=rfl;unfold Hg;rw[d];simp only;rw[jz];have:(ofNat a).fdiv (2 ^ min (ofNat b).toNat IntKind.i64.bits)=ofNat (a / 2 ^ b):=by
   have g:min (ofNat b).toNat IntKind.i64.bits=b:=by
    show min b 64=b;omega
   grind
  rw[this,n_ rfl]
def z5{b:Nat}{K:Tw}(f:b<=5)(d:K (ofNat (2 ^ b))):P1.E5 .shl .i64 1 .u64 (ofNat b) (@hY _ ⟨K⟩):=by
 refine Q8 (qa 0) (K:=λn=>if n=ofNat (2 ^ b)then dk else none) (λn g=>?_) ?_
 .by_cases e:n=ofNat (2 ^ b)
  .rw[e];exact d
  simp_all
 .have a:∀(K:Int->RT),(BA ac aa (GG 0)).E5 .shl .i64 1 .u64 (ofNat b) K=Hg .shl .i64 1 .u64 (ofNat b) K:=λ_=>rfl;rw[a];have c:PF 0 (ofNat b)=true:=rfl;unfold Hg;rw[c];simp only;rw[jz];have:IntKind.wrap .i64 (1*2 ^ min (ofNat b).toNat IntKind.i64.bits)=ofNat (2 ^ b):=by
   have:b=0∨b=1∨b=2∨b=3∨b=4∨b=5:=by omega
   rcases this with rfl|rfl|rfl|rfl|rfl|rfl<;>decide
  rw[this,n_ rfl]
def xZ{l:TD}{m:Nat}{f g:Nat->Int}:eJ (eJ l m f) m g=eJ l m g:=by
 refine GB λj=>?_;cases d:l[j]? with
 |none=>
  have b:∀(a:TD),a.length=l.length->a[j]?=none:=λa h=>by
   simp_all
  rw[b _ (by rw[bI,bI]),b _ bI]
 |some c=>
  rw[cR (cR d),cR d]
  simp_all
def Lm{l:TD}{f:Nat->Int}:eJ l 0 f=l:=by
 unfold eJ;refine GB λj=>?_
 simp_all
def tF{w8 v8:Int}(ay:0<=w8/\w8<=255)(ax:0<=v8/\v8<=255){H:HL}{xf xk:TR}{Fl:List SP}{Ks:TE}(hF:po H xf 3 sD Fl)(ad:∀a∈Fl,MX a)(hS:po H xk 1 EQ Ks)(ag:∀a∈Ks,0<=a/\a<=255) :
  ∃h',aI cc ac 4 [.i w8,.i v8,.v xf,.v xk] (f_ aa H) [.b true] (f_ aa h'):=by
 obtain⟨w,v,rs,h1,h3,c1,z,l,G,rfl,bb,a9,hO,pt,y⟩:=l6 ay ax hF ad hS ag;have hI:CD 4000 CJ:=by unfold CD;decide
 obtain⟨m,em⟩ : ∃m,m=min l.length 5:=⟨_,rfl⟩;have av:m<=l.length:=by omega
 have W:m<=5:=by omega
 have S:∀c∈l,1<=c.2.2/\c.2.2<=3:=λc E=>(y c E).2;have bn:=x4 (ls:=[.i w8,.i v8,.v xf,.v xk]) (K:=λrs g=>rs=[.b true]) (H:=H) (km (km (pu hF.g_ (pu hS.g_ u_)))) (by
  unfold f4;simp only[u7];simp(disch:=omega)only[↓A9];refine am c1 ?_;simp(disch:=omega)only[↓A9];refine bu (e_.ls (e:=3) (enc:=my) (λ_=>rfl) hO) ?_;have step:∀K:Int->Prop,K (ofNat m)->P1.cmp .lss 5 (ofNat l.length) (@hY _ ⟨λt=>P1.FO t 5 (ofNat l.length) (@hY _ ⟨K⟩)⟩):=λK hK=>by
   by_cases e:5<l.length
   .rw[td (show(5:Int)<ofNat l.length by grind),G9]
    grind
   .rw[tf (show ofNat l.length<=(5:Int)by grind),G8]
    simp_all
  refine step _ ?_;refine bE (g9:=HL) m (λi _=>[.i (ofNat i)]) (λ_ t=>t) (λi t=>e_ H.length t z 3 my (eJ l i λ_=>3)) (j0:=0) (s0:=h1) rfl rfl (CM _) (by
   rw[Lm];exact hO) ?_
  rintro i g hi P a4 L;refine b_ ?_;by_cases ap:i<m
  case pos=>
   rw[aL ap];refine b_ ?_;obtain⟨c,E⟩:=aq (l:=l) (i:=i) (by omega);obtain⟨id,Y,N,r,h,q⟩:=gS P (λe=>by
    have:=congrArg List.length e;rw[bI]at this
    simp_all)
   rw[N];have p:=cR (m:=i) (f:=λ_=>3) E;rw[qs (Nat.lt_irrefl i)]at p;refine pX (enc:=my) (a:=c) (a':=(c.1,c.2.1,3)) (o:=2) (new:=[.int .u8 3]) (λ_=>rfl) h rfl p rfl (x5 3) rfl ?_;refine j8 ?_;rw[aT (by omega)];refine L _ (by omega) ?_;rw[rO (f:=λ_=>(3:Int)) E];exact .inr ⟨id,Y,by rw[N,bI,bI],r,bA (ai h),by rw[bI]at q ⊢;exact q⟩
  obtain rfl:i=m:=by omega
  rw[aK (x5 _)];simp(disch:=omega)only[↓A9];refine aj X5 ?_;simp(disch:=omega)only[↓A9];have J:=e_.ls (e:=3) (enc:=my) (λ_=>rfl) P;obtain⟨a0,bl⟩:=e1 pt y (lF (m:=i) (f:=λ_=>3)) (qd S λ_=>⟨by decide,by decide⟩);obtain⟨g1,cA,kA⟩:=yE a0 hI 300 J;rw[n_ (by decide),n_ (by decide)]at cA;refine am cA ?_;simp(disch:=omega)only[↓A9];obtain⟨T,eT⟩ : ∃T,T=(MS w v (eJ l i λ_=>3) G CJ).length:=⟨_,rfl⟩;obtain⟨d,A⟩ : ∃d:Nat->Nat,d=λk=>(MS w v (eJ l i λj=>1+ofNat (Df k j)) G CJ).length:=⟨_,rfl⟩;have hT:T=CZ d (2 ^ i):=by
   rw[eT,A];exact L4 pt y (by decide) av
  rw[show(300:Int).toNat=300 from rfl,Ys,←eT];refine cO (λls g=>∃s:Nat,ls=[.i (ofNat s)]/\(300<=T->300<=s)/\(T<300->s=T)) ?_ ?_
  .rintro ls D ⟨s,rfl,q1,q2⟩;refine b_ ?_;by_cases e:300<=T
   .rw[s_ (show ofNat (min 300 T)=(300:Int)by simp_all)];refine b_ ?_;rw[EZ (show(300:Int)<=ofNat s by grind)];refine b_ ?_;refine aj KC ?_;simp(disch:=omega)only[↓mc]
   .have:=q2 (by omega);subst this;rw[ua (show ¬ofNat (min 300 s)=(300:Int)by grind)];refine b_ ?_;rw[s_ (show ofNat s=ofNat (min 300 s)by grind)];refine b_ ?_;refine aj KC ?_;simp(disch:=omega)only[↓mc]
  intro jj R;refine bE (g9:=HL×Nat) (2 ^ i) (λn t=>[.i (ofNat t.2),.i (ofNat n)]) (λ_ t=>t.1) (λn t=>Kp g t.1/\t.2=CZ (λk=>min 300 (d k)) n) (j0:=0) (s0:=(g1,0)) rfl rfl (CM _) ⟨kA,rfl⟩ ?_;rintro n ⟨D,s⟩ hn ⟨I,X⟩ a2 u;simp only at I X ⊢;simp(disch:=omega)only[↓A9];refine xE (Ga i) (show((i:Nat):Int)<=9223372036854775807 by omega) ?_;refine z5 W ?_;have bd:2 ^ i<=32:=Nat.pow_le_pow_right (n:=2) (by decide) W;by_cases B:n<2 ^ i
  case neg=>
   obtain rfl:n=2 ^ i:=by omega
   rw[aK (x5 _)];simp(disch:=omega)only[↓A9];refine R _ _ ⟨s,rfl,λe=>?_,λe=>?_⟩
   .have:=Aq (f:=d) (a:=300) (2 ^ i);omega
   .rw[X,hT];refine yj λn hn=>?_;have:=LF (f:=d) hn;omega
  rw[aL B];simp(disch:=omega)only[↓A9];by_cases bk:s<=300
  case neg=>
   rw[KY (show(300:Int)<ofNat s by grind)];simp(disch:=omega)only[↓A9];refine R _ _ ⟨s,rfl,λ_=>by omega,λe=>?_⟩;have h4:s=CZ d n:=by
    rw[X];refine yj λk hk=>?_;have:=LF (f:=d) (n:=k) (k:=2 ^ i) (by omega);omega
   have h5:=yk (f:=d) (n:=n) (k:=2 ^ i) (by omega);omega
  rw[KZ (show ofNat s<=(300:Int)by grind)];simp(disch:=omega)only[↓A9];obtain⟨M,C⟩ : ∃M,M=eJ l i λ_=>3:=⟨_,rfl⟩;have a8:M.length=l.length:=by rw[C,bI]
  rw[←C]at J;have aE:po (D++[HO.o (.cells [] 3 true)]) z 3 my M:=J.i_ λj o F _=>dt (I j o F);refine(e_.emp (i6:=DO) (enc:=my) (n0:=D.length) aH (x5 _)).NB (λ_=>rfl) (by simp) aE (by simp;omega) (by simp;omega) ?_;intro x3 g3 o3 gx k3 l3 b3;rw[Ds]at o3;simp(disch:=omega)only[↓A9];refine ab gx ?_
  try simp(disch:=omega)only[↓A9]
  have an:∀(j:Nat) o,D[j]?=some o->g3[j]?=some o:=λj o F=>k3 j o (dt F) λe=>by
   have e:D.length=j:=by simpa[d_]using e
   simp_all
  refine bE (g9:=HL) i (λk _=>[.i (ofNat k)]) (λ_ t=>t) (λk t=>Kp D t/\e_ D.length t x3 3 my (eJ M k λj=>1+ofNat (Df n j))) (j0:=0) (s0:=g3) rfl rfl (CM _) ⟨an,by rw[Lm];exact o3⟩ ?_;rintro k g4 a7 ⟨Q,O⟩ a3 x;refine b_ ?_;by_cases V:k<i
  case pos=>
   rw[aL V];refine b_ ?_;refine xE (Ga k) (show((k:Nat):Int)<=9223372036854775807 by omega) ?_;refine m5 (by omega) ?_;rw[Ql];have eb:ofNat (n / 2 ^ k)%2=ofNat (Df n k):=rfl;have a5:Df n k<2:=It _ (by omega);have a6:(0:Int)<=ofNat (Df n k)/\ofNat (Df n k)<=1:=by
    omega
   rw[eb];generalize Z:ofNat (Df n k)=BI at *;rw[KX (by omega) (by omega)];refine j8 ?_;obtain⟨c,E⟩:=aq (l:=M) (i:=k) (by omega);obtain⟨id,Y,N,r,h,q⟩:=gS O (λe=>by
    have h0:=congrArg List.length e;rw[bI,cp]at h0;omega)
   rw[N];have p:=cR (m:=k) (f:=λj=>1+ofNat (Df n j)) E;rw[qs (Nat.lt_irrefl k)]at p;refine pX (enc:=my) (a:=c) (a':=(c.1,c.2.1,1+BI)) (o:=2) (new:=[.int .u8 (1+BI)]) (λ_=>rfl) h rfl p rfl (x5 3) rfl ?_;refine j8 ?_;rw[aT (by omega)];refine x _ (by omega) ⟨λj o F=>by rw[bV (by grind)];exact Q j o F,?_⟩;subst Z;rw[rO (f:=λj=>1+ofNat (Df n j)) E];exact .inr ⟨id,Y,by rw[N,bI,bI],r,bA (ai h),by rw[bI]at q ⊢;exact q⟩
  obtain rfl:k=i:=by omega
  rw[aK (x5 _)];simp(disch:=omega)only[↓A9];refine aj X5 ?_;simp(disch:=omega)only[↓A9];have U:=e_.ls (e:=3) (enc:=my) (λ_=>rfl) O;rw[C,xZ]at U;have al:∀j,1<=1+ofNat (Df n j)/\1+ofNat (Df n j)<=3:=λj=>by
   have:Df n j<2:=It _ (by omega)
   grind
  obtain⟨a1,bm⟩:=e1 pt y (lF (m:=k) (f:=λj=>1+ofNat (Df n j))) (qd S al);obtain⟨g5,cB,kB⟩:=yE a1 hI 300 U;rw[n_ (by decide),n_ (by decide),show(300:Int).toNat=300 from rfl,Ys]at cB;refine am cB ?_;simp(disch:=omega)only[↓A9];rw[uv (by omega)]
  try simp(disch:=omega)only[↓A9]
  rw[aT (by omega)];refine u (g5,_) B ⟨λj o F=>kB j o (Q j o (I j o F)),?_⟩;simp only[CZ];rw[X,A])
 simp_all
end Go.Am
namespace Go.Am
namespace Sx
def uC{i6:Type}{ks:TJ}{enc:i6->Tn}{ok:i6->Prop}(d:∀cs,Cw ks cs->∃a,enc a=cs/\ok a):∀(n:Nat) (c:Tn),c.length=n*ks.length->(∀i,i<n->Cw ks ((c.drop (i*ks.length)).take ks.length))->∃l:List i6,l.length=n/\l.flatMap enc=c/\∀a∈l,ok a
 |0,c,g,_=>⟨[],rfl,by
   simp_all,λ_ h=>by cases h⟩
 |n+1,c,g,e=>by
  obtain⟨a,h1,j⟩:=d _ (by have:=e 0 (by omega);rw[Yz,Yr]at this;exact this);obtain⟨l,f,k,m⟩:=uC d n (c.drop ks.length) (by grind) (λi p=>by
   have:=e (i+1) (by omega);rw[FF]
   grind)
  refine⟨a :: l,by simp[f],?_,λb o=>?_⟩
  .simp_all
  grind
def X9{i6:Type}{ks:TJ}{enc:i6->Tn}{ok:i6->Prop}(c:∀a,(enc a).length=ks.length)(d:∀cs,Cw ks cs->∃a,enc a=cs/\ok a){h:HL}{x:TR}{n:Nat}{b:Tn}(f:FU h x ks.length n b)(k:∀i,i<n->Cw ks ((b.drop (i*ks.length)).take ks.length)) :
  ∃l:List i6,po h x ks.length enc l/\l.length=n/\∀a∈l,ok a:=by
 obtain⟨l,e,g,j⟩:=uC d n b f.1 k;refine⟨l,⟨λa _=>c a,?_⟩,e,j⟩;rw[e,g];exact f
def bD.i{h:HL}{k:TL}{ks:List Ez}{ls:TG}(a:bD h (.i k :: ks) ls):∃n r,ls = .i n :: r/\(Lit.int k n).wf=true/\bD h ks r:=by
 match ls,a with
 | .i n :: r,a=>exact⟨n,r,rfl,a.1,a.2⟩
def bD.s{h:HL}{b:TJ}{ks:List Ez}{ls:TG}(c:bD h (.s b :: ks) ls):∃x r n a,ls = .v x :: r/\FU h x b.length n a/\n<=maxLen/\(∀i,i<n->Cw b ((a.drop (i*b.length)).take b.length))/\bD h ks r:=by
 match ls,c with
 | .v x :: r,⟨⟨n,a,d,e,f⟩,g⟩=>grind
def bD.nil{h:HL}{ls:TG}(a:bD h [] ls):ls=[]:=by
 match ls,a with
 | [],_=>rfl
def hp_at(a:List EO):SO (a.map λb=>HO.o b.1) 0 a:=λi b c=>by
 simp_all
def SQ(T:Tv)(a:List EO):f_ T (a.map λb=>HO.o b.1)=a.map (·.1):=by
 induction a with
 |nil=>rfl
 |cons b l c=>show EE T (.o b.1) :: f_ T (l.map λb=>HO.o b.1)=_;rw[c];rfl
end Sx
end Go.Am
namespace Go.Am
open Sx Go.Proofs
def bP(cs:Tn)(h:Cw [.i .u8,.i .u8,.i .u8] cs):∃a:SP,sD a=cs/\MX a:=by
 obtain⟨d,e,f,rfl⟩ : ∃d e f,cs=[d,e,f]:=by
  have o:=Cw.len h
  match cs,o with
  | [d,e,f],_=>simp_all
 obtain⟨⟨a,rfl,l⟩,⟨b,rfl,m⟩,⟨c,rfl,n⟩,_⟩:=h;have g:=BG l;have j:=BG m;have k:=BG n;exact⟨(a,b,c),rfl,g.1,g.2,j.1,j.2,k.1,k.2⟩
def vi(cs:Tn)(h:Cw [.i .u8] cs):∃a:Int,EQ a=cs/\(0<=a/\a<=255):=by
 obtain⟨b,rfl⟩ : ∃b,cs=[b]:=by
  have d:=Cw.len h
  match cs,d with
  | [b],_=>exact⟨b,rfl⟩
 obtain⟨⟨a,rfl,c⟩,_⟩:=h;exact⟨a,rfl,BG c⟩
def nE(ls:TG)(h:HL)(c:bD h [.i .u8,.i .u8,.s [.i .u8,.i .u8,.i .u8],.s [.i .u8]] ls):∃h',aI cc ac 4 ls (f_ aa h) [.b true] (f_ aa h'):=by
 obtain⟨w,ls,rfl,t,c⟩:=c.i;obtain⟨v,ls,rfl,r,c⟩:=c.i;obtain⟨s,ls,n,e,rfl,m,_,o,c⟩:=c.s;obtain⟨y,ls,x,d,rfl,f,_,g,c⟩:=c.s;obtain rfl:=c.nil;obtain⟨l,q,_,p⟩:=X9 (enc:=sD) (ok:=MX) (λ_=>rfl) bP m o;obtain⟨u,k,_,j⟩:=X9 (enc:=EQ) (ok:=λa=>0<=a/\a<=255) (λ_=>rfl) vi f g;exact tF (BG t) (BG r) q p k j
end Go.Am
namespace Go.Proofs.YtohimaenikegoaaGreatDoor
open Go Go.Am Go.Am.Sx
open Go.ChangeShapes Go.WideShapes Go.ChangeAt Go.WideMaps Go.WideElems Go.RowKit
abbrev HR:List (String×DataW Unit):= [("crimp/moves.turns",Rows.laid_crimp_moves_turns), ("crimp/cells.quarters",Rows.laid_crimp_cells_quarters)]
def e9 : Tryz.prog.globalNamed "crimp/moves.turns" = some 2:=by kernel_rfl
def s5 : Tryz.prog.globalNamed "crimp/cells.quarters" = some 1:=by kernel_rfl
def VP{W:TS}(h:laidMetH Tryz.prog HR W):∃_:Unit,∀(g:Nat) (vs:Tn),cc.G g=some vs->
  Ek g<W.heap.size/\vs.all bg=true/\∃c e fr,W.heap[Ek g]?=some (.cells c e fr)/\cz (λ_=>none) vs c (Ft g):=by
 rw[MakeChecks.laidMetH_plain _ _ _ (by kernel_rfl)]at h;obtain⟨d,h,_,_⟩:=h;refine⟨(),λg vs b=>?_⟩;have a:=Vd g vs b;unfold cc at b;simp only at b;split at b
 .cases b;exact vh (by kernel_rfl) a (by kernel_rfl) (rg h "crimp/moves.turns" Rows.laid_crimp_moves_turns M9 2 258 8 ZO e9 (by kernel_rfl) (by kernel_rfl))
 .cases b;exact vh (by kernel_rfl) a (by kernel_rfl) (rg h "crimp/cells.quarters" Rows.laid_crimp_cells_quarters (E2 _ M9) 1 237 8 hH s5 (by kernel_rfl) (by kernel_rfl))
 .cases b
def own:ownKnob Tryz.prog.godebug=none:=by kernel_rfl
def ON(os:Os)(args:Tl):laidMetH Tryz.prog HR ((World.doorLaid Tryz.prog 400 os).forCall (λ_ _=>0) ⟨#[],args,[]⟩).memory:=
 laidMetH_of_parts3 (fuel:=8) (laidMet_of_run' 8 (by kernel_rfl) (by kernel_rfl)) (by kernel_rfl) (by kernel_rfl)
end Go.Proofs.YtohimaenikegoaaGreatDoor
end

import Derived.Test.YtohimaenikegoaaGreatDoorOE3
import Derived.Laws.Entries
import Derived.Laws.StructEq
set_option linter.all false
noncomputable section
open Int(ofNat)
open List(range replicate)
namespace Go.Am
section
variable {P:TI}
def aV{i7 c:Type}(s:Sem i7)(f:i7->Sem c):CH P (s >>= f)=(CH P s).bind λa=>CH P (f a):=by
 show CH P (s.bind f)=_
 induction s with
 |pure a=>rfl
 |program k b=>exact b P
 |_=>rfl
def gY{i7:Type}(a:i7):CH P (pure a:Sem i7)=some a:=rfl
def mI:CH P program=some P:=rfl
def bp{t:TP}{d:TypeDesc}(h:P.underlying t=some d):CH P (underlying t)=some d:=by
 unfold underlying;rw[aV,mI];simp only[Ds,h];rfl
def rQ{d:Nat}{t:TP}{k c:TL}{a b:Int}(h:P.underlying t=some (.int c)):CH P (Op.equalIn (d+1) t (.int k a) (.int k b))=some (a==b):=by
 simp only[Op.equalIn,aV,bp h,Ds,if_true,gY]
def qb{d:Nat}{t:TP}{a b:Bool}(h:P.underlying t=some .bool):CH P (Op.equalIn (d+1) t (.bool a) (.bool b))=some (a==b):=by
 simp only[Op.equalIn,aV,bp h,Ds,gY]
def Ae{t:TP}{a:Bool}(h:A2 P t=some a):CH P (isAgg t)=some a:=by
 unfold isAgg;unfold A2 at h;split at h
 next b e=>cases h;rw[aV,bp e];rfl
 next b e=>cases h;rw[aV,bp e];rfl
 next d c f e=>
  cases h;rw[aV,bp e];simp only[Ds];rfl
 .cases h
def lG{t:TP}{d:TypeDesc}(h:P.underlying t=some d):CH P (sizeOf t)=some (P.cellsOf t):=by
 unfold sizeOf typeInfo;have a:∃i,P.info? t=some i:=by
  unfold Program.underlying at h
  grind
 obtain⟨i,a⟩:=a;simp only[aV,mI,Ds,a];simp[CH,Program.cellsOf,a];rfl
def mG{t:TP}{c:Bool}(h:A2 P t=some c){cs:Tn}{off:Nat}{ds:Tn}(a:cut cs off (if c then P.cellsOf t else 1)=some ds) :
  ∃v,CH P (part t ⟨cs⟩ off)=some v/\VZ c ds v:=by
 have f:∃d,P.underlying t=some d:=by
  unfold A2 at h
  grind
 obtain⟨d,f⟩:=f;unfold part;rw[aV,Ae h];simp only[Ds];unfold cut at a;cases c with
 |true=>
  simp only[if_true]at a ⊢;split at a
  next e=>
   cases a;refine⟨.agg ⟨(cs.drop off).take (P.cellsOf t)⟩,?_,.inl ⟨rfl,rfl⟩⟩;rw[aV,lG f];simp only[Ds,gY,FU,Value.agg.injEq]
   simp_all
  .cases a
 |false=>
  simp only[D7,if_false]at a ⊢;split at a
  next e=>
   cases a;have b:off<cs.length:=a_;refine⟨cs[off],?_,.inr ⟨rfl,by rw[SZ b];rfl⟩⟩;have:(⟨cs⟩ : Array Value)[off]?=some cs[off]:=by simp[b]
   rw[this];rfl
  .cases a
def Ec(a b:List SL):Bool:=cj ((a.map SL.lf).zip (b.map SL.lf))
def uS(a b:List (Lf×Lf)):cj (a++b)=(cj a&&cj b):=by simp[cj]
def px{a b c d:List SL}(h:a.length=b.length):Ec (a++c) (b++d)=(Ec a b&&Ec c d):=by
 unfold Ec;rw[Ij,Ij,List.zip_append (by simpa using h),uS]
def Yu(a:Bool)(cs:List SL)(v:Value):Prop:=VZ a (cs.map SL.val) v
def bb(P:TI)(d:Nat)(t:TP)(ks:TJ):Prop:=
 ∃c,A2 P t=some c/\(if c then P.cellsOf t else 1)=ks.length/\∀(a b:List SL) (x y:Value),aT a ks=true->aT b ks=true->Yu c a x->Yu c b y->CH P (Op.equalIn d t x y)=some (Ec a b)
def gK{cs:List SL}{d e:TJ}(h:aT cs (d++e)=true):∃a b,cs=a++b/\aT a d=true/\aT b e=true:=by
 induction d generalizing cs with
 |nil=>exact⟨[],cs,rfl,rfl,h⟩
 |cons k d i=>
  cases cs with
  |nil=>cases h
  |cons c cs=>
   simp only[DI,aT,vd]at h;obtain⟨a,b,rfl,f,g⟩:=i h.2;exact⟨c :: a,b,rfl,by simp[aT,h.1,f],g⟩
def sI{pre a post:List SL}{n off:Nat}(c:off=pre.length)(b:n=a.length):cut ((pre++a++post).map SL.val) off n=some (a.map SL.val):=by
 subst c;subst b;unfold cut
 simp_all
def Jo{i7:Type}{c:Prop} [Decidable c](a b:Sem i7):CH P (if c then a else b)=if c then CH P a else CH P b:=by split<;>rfl
def qf{d:Nat}{F:TP->Option (TJ)}(B:∀t ks,F t=some ks->bb P d t ks):∀(l:List Field) (off:Nat) (ks:TJ),ni F l off=some ks->
  ∀(c a e b:List SL),c.length=off->e.length=off->aT a ks=true->aT b ks=true->
   CH P (Op.eqFields d ⟨(c++a).map SL.val⟩ ⟨(e++b).map SL.val⟩ l)=some (Ec a b)
 | [],off,ks,h,c,a,e,b,_,_,m,o=>by
  cases h;cases a with
  |cons _ _=>cases m
  |nil=>cases b with
   |cons _ _=>cases o
   |nil=>rfl
 |f :: l,off,ks,h,c,a,e,b,la,lb,m,o=>by
  simp only[ni]at h;split at h
  next k1 q C H=>
   have q:¬f.name = "_":=of_decide_eq_false q
   have C:=Dx C;obtain⟨J,I,rfl⟩:=DC.1 h;obtain⟨M,A,N,E⟩:=B _ _ H;obtain⟨g,w,rfl,j,n⟩:=gK m;obtain⟨i,z,rfl,k,p⟩:=gK o;have K:=bQ j;have L:=bQ k;obtain⟨x,r,s⟩:=mG A (cs:=(c++(g++w)).map SL.val) (off:=f.offset) (ds:=g.map SL.val) (by rw[←EF];exact sI a_ a_);obtain⟨y,u,v⟩:=mG A (cs:=(e++(i++z)).map SL.val) (off:=f.offset) (ds:=i.map SL.val) (by rw[←EF];exact sI a_ a_);have G:=E g i x y j k s v;have D:=qf B l (off+k1.length) J I (c++g) w (e++i) z ua ua n p;rw[EF,EF]at D;simp only[Op.eqFields,ne_eq,q,not_false_eq_true,if_true];rw[aV,r];simp only[Ds];rw[aV,u];simp only[Ds];rw[aV,G];simp only[Ds];rw[px a_];cases Ec g i with
   |true=>simpa using D
   |false=>rfl
  .cases h
def gG(d:Nat)(t:TP)(c:Array Field)(xs ys:Tl)(i:P.underlying t=some (.struct c))(k:P.stoodInHeld t=false) :
  CH P (Op.equalIn (d+1) t (.agg xs) (.agg ys))=CH P (Op.eqFields d xs ys c.toList):=by
 simp only[Op.equalIn,aV,bp i,Ds,mI,k,D7,if_false];rw[←Array.forIn_toList];generalize c.toList=c;clear i
 induction c with
 |nil=>simp only[List.forIn_nil,Op.eqFields];rfl
 |cons f c j=>
  simp only[qdn,Op.eqFields,aV,Jo];split
  .cases e:CH P (part f.type xs f.offset)with
   |none=>simp
   |some a=>
    cases g:CH P (part f.type ys f.offset)with
    |none=>simp[e,g]
    |some b=>
     cases h:CH P (Op.equalIn d f.type a b)with
     |none=>simp[e,g,h]
     |some r=>
      cases r
      .simp[e,g,h,gY]
      .simpa[e,g,h,gY]using j
  .simpa[gY]using j
def eW(d n:Nat)(e:TP)(xs ys:Tl):TC->Sem Bool
 | []=>pure true
 |i :: is=>do
  let a ←part e xs (i*n)
  let b ←part e ys (i*n)
  let r ←Op.equalIn d e a b
  if (!r)=true then pure false else eW d n e xs ys is
def io(d:Nat)(t e:TP)(n:Nat)(xs ys:Tl)(g:P.underlying t=some (.array n e))(f:∃k,P.underlying e=some k) :
  CH P (Op.equalIn (d+1) t (.agg xs) (.agg ys))=CH P (eW d (P.cellsOf e) e xs ys (range n)):=by
 obtain⟨k,f⟩:=f;simp only[Op.equalIn,aV,bp g,Ds,lG f];rw[Std.Legacy.Range.forIn_eq_forIn_range'];simp only[Std.Legacy.Range.size,Nat.sub_zero,Nat.add_sub_cancel,Nat.div_one];rw[YZ];generalize List.range' 0 n=is;clear g
 induction is with
 |nil=>simp only[List.forIn_nil,eW];rfl
 |cons i is h=>
  simp only[qdn,eW,aV,Jo];cases j:CH P (part e xs (i*P.cellsOf e))with
  |none=>simp
  |some a=>
   cases l:CH P (part e ys (i*P.cellsOf e))with
   |none=>simp
   |some b=>
    cases c:CH P (Op.equalIn d e a b)with
    |none=>simp[c]
    |some r=>
     cases r
     .simp[c,gY]
     .simpa[c,gY]using h
def rT{d:Nat}{e:TP}{p:TJ}(E:bb P d e p)(l:p.length=P.cellsOf e):∀(n i:Nat) (c a f b:List SL),c.length=i*P.cellsOf e->f.length=i*P.cellsOf e->
  aT a (replicate n p).flatten=true->aT b (replicate n p).flatten=true->
   CH P (eW d (P.cellsOf e) e ⟨(c++a).map SL.val⟩ ⟨(f++b).map SL.val⟩ (List.range' i n))=some (Ec a b)
 |0,i,c,a,f,b,_,_,m,o=>by
  cases a with
  |cons _ _=>cases m
  |nil=>cases b with
   |cons _ _=>cases o
   |nil=>rfl
 |n+1,i,c,a,f,b,la,lb,m,o=>by
  rw[u1,y4]at m o;obtain⟨C,h1,D,A⟩:=E;obtain⟨g,w,rfl,j,q⟩:=gK m;obtain⟨h,z,rfl,k,r⟩:=gK o;have G:=bQ j;have H:=bQ k;obtain⟨x,s,t⟩:=mG h1 (cs:=(c++(g++w)).map SL.val) (off:=i*P.cellsOf e) (ds:=g.map SL.val) (by rw[←EF];exact sI la.symm a_);obtain⟨y,u,v⟩:=mG h1 (cs:=(f++(h++z)).map SL.val) (off:=i*P.cellsOf e) (ds:=h.map SL.val) (by rw[←EF];exact sI lb.symm a_);have F:=A g h x y j k t v;have B:=rT ⟨C,h1,D,A⟩ l n (i+1) (c++g) w (f++h) z jn jn q r;rw[EF,EF]at B;simp only[eL,eW];rw[aV,s];simp only[Ds];rw[aV,u];simp only[Ds];rw[aV,F];simp only[Ds];rw[px a_];cases Ec g h with
  |true=>simpa using B
  |false=>rfl
def Kh{k:LK}(g:k≠.v){a b:List SL}(d:aT a [k]=true)(e:aT b [k]=true):∃x y,a=[x]/\b=[y]/\x.is k=true/\y.is k=true:=by
 cases a with
 |nil=>cases d
 |cons x c=>cases c with
  |cons _ _=>simp[aT]at d
  |nil=>cases b with
   |nil=>cases e
   |cons y f=>cases f with
    |cons _ _=>simp[aT]at e
    |nil=>simp only[aT,qdr]at d e;simp_all
def oh:∀(d:Nat) (t:TP) (ks:TJ),CG P d t=some ks->bb P d t ks
 |0,t,ks,h=>by cases h
 |d+1,t,ks,h=>by
  simp only[CG]at h;split at h
  next k e=>
   cases h;refine⟨false,by simp[A2,e],c_,λa b x y i j f g=>?_⟩;obtain⟨u,v,rfl,rfl,m,o⟩:=Kh c_ i j;rcases f with⟨c,_⟩|⟨_,f⟩
   .cases c
   rcases g with⟨c,_⟩|⟨_,g⟩
   .cases c
   simp only[DD,Il,Hz,and_true]at f g;subst f;subst g;cases u<;>simp only[SL.is,D7]at m;cases v<;>simp only[SL.is,D7]at o;have w:=dK m;have z:=dK o;subst w;subst z;simp only[SL.val];rw[rQ e];simp[Ec,cj,SL.lf,ir]
  next e=>
   cases h;refine⟨false,by simp[A2,e],c_,λa b x y i j f g=>?_⟩;obtain⟨u,v,rfl,rfl,m,o⟩:=Kh c_ i j;rcases f with⟨c,_⟩|⟨_,f⟩
   .cases c
   rcases g with⟨c,_⟩|⟨_,g⟩
   .cases c
   simp only[DD,Il,Hz,and_true]at f g;subst f;subst g;cases u<;>simp only[SL.is,D7]at m<;>cases v<;>simp only[SL.is,D7]at o<;>
   .simp only[SL.val];rw[qb e];simp[Ec,cj,SL.lf,ir]
  next r e=>
   split at h
   next H E B=>
    split at h
    next l=>
     cases h;have l:=Dx l;refine⟨true,by simp[A2,e],by simp[l],λa b x y i j f g=>?_⟩;rcases f with⟨_,rfl⟩|⟨c,_⟩
     .rcases g with⟨_,rfl⟩|⟨c,_⟩
      .rw[gG d t r _ _ e E];exact qf (oh d) r.toList 0 _ B [] a [] b rfl rfl i j
      .cases c
     .cases c
    .cases h
   .cases h
  next n p e=>
   split at h
   next F C=>
    split at h
    next l=>
     simp only[vd]at l;have q:=Dx l.1;have D:=Dx l.2;cases h;refine⟨true,by simp[A2,e],kb,λa b x y i j f g=>?_⟩;rcases f with⟨_,rfl⟩|⟨c,_⟩
     .rcases g with⟨_,rfl⟩|⟨c,_⟩
      .have s:=oh d p F C;have m:∃k,P.underlying p=some k:=by
        obtain⟨G,A,_⟩:=s;unfold A2 at A
        grind
       rw[io d t p n _ _ e m,YZ];exact rT s q n 0 [] a [] b c_ c_ i j
      .cases c
     .cases c
    .cases h
   .cases h
  .cases h
end
section
variable {P:TI}
def Kb{a b:Bool}:O8 a b=(a==b):=by cases a<;>cases b<;>rfl
def wL{a b:Int}:U5 a b=(a==b):=by
 rw[WI,beq_iff_eq];cases a<;>cases b<;>simp only[U5]
 .rw[Nat.beq_eq];grind
 .simp_all
 .simp_all
 simp_all
def ob:∀ {ks:TJ} {xs ys:Tn} {r:Bool},fF ks xs ys=some r->∃a b:List SL,a.map SL.val=xs/\b.map SL.val=ys/\aT a ks=true/\aT b ks=true/\Ec a b=r
 | [],[],[],r,h=>by cases h;exact⟨[],[],rfl,rfl,rfl,rfl,rfl⟩
 | .i k :: ks,.int a x :: xs,.int b y :: ys,r,h=>by
  simp only[fF]at h;split at h
  next r' m n e3=>
   obtain⟨c,d,h1,e,f,g,j⟩:=ob e3;refine⟨.i a x :: c,.i b y :: d,by simp[SL.val,h1],by simp[SL.val,e],by simp[aT,SL.is,m,f],by simp[aT,SL.is,n,g],?_⟩;have l:Ec (.i a x :: c) (.i b y :: d)=((x==y)&&Ec c d):=by simp[Ec,cj,ir,SL.lf]
   rw[l,j,←wL]
   grind
  .cases h
 | .b :: ks,.bool x :: xs,.bool y :: ys,r,h=>by
  simp only[fF]at h;split at h
  next r' e3=>
   obtain⟨c,d,h1,e,f,g,j⟩:=ob e3;refine⟨.b x :: c,.b y :: d,by simp[SL.val,h1],by simp[SL.val,e],by simp[aT,SL.is,f],by simp[aT,SL.is,g],?_⟩;have l:Ec (.b x :: c) (.b y :: d)=((x==y)&&Ec c d):=by simp[Ec,cj,ir,SL.lf]
   rw[l,j,←Kb]
   grind
  .cases h
def iL:∀ {ks:TJ} {xs ys:Tn} {r:Bool},fF ks xs ys=some r->xs.all scalar=true
 | [],[],[],r,h=>rfl
 | .i k :: ks,.int a x :: xs,.int b y :: ys,r,h=>by
  simp only[fF]at h;split at h
  next r' c d e3=>
   simp only[S4,vd];exact⟨rfl,iL e3⟩
  .cases h
 | .b :: ks,.bool x :: xs,.bool y :: ys,r,h=>by
  simp only[fF]at h;split at h
  next r' e3=>
   simp only[S4,vd];exact⟨rfl,iL e3⟩
  .cases h
def ME:∀ {ks:TJ} {xs ys:Tn} {r:Bool},fF ks xs ys=some r->xs.length=ks.length:=by
 intro ks xs ys r h;obtain⟨a,b,c,e,d,f,g⟩:=ob h;rw[←c,FV];exact bQ d
def lY:∀ {ks:TJ} {xs:Tn} {r:Bool},fF ks xs xs=some r->r=true
 | [],[],r,h=>by cases h;rfl
 | .i k :: ks,.int a x :: xs,r,h=>by
  simp only[fF]at h;split at h
  next r' c d e3=>
   have:U5 x x=true:=by rw[wL];simp
   rw[this]at h;simp only[FU]at h;rw[←h];exact lY e3
  .cases h
 | .b :: ks,.bool x :: xs,r,h=>by
  simp only[fF]at h;split at h
  next r' e3=>
   have:O8 x x=true:=by cases x<;>rfl
   rw[this]at h;simp only[FU]at h;rw[←h];exact lY e3
  .cases h
def tS{i7:Type}{g:i7->PUnit->Sem (ForInStep PUnit)}:∀(l:List i7),(∀x∈l,CH P (g x PUnit.unit)=some (.yield PUnit.unit))->CH P (forIn l PUnit.unit g)=some PUnit.unit
 | [],_=>rfl
 |x :: l,h=>by
  rw[qdn,aV,h x Lk];exact tS l λy a=>h y (E7 _ a)
def a9(P:TI)(d:Nat)(t:TP)(ks:TJ):Prop:=∃a,A2 P t=some a/\(if a then P.cellsOf t else 1)=ks.length/\∀(b:Bool) (m:Nat) (cs:Tn) (v:Value),d<=m->cs.length=ks.length->VZ a cs v->CH P (Instr.checkKey b m t v)=some ()
def vf{F:TP->Option (TJ)}:∀(d:List Field) (off:Nat) (ks:TJ),ni F d off=some ks->∀f∈d,∃k1,F f.type=some k1/\f.offset+k1.length<=off+ks.length
 | [],off,ks,h,f,c=>by cases c
 |j :: d,off,ks,h,f,c=>by
  simp only[ni]at h;split at h
  next k1 l e k=>
   have e:=Dx e;obtain⟨i,g,rfl⟩:=DC.1 h;rcases DB.1 c with rfl|c
   .simp_all
   .obtain⟨m,a,b⟩:=vf d _ i g f c
    grind
  .cases h
def IQ:∀(d:Nat) (t:TP) (ks:TJ),CG P d t=some ks->a9 P d t ks
 |0,t,ks,h=>by cases h
 |d+1,t,ks,h=>by
  simp only[CG]at h;split at h
  next k e=>
   cases h;refine⟨false,by simp[A2,e],c_,λb m cs v E _ _=>?_⟩;obtain⟨m,rfl⟩ : ∃l,m=l+1:=⟨m - 1,a_⟩;unfold Instr.checkKey;rw[aV,bp e];rfl
  next e=>
   cases h;refine⟨false,by simp[A2,e],c_,λb m cs v E _ _=>?_⟩;obtain⟨m,rfl⟩ : ∃l,m=l+1:=⟨m - 1,a_⟩;unfold Instr.checkKey;rw[aV,bp e];rfl
  next J e=>
   split at h
   next R Q L=>
    split at h
    next c=>
     cases h;have c:=Dx c;refine⟨true,by simp[A2,e],by simp[c],λb m cs v E y G=>?_⟩;obtain⟨m,rfl⟩ : ∃l,m=l+1:=⟨m - 1,a_⟩;rcases G with⟨_,rfl⟩|⟨u,_⟩
     case inr=>cases u
     unfold Instr.checkKey;rw[aV,bp e];simp only[Ds];rw[←Array.forIn_toList];have:=tS (P:=P) (g:=λf _=>if f.name ≠ "_" then(do Instr.checkKey b m f.type (←part f.type ⟨cs⟩ f.offset);pure (ForInStep.yield PUnit.unit))else pure (ForInStep.yield PUnit.unit)) J.toList (λf z=>by
      obtain⟨K,B,O⟩:=vf J.toList 0 _ L f z;rw[Jo];split
      .obtain⟨s,q,I,r⟩:=IQ d f.type K B;have w:cut cs f.offset (if s then P.cellsOf f.type else 1)=some ((cs.drop f.offset).take K.length):=by
        unfold cut
        simp_all
       obtain⟨x,H,j⟩:=mG q w;rw[aV];rw[H];simp only[Ds];rw[aV,r b m _ x a_ ua j];rfl
      .rfl)
     simp_all
    .cases h
   .cases h
  next n a e=>
   split at h
   next p B=>
    split at h
    next c=>
     simp only[vd]at c;have C:=Dx c.1;have M:=Dx c.2;cases h;refine⟨true,by simp[A2,e],kb,λb m cs v E y G=>?_⟩;obtain⟨m,rfl⟩ : ∃l,m=l+1:=⟨m - 1,a_⟩;rcases G with⟨_,rfl⟩|⟨u,_⟩
     case inr=>cases u
     obtain⟨s,q,I,r⟩:=IQ d a p B;have F:∃k,P.underlying a=some k:=by
      unfold A2 at q
      grind
     obtain⟨N,F⟩:=F;unfold Instr.checkKey;rw[aV,bp e];simp only[Ds];rw[Std.Legacy.Range.forIn_eq_forIn_range'];simp only[Std.Legacy.Range.size,Nat.sub_zero,Nat.add_sub_cancel,Nat.div_one];have o:cs.length=n*p.length:=kb;have:=tS (P:=P) (g:=λi _=>(do Instr.checkKey b m a (←part a ⟨cs⟩ (i*(←sizeOf a)));pure (ForInStep.yield PUnit.unit))) (List.range' 0 n) (λi A=>by
      have A:i<n:=by simpa using A
      have D:i*P.cellsOf a+p.length<=cs.length:=by
       rw[o,←C];have:=Q9 p.length (Nat.succ_le_of_lt A)
       grind
      have w:cut cs (i*P.cellsOf a) (if s then P.cellsOf a else 1)=some ((cs.drop (i*P.cellsOf a)).take p.length):=by
       unfold cut;rw[I,rv D]
      obtain⟨x,H,j⟩:=mG q w;rw[aV,lG F];simp only[Ds];rw[aV,H];simp only[Ds];rw[aV,r b m _ x a_ ua j];rfl)
     simp_all
    .cases h
   .cases h
  .cases h
def KI{kt:TP}{k:TR}(h:H5 P kt k=true):jC P kt k=true:=by
 unfold H5 at h;split at h
 next b=>
  split at h
  next B=>
   split at h
   next g n=>
    split at h
    next r i=>
     have o:=ME i;have s:=lY i;subst s;obtain⟨p,z,A,q⟩:=oh 10000 kt g n;have l:p=true:=by
      simp_all
     subst l;obtain⟨a,c,t,u,v,w,x⟩:=ob i;have e:=q a c (.agg b) (.agg b) v w (.inl ⟨rfl,by rw[t]⟩) (.inl ⟨rfl,by rw[u]⟩);rw[x]at e;have f:CH P (Op.equal kt (.agg b) (.agg b))=some true:=e;obtain⟨j,y,_,m⟩:=IQ 10000 kt g n;have d:j=true:=by
      simp_all
     subst d;unfold jC;rw[m true 10000 b.toList (.agg b) (A9 _) o (.inl ⟨rfl,rfl⟩),m false 10000 b.toList (.agg b) (A9 _) o (.inl ⟨rfl,rfl⟩),f];have:gl (.agg b)=true:=iL i;rw[this];rfl
    .exact h
   .exact h
  .exact h
 .exact h
def H4(a:Bool)(xs:Tn)(x:Value):Prop:=(a=true/\x = .agg ⟨xs⟩)∨(a=false/\∃b,xs=x :: b)
def TU(P:TI)(d:Nat)(t:TP)(ks:TJ):Prop:=
 ∃a,A2 P t=some a/\(if a then P.cellsOf t else 1)=ks.length/\∀(xs ys:Tn) (x y:Value) (r:Bool),x9 ks xs ys=some r->H4 a xs x->H4 a ys y->CH P (Op.equalIn d t x y)=some r
def lV:∀ {k1 a:TJ} {xs ys:Tn} {r:Bool},x9 (k1++a) xs ys=some r->
  ∃c,x9 k1 (xs.take k1.length) (ys.take k1.length)=some c/\(c=false->r=false)/\(c=true->x9 a (xs.drop k1.length) (ys.drop k1.length)=some r)
 | [],a,xs,ys,r,h=>by
  refine⟨true,by simp only[x9],(λq=>Bool.noConfusion q),λ_=>?_⟩;simpa using h
 | .i k :: k1,a,xs,ys,r,h=>by
  cases xs with
  |nil=>simp[x9]at h
  |cons x xs=>cases ys with
   |nil=>cases x<;>simp[x9]at h
   |cons y ys=>
    cases x<;>first|(simp[x9]at h;done)|skip
    cases y<;>first|(simp[x9]at h;done)|skip
    simp only[DI,x9]at h;simp only[YV,p',bt,x9];split at h
    next d e=>
     split at h
     next e3=>
      exact lV h
     simp_all
    .cases h
 | .b :: k1,a,xs,ys,r,h=>by
  cases xs with
  |nil=>simp[x9]at h
  |cons x xs=>cases ys with
   |nil=>cases x<;>simp[x9]at h
   |cons y ys=>
    cases x<;>first|(simp[x9]at h;done)|skip
    cases y<;>first|(simp[x9]at h;done)|skip
    simp only[DI,x9]at h;simp only[YV,p',bt,x9];split at h
    next e3=>
     exact lV h
    simp_all
 | .v :: k1,a,xs,ys,r,h=>by simp[x9]at h
def UQ{k:LK}{ks:TJ}{xs ys:Tn}{r:Bool}(h:x9 (k :: ks) xs ys=some r):∃x b y a,xs=x :: b/\ys=y :: a:=by
 cases xs with
 |nil=>cases k<;>simp[x9]at h
 |cons x xs=>cases ys with
  |nil=>cases k<;>cases x<;>simp[x9]at h
  |cons y ys=>simp_all
def Lj{t:TP}{a:Bool}(h:A2 P t=some a){cs:Tn}{off n:Nat}(b:(if a then P.cellsOf t else 1)=n)(c:a=false->∃x f,(cs.drop off).take n=x :: f) :
  ∃v,CH P (part t ⟨cs⟩ off)=some v/\H4 a ((cs.drop off).take n) v:=by
 have e:∃d,P.underlying t=some d:=by
  unfold A2 at h
  grind
 obtain⟨d,e⟩:=e;unfold part;rw[aV,Ae h];simp only[Ds];cases a with
 |true=>
  simp only[if_true]at b ⊢;subst b;refine⟨.agg ⟨(cs.drop off).take (P.cellsOf t)⟩,?_,.inl ⟨rfl,rfl⟩⟩;rw[aV,lG e];simp only[Ds,gY,FU,Value.agg.injEq]
  simp_all
 |false=>
  obtain⟨x,f,i⟩:=c rfl;simp only[D7,if_false]at b ⊢;subst b;refine⟨x,?_,.inr ⟨rfl,f,i⟩⟩;have g:(cs.drop off)[0]?=some x:=by
   have:((cs.drop off).take 1)[0]?=some x:=by rw[i];rfl
   grind
  rw[M2,r0]at g;have:(⟨cs⟩ : Array Value)[off]?=some x:=by simpa using g
  rw[this];rfl
def yH{d:Nat}{t:TP}{k1 l:TJ}(u:TU P d t k1){xs ys:Tn}{off:Nat}{r:Bool}(h:x9 (k1++l) (xs.drop off) (ys.drop off)=some r)(s:Bool->Sem Bool){r':Bool}
  (E:x9 l (xs.drop (off+k1.length)) (ys.drop (off+k1.length))=some r->CH P (s true)=some r) (v:CH P (s false)=some false) (w:r'=r) :
  (CH P (part t ⟨xs⟩ off)).bind (λa=>(CH P (part t ⟨ys⟩ off)).bind λb=>(CH P (Op.equalIn d t a b)).bind λq=>CH P (s q))=some r':=by
 subst w;obtain⟨n,j,e,p⟩:=u;obtain⟨m,i,o,e3⟩:=lV h;have c:n=false->(∃x f,(xs.drop off).take k1.length=x :: f)/\∃x f,(ys.drop off).take k1.length=x :: f:=by
  intro g;subst g;simp only[D7,if_false]at e;cases k1 with
  |nil=>cases e
  |cons k F=>
   obtain⟨x,f,y,z,G,H⟩:=UQ i
   grind
 obtain⟨x,A,B⟩:=Lj j (cs:=xs) (off:=off) e λh=>(c h).1;obtain⟨y,C,D⟩:=Lj j (cs:=ys) (off:=off) e λh=>(c h).2;rw[A];simp only[Ds];rw[C];simp only[Ds];rw[p _ _ x y m i B D];simp only[Ds];cases m with
 |true=>
  simp_all
 |false=>rw[o rfl];exact v
def ns{d:Nat}{F:TP->Option (TJ)}(g:∀t ks,F t=some ks->TU P d t ks):∀(a:List Field) (off:Nat) (ks:TJ),ni F a off=some ks->
  ∀(xs ys:Tn) (r:Bool),x9 ks (xs.drop off) (ys.drop off)=some r->CH P (Op.eqFields d ⟨xs⟩ ⟨ys⟩ a)=some r
 | [],off,ks,h,xs,ys,r,b=>by
  cases h;simp only[x9,FU]at b;subst b;rfl
 |f :: a,off,ks,h,xs,ys,r,b=>by
  simp only[ni]at h;split at h
  next k1 c e i=>
   have c:¬f.name = "_":=of_decide_eq_false c
   have e:=Dx e;obtain⟨k,j,rfl⟩:=DC.1 h;simp only[Op.eqFields,ne_eq,c,not_false_eq_true,if_true,aV];rw[e];exact yH (g _ _ i) b (λq=>if (!q)=true then pure false else Op.eqFields d ⟨xs⟩ ⟨ys⟩ a) (λh=>by simpa using ns g a _ k j xs ys r h) rfl rfl
  .cases h
def qe{d:Nat}{e:TP}{c:TJ}(f:TU P d e c)(b:c.length=P.cellsOf e):∀(n i:Nat) (xs ys:Tn) (r:Bool),
  x9 (replicate n c).flatten (xs.drop (i*P.cellsOf e)) (ys.drop (i*P.cellsOf e))=some r->CH P (eW d (P.cellsOf e) e ⟨xs⟩ ⟨ys⟩ (List.range' i n))=some r
 |0,i,xs,ys,r,a=>by
  simp only[List.replicate_zero,List.flatten_nil,x9,FU]at a;subst a;rfl
 |n+1,i,xs,ys,r,a=>by
  rw[u1,y4]at a;simp only[eL,eW,aV];refine yH f a (λq=>if (!q)=true then pure false else eW d (P.cellsOf e) e ⟨xs⟩ ⟨ys⟩ (List.range' (i+1) n)) (λh=>?_) rfl rfl;have:=qe f b n (i+1) xs ys r jn;simpa using this
def pE:∀(d:Nat) (t:TP) (ks:TJ),CG P d t=some ks->TU P d t ks
 |0,t,ks,h=>by cases h
 |d+1,t,ks,h=>by
  simp only[CG]at h;split at h
  next k e=>
   cases h;refine⟨false,by simp[A2,e],c_,λxs ys x y r a c f=>?_⟩;rcases c with⟨h0,_⟩|⟨_,A,rfl⟩
   .cases h0
   rcases f with⟨h0,_⟩|⟨_,ty,rfl⟩
   .cases h0
   cases x<;>first|(simp[x9]at a;done)|skip
   cases y<;>first|(simp[x9]at a;done)|skip
   simp only[x9]at a;split at a
   next g i=>
    have g:=dK g;have i:=dK i;subst g;subst i;rw[rQ e,←wL]
    grind
   .cases a
  next e=>
   cases h;refine⟨false,by simp[A2,e],c_,λxs ys x y r a c f=>?_⟩;rcases c with⟨h0,_⟩|⟨_,A,rfl⟩
   .cases h0
   rcases f with⟨h0,_⟩|⟨_,ty,rfl⟩
   .cases h0
   cases x<;>first|(simp[x9]at a;done)|skip
   cases y<;>first|(simp[x9]at a;done)|skip
   simp only[x9]at a;rw[qb e,←Kb]
   grind
  next m e=>
   split at h
   next C v q=>
    split at h
    next b=>
     cases h;have b:=Dx b;refine⟨true,by simp[A2,e],by simp[b],λxs ys x y r a c f=>?_⟩;rcases c with⟨_,rfl⟩|⟨h0,_⟩
     .rcases f with⟨_,rfl⟩|⟨h0,_⟩
      .rw[gG d t m _ _ e v];exact ns (pE d) m.toList 0 _ q xs ys r a
      .cases h0
     .cases h0
    .cases h
   .cases h
  next n j e=>
   split at h
   next z s=>
    split at h
    next b=>
     simp only[vd]at b;have l:=Dx b.1;have u:=Dx b.2;cases h;refine⟨true,by simp[A2,e],kb,λxs ys x y r a c f=>?_⟩;rcases c with⟨_,rfl⟩|⟨h0,_⟩
     .rcases f with⟨_,rfl⟩|⟨h0,_⟩
      .have o:=pE d j z s;have w:∃k,P.underlying j=some k:=by
        obtain⟨B,p,_⟩:=o;unfold A2 at p
        grind
       rw[io d t j n _ _ e w,YZ];exact qe o l n 0 xs ys r (by simpa using a)
      .cases h0
     .cases h0
    .cases h
   .cases h
  .cases h
def uY{kt:TP}{ks:TJ}{cs:Tl}(d:∀(xs ys:Tn) (x y:TR) (r:Bool),x9 ks xs ys=some r->H4 true xs x->H4 true ys y->CH P (Op.equalIn 10000 kt x y)=some r) :
  ∀(a:Tj) (i:Nat) (r:Ts),jA ks cs.toList a i=some r->∃q,CH P (Instr.findAsking kt (.agg cs) (a.map bD) i)=some q/\q.map (·.1)=r
 | [],i,r,h=>by cases h;exact⟨none,rfl,rfl⟩
 |e :: a,i,r,h=>by
  simp only[jA]at h;split at h
  next ds f=>
   have g:∀b,x9 ks cs.toList ds.toList=some b->CH P (Op.equal kt (.agg cs) (bD e).key)=some b:=by
    intro b c;have:=d cs.toList ds.toList (.agg cs) (.agg ds) b c (.inl ⟨rfl,rfl⟩) (.inl ⟨rfl,rfl⟩);show CH P (Op.equalIn 10000 kt (.agg cs) e.key)=some b;rw[f];exact this
   have j:CH P (Instr.findAsking kt (.agg cs) ((e :: a).map bD) i)=(CH P (Op.equal kt (.agg cs) (bD e).key)).bind λb=>CH P (if b then pure (some (i,(bD e).val))else Instr.findAsking kt (.agg cs) (a.map bD) (i+1)):=by
    show CH P (Op.equal kt (.agg cs) (bD e).key >>= λb=>if b then pure (some (i,(bD e).val))else Instr.findAsking kt (.agg cs) (a.map bD) (i+1))=_;rw[aV]
   split at h
   next c=>
    cases h;refine⟨some (i,(bD e).val),?_,rfl⟩;rw[j,g true c];rfl
   next c=>
    obtain⟨q,k,l⟩:=uY d a (i+1) r h
    simp_all
   .cases h
  .cases h
def yS(kt:TP)(k:TR)(b:Tj):uX P kt k b=sY P kt k b:=by
 unfold uX;split
 next f=>
  simp only[oe];split
  next o a j=>
   split
   next r h=>
    obtain⟨p,g,u,i⟩:=pE 10000 kt o j;rw[a]at g;cases g;obtain⟨q,v,w⟩:=uY (P:=P) (kt:=kt) i b 0 r h;have c:∃d,P.underlying kt=some d/\∀x,Instr.sameNow d (.agg f) x=none:=by
     unfold A2 at a;split at a
     next t e=>exact⟨_,e,λx=>by simp[Instr.sameNow]⟩
     next n s e=>exact⟨_,e,λx=>by simp[Instr.sameNow]⟩
     .cases a
     .cases a
    obtain⟨d,c,m⟩:=c;unfold sY Instr.findKey;rw[aV,bp c];simp only[Ds];cases b with
    |nil=>
     cases h;rfl
    |cons e l=>
     have:Instr.findNow d (.agg f) ((e :: l).map bD) 0=none:=by
      simp only[DD];unfold Instr.findNow;rw[m]
     simp_all
   .rfl
  .rfl
 .rfl
end
section
variable [Co] [C7] {R HT:Type} {A:B_ R HT} {X:CB} {Sg:Td} {holds:R->Prop} {abs:HT->Tu}
variable {ev:Env} {g9:St} {h:HT} {o:Oper} {K:KN R HT}
def SL.nv:SL->Prop
 | .v _=>False
 |_=>True
def SL.M1{l:SL}(h:l.nv):scalar l.val=true:=by cases l<;>first|rfl|exact h.elim
def SL.nv_den{l:SL}(h:l.nv):F7 l.val=l.val:=by cases l<;>first|rfl|exact h.elim
def tI{x:S0}(h:∀l∈x.cells,l.nv):plain x.val=true/\FS x.val=x.val:=by
 cases x with
 |leaf l=>
  have a:=h l (by simp[S0.cells]);cases l<;>first|exact⟨rfl,rfl⟩|exact a.elim
 |agg b=>
  refine⟨?_,?_⟩
  .simp only[S0.val,plain,A_,CS];rintro _ ⟨l,a,rfl⟩;simp[jL,SL.M1 (h l a)]
  .simp only[S0.val,FS,Value.agg.injEq];apply v6.1;rw[qdh,Q8];refine WN λl a=>?_;exact SL.nv_den (h l a)
def sw:∀ {cs:List SL} {ks:TJ},aT cs ks=true->sx ks=true->∀l∈cs,l.nv
 | [],[],_,_,l,a=>by cases a
 |c :: cs,k :: ks,h1,b,l,a=>by
  simp only[aT,vd]at h1;simp only[sx,S4,vd]at b;rcases DB.1 a with rfl|a
  .cases l<;>first|trivial|(cases k<;>first|(simp at b;done)|(simp[SL.is]at h1;done))
  .exact sw h1.2 b.2 l a
 | [],_ :: _,h,_,_,_=>by cases h
 |_ :: _,[],h,_,_,_=>by cases h
def gL{d:BinOp}{t m:TP}{x y:TK}{a b u:TR}(c:o.op = .binOp d t x y m)(e:jw g9.tmps x=a)(f:jw g9.tmps y=b)(g:plain a=true/\FS a=a)(i:plain b=true/\FS b=b)
  (j:plain u=true/\FS u=u) (k:∀w,(eqGuard d t x y a b).run X.C.P w = .ok () w) (l:∀w,(binOp d t a b).run X.C.P w = .ok u w):nB X.C g9.tmps o u:=by
 refine⟨by rw[c];rfl,?_,j.1,λw=>?_⟩
 .rw[c];simp[Op.operands,e,f,g.1,i.1]
 .simp only[execOp,c,e,f,g.2,i.2,Sem.run_bind,k w,Result.andThen_ok,l w,Sem.run_pure,j.2]
def pI{d:BinOp}{t:TP}{x y:TK}{k c:TL}{a b:Int}{P:TI}(w:TS):(eqGuard d t x y (.int k a) (.int c b)).run P w = .ok () w:=by
 unfold eqGuard;split<;>rfl
def rh{c:BinOp}{t:TP}{x y:TK}{a b:Bool}{P:TI}(w:TS):(eqGuard c t x y (.bool a) (.bool b)).run P w = .ok () w:=by
 unfold eqGuard;split<;>rfl
def vo{c:BinOp}{t:TP}{x y:TK}{a b:ByteArray}{P:TI}(w:TS):(eqGuard c t x y (.string a) (.string b)).run P w = .ok () w:=by
 unfold eqGuard;split<;>rfl
def LN(a b:ByteArray):(a.toList==b.toList)=MA a.data.toList b.data.toList:=by
 rw[WI,yN,beq_iff_eq,ByteArray.toList_eq,ByteArray.toList_eq]
def qp{x y:TR}{t:Bool}(h:LM x y=some t):∃a b,x = .string a/\y = .string b/\t=MA a.data.toList b.data.toList:=by
 unfold LM at h
 grind
def UL{P:TI}{c:BinOp}{k:TL}{a b:Int}{t:Bool}(h:qS c a b=some t)(d:KE c=false)(ty:TP)(w:TS):(binOp c ty (.int k a) (.int k b)).run P w = .ok (.bool t) w:=by
 cases c<;>simp only[qS,reduceCtorEq,FU]at h<;>subst h<;>simp[binOp,Op.intCmp]
def aC{l:SL}(h:l.i_):(S0.leaf l).i_:=λm a=>by
 simp only[S0.cells,Fc]at a;subst a;exact h
def ZH(hA:qs A X.C Sg X.T holds abs)(q:Rp ev g9)(z:abs h=g9.heap){W:BinOp}{t yt:TP}{x y:TK}{a b:S0}(D:o.op = .binOp W t x y yt)
  (hx:Cg ev x=some a) (hy:Cg ev y=some b) (g:holds (ZG A X o.dst W t a b ev h K)):CF X holds abs o g9 K:=by
 obtain⟨j,ga⟩:=q.Cg hx;obtain⟨p,gb⟩:=q.Cg hy;unfold ZG at g;split at g
 next k n k' m=>
  simp only[S0.val,SL.val]at j p;have F:∀(k:TL) (n:Int),plain (.int k n)=true/\FS (.int k n) = .int k n:=λ_ _=>⟨rfl,rfl⟩;split at g
  .obtain⟨r,S,f⟩:=hA.FK _ _ _ _ _ _ g;exact cF q z (s:=.st (.leaf (.i k r))) (aC trivial) (gL D j p (F _ _) (F _ _) (F _ _) (λw=>pI w) (λw=>S _ _ w)) f
  next hs G V=>
   have e:=dK G;subst e;obtain⟨r,S,f⟩:=hA.cmp _ _ _ _ g;exact cF q z (s:=.st (.leaf (.b r))) (aC trivial) (gL D j p (F _ _) (F _ _) ⟨rfl,rfl⟩ (λw=>pI w) (λw=>UL S hs _ w)) f
  next hs G V=>
   have e:=dK G;subst e;obtain⟨r,S,f⟩:=hA.z_ _ _ _ _ _ g;exact cF q z (s:=.st (.leaf (.i k r))) (aC trivial) (gL D j p (F _ _) (F _ _) (F _ _) (λw=>pI w) (λw=>S _ _ w)) f
  .exact absurd g hA.fail
 next Y Z=>
  split at g
  next ks hf al an=>
   split at g
   next V=>
    simp only[vd]at V;obtain⟨⟨I,J⟩,L⟩:=V;have O:=tI (x:=.agg Y) (sw I L);have Q:=tI (x:=.agg Z) (sw J L);obtain⟨ag,g1,g2,g3⟩:=oh 10000 t ks hf;have N:∀w,(eqGuard W t x y (S0.val (.agg Y)) (S0.val (.agg Z))).run X.C.P w = .ok () w:=λw=>run_eqGuard_agg w W t x y _ _ al;have ad:ag=true:=by
     simp_all
    subst ad;have M:=g3 Y Z _ _ I J (.inl ⟨rfl,rfl⟩) (.inl ⟨rfl,rfl⟩);split at g
    .have f:=hA.eqs _ _ g;refine cF q z (s:=.st (.leaf (.b _))) (aC trivial) (gL D j p O Q ⟨rfl,rfl⟩ N λw=>?_) f;rw[S0.val,S0.val,run_eql_struct,gV M];rfl
    .have f:=hA.eqs _ _ g;refine cF q z (s:=.st (.leaf (.b _))) (aC trivial) (gL D j p O Q ⟨rfl,rfl⟩ N λw=>?_) f;rw[S0.val,S0.val,run_neq_struct,gV M];rfl
    .exact absurd g hA.fail
   .exact absurd g hA.fail
  .exact absurd g hA.fail
 next u v=>
  simp only[S0.val,SL.val]at j p;split at g
  next hu=>
   split at g
   .obtain⟨U,B,f⟩:=hA.j_ _ _ g;obtain⟨c,d,rfl,rfl,rfl⟩:=qp B;refine cF q z (s:=.st (.leaf (.b _))) (aC trivial) (gL D j p ⟨rfl,rfl⟩ ⟨rfl,rfl⟩ ⟨rfl,rfl⟩ (λw=>vo w) λw=>?_) f;simp only[binOp,Op.stringOp,LN];rfl
   .obtain⟨U,B,f⟩:=hA.j_ _ _ g;obtain⟨c,d,rfl,rfl,rfl⟩:=qp B;refine cF q z (s:=.st (.leaf (.b _))) (aC trivial) (gL D j p ⟨rfl,rfl⟩ ⟨rfl,rfl⟩ ⟨rfl,rfl⟩ (λw=>vo w) λw=>?_) f;simp only[binOp,Op.stringOp,LN];rfl
   .exact absurd g hA.fail
  .split at g
   .obtain⟨U,B,f⟩:=hA.j_ _ _ g;obtain⟨B,H⟩:=vN ‹X.C.P.underlying t=some _› B;refine aG q z (s:=.st (.leaf (.b U))) (aC trivial) ?_ f;simp only[au,D,j,p,B,H,if_true];rfl
   .obtain⟨U,B,f⟩:=hA.j_ _ _ g;obtain⟨B,H⟩:=vN ‹X.C.P.underlying t=some _› B;refine aG q z (s:=.st (.leaf (.b (!U)))) (aC trivial) ?_ f;simp only[au,D,j,p,B,H,if_true];rfl
   .exact absurd g hA.fail
  .exact absurd g hA.fail
 next u v _ _=>
  split at g
  next hb hu=>
   simp only[vd]at hb;have E:∀ {l:SL},l.is .b=true->∃c,l.val = .bool c/\l.lf = .b c:=by
    intro l hl;cases l<;>simp only[SL.is,D7]at hl<;>exact⟨_,rfl,rfl⟩
   obtain⟨c,c1,c2⟩:=E hb.1;obtain⟨d,d1,d2⟩:=E hb.2;simp only[S0.val]at j p;rw[c1]at j;rw[d1]at p;have hq:∀w,(Op.equal t (.bool c) (.bool d)).run X.C.P w = .ok (c==d) w:=λw=>run_equal_bool w t c d hu;split at g
   .have f:=hA.eqs _ _ g;rw[c2,d2]at f;refine cF q z (s:=.st (.leaf (.b _))) (aC trivial) (gL D j p ⟨rfl,rfl⟩ ⟨rfl,rfl⟩ ⟨rfl,rfl⟩ (λw=>rh w) λw=>?_) f;simp only[binOp,Sem.run_bind,hq w,Result.andThen_ok,Sem.run_pure];simp[SV.val,S0.val,SL.val,cj,ir]
   .have f:=hA.eqs _ _ g;rw[c2,d2]at f;refine cF q z (s:=.st (.leaf (.b _))) (aC trivial) (gL D j p ⟨rfl,rfl⟩ ⟨rfl,rfl⟩ ⟨rfl,rfl⟩ (λw=>rh w) λw=>?_) f;simp only[binOp,Sem.run_bind,hq w,Result.andThen_ok,Sem.run_pure];simp[SV.val,S0.val,SL.val,cj,ir]
   .exact absurd g hA.fail
  .exact absurd g hA.fail
 .exact absurd g hA.fail
def et(hA:qs A X.C Sg X.T holds abs)(d:Rp ev g9)(j:abs h=g9.heap){v:UnOp}{t:TP}{x:TK}(p:o.op = .unOp v t x)
  (g:holds (match (generalizing:=false) v,l_ ev x with
  | .not,.st (.leaf (.b t))=>m_ o.dst (.st (.leaf (.b (!t)))) ev h K
  | .not,.st (.leaf (.l t))=>m_ o.dst (.st (.leaf (.l (!t)))) ev h K
  | .neg,.st (.leaf (.i k n))=>A.z_ .sub k 0 n λn=>m_ o.dst (.st (.leaf (.i k n))) ev h K
  |_,_=>A.fail)):CF X holds abs o g9 K:=by
 have c:∀ {a u:TR},jw g9.tmps x=a->(plain a=true/\FS a=a)->(plain u=true/\FS u=u)->(∀w,(Op.unary v a).run X.C.P w = .ok u w)->nB X.C g9.tmps o u:=by
  intro a u z B D q;refine⟨by rw[p];rfl,by rw[p];simp[Op.operands,z,B.1],D.1,λw=>?_⟩;simp only[execOp,p,z,B.2,Sem.run_bind,q w,Result.andThen_ok,Sem.run_pure,D.2]
 split at g
 next y e=>
  obtain⟨f,_⟩:=d.l_ e c_;refine cF d j (s:=.st (.leaf (.b (!y)))) (aC trivial) (c f ⟨rfl,rfl⟩ ⟨rfl,rfl⟩ λw=>?_) g;simp[SV.val,S0.val,SL.val,Op.unary]
 next y e=>
  obtain⟨f,_⟩:=d.l_ e c_;refine cF d j (s:=.st (.leaf (.l (!y)))) (aC trivial) (c f ⟨rfl,rfl⟩ ⟨rfl,rfl⟩ λw=>?_) g;simp[SV.val,S0.val,SL.val,Op.unary]
 next k n e=>
  obtain⟨f,_⟩:=d.l_ e c_;obtain⟨r,q,m⟩:=hA.z_ _ _ _ _ _ g;refine cF d j (s:=.st (.leaf (.i k r))) (aC trivial) (c f ⟨rfl,rfl⟩ ⟨rfl,rfl⟩ λw=>?_) m;have:=q X.C.P t w;simp[SV.val,S0.val,SL.val,Op.unary,binOp,Op.intArith]at this ⊢;exact this
 .exact absurd g hA.fail
def UN(hA:qs A X.C Sg X.T holds abs)(g:Rp ev g9)(l:abs h=g9.heap){j f:TP}{x:TK}(d:o.op = .convert j f x)
  (b:holds (match X.C.P.underlying j,X.C.P.underlying f,l_ ev x with
  |some (.int _),some (.int k),.st (.leaf (.i _ n))=>A.conv k n λn=>m_ o.dst (.st (.leaf (.i k n))) ev h K
  |_,_,_=>A.fail)):CF X holds abs o g9 K:=by
 split at b
 next r k q n m p e=>
  obtain⟨a,_⟩:=g.l_ e c_;have c:=hA.conv _ _ _ b
  simp only[SV.val,S0.val,SL.val]at a;refine cF g l (s:=.st (.leaf (.i k _))) (aC trivial) ⟨by rw[d];rfl,by rw[d];simp[Op.operands,a];rfl,rfl,λw=>?_⟩ c;simp only[execOp,d,a];simp[FS,F7,convert,run_underlying m,run_underlying p,Conv.intToInt,SV.val,S0.val,SL.val]
 .exact absurd b hA.fail
end
namespace Sx
section
variable [Co] [C7] {R HT:Type} {A:B_ R HT} {X:CB} {Sg:Td} {holds:R->Prop} {abs:HT->Tu}
variable {ev:Env} {g9:St} {h:HT} {o:Oper} {K:KN R HT}
def pX:∀(ix:List (Int×Nat)) (a:Nat) (p:Int×Nat),C8 a (ix++[p])=C8 a ix+p.1.toNat*p.2
 | [],_,_=>rfl
 |q :: l,a,p=>pX l (a+q.1.toNat*q.2) p
def lw:∀(ix:List (Int×Nat)) (a n:Nat),C8 (a+n) ix=C8 a ix+n
 | [],_,_=>rfl
 |q :: l,a,n=>by
  simp only[C8];rw[show a+n+q.1.toNat*q.2=a+q.1.toNat*q.2+n by omega];exact lw l _ n
def xD(hA:qs A X.C Sg X.T holds abs)(b:Rp ev g9)(d:abs h=g9.heap){x:TK}(i:o.op = .nilCheck x)
  (c:holds (match l_ ev x with
  | .st (.leaf (.v p))=>A.j_ (C5 p) λq=>A.nC q (m_ o.dst (.st (.leaf (.v q))) ev h K)
  | .GD s off=>m_ o.dst (.GD s off) ev h K
  | .ID s off=>m_ o.dst (.ID s off) ev h K
  |_=>A.fail)):CF X holds abs o g9 K:=by
 split at c
 next p e=>
  obtain⟨a,_⟩:=b.l_ e c_;simp only[SV.val,S0.val,SL.val]at a;obtain⟨q,j,f⟩:=hA.j_ _ _ c;obtain⟨k,g⟩:=hA.nC _ _ f;refine aG b d (s:=.st (.leaf (.v q))) (aC k) ?_ g;simp only[au,i,a];unfold C5 at j;split at j<;>cases j<;>rfl
 next s off e=>
  obtain⟨a,_⟩:=b.l_ e c_;exact aG b d (s:=.GD s off) trivial (by simp only[au,i,a,SV.val]) c
 next s off e=>
  obtain⟨a,_⟩:=b.l_ e c_;exact aG b d (s:=.ID s off) trivial (by simp only[au,i,a,SV.val]) c
 .exact absurd c hA.fail
def uV(hA:qs A X.C Sg X.T holds abs)(l:Rp ev g9)(n:abs h=g9.heap){t:TP}{x:TK}{f:Nat}(E:o.op = .fieldAddr t x f)
  (i:holds (lZ A X o.dst t x f ev h K)):CF X holds abs o g9 K:=by
 unfold lZ at i;split at i
 next H F=>
  split at i
  next m B=>
   have c:∀ {b d:Nat} {z:Ts},Nat.beq (X.C.P.cellsOf m.type) 0=false->jw g9.tmps x = .pointer (some ⟨b,d,z⟩)->
     au X.C X.b_ (jw g9.tmps) o=some (.val (.pointer (some ⟨b,d+m.offset,z⟩))):=by
    intro b d z g G;have g:¬X.C.P.cellsOf m.type=0:=λe=>by rw[e]at g;cases g
    simp only[au,E,G,gq,F,B,te g,EO]
   split at i
   next s d g e=>
    obtain⟨k,_⟩:=l.l_ e c_;exact aG l n (s:=.GD s (d+m.offset)) trivial (c g k) i
   next s d g e=>
    obtain⟨k,_⟩:=l.l_ e c_;exact aG l n (s:=.ID s (d+m.offset)) trivial (c g k) i
   next s j y g e=>
    obtain⟨k,_⟩:=l.l_ e c_;refine aG l n (s:=.IF s (j+m.offset) y) trivial ?_ i;rw[c g k,SV.val,lw]
   next s j y g e=>
    obtain⟨k,_⟩:=l.l_ e c_;refine aG l n (s:=.Kv s (j+m.offset) y) trivial ?_ i;rw[c g k,SV.val,lw]
   next p g e=>
    obtain⟨k,_⟩:=l.l_ e c_;simp only[SV.val,S0.val,SL.val]at k;obtain⟨q,r,u⟩:=hA.j_ _ _ i;obtain⟨D,w⟩:=hA.nC _ _ u;refine aG l n (s:=.st (.leaf (.v q))) (aC D) ?_ w;unfold Dm at r;split at r
    next a=>
     cases r;exact c g k
    .cases r
   .exact absurd i hA.fail
  .exact absurd i hA.fail
 .exact absurd i hA.fail
def kN{i:TK}{n:Nat}(h:IX i=some n):intOf (jw g9.tmps i)=some (n:Int):=by
 unfold IX at h;split at h
 .cases h;simp[jw,flat,gl,scalar,Am.intOf]
 .cases h
def vt{len:Nat}{j:Int}{u:Unit}(h:E0 len j=some u):0<=j/\j<(len:Int):=by
 rw[PI]at h
 simp_all
def B6{r_:Nat}{x q:TR}{i:Int}(h:BL r_ x i=some q) :
  ∃a len cx,x = .slice (some a) len cx/\(0<=i/\i<(len:Int))/\q = .pointer (some ⟨a.block,a.off+i.toNat*r_,if a.spot=some 1 then some 1 else none⟩):=by
 rw[rj]at h
 grind
def vu(hA:qs A X.C Sg X.T holds abs)(w:Rp ev g9)(G:abs h=g9.heap){t:TP}{x i:TK}(W:o.op = .indexAddr t x i)
  (d:holds (md A X o.dst t x i ev h K)):CF X holds abs o g9 K:=by
 unfold md at d;split at d
 next E e S=>
  have c:∀ {b r:Nat} {U:Ts} {j:Int},Nat.beq (X.C.P.cellsOf e) 0=false->jw g9.tmps x = .pointer (some ⟨b,r,U⟩)->intOf (jw g9.tmps i)=some j->0<=j->j<(E:Int)->
    au X.C X.b_ (jw g9.tmps) o=some (.val (.pointer (some ⟨b,r+j.toNat*X.C.P.cellsOf e,U⟩))):=by
   intro b r U j f hx hi Y g;have f:¬X.C.P.cellsOf e=0:=λe=>by rw[e]at f;cases f
   simp only[au,W,hx,fm,hi,S,te f,rv (And.intro Y g),EO]
  have z:∀ {k:TL} {j:Int},l_ ev i = .st (.leaf (.i k j))->intOf (jw g9.tmps i)=some j:=by
   intro k j Q;obtain⟨g,_⟩:=w.l_ Q c_;rw[g];rfl
  simp only at d;split at d
  next s r n f y L=>
   obtain⟨g,_⟩:=w.l_ y c_;split at d
   next B=>
    have B:n<E:=kb;refine aG w G (s:=.GD s (r+n*X.C.P.cellsOf e)) trivial ?_ d;rw[c f g (kN L) a_ a_];simp[SV.val]
   .exact absurd d hA.fail
  next s r n f y L=>
   obtain⟨g,_⟩:=w.l_ y c_;split at d
   next B=>
    have B:n<E:=kb;refine aG w G (s:=.ID s (r+n*X.C.P.cellsOf e)) trivial ?_ d;rw[c f g (kN L) a_ a_];simp[SV.val]
   .exact absurd d hA.fail
  next s l M n f y L=>
   obtain⟨g,_⟩:=w.l_ y c_;split at d
   next B=>
    have B:n<E:=kb;refine aG w G (s:=.IF s (l+n*X.C.P.cellsOf e) M) trivial ?_ d;rw[c f g (kN L) a_ a_];simp[SV.val,lw]
   .exact absurd d hA.fail
  next s l M n f y L=>
   obtain⟨g,_⟩:=w.l_ y c_;split at d
   next B=>
    have B:n<E:=kb;refine aG w G (s:=.Kv s (l+n*X.C.P.cellsOf e) M) trivial ?_ d;rw[c f g (kN L) a_ a_];simp[SV.val,lw]
   .exact absurd d hA.fail
  next s r k j f y F _=>
   obtain⟨g,_⟩:=w.l_ y c_;obtain⟨u,D,m⟩:=hA.j_ _ _ d;obtain⟨I,J⟩:=vt D;exact aG w G (s:=.IF s r [(j,X.C.P.cellsOf e)]) trivial (by rw[c f g (z F) I J];rfl) m
  next s r k j f y F _=>
   obtain⟨g,_⟩:=w.l_ y c_;obtain⟨u,D,m⟩:=hA.j_ _ _ d;obtain⟨I,J⟩:=vt D;exact aG w G (s:=.Kv s r [(j,X.C.P.cellsOf e)]) trivial (by rw[c f g (z F) I J];rfl) m
  next s l M k j f y F _=>
   obtain⟨g,_⟩:=w.l_ y c_;obtain⟨u,D,m⟩:=hA.j_ _ _ d;obtain⟨I,J⟩:=vt D;exact aG w G (s:=.IF s l (M++[(j,X.C.P.cellsOf e)])) trivial (by rw[c f g (z F) I J,SV.val,pX]) m
  next s l M k j f y F _=>
   obtain⟨g,_⟩:=w.l_ y c_;obtain⟨u,D,m⟩:=hA.j_ _ _ d;obtain⟨I,J⟩:=vt D;exact aG w G (s:=.Kv s l (M++[(j,X.C.P.cellsOf e)])) trivial (by rw[c f g (z F) I J,SV.val,pX]) m
  next p k j f y F=>
   obtain⟨g,_⟩:=w.l_ y c_;simp only[SV.val,S0.val,SL.val]at g;obtain⟨q,H,m⟩:=hA.j_ _ _ d;obtain⟨Z,O⟩:=hA.nC _ _ m;unfold Py at H;split at H
   next a=>
    split at H
    next N=>
     cases H;exact aG w G (s:=.st (.leaf (.v _))) (aC Z) (c f g (z F) N.1 N.2) O
    .cases H
   .cases H
  .exact absurd d hA.fail
 next e S=>
  simp only at d;split at d
  next p k j f y F=>
   obtain⟨g,_⟩:=w.l_ y c_;obtain⟨V,_⟩:=w.l_ F c_;simp only[SV.val,S0.val,SL.val]at g V;obtain⟨q,H,m⟩:=hA.j_ _ _ d;have f:¬X.C.P.cellsOf e=0:=λe=>by rw[e]at f;cases f
   obtain⟨a,E,cx,rfl,N,rfl⟩:=B6 H;refine aG w G (s:=.st (.leaf (.v _))) (aC ?_) ?_ m
   .show aF _=true;by_cases Q:a.spot=some 1<;>simp[Q,aF,n_,aS,bB,bi,aO,aH]
   .simp only[au,W,g,V,fm,Am.intOf,S,te f,rv N,EO];rfl
  .exact absurd d hA.fail
 .exact absurd d hA.fail
def zO{C:m'}{t:TP}{i:Bool}{cs ds:List SL}{off:Nat}{x:S0}(a:A2 C.P t=some i)(b:DU cs off (if i then C.P.cellsOf t else 1)=some ds)(l:GH i ds=some x) :
  xN C t ⟨cs.map SL.val⟩ off=some x.val/\x.cells=ds:=by
 obtain⟨k,c⟩:=pS l;refine⟨?_,k⟩;unfold DU at b;unfold A2 at a;unfold xN;split at a
 next p e=>
  cases a;simp only[if_true]at b;split at b
  next g=>
   cases b;rcases c with⟨_,c⟩|⟨f,_⟩
   .simp_all
   .cases f
  .cases b
 next n m e=>
  cases a;simp only[if_true]at b;split at b
  next g=>
   cases b;rcases c with⟨_,c⟩|⟨f,_⟩
   .simp_all
   .cases f
  .cases b
 next d q r e=>
  cases a;simp only[D7,if_false]at b;split at b
  next g=>
   cases b;rcases c with⟨f,_⟩|⟨_,c⟩
   .cases f
   .rw[e];have j:off<cs.length:=a_;rw[SZ j]at c
    grind
  .cases b
 .cases a
def Pf(hA:qs A X.C Sg X.T holds abs)(j:Rp ev g9)(u:abs h=g9.heap){t:TP}{x:TK}{f:Nat}(w:o.op = .field t x f)
  (a:holds (match X.C.P.underlying t,l_ ev x with
  |some (.struct i),.st (.agg cs)=>match i[f]? with
   |some c=>match (A2 X.C.P c.type).bind (λd=>(DU cs c.offset (if d then X.C.P.cellsOf c.type else 1)).bind (GH d))with
    |some x=>m_ o.dst (.st x) ev h K
    |none=>A.fail
   |none=>A.fail
  |_,_=>A.fail)):CF X holds abs o g9 K:=by
 split at a
 next i cs y e=>
  obtain⟨p,n⟩:=j.l_ e c_;split at a
  next c v=>
   split at a
   next z b=>
    obtain⟨d,g,b⟩:=EE.1 b;obtain⟨B,k,b⟩:=EE.1 b;obtain⟨q,r⟩:=zO g k b;refine aG j u (s:=.st z) (λl m=>?_) ?_ a
    .rw[r]at m;exact n l ((oY k).2 l m)
    .simp only[au,w,p,SV.val,S0.val,uU,y,v,Ds,q,EO]
   .exact absurd a hA.fail
  .exact absurd a hA.fail
 .exact absurd a hA.fail
def AR(hA:qs A X.C Sg X.T holds abs)(b:Rp ev g9)(f:abs h=g9.heap){t:TK}{i:Nat}(g:o.op = .extract t i)
  (a:holds (match l_ ev t with
  | .JK xs=>match xs[i]? with
   |some x=>m_ o.dst (.st x) ev h K
   |none=>A.fail
  |_=>A.fail)):CF X holds abs o g9 K:=by
 split at a
 next xs e=>
  obtain⟨d,c,k⟩:=b.l_ e c_;split at a
  next x j=>
   refine aG b f (s:=.st x) (c x (Cf j)) ?_ a;simp only[au,g,d,SV.val]
   grind
  .exact absurd a hA.fail
 .exact absurd a hA.fail
def xn(hA:qs A X.C Sg X.T holds abs)(c:Rp ev g9)(k:abs h=g9.heap){f:Fn}{first cap:Array Operand}(m:o.op = .makeFunc f first cap)
  (d:holds (match (generalizing:=false) f,CO ev first.toList,CO ev cap.toList with
  | .func g,some a,some b=>A.nC (.func (.func g) ⟨aj a⟩ ⟨aj b⟩) (m_ o.dst (.st (.leaf (.v (.func (.func g) ⟨aj a⟩ ⟨aj b⟩)))) ev h K)
  |_,_,_=>A.fail)):CF X holds abs o g9 K:=by
 split at d
 next g a b _ i j=>
  obtain⟨n,_⟩:=c.CO i;obtain⟨p,_⟩:=c.CO j;obtain⟨l,e⟩:=hA.nC _ _ d;refine aG c k (s:=.st (.leaf (.v _))) (aC l) ?_ e;simp only[au,m,SV.val,S0.val,SL.val,FU,DS.val.injEq,Value.func.injEq,true_and]
  grind
 .exact absurd d hA.fail
def mq(b:Rp ev g9){r:Th}{x:Tt}(h:E3 ev r=some x):(r=none/\x=none)∨∃y k n,r=some y/\jw g9.tmps y = .int k n/\x=some n:=by
 unfold E3 at h;split at h
 .simp_all
 next y=>
  split at h
  next k n e=>
   cases h;obtain⟨a,_⟩:=b.l_ e c_;exact .inr ⟨y,k,n,rfl,a,rfl⟩
  .cases h
def dV(b:Rp ev g9){r:Th}{x:Tt}(h:E3 ev r=some x):iz (r.map (jw g9.tmps))=some x:=by
 rcases mq b h with⟨rfl,rfl⟩|⟨y,k,n,rfl,a,rfl⟩
 .rfl
 .simp[a,iz]
def mh(hA:qs A X.C Sg X.T holds abs)(d:Rp ev g9)(j:abs h=g9.heap){t:TP}{r:Th}(l:o.op = .makeMap t r)
  (b:holds (match pJ X.C t (r.map λ_=>.int .i64 0),E3 ev r with
  |true,some _=>A.new (.map [] 0) h λn h=>m_ o.dst (.st (.leaf (.v (.map (some n))))) ev h K
  |_,_=>A.fail)):CF X holds abs o g9 K:=by
 split at b
 next x g e=>
  obtain⟨m,c,a⟩:=hA.new _ _ _ b;rw[j]at c a;refine di d c (s:=.st (.leaf (.v (.map (some g9.heap.length))))) (aC rfl) (f:=λH=>some (H++[.map [] 0],.map (some H.length))) ?_ rfl a;have:pJ X.C t (r.map (jw g9.tmps))=true:=by
   rcases mq d e with⟨rfl,rfl⟩|⟨y,k,n,rfl,i,rfl⟩
   .rfl
   .simp only[EO,pJ,i]at g ⊢;exact g
  simp only[au,l,this,if_true]
 .exact absurd b hA.fail
def cV(n r_ a b:Nat):aF (.slice (some ⟨n,0,le r_⟩) a b)=true:=by
 simp[aF,n_,aS,bB,bi,aO,aH,le]
def vG(hA:qs A X.C Sg X.T holds abs)(j:Rp ev g9)(I:abs h=g9.heap){t:TP}{l c:TK}(L:o.op = .makeSlice t l c)
  (b:holds (match X.C.P.underlying t,l_ ev l,l_ ev c with
  |some (.slice e),.st (.leaf (.i _ l)),.st (.leaf (.i _ c))=>match X.C.P.info? e with
   |some a=>match Nat.beq a.size 0||Nat.blt 4096 a.bytes,(lR a).bind Hm with
    |false,some z=>A.j_ (DX l c) λ_=>
      A.new (.cells (aL (z.cells.map SL.val) c.toNat) a.size true) h λn h=>m_ o.dst (.st (.leaf (.v (.slice (some ⟨n,0,le a.size⟩) l.toNat (c.toNat+1))))) ev h K
    |_,_=>A.fail
   |none=>A.fail
  |_,_,_=>A.fail)):CF X holds abs o g9 K:=by
 split at b
 next e N Q O D M E F=>
  obtain⟨G,_⟩:=j.l_ E c_;obtain⟨H,_⟩:=j.l_ F c_;split at b
  next a J=>
   split at b
   next z y r=>
    obtain⟨W,w,x⟩:=EE.1 r;obtain⟨S,U,_⟩:=tW x;obtain⟨u,p,m⟩:=hA.j_ _ _ b;obtain⟨V,B,g⟩:=hA.new _ _ _ m;rw[I]at B g;unfold DX at p;split at p
    next d=>
     simp only[ng]at y;have q:¬a.size=0:=λe=>kb;have k:a.bytes<=4096:=by
      have:=y.2;rw[←Gj,Gp]at this;omega
     refine di j B (s:=.st (.leaf (.v _))) (aC (cV _ _ _ _)) (f:=dz X.C t (.int N Q) (.int O D)) ?_ ?_ g
     .simp only[au,L,G,H];rfl
     .simp only[dz,Am.intOf,M,J,te q,w];rw[rv ⟨d.1,d.2.1,d.2.2,k⟩,←S,S0.Dg U];rfl
    .cases p
   .exact absurd b hA.fail
  .exact absurd b hA.fail
 .exact absurd b hA.fail
def sC(hA:qs A X.C Sg X.T holds abs)(E:Rp ev g9)(O:abs h=g9.heap){t:TP}{n:Nat}{u:Array (Nat×Operand)}(U:o.op = .buildSlice t n u)
  (b:holds (match X.C.P.underlying t,CO ev (u.toList.map (·.2))with
  |some (.slice e),some xs=>match X.C.P.info? e with
   |some a=>match Nat.beq a.size 0||Nat.blt 16777216 (n*a.size),(lR a).bind Hm with
    |false,some z=>match sW (λi=>some (i*a.size,a.size)) (replicate n z.cells).flatten ((u.toList.map (·.1)).zip xs)with
     |some cs=>A.new (.cells (cs.map SL.val) a.size true) h λm h=>m_ o.dst (.st (.leaf (.v (.slice (some ⟨m,0,le a.size⟩) n (n+1))))) ev h K
     |none=>A.fail
    |_,_=>A.fail
   |none=>A.fail
  |_,_=>A.fail)):CF X holds abs o g9 K:=by
 split at b
 next e xs V N=>
  split at b
  next a S=>
   split at b
   next z J y=>
    obtain⟨zv,B,D⟩:=EE.1 y;obtain⟨z1,M,_⟩:=tW D;split at b
    next cs Q=>
     obtain⟨h',L,r⟩:=hA.new _ _ _ b;rw[O]at L r;obtain⟨W,F⟩:=E.CO N;have Z:∀c∈(replicate n z.cells).flatten,c.i_:=by
      intro c w;obtain⟨l,G,w⟩:=List.mem_flatten.1 w;rw[List.mem_replicate]at G;rw[G.2]at w;exact M c w
     have g:=sX _ _ _ _ (ut (is:=u.toList.map (·.1)) F) Q;simp only[ng]at J;obtain⟨k,d⟩:=J;have k:¬a.size=0:=λe=>kb;have d:¬n*a.size > 16777216:=by rw[←Gj,Gp]at d;omega
     refine di E L (s:=.st (.leaf (.v _))) (aC (cV _ _ _ _))
      (f:=λH=>some (H++[.cells (cs.map SL.val) a.size true],.slice (some ⟨H.length,0,le a.size⟩) n (n+1))) ?_ rfl r
     have q:(u.toList.all λp=>(jw g9.tmps p.2).cells.toList.all bh)=true:=by
      rw[A_];intro p hp;have I:jw g9.tmps p.2∈aj xs:=by
       grind
      simp only[aj,CS]at I;obtain⟨x,Y,e⟩:=I;rw[←e];exact S0.F5 (F x Y)
     have j:(aL zv.cells.toList n).toArray=⟨((replicate n z.cells).flatten).map SL.val⟩:=by
      rw[←z1,S0.Dg M];simp[aL,List.map_flatten]
     simp only[au,U,q,if_true,fz,V,S];rw[te k,te d];simp only[B];rw[sj W,j,g];rfl
    .exact absurd b hA.fail
   .exact absurd b hA.fail
  .exact absurd b hA.fail
 .exact absurd b hA.fail
end
end Sx
namespace Sx
section
variable [Co] [C7] {R HT:Type} {A:B_ R HT} {X:CB} {Sg:Td} {holds:R->Prop} {abs:HT->Tu}
variable {ev:Env} {g9:St} {h:HT} {o:Oper} {K:KN R HT}
def OV{cs ds:List SL}{off n:Nat}(h:DU cs off n=some ds):ds.length=n:=by
 unfold DU at h
 grind
def z5{a:Bool}{ds:List SL}{n:Nat}(b:ds.length=(if a then n else 1)):∃x,GH a ds=some x:=by
 cases a with
 |true=>exact⟨_,rfl⟩
 |false=>
  simp only[D7,if_false]at b
  match ds,b with
  | [d],_=>exact⟨_,rfl⟩
def PJ(hA:qs A X.C Sg X.T holds abs)(m:Rp ev g9)(S:abs h=g9.heap){t:TP}{x i:TK}{w:TN}(V:o.op = .index t x i)
  (a:holds (match X.C.P.underlying t,l_ ev x,l_ ev i with
  |some (.array len e),.st (.agg cs),.st (.leaf (.i _ j))=>match A2 X.C.P e with
   |some n=>match O8 n (ky (nN w))&&ux cs (Hq (nN w)) 0 [(j,X.C.P.cellsOf e)]&&Nat.beq (if n then X.C.P.cellsOf e else 1) (Hq (nN w)).length with
    |false=>A.fail
    |true=>A.j_ (E0 len j) λ_=>A.j_ (ko (cs.map SL.lf) 0 [(j,X.C.P.cellsOf e)] (if n then X.C.P.cellsOf e else 1)) λls=>Ip A o.dst (nN w) ls ev h K
   |none=>A.fail
  |some .string,.st (.leaf (.v (.string s))),.st (.leaf (.i _ j))=>A.j_ (Is s j) λb=>m_ o.dst (.st (.leaf (.i .u8 b))) ev h K
  |_,_,_=>A.fail)):CF X holds abs o g9 K:=by
 split at a
 next len e cs k j M E F=>
  obtain⟨d,Q⟩:=m.l_ E c_;obtain⟨f,_⟩:=m.l_ F c_;split at a
  next n G=>
   split at a
   .exact absurd a hA.fail
   next r=>
    simp only[vd]at r;obtain⟨⟨B,c2⟩,D⟩:=r;have B:=O9 B;have D:=Dx D;obtain⟨u,H,g⟩:=hA.j_ _ _ a;obtain⟨b1,b2⟩:=vt H;obtain⟨ls,hp,J⟩:=hA.j_ _ _ g;obtain⟨ds,p,rfl⟩:=zT hp;have q:ds.length=(if n then X.C.P.cellsOf e else 1):=OV p;obtain⟨y,W⟩:=z5 q;obtain⟨Z,p2⟩:=zO G p W;obtain⟨m1,Y⟩:=pS W;rw[D]at p;rw[B]at Y;obtain⟨z,N,O,L⟩:=Lx hA (nO c2 p) (λc r=>Q c ((oY p).2 c r)) Y J;refine aG m S (s:=.st z) O ?_ L;have I:nj X.C t (.agg ⟨cs.map SL.val⟩) (.int k j)=some y.val:=by
     have:C8 0 [(j,X.C.P.cellsOf e)]=j.toNat*X.C.P.cellsOf e:=by simp[C8]
     rw[this]at Z;simp only[nj,Am.intOf,M,rv (And.intro b1 b2)];exact Z
    have d:jw g9.tmps x = .agg ⟨cs.map SL.val⟩:=d;have f:jw g9.tmps i = .int k j:=f;simp only[au,V,d,f,I,EO];rw[←N];rfl
  .exact absurd a hA.fail
 next s k j M E F=>
  obtain⟨d,Q⟩:=m.l_ E c_;obtain⟨f,_⟩:=m.l_ F c_;obtain⟨b,H,g⟩:=hA.j_ _ _ a;obtain⟨q1,q2⟩:=RV H;have d:jw g9.tmps x = .string s:=d;have f:jw g9.tmps i = .int k j:=f;refine aG m S (s:=.st (.leaf (.i .u8 b))) (λl U=>?_) ?_ g
  .simp only[S0.cells,Fc]at U;subst U;trivial
  .have I:nj X.C t (.string s) (.int k j)=some (.int .u8 b):=by
    simp only[nj,Am.intOf,M,rv q1];exact q2
   simp only[au,V,d,f,I,EO];rfl
 .exact absurd a hA.fail
def wA{P:TI}{d b e:Tk}(h1:∀v,d=some v->∃k,v = .int k 0)(f:∀v,b=some v->∃k,v = .int k 0)(g:∀v,e=some v->∃k,v = .int k 0)(i:e=none∨b.isSome=true)(w:TS) :
  (Instr.sliceBounds true 0 0 d b e).run P w = .ok (0,0,0) w:=by
 have a:∀(k:TL) (c:BoundsCode),(Instr.sliceBound (.int k 0) 0 c).run P w = .ok 0 w:=λk c=>by
  simp[Instr.sliceBound,asIntOf]
 unfold Instr.sliceBounds;cases e with
 |none=>
  cases b with
  |none=>
   cases d with
   |none=>simp
   |some l=>obtain⟨k,rfl⟩:=h1 _ rfl;simp[a]
  |some u=>
   obtain⟨k,rfl⟩:=f _ rfl;cases d with
   |none=>simp[a]
   |some l=>obtain⟨k,rfl⟩:=h1 _ rfl;simp[a]
 |some m=>
  obtain⟨k,rfl⟩:=g _ rfl;cases b with
  |none=>simp_all
  |some u=>
   obtain⟨k,rfl⟩:=f _ rfl;cases d with
   |none=>simp[a]
   |some l=>obtain⟨k,rfl⟩:=h1 _ rfl;simp[a]
def Nr(hA:qs A X.C Sg X.T holds abs)(f:Rp ev g9)(O:abs h=g9.heap){t:TP}{x:TK}{H j D:Th}(E:o.op = .slice t x H j D)
  (p:holds (match X.C.P.underlying t,l_ ev x,E3 ev H,E3 ev j,E3 ev D with
  |some (.slice e),.st (.leaf (.v x)),some H,some j,some D=>match Nat.beq (X.C.P.cellsOf e) 0 with
   |true=>A.fail
   |false=>A.j_ (Ex (X.C.P.cellsOf e) x H j D) λq=>A.nC q (m_ o.dst (.st (.leaf (.v q))) ev h K)
  |_,_,_,_,_=>A.fail)):CF X holds abs o g9 K:=by
 split at p
 next e v al ad an Q Z I e3 e4=>
  obtain⟨g,_⟩:=f.l_ Z c_;simp only[SV.val,S0.val,SL.val]at g;split at p
  .exact absurd p hA.fail
  next B=>
   have B:¬X.C.P.cellsOf e=0:=λe=>by rw[e]at B;cases B
   obtain⟨q,d,L⟩:=hA.j_ _ _ p;obtain⟨hg,u⟩:=hA.nC _ _ L;have V:=dV f I;have W:=dV f e3;have Y:=dV f e4;unfold Ex at d;split at d
   next a ag cx=>
    split at d
    .cases d
    next M=>
     split at d
     next l=>
      cases d;refine aG f O (s:=.st (.leaf (.v _))) (aC hg) ?_ u;simp only[au,E,g,Ak,V,W,Y,Q,te B,te M,rv l,pZ];rfl
     .cases d
   .split at d
    next l=>
     cases d;have c:∀ {r:Th} {x:Tt},E3 ev r=some x->x.getD 0=0->∀v,r.map (jw g9.tmps)=some v->∃k,v = .int k 0:=by
      intro r x G h0 v hv;rcases mq f G with⟨rfl,rfl⟩|⟨y,k,n,rfl,g,rfl⟩
      .cases hv
      grind
     have F:∀ {r:Th} {x:Tt},E3 ev r=some x->∀y,r=some y->plain (jw g9.tmps y)=true/\FS (jw g9.tmps y)=jw g9.tmps y:=by
      intro r x G y S;rcases mq f G with⟨rfl,rfl⟩|⟨U,k,n,rfl,g,rfl⟩
      .cases S
      .cases S;rw[g];exact⟨rfl,rfl⟩
     have b:∀ {r:Th} {x:Tt},E3 ev r=some x->r.map (λy=>FS (jw g9.tmps y))=r.map (jw g9.tmps):=by
      intro r x G;cases r with
      |none=>rfl
      |some y=>grind
     refine cF f O (s:=.st (.leaf (.v (.slice none 0 0)))) (aC rfl) ⟨by rw[E];rfl,?_,rfl,λw=>?_⟩ u
     .rw[E];simp only[Op.operands,Y0,qdl,vd];refine⟨⟨⟨by simp[g];rfl,?_⟩,?_⟩,?_⟩
      .grind
      .grind
      grind
     .have z:D.map (jw g9.tmps)=none∨(j.map (jw g9.tmps)).isSome=true:=by
       rcases l.2.2.2 with z|z
       .left;rcases mq f e4 with⟨rfl,rfl⟩|⟨U,k,n,rfl,g,rfl⟩
        .rfl
        .cases z
       .right;rcases mq f e3 with⟨rfl,rfl⟩|⟨U,k,n,rfl,g,rfl⟩
        .cases z
        .rfl
      have J:=wA (P:=X.C.P) (c I l.1) (c e3 l.2.1) (c e4 l.2.2.1) z w;have N:∃i,X.C.P.info? e=some i:=by
       unfold Program.cellsOf at B;cases j:X.C.P.info? e with
       |none=>simp_all
       |some i=>exact⟨i,rfl⟩
      obtain⟨i,j⟩:=N;have m:FS (.slice none 0 0) = .slice none 0 0:=rfl;simp only[execOp,E,g,b I,b e3,b e4,m,Instr.sliceAt,Instr.slice,Sem.run_bind,run_underlying Q,Result.andThen_ok,J,bJ j,Sem.run_pure];simp only[SV.val,S0.val,SL.val,m];simp
    .cases d
   .cases d
 .exact absurd p hA.fail
def oT{a:Bool}{v:TR}{cs:Tn}(h:gp a v=some cs):VZ a cs v:=by
 unfold gp at h;split at h
 .cases h;exact .inl ⟨rfl,rfl⟩
 .cases h
 .cases h
 .cases h;exact .inr ⟨rfl,rfl⟩
def KT(H:Tu)(id:Nat):Hd (λi=>H[i]?) id=Dy H id:=rfl
def Qd{C:m'}{t kt l:TP}{j ok:Bool}{z m k:TR}{H:Tu}{cs:Tn}(q:C.P.underlying t=some (.map kt l))(r:eU C.P l=some z)
  (a:Fb C kt j z m k ok (λi=>H[i]?)=some cs):∃v b d,gp j v=some d/\cs=d++(if ok then [.bool b]else [])/\dL C t m k ok H=some (if ok then .tuple #[v,.bool b]else v):=by
 unfold Fb at a;simp only[yS]at a;unfold dL;rw[q];simp only;split at a
 .cases a
 next e=>
  have e:¬(!jC C.P kt k)=true:=by
   have:=KI (P:=C.P) (kt:=kt) (k:=k) (by simpa using e);simpa using this
  rw[te e];simp only[r];split at a
  .obtain⟨d,f,n⟩:=DC.1 a
   grind
  next id=>
   rw[KT]at a;split at a
   .cases a
   next s c p=>
    simp only[p];split at a
    .cases a
    next g=>
     rw[g];obtain⟨d,f,n⟩:=DC.1 a
     grind
    next i g=>
     rw[g];simp only;obtain⟨d,f,n⟩:=DC.1 a;obtain⟨v,u,w⟩:=EE.1 f
     grind
  .cases a
def Be{C:m'}{b_:TC}{a:Tg}{t:TP}{m k:TK}{ok:Bool}(d:o.op = .lookup t m k ok)(H:Tu){v:TR}(b:dL C t (a m) (a k) ok H=some v) :
  au C b_ a o=some (.val v)∨∃f,au C b_ a o=some (.EZ f)/\f H=some v:=by
 simp only[au,d];split
 next c=>
  left;rw[c]at b;have:dL C t (.map none) (a k) ok []=dL C t (.map none) (a k) ok H:=rfl;rw[this,b];rfl
 simp_all
def uL(b:Rp ev g9)(c:abs h=g9.heap){s:SV}(e:s.gd){t:TP}{m k:TK}{ok:Bool}(i:o.op = .lookup t m k ok)
  (j:dL X.C t (jw g9.tmps m) (jw g9.tmps k) ok g9.heap=some s.val) (d:holds (m_ o.dst s ev h K)):CF X holds abs o g9 K:=by
 rcases Be (b_:=X.b_) i g9.heap j with a|⟨f,a,g⟩
 .exact aG b c e a d
 .exact kP b c e a g d
def VN(hA:qs A X.C Sg X.T holds abs)(p:Rp ev g9)(q:abs h=g9.heap){t:TP}{m k:TK}{ok:Bool}{U:TN}(J:o.op = .lookup t m k ok)
  (a:holds (match X.C.P.underlying t,l_ ev m,Cg ev k with
  |some (.map kt H),.st (.leaf (.v m)),some k=>match eU X.C.P H with
   |some z=>match (generalizing:=false) U,ok with
    | [g],false=>A.my (.fn (Fb X.C kt (ky g) z m k.val false)) h λcs=>JL A g cs λx r=>A.v9 r (m_ o.dst (.st x) ev h K)
    | [g,.leaf .b],true=>A.my (.fn (Fb X.C kt (ky g) z m k.val true)) h λcs=>JL A g cs λx r=>A.D1 r λt r=>A.v9 r (m_ o.dst (.JK [x,.leaf (.b t)]) ev h K)
    |_,_=>A.fail
   |none=>A.fail
  |_,_,_=>A.fail)):CF X holds abs o g9 K:=by
 split at a
 next kt H Z kv L Q S=>
  obtain⟨w,_⟩:=p.l_ Q c_;obtain⟨I,_⟩:=p.Cg S;simp only[SV.val,S0.val,SL.val]at w;split at a
  next z N=>
   split at a
   next g=>
    obtain⟨cs,f,c⟩:=hA.my _ _ _ a;simp only[Pk.run]at f;rw[q]at f;obtain⟨v,b,u,E,j,l⟩:=Qd L N f;obtain⟨x,r,n,F,G,d⟩:=sf hA c;obtain⟨D,e⟩:=hA.v9 _ _ d;rw[D,GU]at n;simp only[D7,if_false,GU]at j l;have i:=oT E;rw[←j,n]at i;refine uL p q (s:=.st x) G J ?_ e;rw[w,I,l,←rB F i];rfl
   next g=>
    obtain⟨cs,f,c⟩:=hA.my _ _ _ a;simp only[Pk.run]at f;rw[q]at f;obtain⟨v,b,u,E,j,l⟩:=Qd L N f;obtain⟨x,r,n,F,G,d⟩:=sf hA c;obtain⟨W,r',V,e⟩:=hA.D1 _ _ d;obtain⟨D,B⟩:=hA.v9 _ _ e;simp only[if_true]at j l;rw[V,D,j]at n;obtain⟨Y,O⟩:=List.append_inj' n rfl;simp only[Hz,Value.bool.injEq,and_true]at O;have i:=oT E;rw[Y]at i;refine uL p q (s:=.JK [x,.leaf (.b W)]) ⟨λy M=>?_,A9 2⟩ J ?_ B
    .simp only[DB,Ng,or_false]at M;rcases M with rfl|rfl
     .exact G
     .exact aC trivial
    .rw[w,I,l,←rB F i,O];rfl
   .exact absurd a hA.fail
  .exact absurd a hA.fail
 .exact absurd a hA.fail
def z8{C:m'}{t kt j:TP}{m k v:TR}{H:Tu}{n:Nat}{b:List Cw}{cs:Tn}(q:C.P.underlying t=some (.map kt j))(f:n_ v=true)(g:aH v=false)
  (a:FO C kt m k v (λi=>H[i]?) n=some (b,cs)):cI C t m k v H=some (ii H b,undef):=by
 unfold FO at a;simp only[yS]at a;unfold cI;split at a
 next id=>
  rw[q];simp only;split at a
  .cases a
  next d=>
   have d:jC C.P kt k=true:=KI (by simpa using d);rw[te (by simp[d,f,g])];rw[KT]at a;split at a
   .cases a
   next r c p=>
    simp only[p];split at a
    .cases a
    next e=>
     rw[e];cases a;rfl
    next i e=>
     rw[e];simp only;split at a
     next l=>
      rw[rv l];cases a;rfl
     .cases a
 .cases a
def zn(hA:qs A X.C Sg X.T holds abs)(a:Rp ev g9)(r:abs h=g9.heap){t:TP}{m k v:TK}(ho:o.op = .mapUpdate t m k v∨o.op = .insert t m k v)
  (b:holds (match X.C.P.underlying t,l_ ev m,Cg ev k,Cg ev v with
  |some (.map kt _),.st (.leaf (.v m)),some k,some v=>A.heap (.fn (FO X.C kt m k.val v.val)) h λ_ h=>m_ o.dst .un ev h K
  |_,_,_,_=>A.fail)):CF X holds abs o g9 K:=by
 split at b
 next kt z w kv x u l n e3=>
  obtain⟨i,_⟩:=a.l_ l c_;obtain⟨p,_⟩:=a.Cg n;obtain⟨q,g⟩:=a.Cg e3;simp only[SV.val,S0.val,SL.val]at i;obtain⟨e,y,B,d,j,c⟩:=hA.heap _ _ _ b;simp only[Hp.run]at d;rw[r]at d j;refine di a j (s:=.un) trivial (f:=cI X.C t w kv.val x.val) ?_ (z8 u (S0.n_ g) (S0.DY g) d) c;rcases ho with ho|ho<;>simp only[au,ho,i,p,q]
 .exact absurd b hA.fail
def r8{C:m'}{t kt e:TP}{d:Bool}{z m k:TR}{H:Tu}{n:Nat}{a:List Cw}{cs:Tn}(g:C.P.underlying t=some (.map kt e))(j:eU C.P e=some z)
  (f:meG C kt d z m k (λi=>H[i]?) n=some (a,cs)):∃v b c,gp d v=some b/\cs=b++[.int .i64 c]/\iS C t m k H=some (ii H a,.tuple #[v,.int .i64 c]):=by
 cases f
def Qf(hA:qs A X.C Sg X.T holds abs)(b:Rp ev g9)(M:abs h=g9.heap){t:TP}{m k:TK}{Q:TN}(N:o.op = .mapEntry t m k)
  (a:holds (match X.C.P.underlying t,l_ ev m,Cg ev k with
  |some (.map kt u),.st (.leaf (.v m)),some k=>match eU X.C.P u with
   |some z=>match Q with
    | [p,.leaf (.i .i64)]=>A.heap (.fn (meG X.C kt (ky p) z m k.val)) h λcs h=>JL A p cs λx r=>A.td .i64 r λn r=>A.v9 r (m_ o.dst (.JK [x,.leaf (.i .i64 n)]) ev h K)
    |_=>A.fail
   |none=>A.fail
  |_,_,_=>A.fail)):CF X holds abs o g9 K:=by
 split at a
 next kt u V kv S I J=>
  obtain⟨w,_⟩:=b.l_ I c_;obtain⟨L,_⟩:=b.Cg J;simp only[SV.val,S0.val,SL.val]at w;split at a
  next z U=>
   split at a
   next p=>
    obtain⟨q,cs,h',l,E,d⟩:=hA.heap _ _ _ a;simp only[Hp.run]at l;rw[M]at l E;obtain⟨v,H,c,w1,w2,w3⟩:=r8 S U l;obtain⟨x,r,F,W,Y,e⟩:=sf hA d;obtain⟨n,r',Z,g⟩:=hA.td _ _ _ e;obtain⟨O,j⟩:=hA.v9 _ _ g;rw[Z,O,w2]at F;obtain⟨u1,G⟩:=List.append_inj' F rfl;simp only[Hz,Value.int.injEq,true_and,and_true]at G;have B:=oT w1;rw[u1]at B;refine di b E (s:=.JK [x,.leaf (.i .i64 n)]) ⟨λy D=>?_,A9 2⟩ (f:=iS X.C t V kv.val) ?_ ?_ j
    .simp only[DB,Ng,or_false]at D;rcases D with rfl|rfl
     .exact Y
     .exact aC trivial
    .simp only[au,N,w,L]
    .rw[w3,←rB W B,G];rfl
   .exact absurd a hA.fail
  .exact absurd a hA.fail
 .exact absurd a hA.fail
def Z_{m v:TR}{b:Int}{k:TL}{H:Tu}{n:Nat}{a:List Cw}{cs:Tn}(d:n_ v=true)(e:aH v=false)
  (c:esG m b v (λi=>H[i]?) n=some (a,cs)):fE m (.int k b) v H=some (ii H a,undef):=by
 cases c
def O7(hA:qs A X.C Sg X.T holds abs)(a:Rp ev g9)(w:abs h=g9.heap){t:TP}{m s v:TK}(x:o.op = .entryStore t m s v)
  (c:holds (match l_ ev m,l_ ev s,Cg ev v with
  | .st (.leaf (.v m)),.st (.leaf (.i _ b)),some v=>A.heap (.fn (esG m b v.val)) h λ_ h=>m_ o.dst .un ev h K
  |_,_,_=>A.fail)):CF X holds abs o g9 K:=by
 split at c
 next y k b z q r e3=>
  obtain⟨l,_⟩:=a.l_ q c_;obtain⟨n,_⟩:=a.l_ r c_;obtain⟨u,j⟩:=a.Cg e3;simp only[SV.val,S0.val,SL.val]at l n;obtain⟨g,B,D,e,p,d⟩:=hA.heap _ _ _ c;simp only[Hp.run]at e;rw[w]at e p;refine di a p (s:=.un) trivial (f:=fE y (.int k b) z.val) ?_ (Z_ (S0.n_ j) (S0.DY j) e) d;simp only[au,x,l,n,u]
 .exact absurd c hA.fail
def ZW{C:m'}{t kt b:TP}{m k:TR}{H:Tu}{n:Nat}{a:List Cw}{cs:Tn}(d:C.P.underlying t=some (.map kt b))
  (c:deG C kt m k (λi=>H[i]?) n=some (a,cs)):oZ C t m k H=some (ii H a,undef):=by
 cases c
end
end Sx
namespace Sx
section
variable [Co] [C7] {R HT:Type} {A:B_ R HT} {X:CB} {Sg:Td} {holds:R->Prop} {abs:HT->Tu}
variable {ev:Env} {g9:St} {h:HT} {o:Oper} {K:KN R HT}
def l7(C:m')(r_:Nat)(H:Tu)(x:TR):NP C r_ (λi=>H[i]?) x=dW C H r_ x:=rfl
def Zs{C:m'}{t e:TP}{c:TypeInfo}{s x:TR}{H:Tu}{f:List Cw}{cs:Tn}(z:C.P.underlying t=some (.slice e))(w:C.P.info? e=some c)(h0:¬c.size=0)
  (B:(lR c).isNone=false) (b:Em C c.size c.bytes s x (λi=>H[i]?) H.length=some (f,cs)):∃v,cs=[v]/\gk C t s x H=some (ii H f,v):=by
 unfold Em at b;unfold gk;simp only[z,w,te h0,B,D7,if_false];rw[l7]at b;split at b
 .cases b
 next E n q=>
  simp only[q];split at b
  .split at b
   next d=>
    simp only[rv d];cases b;exact⟨_,rfl,rfl⟩
   next d=>
    simp only[te d];split at b
    next y=>
     simp only[rv y];cases b;exact⟨_,rfl,rfl⟩
    .cases b
  next a D M=>
   split at b
   .cases b
   next m=>
    simp only[te m];split at b
    next O N J u=>
     simp only[u];split at b
     .cases b
     next r=>
      simp only[te r];split at b
      .cases b
      next F k=>
       simp only[k];split at b
       .split at b
        next d=>
         simp only[rv d];cases b;exact⟨_,rfl,rfl⟩
        next d=>
         simp only[te d];split at b
         next l=>
          simp only[rv l];cases b;refine⟨_,rfl,?_⟩;simp[ii,Cw.on]
         .cases b
       next p=>
        split at b
        next g=>
         simp only[rv g];split at b
         next j=>
          simp only[rv j];obtain⟨L,G,I⟩:=DC.1 b;cases I;exact⟨_,rfl,by simp only[G];rfl⟩
         next j=>
          simp only[te j];split at b
          next d=>
           simp only[rv d];cases b;exact⟨_,rfl,rfl⟩
          .cases b
        next g=>
         simp only[te g];split at b
         next l=>
          simp only[rv l];cases b;exact⟨_,rfl,rfl⟩
         .cases b
    .cases b
  .cases b
def ZT{C:m'}{t e:TP}{d x:TR}{H:Tu}{n:Nat}{a:List Cw}{cs:Tn}(c:C.P.underlying t=some (.slice e))(h0:¬C.P.cellsOf e=0)
  (b:cpG C (C.P.cellsOf e) d x (λi=>H[i]?) n=some (a,cs)):∃v,cs=[v]/\HP C t d x H=some (ii H a,v):=by
 cases b
def ZN{C:m'}{t e:TP}{x:TR}{z:S0}{H:Tu}{n:Nat}{a:List Cw}{cs:Tn}(c:C.P.underlying t=some (.slice e))(h0:¬C.P.cellsOf e=0)(d:yu C.P e=some z)
  (b:clG (C.P.cellsOf e) (z.cells.map SL.val) x (λi=>H[i]?) n=some (a,cs)):uG C t x H=some (ii H a,undef):=by
 cases b
def ud(hA:qs A X.C Sg X.T holds abs){dst:Tq}{a:SK}(c:ky a=false){v:TR}(b:holds (Hn A dst a [v] ev h K)):∃x:S0,x.val=v/\x.i_/\holds (m_ dst (.st x) ev h K):=
 mM hA (.inr ⟨c,rfl⟩) b
def AG(hA:qs A X.C Sg X.T holds abs)(G:Rp ev g9)(I:abs h=g9.heap){c:Call}{b:Builtin}{xs:List S0}{sk:SK}(Q:o.op = .call c)(W:c.callee = .builtin b)(hx:CO ev c.args.toList=some xs)
  (d:holds (nR A X o.dst sk b xs c.argTypes ev h K)):CF X holds abs o g9 K:=by
 obtain⟨hv,hg⟩:=G.CO hx;have q:au X.C X.b_ (jw g9.tmps) o=aX X.C (jw g9.tmps) b (aj xs) c.argTypes o:=by
  simp only[au,Q,gM,W,hv]
 have L:∀ys:List S0,(∀y∈ys,∀l∈y.cells,l.nv)->ys=xs->c.args.toList.all (λx=>plain (jw g9.tmps x))=true/\c.args.map (λx=>FS (jw g9.tmps x))=⟨aj xs⟩:=by
  intro ys O e;subst e;have S:∀v∈c.args.toList.map (jw g9.tmps),plain v=true/\FS v=v:=by
   rw[hv];intro v hm;simp only[aj,CS]at hm;obtain⟨y,hm,rfl⟩:=hm;exact tI (O y hm)
  grind
 unfold nR at d;split at d
 next s x t D=>
  split at d
  next e u=>
   split at d
   next Z hi=>
    split at d
    .exact absurd d hA.fail
    next hc=>
     simp only[ng]at hc;obtain⟨⟨⟨c1,c2⟩,c3⟩,c4⟩:=hc;have c1:¬Z.size=0:=λe=>by rw[e]at c1;cases c1
     obtain⟨J,cs,h',E,M,j⟩:=hA.heap _ _ _ d;simp only[Hp.run]at E;rw[I]at E M;obtain⟨v,rfl,q3⟩:=Zs u hi c1 c2 E;obtain⟨y,rfl,g,r⟩:=ud hA rfl j;refine di G M (s:=.st y) g (f:=gk X.C t s x) ?_ q3 r;rw[q];simp only[aX,aj,DD,Il,S0.val,SL.val,D]
     grind
   .exact absurd d hA.fail
  .exact absurd d hA.fail
 next x t D=>
  split at d
  next e x' u=>
   obtain⟨n,N,j⟩:=hA.j_ _ _ d;unfold GF at N;split at N
   next a m cx=>
    cases N;refine aG G I (s:=.st (.leaf (.i .i64 _))) (aC trivial) ?_ j;rw[q];simp only[aX,aj,DD,Il,S0.val,SL.val,D,u];rfl
   .cases N
  next kt et x' u=>
   obtain⟨cs,F,j⟩:=hA.my _ _ _ d;simp only[Pk.run]at F;rw[I]at F;unfold m5 at F;split at F
   next id=>
    split at F
    next es ck ad=>
     cases F;obtain⟨y,O,g,r⟩:=ud hA rfl j;refine kP G I (s:=.st y) g (f:=λH=>(Dy H id).map λp=>.int .i64 p.1.length) ?_ ?_ r
     .rw[q];simp only[aX,aj,DD,Il,S0.val,SL.val,D,u]
     .simp only[Dy,ad,EO,SV.val,O]
    .cases F
   .cases F
  next n el u=>
   refine aG G I (s:=.st (.leaf (.i .i64 _))) (aC trivial) ?_ d;rw[q];simp only[aX,aj,DD,Il,D,u];rfl
  .exact absurd d hA.fail
 next x t D=>
  split at d
  next e x' u=>
   obtain⟨n,N,j⟩:=hA.j_ _ _ d;unfold OA at N;split at N
   .cases N;refine aG G I (s:=.st (.leaf (.i .i64 _))) (aC trivial) ?_ j;rw[q];simp only[aX,aj,DD,Il,S0.val,SL.val,D,u];rfl
   .cases N;refine aG G I (s:=.st (.leaf (.i .i64 _))) (aC trivial) ?_ j;rw[q];simp only[aX,aj,DD,Il,S0.val,SL.val,D,u];rfl
   .cases N
  next n el u=>
   refine aG G I (s:=.st (.leaf (.i .i64 _))) (aC trivial) ?_ d;rw[q];simp only[aX,aj,DD,Il,D,u];rfl
  .exact absurd d hA.fail
 next s x t D=>
  split at d
  next e u=>
   split at d
   .exact absurd d hA.fail
   next U=>
    have U:¬X.C.P.cellsOf e=0:=λe=>by rw[e]at U;cases U
    obtain⟨J,cs,h',E,M,j⟩:=hA.heap _ _ _ d;simp only[Hp.run]at E;rw[I]at E M;obtain⟨v,rfl,q3⟩:=ZT u U E;obtain⟨y,rfl,g,r⟩:=ud hA rfl j;refine di G M (s:=.st y) g (f:=HP X.C t s x) ?_ q3 r;rw[q];simp only[aX,aj,DD,Il,S0.val,SL.val,D]
  .exact absurd d hA.fail
 next m k t D=>
  split at d
  next kt et u=>
   obtain⟨J,cs,h',E,M,j⟩:=hA.heap _ _ _ d;simp only[Hp.run]at E;rw[I]at E M;refine di G M (s:=.un) trivial (f:=oZ X.C t m k.val) ?_ (ZW u E) j;rw[q];simp only[aX,aj,DD,Il,S0.val,SL.val,D]
  .exact absurd d hA.fail
 next s t D=>
  split at d
  next e u=>
   split at d
   next z Y U=>
    have Y:¬X.C.P.cellsOf e=0:=λe=>kb;obtain⟨J,cs,h',E,M,j⟩:=hA.heap _ _ _ d;simp only[Hp.run]at E;rw[I]at E M;refine di G M (s:=.un) trivial (f:=uG X.C t s) ?_ (ZN u Y U E) j;rw[q];simp only[aX,aj,DD,Il,S0.val,SL.val,D]
   .exact absurd d hA.fail
  .exact absurd d hA.fail
 next k a k' V=>
  split at d
  next B=>
   have B:=dK B;subst B;obtain⟨t,S,j⟩:=hA.cmp _ _ _ _ d;have r:=hA.Gq _ _ _ _ j;simp only[qS,FU]at S;subst S;obtain⟨p1,p2⟩:=L _ (λy O l F=>by
    simp only[DB,Ng,or_false]at O;rcases O with rfl|rfl<;>(simp only[S0.cells,Fc]at F;subst F;trivial)) rfl
   refine cF G I (s:=.st (.leaf (.i k _))) (aC trivial) ⟨by rw[Q];rfl,?_,rfl,λw=>?_⟩ r
   .rw[Q];simp only[Op.operands,Call.operands,W];simpa using p1
   .simp only[execOp,Q,resolve,W,Sem.run_bind,p2];simp only[Sem.run_pure,Result.andThen_ok,invoke,builtin,aj,DD,Il,S0.val,SL.val,Sem.run_bind];rw[show(⟨[Value.int k a,Value.int k V]⟩ : Array Value) = #[Value.int k a,Value.int k V]from rfl,run_min_int2];simp[SV.val,S0.val,SL.val,FS,F7]
  .exact absurd d hA.fail
 next k a k' V=>
  split at d
  next B=>
   have B:=dK B;subst B;obtain⟨t,S,j⟩:=hA.cmp _ _ _ _ d;have r:=hA.Gq _ _ _ _ j;simp only[qS,FU]at S;subst S;obtain⟨p1,p2⟩:=L _ (λy O l F=>by
    simp only[DB,Ng,or_false]at O;rcases O with rfl|rfl<;>(simp only[S0.cells,Fc]at F;subst F;trivial)) rfl
   refine cF G I (s:=.st (.leaf (.i k _))) (aC trivial) ⟨by rw[Q];rfl,?_,rfl,λw=>?_⟩ r
   .rw[Q];simp only[Op.operands,Call.operands,W];simpa using p1
   .simp only[execOp,Q,resolve,W,Sem.run_bind,p2];simp only[Sem.run_pure,Result.andThen_ok,invoke,builtin,aj,DD,Il,S0.val,SL.val,Sem.run_bind];rw[show(⟨[Value.int k a,Value.int k V]⟩ : Array Value) = #[Value.int k a,Value.int k V]from rfl,run_max_int2];simp[SV.val,S0.val,SL.val,FS,F7]
  .exact absurd d hA.fail
 .exact absurd d hA.fail
end
end Sx
namespace Sx
section
variable [Co] [C7] {R HT:Type} {A:B_ R HT} {X:CB} {Sg:Td} {holds:R->Prop} {abs:HT->Tu}
variable {ev:Env} {g9:St} {h:HT} {o:Oper} {K:KN R HT}
def MS(x:S0):bX [x]=x.cells.map SL.lf:=by simp[bX]
def yd(hA:qs A X.C Sg X.T holds abs)(p:Rp ev g9){sks:TN}{w:TG}{ys:List S0}(D:Told sks w ys){H':Tu}(q:abs h=H')
  (i:N5 X.C X.b_ o g9 (({ g9 with heap:=H' }:St).put o.dst (fQ (aj ys)))) (k:holds (Nn A o.dst sks w ev h K)):CF X holds abs o g9 K:=by
 obtain⟨c,rfl,z⟩:=D;unfold Nn at k;split at k
 next E=>
  obtain⟨x,r,j,e,d⟩:=JM hA k;obtain⟨n,g⟩:=hA.w_ _ _ d;rw[n,GU]at j
  match ys,c with
  | [y],c=>
   simp only[bW,qdr]at c;rw[MS]at j;obtain⟨t,u⟩:=S0.PT c e j;refine dI p H' q (s:=.st x) (u (z y c_)) ?_ g;rw[show(SV.st x).val=fQ (aj [y])from by simp[SV.val,aj,fQ,t]];exact i
  | [],c=>cases c
  |_ :: _ :: _,c=>simp[bW]at c
 .obtain⟨n,d⟩:=hA.w_ _ _ k
  match ys,c with
  | [],_=>exact dI p H' q (s:=.un) trivial i d
  |_ :: _,c=>cases c
 next B v=>
  obtain⟨m,r,j,e,d⟩:=qu hA k;obtain⟨n,g⟩:=hA.w_ _ _ d;rw[n,GU]at j;obtain⟨t,u⟩:=cW c e j;have f:2<=m.length:=by
   match m,e with
   | [],e=>cases sks with
    |nil=>exact absurd rfl v
    |cons _ _=>cases e
   | [x],e=>cases sks with
    |nil=>exact absurd rfl v
    |cons a l=>cases l with
     |nil=>exact absurd rfl (B _)
     |cons _ _=>simp[bW]at e
   |_ :: _ :: _,_=>simp
  refine dI p H' q (s:=.JK m) ⟨u z,f⟩ ?_ g;have:(SV.JK m).val=fQ (aj ys):=by
   rw[t]
   match m,f with
   |a :: b :: l,_=>rfl
  rw[this];exact i
def Mb{xs:List S0}(a:∀x∈xs,x.i_):(aj xs).all n_=true:=by
 simp only[aj,A_,CS];rintro _ ⟨x,b,rfl⟩;exact S0.n_ (a x b)
def UC(hA:qs A X.C Sg X.T holds abs)(n:Rp ev g9)(w:abs h=g9.heap){c:Call}{z:TN}(x:o.op = .call c)
  (a:holds (match CO ev c.args.toList with
  |some xs=>match c.callee with
   | .builtin b=>nR A X o.dst (nN z) b xs c.argTypes ev h K
   | .value f=>match l_ ev f with
    | .st (.leaf (.v v))=>match f with
     | .func g=>match Sg g with
      |some sg=>match bW xs sg.ps with
       |true=>A.call g (bX xs) h λr h=>Nn A o.dst sg.rs r ev h K
       |false=>A.fail
      |none=>A.fail
     |_=>A.BO v (aj xs) z h λr h=>Nn A o.dst z r ev h K
    |_=>A.fail
   |_=>A.fail
  |none=>A.fail)):CF X holds abs o g9 K:=by
 split at a
 next xs G=>
  obtain⟨F,O⟩:=n.CO G;have q:=Mb O;split at a
  next b M=>
   exact AG hA n w x M G a
  next f E=>
   split at a
   next v N=>
    obtain⟨t,J⟩:=n.l_ N c_;simp only[SV.val,S0.val,SL.val]at t;have L:aF v=true:=J (.v v) (by simp[S0.cells]);have k:∀ {g:TQ} {first d:Tl},v = .func (.func g) first d->au X.C X.b_ (jw g9.tmps) o=some (.call g (first.toList++aj xs++d.toList)):=by
     intro g first d e
     subst e;simp only[au,x,gM,E,F,q,t,(eH.1 L).1,DP,D7,if_false,if_true]
    split at a
    next g=>
     have e:v = .func (.func g) #[] #[]:=by
      have:=t;simp only[jw]at this;exact this.symm
     split at a
     next sg B=>
      split at a
      next y=>
       obtain⟨r,s,⟨P,S,u,p,⟨j,H,U⟩,I,D⟩,i⟩:=hA.call _ _ _ _ a;rw[B]at p;cases p;obtain⟨Q,_⟩:=cW y j H.symm;rw[w]at D;refine yd hA n I rfl (.inl ⟨_,k e,fQ (aj u),abs s,?_,rfl⟩) i;rw[Q];show jF X.C g _ _ _ _;simpa using D
      .exact absurd a hA.fail
     .exact absurd a hA.fail
    .obtain⟨r,s,⟨u,p,j⟩,i⟩:=hA.BO _ _ _ _ _ a;rw[w]at j;rcases j with⟨g,first,d,e,j⟩|⟨l,e,j⟩
     .exact yd hA n p rfl (.inl ⟨_,k e,fQ (aj u),abs s,j,rfl⟩) i
     .have m:au X.C X.b_ (jw g9.tmps) o=some (.yield l (aj xs)):=by
       subst e;simp only[au,x,gM,E,F,q,t,DP,D7,if_false];rfl
      exact yd hA n p rfl (.inl ⟨_,m,fQ (aj u),abs s,j,rfl⟩) i
   .exact absurd a hA.fail
  .exact absurd a hA.fail
 .exact absurd a hA.fail
def m0(hA:qs A X.C Sg X.T holds abs)(j:Rp ev g9)(p:abs h=g9.heap){L:TN}(g:holds (kH A X Sg o L ev h K)):CF X holds abs o g9 K:=by
 unfold kH at g;split at g
 next x d=>
  split at g
  .exact absurd g hA.fail
  next D=>exact KW j p (.inl d) rfl (λe=>D e) g
 next x d=>
  split at g
  .exact absurd g hA.fail
  next D=>exact KW j p (.inr d) rfl (λe=>D e) g
 next c a b d=>exact Wv hA j p d g
 next t d=>
  split at g
  next x q=>
   obtain⟨z,u,w,I⟩:=AA q;exact KZ hA j p I (by simp only[au,d,u,Ds,w]) (.inr d) g
  .exact absurd g hA.fail
 next t y d=>
  split at g
  next x q=>
   obtain⟨u,w⟩:=j.l_ q c_;exact KZ hA j p w (by simp only[au,d,u];rfl) (.inl ⟨y,d⟩) g
  .exact absurd g hA.fail
 next t N d=>exact Ox hA j p d g
 next t n N d=>exact sC hA j p d g
 next t a d=>
  split at g
  next E B=>
   split at g
   next J=>exact VL hA j p d B (O9 J) g
   .exact absurd g hA.fail
  .exact absurd g hA.fail
 next t a y d=>
  split at g
  next x q=>exact RU hA j p d q g
  .exact absurd g hA.fail
 next x d=>exact xD hA j p d g
 next M t x y Y d=>
  split at g
  next a b G H=>exact ZH hA j p d G H g
  .exact absurd g hA.fail
 next M t x d=>exact et hA j p d g
 next W O x d=>exact UN hA j p d g
 next P first F d=>exact xn hA j p d g
 next t r d=>exact mh hA j p d g
 next t l c d=>exact vG hA j p d g
 next t x S Q U d=>exact Nr hA j p d g
 next t x f d=>exact uV hA j p d g
 next t x i d=>exact vu hA j p d g
 next t x f d=>exact Pf hA j p d g
 next t x i d=>exact PJ hA j p d g
 next t m k V d=>exact VN hA j p d g
 next t m k v d=>exact zn hA j p (.inl d) g
 next t m k v d=>exact zn hA j p (.inr d) g
 next t m k d=>exact Qf hA j p d g
 next t m s v d=>exact O7 hA j p d g
 next t i d=>exact AR hA j p d g
 next c d=>exact UC hA j p d g
 .exact absurd g hA.fail
def NR(X:CB)(holds:R->Prop)(abs:HT->Tu)(ops:To)(i:Nat)(o:Oper)(g9:St)(K:KN R HT):Prop:=
 ∃b a h',ao X.C (uB X.C) X.b_ ops i g9 b/\Rp a b/\abs h'=b.heap/\Fr o.dst.toList (vP X.b_ o).toList (jZ X.b_ o).toList g9 b/\holds (K a h')
def Rj(c:Rp ev g9){d:Nat}{t:Bool}(f:ev.tm.getD d .no = .st (.leaf (.b t))):Rp ⟨ev.tm.set d (.st (.leaf (.l t))),ev.lc⟩ g9:=by
 obtain⟨e,_⟩:=c.at f c_;refine⟨by simp[c.len],λi x a=>?_,c.Ee,c.row⟩;simp only[GS]at a;split at a
 next g=>
  subst g;split at a
  .cases a;exact⟨e,aC trivial⟩
  .cases a
 .exact c.val i x a
def zD(hA:qs A X.C Sg X.T holds abs)(f:Rp ev g9)(v:abs h=g9.heap){ops:To}{i:Nat}{x:TN}(w:ops[i]?=some o)(a:holds (mH A X Sg ops o x ev h K)):NR X holds abs ops i o g9 K:=by
 have g:∀ {ev:Env},Rp ev g9->cB ops g9.tmps o=some true->holds (kH A X Sg o x ev h K)->NR X holds abs ops i o g9 K:=by
  intro ev f n a;obtain⟨D,l,y,E,F,G,H,I⟩:=m0 hA f v a;exact⟨D,l,y,by unfold ao;simp only[w,n];exact E,F,G,H,I⟩
 have e:∀ {ev:Env},Rp ev g9->cB ops g9.tmps o=some false->holds (m_ o.dst .un ev h K)->NR X holds abs ops i o g9 K:=by
  intro ev f n a;obtain⟨l,m,z⟩:=yc f (s:=.un) trivial a;refine⟨g9.put o.dst undef,l,h,by unfold ao;simp only[w,n],m,?_,.put _ _ _ _,z⟩;rw[v];cases o.dst<;>rfl
 unfold mH at a;split at a
 next q=>
  exact g f (by simp only[cB,q]) a
 next j k q=>
  split at a
  next d r=>
   split at a
   next b p=>
    obtain⟨m,_⟩:=f.at p c_;have n:cB ops g9.tmps o=some (b==k):=by
     simp only[cB,q,r,Ds,m];rfl
    grind
   next p=>
    obtain⟨m,_⟩:=f.at p c_;have n:cB ops g9.tmps o=some false:=by
     simp only[cB,q,r,Ds,m];rfl
    exact e f n a
   next t p=>
    obtain⟨m,_⟩:=f.at p c_;have n:cB ops g9.tmps o=some (t==k):=by
     simp only[cB,q,r,Ds,m];rfl
    have B:=Rj f p;split at a
    .rcases hA.cond _ _ _ a with⟨u,c⟩|⟨u,c⟩
     .rw[eS]at c
      grind
     .rw[eS]at c
      grind
    .rcases hA.cond _ _ _ a with⟨u,c⟩|⟨u,c⟩
     .rw[eS]at c
      grind
     .rw[eS]at c
      grind
   .exact absurd a hA.fail
  .exact absurd a hA.fail
def Sd(l:TA):TC:=l.filterMap (·.dst)
def PX(b_:TC)(l:TA):TC:=l.filterMap (vP b_)
def Rk(b_:TC)(l:TA):TC:=l.filterMap (jZ b_)
def bA{f:Oper->Ts}{o:Oper}{l:TA}(a:o∈l):∀i∈(f o).toList,i∈l.filterMap f:=by
 grind
def oB(hA:qs A X.C Sg X.T holds abs){ops:To}:∀(l:TA) (i:Nat) (e:List (TN)) (ev:Env) (h:HT) (g9:St),l <+: ops.toList.drop i->Rp ev g9->abs h=g9.heap->holds (M7 A X Sg ops l e ev h K)->
  ∃d a h',br X.C (uB X.C) X.b_ ops (List.range' i l.length) g9 d/\Rp a d/\abs h'=d.heap/\Fr (Sd l) (PX X.b_ l) (Rk X.b_ l) g9 d/\holds (K a h')
 | [],i,e,ev,h,g9,_,g,j,k=>⟨g9,ev,h,rfl,g,j,.refl _ _ _ _,k⟩
 |o :: l,i,e,ev,h,g9,c,g,j,k=>by
  have q:ops[i]?=some o:=by
   obtain⟨t,c⟩:=c;have:(ops.toList.drop i)[0]?=some o:=by rw[←c];rfl
   simpa using this
  obtain⟨n,F,E,x,y,z,B,D⟩:=zD (K:=λev h=>M7 A X Sg ops l e.tail ev h K) hA g j q k;have m:l <+: ops.toList.drop (i+1):=by
   obtain⟨t,c⟩:=c;exact⟨t,by rw[←n5,←c];rfl⟩
  obtain⟨d,a,h',r,s,u,v,w⟩:=oB hA l (i+1) e.tail F E n m y z D;refine⟨d,a,h',⟨n,x,r⟩,s,u,?_,w⟩;have p:Fr (Sd (o :: l)) (PX X.b_ (o :: l)) (Rk X.b_ (o :: l)) g9 n:=B.mono (bA c_) (bA c_) (bA c_);have b:∀(f:Oper->Ts) (i:Nat),i∈l.filterMap f->i∈(o :: l).filterMap f:=by
   simp_all
  exact p.trans (v.mono (b _) (b _) (b _))
def We(hA:qs A X.C Sg X.T holds abs){ops:To}(l:TA)(i:Nat)(c:List (TN))(ev:Env)(h:HT)(g9:St)(g:ops.toList.drop i=l)(d:Rp ev g9)(e:abs h=g9.heap)(f:holds (M7 A X Sg ops l c ev h K)) :
  ∃b a h',br X.C (uB X.C) X.b_ ops (List.range' i l.length) g9 b/\Rp a b/\abs h'=b.heap/\Fr (Sd l) (PX X.b_ l) (Rk X.b_ l) g9 b/\holds (K a h'):=
 oB hA l i c ev h g9 (g▸List.prefix_refl _) d e f
end
end Sx
namespace Sx
section
variable [Co] [C7] {R HT:Type} {A:B_ R HT} {X:CB} {Sg:Td} {holds:R->Prop} {abs:HT->Tu}
def J9(a ks:TC):∀(l:List SV) (i:Nat) (K:List SV->R),∃l',ZP a ks l i K=K l'/\l'.length=l.length/\
  ∀(j:Nat) s,l'[j]?=some s->s = .no∨(l[j]?=some s/\¬a.contains (i+j)=true/\s.D6 ks=false)
 | [],i,K=>⟨[],rfl,rfl,λj s h=>by simp at h⟩
 |x :: l,i,K=>by
  obtain⟨l',h1,c,f⟩:=J9 a ks l (i+1) λl=>match a.contains i||x.D6 ks with
   |true=>K (.no :: l)
   |false=>K (x :: l)
  have g:∀(j:Nat) s,l'[j]?=some s->s = .no∨((x :: l)[j+1]?=some s/\¬a.contains (i+(j+1))=true/\s.D6 ks=false):=by
   grind
  have b:ZP a ks (x :: l) i K=(match a.contains i||x.D6 ks with
   |true=>K (.no :: l')
   |false=>K (x :: l')):=h1
  cases d:a.contains i||x.D6 ks with
  |true=>
   refine⟨.no :: l',by rw[b,d],by simp[c],λj s e=>?_⟩;cases j with
   |zero=>simp_all
   |succ j=>simp_all
  |false=>
   simp only[ng]at d;refine⟨x :: l',kb,by simp[c],λj s e=>?_⟩;cases j with
   |zero=>
    simp_all
   |succ j=>simp_all
def tU(r a:LR):Prop:=r = .Ix∨(∃n,r = .any n/\(a = .any n∨∃cs,a = .row cs/\cs.length=n))
def J8(a ks:TC)(e:LR):∀(l:List LR) (i:Nat) (K:List LR->R),∃l',OL a ks e l i K=K l'/\l'.length=l.length/\
  ∀(j:Nat) r,l'[j]?=some r->(ks.contains (i+j)=true/\r=e)∨(ks.contains (i+j)=false/\a.contains (i+j)=true/\∃f,l[j]?=some f/\tU r f)∨
   (ks.contains (i+j)=false/\a.contains (i+j)=false/\l[j]?=some r)
 | [],i,K=>⟨[],rfl,rfl,λj s h=>by simp at h⟩
 |x :: l,i,K=>by
  obtain⟨l',h1,k,o⟩:=J8 a ks e l (i+1) λl=>match ks.contains i,a.contains i with
   |true,_=>K (e :: l)
   |false,true=>(match x with
    | .row g=>tb g.length λn=>K (.any n :: l)
    | .any n=>K (.any n :: l)
    |_=>K (.Ix :: l))
   |false,false=>K (x :: l)
  have q:∀(j:Nat) r,l'[j]?=some r->(ks.contains (i+(j+1))=true/\r=e)∨(ks.contains (i+(j+1))=false/\a.contains (i+(j+1))=true/\∃f,(x :: l)[j+1]?=some f/\tU r f)∨
   (ks.contains (i+(j+1))=false/\a.contains (i+(j+1))=false/\(x :: l)[j+1]?=some r):=by
   grind
  have b:∀y:LR,OL a ks e (x :: l) i K=K (y :: l')->((ks.contains i=true/\y=e)∨(ks.contains i=false/\a.contains i=true/\tU y x)∨(ks.contains i=false/\a.contains i=false/\y=x))->
    ∃l',OL a ks e (x :: l) i K=K l'/\l'.length=(x :: l).length/\∀(j:Nat) r,l'[j]?=some r->(ks.contains (i+j)=true/\r=e)∨(ks.contains (i+j)=false/\a.contains (i+j)=true/\∃f,(x :: l)[j]?=some f/\tU r f)∨
     (ks.contains (i+j)=false/\a.contains (i+j)=false/\(x :: l)[j]?=some r):=by
   intro y m p;refine⟨y :: l',m,by simp[k],λj r t=>?_⟩;cases j with
   |zero=>
    grind
   |succ j=>simp_all
  cases c:ks.contains i with
  |true=>exact b e (by show _=_;refine h1.trans ?_;simp only[c]) (.inl ⟨c,rfl⟩)
  |false=>
   cases d:a.contains i with
   |false=>exact b x (by refine h1.trans ?_;simp only[c,d]) (.inr (.inr ⟨c,d,rfl⟩))
   |true=>
    cases x with
    |row g=>exact b (.any g.length) (by refine h1.trans ?_;simp only[c,d,wS]) (.inr (.inl ⟨c,d,.inr ⟨_,rfl,.inr ⟨g,rfl,rfl⟩⟩⟩))
    |any n=>exact b (.any n) (by refine h1.trans ?_;simp only[c,d]) (.inr (.inl ⟨c,d,.inr ⟨_,rfl,.inl rfl⟩⟩))
    |Ix=>exact b .Ix (by refine h1.trans ?_;simp only[c,d]) (.inr (.inl ⟨c,d,.inl rfl⟩))
    |nil=>exact b .Ix (by refine h1.trans ?_;simp only[c,d]) (.inr (.inl ⟨c,d,.inl rfl⟩))
def R8{C:m'}{T:Tv}(hA:qs A C Sg T holds abs):∀(lv:List (Nat×SK)) (xs:List S0) (tm:List SV) (K:List SV->R),holds (jj A lv xs tm K)->bW xs (lv.map (·.2))=true->
  ∃a,holds (K a)/\a.length=tm.length/\∀(j:Nat) s,a[j]?=some s->tm[j]?=some s∨∃e x,(j,e)∈lv/\s = .st x/\((j,e),x)∈lv.zip xs
 | [],xs,tm,K,d,_=>⟨tm,d,rfl,λj s f=>.inl f⟩
 |p :: lv,[],tm,K,d,h=>by cases h
 |p :: lv,x :: xs,tm,K,d,h=>by
  simp only[DD,bW,vd]at h;have c:holds (E9 (.st x) tm p.1 λtm=>jj A lv xs tm K):=d;rw[eS]at c;obtain⟨a,g,i,k⟩:=R8 hA lv xs _ K c h.2;refine⟨a,g,by rw[i];simp,λj s f=>?_⟩;rcases k j s f with b|⟨e,y,b,l,m⟩
  .simp only[GS]at b;split at b
   next n=>
    split at b
    .cases b;subst n;exact .inr ⟨p.2,x,c_,rfl,c_⟩
    .cases b
   .exact .inl b
  .exact .inr ⟨e,y,by simp[b],l,by simp[m]⟩
def R7{C:m'}{T:Tv}(hA:qs A C Sg T holds abs):∀(lv:List (Nat×List LK)) (ls:TG) (c:List LR) (K:List LR->TG->R),holds (hB A lv ls c K)->
  ∃(b:List LR) (r:TG) (a:List (List SL)),holds (K b r)/\ls=(a.map (·.map SL.lf)).flatten++r/\a.length=lv.length/\(∀(i:Nat) p cs,lv[i]?=some p->a[i]?=some cs->aT cs p.2=true)/\b.length=c.length/\
   ∀(j:Nat) s,b[j]?=some s->c[j]?=some s∨∃(i:Nat) (ks:TJ) (cs:List SL),lv[i]?=some (j,ks)/\a[i]?=some cs/\s = .row cs
 | [],ls,c,K,f=>⟨c,ls,[],f,rfl,rfl,λ_ _ _ h=>by simp at h,rfl,λj s k=>.inl k⟩
 |p :: lv,ls,c,K,f=>by
  have g:holds (NQ A p.2 ls λcs r=>E9 (.row cs) c p.1 λc=>hB A lv r c K):=f;obtain⟨cs,r,m,B,e⟩:=si hA g;rw[eS]at e;obtain⟨b,z,a,n,o,t,D,u,v⟩:=R7 hA lv r _ K e;refine⟨b,z,cs :: a,n,by rw[m,o];simp,by simp[t],λi q l F E=>?_,by rw[u];simp,λj s k=>?_⟩
  .grind
  .rcases v j s k with d|⟨i,ks,l,d,w,x⟩
   .simp only[GS]at d;split at d
    next y=>
     split at d
     .cases d;subst y;exact .inr ⟨0,p.2,cs,rfl,rfl,rfl⟩
     .cases d
    .exact .inl d
   .exact .inr ⟨i+1,ks,l,by simpa using d,by simpa using w,x⟩
def QU{b:Env}{g9:St}(c:Rp b g9):∀ {lv:List (Nat×SK)} {ls:TG},hK b.tm lv=some ls->
  ∃xs,bX xs=ls/\bW xs (lv.map (·.2))=true/\(∀x∈xs,x.i_)/\∀p∈lv.zip xs,g9.tmps[p.1.1]?=some p.2.val
 | [],ls,h=>by cases h;exact⟨[],rfl,rfl,c_,c_⟩
 |(t,m) :: lv,ls,h=>by
  simp only[hK]at h;split at h
  next x l k j=>
   split at h
   next a=>
    cases h;obtain⟨xs,h1,f,g,i⟩:=QU c j;obtain⟨d,e⟩:=c.at k c_;refine⟨x :: xs,by simp[bX,h1],by simp[bW,a,f],Hx.2 ⟨e,g⟩,λp hp=>?_⟩;simp only[qcZ,DB]at hp;rcases hp with rfl|hp
    .exact d
    .exact i p hp
   .cases h
  .cases h
def QT{b:Env}{g9:St}(d:Rp b g9):∀ {lv:List (Nat×List LK)} {ls:TG},cf b.lc lv=some ls->
  ∃a:List (List SL),(a.map (·.map SL.lf)).flatten=ls/\a.length=lv.length/\(∀(i:Nat) p cs,lv[i]?=some p->a[i]?=some cs->aT cs p.2=true/\(∀c∈cs,c.i_)/\g9.loc[p.1]?=some (some (cs.map SL.val)))
 | [],ls,h=>by cases h;simp_all
 |(s,ks) :: lv,ls,h=>by
  simp only[cf]at h;split at h
  next cs l k g=>
   split at h
   next f=>
    cases h;obtain⟨a,h1,e,q⟩:=QT d g;have j:tT b s=some cs:=by unfold tT;rw[k]
    obtain⟨n,o,_⟩:=lJ d j;refine⟨cs :: a,by simp[h1],by simp[e],λi p m t r=>?_⟩
    grind
   .cases h
  .cases h
def OU:∀ {lv:List (Nat×List LK)} {a b:List (List SL)} {r:TG},a.length=lv.length->b.length=lv.length->
  (∀(i:Nat) p c,lv[i]?=some p->a[i]?=some c->aT c p.2=true)->(∀(i:Nat) p c,lv[i]?=some p->b[i]?=some c->aT c p.2=true)->
  (a.map (·.map SL.lf)).flatten=(b.map (·.map SL.lf)).flatten++r->r=[]/\∀(i:Nat) x y,a[i]?=some x->b[i]?=some y->x.map SL.lf=y.map SL.lf
 | [],a,b,r,la,lb,_,_,h=>by
  simp_all
 |p :: lv,a,b,r,la,lb,f,g,h=>by
  cases a with
  |nil=>simp at la
  |cons x a=>cases b with
   |nil=>simp at lb
   |cons y b=>
    simp only[DD,y4,EF]at h;have k:=bQ (f 0 p x rfl rfl);have l:=bQ (g 0 p y rfl rfl);obtain⟨m,j⟩:=qdm h (by simp[k,l]);obtain⟨n,o⟩:=OU (lv:=lv) (by simpa using la) (by simpa using lb) (λi q c e d=>f (i+1) q c (by simpa using e) (by simpa using d))
     (λi q c e d=>g (i+1) q c (by simpa using e) (by simpa using d)) j
    grind
def Bg{i7 b:Type}{l:List i7}{m:List b}{p:i7×b}(h:p∈l.zip m):∃i:Nat,l[i]?=some p.1/\m[i]?=some p.2:=by
 obtain⟨i,a⟩:=Ev h;rw[qc5]at a;exact⟨i,a⟩
def ru:∀ {a b:List S0} {sks:TN},bW a sks=true->bW b sks=true->(bX a).length=(bX b).length
 | [],[],[],_,_=>rfl
 |x :: a,y :: b,k :: sks,c,d=>by
  simp only[bW,vd]at c d;obtain⟨n,e,f⟩:=S0.PQ c.1;simp only[bX,Gv,FV,e,f y d.1,ru c.2 d.2]
 | [],_ :: _,[],_,d=>by cases d
 | [],_,_ :: _,c,_=>by cases c
 |_ :: _,_,[],c,_=>by cases c
 |_ :: _,[],_ :: _,_,d=>by cases d
structure Like(ks:TC)(nw:LR)(i6 i9:St):Prop where
 Iu:i9.tmps.length=i6.tmps.length
 Ee:i9.loc.length=i6.loc.length
 tm:∀(i:Nat) v,i6.tmps[i]?=some v->n_ v=true->i9.tmps[i]?=some v
 tp:∀(i s off:Nat),i6.tmps[i]?=some (.pointer (some ⟨s,off,some 0⟩))->s∉ks->i9.tmps[i]?=some (.pointer (some ⟨s,off,some 0⟩))
 row:∀(s:Nat) x,i6.loc[s]?=some x->s∉ks->i9.loc[s]?=some x
 new:∀s,s∈ks->s<i9.loc.length->nw.ok i9.loc s
theorem Like.refl(ks:TC)(g9:St):Like ks .Ix g9 g9:=⟨rfl,rfl,λ_ _ h _=>h,λ_ _ _ h _=>h,λ_ _ h _=>h,λ_ _ _=>trivial⟩
def Re{C:m'}{T:Tv}(hA:qs A C Sg T holds abs){b_:TC}{c:Code}{nw:LR}{lv:Live}{M N:Env}{g9 i6 i9:St}{ls:TG}{K:Env->R}
  (H:Rp M g9) (P:Rp N i6) (z:Fr (HD c) (aQ b_ c) (Fw b_ c) g9 i6) (hp:pk N lv=some ls) (o:Like (aQ b_ c) nw i6 i9)
  (h:i9=i6∨∀p∈lv.rows,p.1∉aQ b_ c) (hk:holds (e6 A b_ c nw lv M ls K)):∃O,Rp O i9/\holds (K O):=by
 unfold e6 at hk;obtain⟨a4,h1,h2,h3⟩:=J9 (HD c) (aQ b_ c) M.tm 0 λtm=>OL (Fw b_ c) (aQ b_ c) nw M.lc 0 λF=>
  Iw A (lv.tm.map (·.2)) ls λJ r=>jj A lv.tm J tm λtm=>hB A lv.rows r F λF r=>A.w_ r (K ⟨tm,F⟩)
 rw[h1]at hk;obtain⟨a8,g1,g2,g3⟩:=J8 (Fw b_ c) (aQ b_ c) nw M.lc 0 λF=>
  Iw A (lv.tm.map (·.2)) ls λJ r=>jj A lv.tm J a4 λtm=>hB A lv.rows r F λF r=>A.w_ r (K ⟨tm,F⟩)
 rw[g1]at hk;obtain⟨J,r,e1,e2,ag⟩:=qu hA hk;obtain⟨V,al,u1,u2⟩:=R8 hA _ _ _ _ ag e2;obtain⟨U,r2,a6,an,v1,v2,v3,v4,v5⟩:=R7 hA _ _ _ _ al;obtain⟨aE,ap⟩:=hA.w_ _ _ an;subst aE;rw[GU]at v1;unfold pk at hp;split at hp
 next la lb ax ay=>
  cases hp;obtain⟨ys,y1,y2,y3,y4⟩:=QU P ax;obtain⟨ad,d1,d2,d3⟩:=QT P ay;rw[←y1,←d1]at e1;obtain⟨s1,s2⟩:=qdm e1 (ru y2 e2);obtain⟨w1,w2⟩:=cW y2 e2 s1;have B:=w2 y3;obtain⟨_,z2⟩:=OU (r:=[]) d2 v2 (λi p G a b=>(d3 i p G a b).1) v3 kb;refine⟨⟨V,U⟩,⟨?_,λi s hs=>?_,?_,λi s hs=>?_⟩,ap⟩
  .show V.length=_;rw[u1,h2,H.len,o.Iu,z.Iu]
  .rcases u2 i s hs with D|⟨sk,x,W,rfl,a3⟩
   .rcases h3 i s D with rfl|⟨m,q,u⟩
    .trivial
    .have e:=H.val i s m;rw[ER]at q;have q:i∉HD c:=by simpa using q
     have d:∀v,g9.tmps[i]?=some v->n_ v=true->i9.tmps[i]?=some v:=λv E Q=>o.tm i v (z.tm i v E q Q) Q;have l:∀s f,g9.tmps[i]?=some (.pointer (some ⟨s,f,some 0⟩))->s∉aQ b_ c->i9.tmps[i]?=some (.pointer (some ⟨s,f,some 0⟩)):=λs f E Q=>
      o.tp i s f (z.tp i s f E q Q) Q
     cases s with
     |no=>trivial
     |st x=>exact⟨d _ e.1 (S0.n_ e.2),e.2⟩
     |JK J=>simp[SV.D6]at u
     |un=>exact⟨d _ e.1 rfl,trivial⟩
     |ID g f=>exact⟨d _ e.1 rfl,trivial⟩
     |Kv g L ix=>exact⟨d _ e.1 rfl,trivial⟩
     |GD s f=>exact⟨l s f e.1 (by simpa[SV.D6]using u),trivial⟩
     |IF s L ix=>exact⟨l s _ e.1 (by simpa[SV.D6]using u),trivial⟩
   .obtain⟨k,q1,q2⟩:=Bg a3;simp only at q1 q2;have S:(aj J)[k]?=some x.val:=by simp[aj,q2]
    rw[←w1]at S;simp only[aj,Ew,DC]at S;obtain⟨y,a7,a0⟩:=S;have hm:((i,sk),y)∈lv.tm.zip ys:=by
     apply Cf (i:=k)
     grind
    have E:=y4 _ hm;simp only at E;rw[a0]at E;have gx:=B x (Cf q2);exact⟨o.tm i _ E (S0.n_ gx),gx⟩
  .show U.length=_;rw[v4,g2,H.Ee,o.Ee,z.Ee]
  .rcases v5 i s hs with D|⟨k,ks,G,W,a2,rfl⟩
   .rcases g3 i s D with⟨m,rfl⟩|⟨m,q,r0,u,b4⟩|⟨m,q,u⟩
    .rw[ER]at m;refine o.new i (by simpa using m) ?_;rw[o.Ee,z.Ee,←H.Ee,←g2]
     grind
    .rw[ER]at m;have t:i∉aQ b_ c:=by simpa using m
     have w:=H.row i r0 u;rcases b4 with rfl|⟨n,rfl,b4⟩
     .trivial
     .have:∃I,g9.loc[i]?=some (some I)/\I.length=n:=by
       rcases b4 with rfl|⟨G,rfl,hl⟩
       .exact w
       .exact⟨_,w.1,by simpa using hl⟩
      obtain⟨I,c1,c2⟩:=this;obtain⟨a5,c3,c4⟩:=z.Ni i I c1 t;exact⟨a5,o.row i _ c3 t,c4.trans c2⟩
    .rw[ER]at m q;have t:i∉aQ b_ c:=by simpa using m
     have av:i∉Fw b_ c:=by simpa using q
     have w:=H.row i s u;have j:∀x,g9.loc[i]?=some x->i9.loc[i]?=some x:=λx S=>o.row i x (z.row i x S av) t;cases s with
     |Ix=>trivial
     |nil=>exact j _ w
     |any n=>obtain⟨I,c1,c2⟩:=w;exact⟨I,j _ c1,c2⟩
     |row G=>exact⟨j _ w.1,w.2⟩
   .have Z:∃Y,ad[k]?=some Y:=by
     grind
    obtain⟨Y,Z⟩:=Z;obtain⟨f1,f2,f3⟩:=d3 k _ Y W Z;have f4:=v3 k _ G W a2;obtain⟨m1,m2⟩:=iy f1 f4 (z2 k Y G Z a2);simp only at f3;rw[m1]at f3;refine⟨?_,m2 f2⟩;rcases h with rfl|h
    .exact f3
    .exact o.row i _ f3 (h (i,ks) (Cf W))
 .cases hp
end
end Sx
namespace Sx
section
variable [Co] [C7] {R HT:Type} {A:B_ R HT} {X:CB} {Sg:Td} {holds:R->Prop} {abs:HT->Tu}
def er(X:CB)(c:AC):Code:=c.erase λa t=>gi (X.T a) t
def v0(X:CB)(holds:R->Prop)(abs:HT->Tu)(c:Code)(g9:St)(d:KN R HT)(f:Exit->KN R HT):Prop:=
 ∃e b a h',Du X.C X.b_ c g9 e b/\Rp a b/\abs h'=b.heap/\Fr (HD c) (aQ X.b_ c) (Fw X.b_ c) g9 b/\((e = .normal/\holds (d a h'))∨(e≠.normal/\holds (f e a h')))
def tv(hA:qs A X.C Sg X.T holds abs){c:Code}{j:Option Live}{l:Env}{g9:St}{d:KN R HT}{b:KN R HT->R}{s:Exit->KN R HT}{f:Code}
  (z:HD f=HD c) (w:aQ X.b_ f=aQ X.b_ c) (y:Fw X.b_ f=Fw X.b_ c)
  (v:Rp l g9) (q:∀d,holds (b d)->v0 X holds abs f g9 d s) (k:holds (vx A X.b_ c j l d b)):v0 X holds abs f g9 d s:=by
 unfold vx at k;cases j with
 |none=>exact q d k
 |some lv=>
  obtain⟨e,r,g,m,n,o,p,i,a⟩:=q _ (hA.join _ _ k);rcases a with⟨rfl,a⟩|a
  .simp only at a;split at a
   next B x=>
    rw[z,w,y]at i;obtain⟨h,t,u⟩:=Re hA v o i x (.refl _ _) (.inl rfl) a;exact⟨.normal,r,h,m,n,t,p,kb,.inl ⟨rfl,u⟩⟩
   .exact absurd a hA.fail
  .exact⟨e,r,g,m,n,o,p,i,.inr a⟩
def UA(b_:TC):∀c:Code,∀s∈aQ b_ c,s∈Fw b_ c:=by
 intro c
 induction c with
 |region id k i=>
  intro s d;simp only[aQ,Q_]at d;simp only[Fw,Q_];obtain⟨o,j,d⟩:=d;refine⟨o,j,?_⟩;unfold jZ
  grind
 |seq a b g h=>intro s d;simp only[aQ,Fw,Ek]at d ⊢;grind
 |cond c a b g h=>intro s d;simp only[aQ,Fw,Ek]at d ⊢;grind
 |block id b e=>exact e
 |loop b e=>exact e
 |scope b e=>exact e
 |rangeFunc f l a b g h=>intro s d;simp only[aQ,Fw,Ek]at d ⊢;grind
 |_=>intro s d;cases d
def uI{b:TC}{v:TR}(h:n_ v=true):jH b v=v:=by
 unfold jH;split
 next a=>
  split
  next c=>
   simp only[vd,EP]at c;simp[n_,aS,bB,bi,c.1]at h
  .rfl
 .rw[rv h]
def uH{a:TC}{s off:Nat}(h:s∉a):jH a (.pointer (some ⟨s,off,some 0⟩)) = .pointer (some ⟨s,off,some 0⟩):=by
 unfold jH;simp[h]
def jh{g9:St}{a:TC}{i:Nat}{v:TR}(c:g9.tmps[i]?=some v)(b:jH a v=v):(g9.clear a).tmps[i]?=some v:=by
 unfold St.clear
 grind
def oV{g9:St}{a:TC}{s:Nat}{x:Option (Tn)}(b:g9.loc[s]?=some x)(c:s∉a):(g9.clear a).loc[s]?=some x:=by
 unfold St.clear;split
 .exact b
 .simp only;rw[fB,ER,te (by simpa using c)];exact b
def Mo{g9:St}{a:TC}{s:Nat}(c:s∈a)(b:s<g9.loc.length):(g9.clear a).loc[s]?=some none:=by
 unfold St.clear;split
 .simp_all
 .simp only;rw[fB,ER,rv (by simpa using c)];simp[b]
def qR{g9:St}{a:TC}:(g9.clear a).tmps.length=g9.tmps.length:=by unfold St.clear;split<;>simp
def jG(a:TC):∀(l:List (Option (Tn))) (i:Nat),(iG a l i).length=l.length
 | [],_=>rfl
 |_ :: l,i=>by simp[iG,jG a l]
def lT{g9:St}{a:TC}:(g9.clear a).loc.length=g9.loc.length:=by unfold St.clear;split<;>simp[jG]
def AK{g9:St}{a:TC}:(g9.clear a).heap=g9.heap:=by unfold St.clear;split<;>rfl
def AL(g9:St)(a:TC):Like a .nil g9 (g9.clear a):=
 ⟨qR,lT,λ_ _ h b=>jh h (uI b),λ_ _ _ h b=>jh h (uH b),λ_ _ h b=>oV h b,λ_ h c=>Mo h (by rw[lT]at c;exact c)⟩
def OJ{g9:St}{g a d:TC}(c:∀s∈a,s∈d):Fr g a d g9 (g9.clear a):=
 ⟨qR,lT,λ_ _ h _ b=>jh h (uI b),λ_ _ _ h _ b=>jh h (uH b),λs _ h b=>oV h λe=>b (c s e),
  λs f h b=>⟨f,oV h b,rfl⟩⟩
def qP{d:Env}{g9:St}(e:Rp d g9):∀ {caps:List (Nat×SK)} {vs:Tn},oR d.tm caps=some vs->∀(b:Nat) (tm:Tn),
  (∀(i:Nat) x,tm[i]?=some x->x=w9∨(g9.tmps[i]?=some x/\n_ x=true))->∀(i:Nat) x,(qA b caps vs tm)[i]?=some x->x=w9∨(g9.tmps[i]?=some x/\n_ x=true)
 | [],vs,h,b,tm,c=>by cases h;exact c
 |(t,n) :: caps,vs,h,b,tm,c=>by
  simp only[oR]at h;split at h
  next x m l k=>
   split at h
   .cases h;obtain⟨f,g⟩:=e.at l c_;refine qP e k b _ λi y a=>?_;simp only[GS]at a;split at a
    next j=>
     subst j;split at a
     .cases a;exact .inr ⟨f,S0.n_ g⟩
     .cases a
    .exact c i y a
   .cases h
  .cases h
def mV:∀(nt:Nat) (caps:List (Nat×SK)) (vs tm:Tn),(qA nt caps vs tm).length=tm.length
 |_,[],_,_=>rfl
 |_,_ :: _,[],_=>rfl
 |nt,(t,_) :: caps,v :: vs,tm=>by simp[qA,mV nt caps vs]
def K4(hA:qs A X.C Sg X.T holds abs){ops:To}:∀(l:TA) (i:Nat) (g:List (TN)) (c:Env) (h:HT) (g9:St) (K:Env->HT->List HT->R),l <+: ops.toList.drop i->Rp c g9->abs h=g9.heap->holds (opsM A X Sg ops l g c h K)->
  ∃e a h' b,Fu X.C (uB X.C) X.b_ ops (List.range' i l.length) g9 (b.map abs) e/\Rp a e/\abs h'=e.heap/\Fr (Sd l) (PX X.b_ l) (Rk X.b_ l) g9 e/\holds (K a h' b)
 | [],i,g,c,h,g9,K,_,j,k,m=>⟨g9,c,h,[],⟨rfl,rfl⟩,j,k,.refl _ _ _ _,m⟩
 |o :: l,i,g,c,h,g9,K,b,j,k,m=>by
  have v:ops[i]?=some o:=by
   obtain⟨t,b⟩:=b;have:(ops.toList.drop i)[0]?=some o:=by rw[←b];rfl
   simpa using this
  obtain⟨p,H,s,D,E,r,F,G⟩:=zD (K:=λc h=>opsM A X Sg ops l g.tail c h λa h' b=>K a h' (h :: b)) hA j k v m;have n:l <+: ops.toList.drop (i+1):=by
   obtain⟨t,b⟩:=b;exact⟨t,by rw[←n5,←b];rfl⟩
  obtain⟨e,a,h',q,w,x,y,z,B⟩:=K4 hA l (i+1) g.tail H s p _ n E r G;refine⟨e,a,h',s :: q,⟨p,q.map abs,D,by rw[DD,r],w⟩,x,y,?_,B⟩;have u:Fr (Sd (o :: l)) (PX X.b_ (o :: l)) (Rk X.b_ (o :: l)) g9 p:=F.mono (bA c_) (bA c_) (bA c_);have d:∀(f:Oper->Ts) (i:Nat),i∈l.filterMap f->i∈(o :: l).filterMap f:=by
   simp_all
  exact u.trans (z.mono (d _) (d _) (d _))
def Ub(h0:HT)(a:List HT)(p:Nat×Nat):abs (atM h0 a p)=atM (abs h0) (a.map abs) p:=by
 unfold atM
 grind
def Rf(hA:qs A X.C Sg X.T holds abs){ops:To}{g:List (TN)}{a:Env}{h0:HT}{c:List HT}{K:R}{g9 i:St}(f:Rp a i)(b:abs h0=g9.heap):∀ {l:List (Nat×Nat)},holds (reM A X Sg ops g a h0 c K l)->
  ES X.C (uB X.C) X.b_ ops g9 (c.map abs) i l/\holds K
 | [],h=>⟨λp hp=>(by cases hp),h⟩
 |q :: l,h=>by
  have h:holds (match ops[q.1]? with
   |some o=>match o.dst with
    |some d=>mH A X Sg ops o (g.getD q.1 []) a (atM h0 c q) λe _=>samS A (a.tm.getD d .no) (e.tm.getD d .no) (reM A X Sg ops g a h0 c K l)
    |none=>A.fail
   |none=>A.fail):=h
  split at h
  next o j=>
   split at h
   next d k=>
    obtain⟨m,B,z,n,r,D,_,s⟩:=zD (g9:={ i with heap:=atM g9.heap (c.map abs) q }) hA (f.heap _) (by rw[Ub (abs:=abs),b]) j h;obtain⟨⟨x,v,w⟩,y⟩:=samS_ok hA f r s;obtain⟨t,u⟩:=Rf hA f b y;refine⟨λp hp=>?_,u⟩;rcases DB.1 hp with rfl|hp
    .exact⟨m,n,o,d,x,j,k,v,w⟩
    .exact t p hp
   .exact absurd h hA.fail
  .exact absurd h hA.fail
def wN(hA:qs A X.C Sg X.T holds abs){dr:Dr}
  (an:NS X.C dr) :
  ∀(c:AC) (k:Env) (h:HT) (g9:St) (z:KN R HT) (F:Exit->KN R HT),Rp k g9->abs h=g9.heap->holds (exec A X Sg dr c k h z F)->v0 X holds abs (er X c) g9 z F:=by
 intro c
 induction c with
 |skip=>intro k h g9 z F D I w;exact⟨.normal,g9,k,h,.skip,D,I,.refl _ _ _ _,.inl ⟨rfl,w⟩⟩
 |ret=>intro k h g9 z F D I w;exact⟨.ret,g9,k,h,.ret,D,I,.refl _ _ _ _,.inr ⟨c_,w⟩⟩
 |exit id=>intro k h g9 z F D I w;exact⟨.exit id,g9,k,h,.exit,D,I,.refl _ _ _ _,.inr ⟨c_,w⟩⟩
 |label l=>intro k h g9 z F D I w;exact⟨.normal,g9,k,h,.label,D,I,.refl _ _ _ _,.inl ⟨rfl,w⟩⟩
 |seq a b a1 a2=>
  intro k h g9 z F D I w;obtain⟨e,O,Q,P,V,Y,q3,q4,E⟩:=a1 k h g9 _ _ D I w;have m1:Fr (HD (er X (.seq a b))) (aQ X.b_ (er X (.seq a b))) (Fw X.b_ (er X (.seq a b))) g9 O:=
   q4.mono (λi B=>Jq _ B) (λi B=>Jq _ B) (λi B=>Jq _ B)
  rcases E with⟨rfl,E⟩|⟨E,q6⟩
  .obtain⟨e',N,G,S,L,J,U,p4,M⟩:=a2 Q P O z F Y q3 E;exact⟨e',N,G,S,.seq V L,J,U,m1.trans (p4.mono (λi B=>S5 _ B) (λi B=>S5 _ B) (λi B=>S5 _ B)),M⟩
  .exact⟨e,O,Q,P,.seqX V E,Y,q3,m1,.inr ⟨E,q6⟩⟩
 |scope b ih=>
  intro k h g9 z F D I w;obtain⟨e,O,Q,P,V,q⟩:=ih k h g9 z F D I w;exact⟨e,O,Q,P,.scope V,q⟩
 |region id H K hs j=>
  intro k h g9 z F D I w;have s:holds (match drX dr K X.b_ H with
   |none=>A.fail
   |some ps=>vx A X.b_ (.region id H K) j k z λz=>regE A X Sg H hs ps k h z):=w
  split at s
  .exact absurd s hA.fail
  next ps hd=>
   refine tv hA (c:=.region id H K) rfl rfl rfl D (λz w=>?_) s;unfold regE at w;cases W:Fm ps with
   |some l=>
    rw[W]at w;simp only at w;obtain⟨N,G,S,hl,L,J,U,p4,M⟩:=K4 hA H.toList 0 hs k h g9 _ kb D I w;obtain⟨M,p6⟩:=Rf (g9:=g9) hA J I M;have L:Fu X.C (uB X.C) X.b_ H (range H.size) g9 (hl.map abs) N:=by
     rw[YZ];omega
    refine⟨.normal,N,G,S,?_,J,U,p4,.inl ⟨rfl,p6⟩⟩;cases K with
    |false=>cases hd;cases W
    |true=>
     have Z:=an _ _ _ hd;rw[W]at Z;obtain⟨n,g1⟩:=Ia L;obtain⟨m,g2⟩:=again_at M;exact .drawA (Z (max n m) g9 N _ (g1 _ (f0 _ _)) (g2 _ (eD _ _)))
   |none=>
    rw[W]at w;simp only at w;cases ag:Gr ps with
    |none=>
     rw[ag]at w;simp only at w;obtain⟨N,G,S,L,J,U,p4,M⟩:=We hA H.toList 0 hs k h g9 rfl D I w;obtain⟨M,p6⟩:=sepK_ok hA J M;have L:br X.C (uB X.C) X.b_ H (range H.size) g9 N:=by
      rw[YZ];omega
     refine⟨.normal,N,G,S,?_,J,U,p4,.inl ⟨rfl,p6⟩⟩;cases K with
     |false=>exact .region L
     |true=>
      have Z:=an _ _ _ hd;rw[W]at Z;simp only at Z;rw[ag]at Z;exact .draw (λn hn=>Z n _ _ hn M) L
    |some q=>
     rw[ag]at w;simp only at w;obtain⟨O,Q,P,L,J,U,p4,M⟩:=oB hA (H.toList.take (q.2+1)) 0 hs k h g9 jn D I w;unfold reK at M;split at M
     next o ho=>
      split at M
      next d bb=>
       obtain⟨o8,BR,A4,V,Y,q3,_,E⟩:=zD hA J U ho M;simp only at E;split at E
       next x y hx hy=>
        obtain⟨u,e1,e2⟩:=hA.j_ _ _ E;have e1:=Kc e1;subst e1;have sm:G5 H q.1 O o8:=⟨o,d,x,ho,bb,J' J hx,J' Y hy⟩;obtain⟨N,G,S,r1,r2,r3,r4,r5⟩:=oB hA (H.toList.drop (q.2+1)) (q.2+1) _ Q P O (List.prefix_refl _) J U e2;refine⟨.normal,N,G,S,?_,r2,r3,?_,.inl ⟨rfl,r5⟩⟩
        .cases K with
         |false=>cases hd;cases ag
         |true=>
          have Z:=an _ _ _ hd;rw[W]at Z;simp only at Z;rw[ag]at Z;exact .drawS (λn h1 h2 h3=>Z n _ _ _ _ h1 h2 sm h3) L V r1
        .refine(p4.mono (λi B=>?_) (λi B=>?_) (λi B=>?_)).trans (r4.mono (λi B=>?_) (λi B=>?_) (λi B=>?_))
         all_goals
          replace B:=Q_.1 B
          obtain⟨o,ho,e⟩:=B;exact Q_.2 ⟨o,jn,e⟩
       .exact absurd E hA.fail
      .exact absurd M hA.fail
     .exact absurd M hA.fail
 |cond c a b j a1 a2=>
  intro k h g9 z F D I w;have s:holds (match l_ k c with
   | .st (.leaf (.l true))=>exec A X Sg dr a k h z F
   | .st (.leaf (.l false))=>exec A X Sg dr b k h z F
   | .st (.leaf (.b t))=>vx A X.b_ (er X (.cond c a b j)) j k z λz=>A.cond t (exec A X Sg dr a k h z F) (exec A X Sg dr b k h z F)
   |_=>A.fail):=w
  have ga:∀ {z},jw g9.tmps c = .bool true->holds (exec A X Sg dr a k h z F)->v0 X holds abs (er X (.cond c a b j)) g9 z F:=by
   intro z hc w;obtain⟨e,O,Q,P,V,Y,q3,q4,E⟩:=a1 k h g9 z F D I w;exact⟨e,O,Q,P,.cond hc V,Y,q3,q4.mono (λi B=>Jq _ B) (λi B=>Jq _ B) (λi B=>Jq _ B),E⟩
  have gb:∀ {z},jw g9.tmps c = .bool false->holds (exec A X Sg dr b k h z F)->v0 X holds abs (er X (.cond c a b j)) g9 z F:=by
   intro z hc w;obtain⟨e,O,Q,P,V,Y,q3,q4,E⟩:=a2 k h g9 z F D I w;exact⟨e,O,Q,P,.cond hc (show Du X.C X.b_ (if false=true then er X a else er X b) g9 e O by simp_all),Y,q3,q4.mono (λi B=>S5 _ B) (λi B=>S5 _ B) (λi B=>S5 _ B),E⟩
  split at s
  next e=>exact ga (D.l_ e c_).1 s
  next e=>exact gb (D.l_ e c_).1 s
  next t e=>
   have h1:=(D.l_ e c_).1;refine tv hA (c:=er X (.cond c a b j)) rfl rfl rfl D (λz w=>?_) s;rcases hA.cond _ _ _ w with⟨ht,av⟩|⟨ht,av⟩
   .exact ga (by rw[h1,ht];rfl) av
   .exact gb (by rw[h1,ht];rfl) av
  .exact absurd s hA.fail
 |block id b j ih=>
  intro k h g9 z F D I w;refine tv hA (c:=er X b) rfl rfl rfl D (λz w=>?_) (show holds (vx A X.b_ (er X b) j k z λz=>exec A X Sg dr b k h z λe=>match uT e id with
   |true=>z
   |false=>F e)from w)
  obtain⟨e,O,Q,P,V,Y,q3,q4,E⟩:=ih k h g9 _ _ D I w;refine⟨jS id e,O,Q,P,.block V,Y,q3,q4,?_⟩;rcases E with⟨rfl,E⟩|⟨E,q6⟩
  .exact .inl ⟨rfl,E⟩
  .cases e with
   |normal=>exact absurd rfl E
   |exit i=>
    by_cases B:i=id
    .subst B;left;simp only[jS,if_true,true_and];simpa[uT]using q6
    .right;simp only[jS,te B];refine⟨c_,?_⟩;have:Nat.beq i id=false:=by
      rw[←Gj];simp_all
     simpa[uT,this]using q6
   |_=>exact .inr ⟨by simp[jS],by simpa[uT,jS]using q6⟩
 |loop b lv ih=>
  intro k h g9 z F D I w;have s:holds (match pk k lv with
   |none=>A.fail
   |some ls=>match lv.rows.all λp=>!(aQ X.b_ (er X b)).contains p.1 with
    |false=>A.fail
    |true=>A.loop (λa6 ls h=>e6 A X.b_ (er X b) .nil lv k ls λk=>exec A X Sg dr b k h (λk h=>match pk k lv with
     |some ls=>a6 ls h
     |none=>A.fail) F) ls h):=w
  split at s
  .exact absurd s hA.fail
  next bm bd=>
   split at s
   .exact absurd s hA.fail
   next bt=>
    have ax:∀p∈lv.rows,p.1∉aQ X.b_ (er X b):=by
     grind
    obtain⟨it,i0,i1,n,hn⟩:=hA.loop _ _ _ s;have a5:∀(n:Nat) (ls:TG) (h:HT) (i9:St) (A6:Env),Rp A6 i9->Fr (HD (er X b)) (aQ X.b_ (er X b)) (Fw X.b_ (er X b)) g9 i9->pk A6 lv=some ls->abs h=i9.heap->holds (it n ls h)->
      ∃e N G S,Du X.C X.b_ (.loop (er X b)) i9 e N/\e≠.normal/\Rp G N/\abs S=N.heap/\Fr (HD (er X b)) (aQ X.b_ (er X b)) (Fw X.b_ (er X b)) g9 N/\holds (F e G S):=by
     intro n
     induction n with
     |zero=>simp_all
     |succ n bl=>
      intro ls h i9 A6 B4 hF hp B5 hh;rw[i1]at hh;obtain⟨a7,g1,g2⟩:=Re hA D B4 hF hp (AL i9 _) (.inr ax) hh;obtain⟨e,O,Q,P,V,Y,q3,q4,E⟩:=ih a7 h (i9.clear (aQ X.b_ (er X b))) _ _ g1 (by rw[AK];exact B5) g2;have a3:Fr (HD (er X b)) (aQ X.b_ (er X b)) (Fw X.b_ (er X b)) g9 O:=(hF.trans (OJ (UA _ _))).trans q4;rcases E with⟨rfl,E⟩|⟨E,q6⟩
      .simp only at E;split at E
       next bn bk=>
        obtain⟨e',N,G,S,L,J,U,p4,M,p6⟩:=bl bn P O Q Y a3 bk q3 E;exact⟨e',N,G,S,.loop V L,J,U,p4,M,p6⟩
       .exact absurd E hA.fail
      .exact⟨e,O,Q,P,.loopX V E,E,Y,q3,a3,q6⟩
    obtain⟨e',N,G,S,L,J,U,p4,M,p6⟩:=a5 n bm h g9 k D (.refl _ _ _ _) bd I hn;exact⟨e',N,G,S,L,U,p4,M,.inr ⟨J,p6⟩⟩
 |rangeFunc f j8 a4=>
  intro k h g9 z F D I w;have s:holds (match (generalizing:=false) f,l_ k f,X.b_ with
   | .tmp _,.st (.leaf (.v v)),_ :: _=>match Nat.beq k.tm.length (X.T j8).nt,oR k.tm (X.T j8).caps with
    |true,some vs=>A.Ei j8 v vs h λpd h=>A.DZ pd (z k h) (F .ret k h) (a4.map λid=>(id,F (.exit id) k h))
    |_,_=>A.fail
   |_,_,_=>A.fail):=w
  clear w;cases f with
  |tmp t=>
   cases ad:X.b_ with
   |nil=>rw[ad]at s;split at s<;>first|exact absurd s hA.fail|(rename_i e;cases e)
   |cons p0 pr=>
    rw[ad]at s;split at s
    next t2 v hd tl e0 e e1=>
     split at s
     next vs ay a8=>
      have ay:=Dx ay;obtain⟨h1,g1⟩:=D.l_ e c_;have gv:aF v=true:=g1 (.v v) (by simp[S0.cells]);obtain⟨g,first,bs,r,H1,lp,h2,r1,r2,r3,r4,r5,r6⟩:=hA.Ei _ _ _ _ _ s;subst r1;rw[I]at r2 r3 r5;have a0:yx g9.tmps (Er (X.T j8) j8 vs).tmps:=by
       refine⟨by simp only[Er,mV,qcF];rw[←ay,D.len],qP D a8 _ _ λi x hx=>?_⟩
       grind
      have aE:=hA.DZ _ _ _ _ r6;have ap:∀ {e:Exit},yQ lp.pending=some e->Du X.C X.b_ (er X (.rangeFunc (.tmp t) j8 a4)) g9 e { g9 with heap:=H1.set g9.heap.length (.loop { lp with state:=.exhausted }) }:=by
       intro e he;have a9:X.b_≠[]:=by rw[ad];simp
       refine Du.rangeFunc (r:=r) (y0:=j8) (tm:=(Er (X.T j8) j8 vs).tmps) a9 a0 h1 (eH.1 gv).1 ?_ r3 r4 he;simpa[Er]using r2
      have al:Rp k { g9 with heap:=H1.set g9.heap.length (.loop { lp with state:=.exhausted }) }:=D.heap _;rcases aE with⟨L,J⟩|⟨L,J⟩|⟨id,x,L,J,U⟩
      .exact⟨.normal,_,k,h2,ap (by rw[L];rfl),al,r5,(Fr.refl _ _ _ _).heap _,.inl ⟨rfl,J⟩⟩
      .exact⟨.ret,_,k,h2,ap (by rw[L];rfl),al,r5,(Fr.refl _ _ _ _).heap _,.inr ⟨c_,J⟩⟩
      .obtain⟨bx,i',he⟩:=CS.1 J;cases he;exact⟨.exit id,_,k,h2,ap (by rw[L];rfl),al,r5,(Fr.refl _ _ _ _).heap _,.inr ⟨c_,U⟩⟩
     .exact absurd s hA.fail
    .exact absurd s hA.fail
  |_=>exact absurd s hA.fail
end
end Sx
namespace Sx
section
variable [Co] [C7] {R HT:Type} {A:B_ R HT} {X:CB} {Sg:Td} {holds:R->Prop} {abs:HT->Tu}
def dU(ls:TG):Prop:=∀l∈ls,match l with
 | .v x=>aF x=true
 |_=>True
def AV{xs:List S0}(h:dU (bX xs)):∀x∈xs,x.i_:=by
 intro x a l b;have c:l.lf∈bX xs:=by
  induction xs with
  |nil=>cases a
  |cons y e d=>
   simp only[bX,Ek,CS];rcases DB.1 a with rfl|a
   .grind
   .exact .inr (d (λl b=>h l (by simp only[bX,Ek];exact .inr b)) a)
 have:=h _ c;cases l<;>first|trivial|exact this
def rz:∀ {xs:List S0},(∀x∈xs,x.i_)->dU (bX xs)
 | [],_,l,a=>by cases a
 |x :: xs,h,l,a=>by
  simp only[bX,Ek,CS]at a;rcases a with⟨c,b,rfl⟩|a
  .have:=h x c_ c b;cases c<;>first|trivial|exact this
  .exact rz (λy d=>h y (by simp[d])) l a
def iE{C:m'}{T:Tv}(hA:qs A C Sg T holds abs):∀ {cs:List SL} {K:R},holds (IP A cs K)->(∀c∈cs,bB c.val=true)/\holds K
 | [],K,h=>⟨c_,h⟩
 |c :: cs,K,h=>by
  cases c with
  |v x=>
   have h':holds (A.j_ (Fy x) λ_=>IP A cs K):=h;obtain⟨u,e,f⟩:=hA.j_ _ _ h';obtain⟨a,d⟩:=iE hA f;refine⟨Hx.2 ⟨?_,a⟩,d⟩;unfold Fy at e;split at e
   .assumption
   .cases e
  |i k n=>obtain⟨a,d⟩:=iE (cs:=cs) (K:=K) hA h;exact⟨Hx.2 ⟨rfl,a⟩,d⟩
  |b t=>obtain⟨a,d⟩:=iE (cs:=cs) (K:=K) hA h;exact⟨Hx.2 ⟨rfl,a⟩,d⟩
  |l t=>obtain⟨a,d⟩:=iE (cs:=cs) (K:=K) hA h;exact⟨Hx.2 ⟨rfl,a⟩,d⟩
def Mj{C:m'}{T:Tv}(hA:qs A C Sg T holds abs){a:Bool}{x:S0}{K:R}(e:x.i_)(h:holds (ij A a x K)):(a=true->aS x.val=true)/\holds K:=by
 unfold ij at h;split at h
 next b=>
  obtain⟨f,c⟩:=iE hA h;refine⟨λ_=>?_,c⟩;simp only[S0.val,aS,A_,CS]
  simp_all
 next d=>
  refine⟨λg=>?_,h⟩;cases x with
  |agg b=>simp_all
  |leaf l=>exact(eH.1 (SL.D2 (e l (by simp[S0.cells])))).2.1
def Lp(hA:qs A X.C Sg X.T holds abs){i:Env}{g9:St}{h:HT}(F:Rp i g9)(Y:abs h=g9.heap){b:Bool}:∀(d:List ResultVar) (sks:TN) (e:TG) (K:TG->HT->R),holds (GL A X b i h d sks e K)->
  ∃ys,bW ys sks=true/\(∀y∈ys,y.i_)/\(b=true->∀y∈ys,aS y.val=true)/\ys.length=d.length/\dd X.C g9 d=some (aj ys)/\holds (K (e++bX ys) h)
 | [],sks,e,K,j=>by
  cases sks with
  |nil=>
   have c:holds (K e h):=j;exact⟨[],rfl,c_,c_,rfl,rfl,by rw[bX,GU];exact c⟩
  |cons _ _=>exact absurd j hA.fail
 |L :: d,sks,e,K,j=>by
  cases sks with
  |nil=>exact absurd j hA.fail
  |cons k sks=>
   have q:∀x:S0,x.is k=true->x.i_->fR X.C g9 L=some x.val->holds (ij A b x (GL A X b i h d sks (e++x.cells.map SL.lf) K))->
     ∃ys,bW ys (k :: sks)=true/\(∀y∈ys,y.i_)/\(b=true->∀y∈ys,aS y.val=true)/\ys.length=(L :: d).length/\dd X.C g9 (L :: d)=some (aj ys)/\holds (K (e++bX ys) h):=by
    intro x o Z H j;obtain⟨h1,E⟩:=Mj hA Z j;obtain⟨ys,z,I,a3,a4,a5,a6⟩:=Lp hA F Y d sks _ K E;refine⟨x :: ys,by simp[bW,o,z],Hx.2 ⟨Z,I⟩,λhm=>Hx.2 ⟨h1 hm,a3 hm⟩,by simp[a4],?_,by simpa[bX]using a6⟩;simp only[dd,H,a5];rfl
   cases L with
   |tmp t=>
    have c:holds (match i.tm.getD t .no with
     | .st x=>match x.is k with
      |true=>ij A b x (GL A X b i h d sks (e++x.cells.map SL.lf) K)
      |false=>A.fail
     |_=>A.fail):=j
    split at c
    next x o=>
     obtain⟨D,g2⟩:=F.at o c_;split at c
     next u=>
      exact q x u g2 (by simp[fR,List.getD_eq_getElem?_getD,D];rfl) c
     .exact absurd c hA.fail
    .exact absurd c hA.fail
   |cell a t=>
    have c:holds (match (generalizing:=false) A2 X.C.P t with
     |some g=>
      let n:=if g then X.C.P.cellsOf t else 1
      match (generalizing:=false) i.tm.getD a .no with
      | .GD s w=>match (tT i s).bind (λm=>(DU m w n).bind (GH g))with
       |some x=>match x.is k with
        |true=>ij A b x (GL A X b i h d sks (e++x.cells.map SL.lf) K)
        |false=>A.fail
       |none=>A.fail
      | .st (.leaf (.v p))=>match (generalizing:=false) g,k with
       |true,.agg _=>A.my (.ld n p) h λm=>JL A k m λx r=>A.v9 r (ij A b x (GL A X b i h d sks (e++x.cells.map SL.lf) K))
       |false,.leaf _=>A.my (.ld n p) h λm=>JL A k m λx r=>A.v9 r (ij A b x (GL A X b i h d sks (e++x.cells.map SL.lf) K))
       |_,_=>A.fail
      |_=>A.fail
     |none=>A.fail):=j
    clear j;split at c
    next g G=>
     simp only at c;split at c
     next s w J=>
      obtain⟨D,_⟩:=F.at J c_;split at c
      next x o=>
       obtain⟨m,S,o⟩:=EE.1 o;obtain⟨ds,hd,o⟩:=EE.1 o;obtain⟨r1,r2,_⟩:=lJ F S;obtain⟨c1,c2⟩:=oY hd;obtain⟨v,v1,v2⟩:=dc G c1;obtain⟨m1,m2⟩:=pS o;split at c
       next u=>
        have hv:x.val=v:=by
         rcases m2 with⟨z,I⟩|⟨z,I⟩<;>rcases v2 with⟨B,V⟩|⟨B,V⟩
         .rw[I,V]
         .rw[z]at B;cases B
         .rw[z]at B;cases B
         simp_all
        refine q x u (λl J=>?_) ?_ c
        .simp_all
        .simp only[fR,List.getD_eq_getElem?_getD,D,S8,SV.val,r1,v1,hv]
       .exact absurd c hA.fail
      .exact absurd c hA.fail
     next p J=>
      obtain⟨D,_⟩:=F.at J c_;have f:g=ky k->holds (A.my (.ld (if g then X.C.P.cellsOf t else 1) p) h λm=>JL A k m λx r=>A.v9 r (ij A b x (GL A X b i h d sks (e++x.cells.map SL.lf) K)))->
        ∃ys,bW ys (k :: sks)=true/\(∀y∈ys,y.i_)/\(b=true->∀y∈ys,aS y.val=true)/\ys.length=(ResultVar.cell a t :: d).length/\dd X.C g9 (.cell a t :: d)=some (aj ys)/\holds (K (e++bX ys) h):=by
       intro U j;obtain⟨m,E,N⟩:=hA.my _ _ _ j;simp only[Pk.run]at E;rw[Y]at E;obtain⟨id,w,vs,rfl,W,h4⟩:=T2 E;rw[uC]at W;obtain⟨v,h5,M⟩:=dc G h4;rw[U]at M;obtain⟨x,r,q1,q2,q3,O⟩:=sf hA N;obtain⟨S,Q⟩:=hA.v9 _ _ O;rw[S,GU]at q1;rw[q1]at M;refine q x q2 q3 ?_ Q;rw[rB q2 M];simp only[fR,List.getD_eq_getElem?_getD,D,S8,SV.val,S0.val,SL.val,W,Ds,h5]
      split at c
      .exact f rfl c
      .exact f rfl c
      .exact absurd c hA.fail
     .exact absurd c hA.fail
    .exact absurd c hA.fail
structure Gx(X:CB)(Sg:Td)(f:TQ)(fn:Fn1):Prop where
 is:∃g,X.C.P.funcs[f]?=some g/\g.body=some (er X fn.code)/\((g.name == "runtime.NumGoroutine")||X.C.opq f)=false/\g.ntmps=fn.nt/\g.results.toList=fn.rvs
 b_:X.b_=X.C.b_ f
 sg:Sg f=some fn.sg
def xL{ys:List S0}(c:∀y∈ys,y.i_)(d:1<ys.length->∀y∈ys,aS y.val=true):n_ (fQ (aj ys))=true:=by
 match ys with
 | []=>rfl
 | [y]=>exact S0.n_ (c y c_)
 |a :: b :: l=>
  have h:=d c_;have e:fQ (aj (a :: b :: l)) = .tuple (aj (a :: b :: l)).toArray:=rfl;rw[e];simp only[Am.n_,A_];intro v f;simp only[aj,CS]at f
  grind
def mT:∀ {a:List S0} {sks:TN},bW a sks=true->a.length=sks.length
 | [],[],_=>rfl
 |x :: a,k :: sks,h=>by
  simp only[bW,vd]at h;simp[mT h.2]
 | [],_ :: _,h=>by cases h
 |_ :: _,[],h=>by cases h
def RN{xs:List S0}(f:∀x∈xs,x.i_)(d:Nat)(H:Tu) :
  Rp ⟨xs.map .st++replicate (d - xs.length) .no,replicate d .nil⟩ { tmps:=aj xs++replicate (d - (aj xs).length) undef,loc:=replicate d none,heap:=H }:=by
 refine⟨by simp[aj],λi s a=>?_,c_,λi r c=>?_⟩
 .rw[r5]at a;split at a
  next b=>
   simp only[FV]at b;simp only[Ew,DC]at a;obtain⟨x,e,rfl⟩:=a;refine⟨?_,f x (Cf e)⟩;rw[Fe (by simpa[aj]using b)];simp[aj,e,SV.val]
  .rw[YY]at a;split at a
   .cases a;trivial
   .cases a
 .simp only[YY]at c;split at c
  .rename_i b;cases c
   simp[LR.ok,b]
  .cases c
def sR(hA:qs A X.C Sg X.T holds abs){q:Dr}
  (i:NS X.C q)
  {f:TQ} {a:Fn1} (j:Gx X Sg f a) {ls:TG} {h:HT} {K:TG->HT->R} (n:dU ls) (k:holds (aw A X Sg q a ls h K)) :
  ∃b h',aA X.C Sg f ls (abs h) b (abs h')/\dU b/\holds (K b h'):=by
 obtain⟨g,F,G,f3,f4,f5⟩:=j.is;obtain⟨x,r,s,E,l⟩:=qu hA k;obtain⟨J,m⟩:=hA.w_ _ _ l;rw[J,GU]at s;subst s;have t:=AV n;have H:=RN t a.nt (abs h);obtain⟨e,P,d,h',v,L,w,_,o⟩:=wN hA i a.code _ h _ _ _ H rfl m;have u:(e = .normal∨e = .ret)->holds (GL A X (Nat.blt 1 a.rvs.length) d h' a.rvs a.sg.rs [] K)->∃b h',aA X.C Sg f (bX x) (abs h) b (abs h')/\dU b/\holds (K b h'):=by
  intro I k;obtain⟨y,z,c,B,N,D,p⟩:=Lp hA L w a.rvs a.sg.rs [] K k;rw[DA]at p;refine⟨bX y,h',⟨a.sg,x,y,j.sg,⟨E,rfl,t⟩,⟨z,rfl,c⟩,?_⟩,rz c,p⟩;rw[w];refine jF.intro F G f3 ?_ I (by rw[f5];exact D) (xL c λO=>B (by rw[Gp];omega));rw[j.b_]at v;simpa[mZ,f4]using v
 rcases o with⟨rfl,o⟩|⟨o,M⟩
 .simp_all
 .cases e with
  |ret=>simp_all
  |_=>exact absurd M hA.fail
def oQ:∀(caps:List (Nat×SK)) (xs:List S0) (tm:List SV) (a:Tn),tm.length=a.length->(∀x∈xs,x.i_)->(∀(i:Nat) s,tm[i]?=some s->s.ok a i)->
  (fX 0 caps xs tm).length=tm.length/\∀(i:Nat) s,(fX 0 caps xs tm)[i]?=some s->s.ok (cR (caps.map (·.1)) (aj xs) a) i
 | [],xs,tm,a,_,_,h=>⟨by simp[fX],by simpa[fX,cR]using h⟩
 |(t,j) :: caps,[],tm,a,_,_,h=>⟨by simp[fX],by simpa[fX,cR,aj]using h⟩
 |(t,j) :: caps,x :: xs,tm,a,e,d,h=>by
  have:=oQ caps xs (tm.set t (.st x)) (a.set t x.val) (by simp[e]) (λy g=>d y (by simp[g])) (λi s b=>?_)
  .simpa[fX,cR,aj]using this
  .simp only[GS]at b;split at b
   next c=>
    subst c;split at b
    next f=>
     cases b;exact⟨by rw[GR a_];rfl,d x c_⟩
    .cases b
   next c=>
    have:=h i s b;cases s<;>first|trivial|exact⟨by rw[Hj c];exact this.1,this.2⟩
def iB(b a:Nat):∀(caps:List (Nat×SK)) (xs:List S0) (tm:List SV),fX b caps xs tm=fX a caps xs tm
 | [],_,_=>rfl
 |_ :: _,[],_=>rfl
 |(t,_) :: caps,x :: xs,tm=>iB b a caps xs _
def mW(a:Nat):∀(caps:List (Nat×SK)) (vs tm:Tn),qA a caps vs tm=cR (caps.map (·.1)) vs tm
 | [],_,_=>by simp[qA,cR]
 |_ :: _,[],_=>by simp[qA,cR]
 |(t,_) :: caps,v :: vs,tm=>by simp only[qA,DD,cR];exact mW a caps vs _
def rF{T T':Nat->Tmp->Code}:∀ {c:AC},FE c=true->c.erase T=c.erase T':=by
 intro c
 induction c with
 |seq a b d e=>intro h;simp only[FE,vd]at h;simp only[AC.erase,d h.1,e h.2]
 |scope b g=>intro h;simp only[AC.erase,g h]
 |cond c a b j d e=>intro h;simp only[FE,vd]at h;simp only[AC.erase,d h.1,e h.2]
 |block id b j g=>intro h;simp only[AC.erase,g h]
 |loop b lv g=>intro h;simp only[AC.erase,g h]
 |rangeFunc f k i=>intro h;cases h
 |_=>intro _;rfl
def vz:∀ {caps:List (Nat×SK)} {xs:List S0},tz caps=true->bW xs (caps.map (·.2))=true->nV xs=aj xs
 | [],[],_,_=>rfl
 |p :: caps,x :: xs,h1,a=>by
  simp only[tz,S4,vd]at h1;simp only[DD,bW,vd]at a;have b:=vz (caps:=caps) h1.2 a.2;obtain⟨t,c⟩:=p;cases c with
  |agg d=>cases h1.1
  |leaf k=>
   cases x with
   |agg _=>cases a.1
   |leaf l=>
    simp only[nV,S6,aj,DD]at b ⊢;rw[b];rfl
 | [],_ :: _,_,h=>by cases h
 |_ :: _,[],_,h=>by cases h
def yP(hA:qs A X.C Sg X.T holds abs){O:Dr}
  (k:NS X.C O)
  {st:Site} {vs:Tn} {l:Nat} {ls:TG} {h:HT} {K:TG->HT->R} {a:Fp} {ys:List S0} (h1:eI (abs h) l=some a) (h2:a.tmps=qA st.nt st.caps vs (replicate st.nt w9))
  (Q:a.params=st.params.map (·.1)) (h4:a.assign=st.assign.erase rG) (h5:a.body=st.body.erase rG) (hy:Told (st.params.map (·.2)) ls ys)
  (f:holds (sS A X Sg O st vs l ls h K)):∃b h',ip X.C l (aj ys) (abs h) (.bool b) (abs h')/\holds (K [.b b] h'):=by
 unfold sS at f;split at f
 .exact absurd f hA.fail
 next S=>
  simp only[vd]at S;obtain⟨⟨c1,c2⟩,c3⟩:=S;obtain⟨J,r,P,e2,e3,x⟩:=L1 hA f;obtain⟨D,y⟩:=hA.v9 _ _ x;rw[D,GU,vz c1 e2]at P;subst P;obtain⟨L,r',N,d2,z⟩:=qu hA y;obtain⟨E,B⟩:=hA.w_ _ _ z;rw[E,GU]at N;obtain⟨Y,y2,y3⟩:=hy;obtain⟨w1,w2⟩:=cW Y d2 (y2.trans N);have F:=w2 y3
  let M:CB:={ X with b_:=[] }
  let I:St:={ tmps:=cR a.params (aj ys) a.tmps,loc:=[],heap:=abs h }
  have hR:Rp ⟨fX st.nt st.params L (fX st.nt st.caps J (replicate st.nt .no)),[]⟩ I:=by
   have u:=oQ st.caps J (replicate st.nt .no) (replicate st.nt w9) c_ e3 (λi s g=>by
    rw[YY]at g;split at g
    .cases g;trivial
    .cases g)
   have c:∀(q:List Tmp) (vs tm:Tn),(cR q vs tm).length=tm.length:=by
    intro q
    induction q with
    |nil=>intro vs tm;simp[cR]
    |cons t q ih=>intro vs tm;cases vs with
     |nil=>simp[cR]
     |cons v vs=>simp[cR,ih]
   have a2:=oQ st.params L _ _ (by rw[u.1,c];simp) F u.2;have w:I.tmps=cR (st.params.map (·.1)) (aj L) (cR (st.caps.map (·.1)) (aj J) (replicate st.nt w9)):=by
    show cR a.params (aj ys) a.tmps=_;rw[Q,h2,mW,w1]
   refine⟨?_,λi s g=>?_,rfl,λi r D=>by simp at D⟩
   .rw[w,c,c,iB st.nt 0,iB st.nt 0,a2.1,u.1];simp
   .rw[iB st.nt 0,iB st.nt 0]at g
    simp_all
  obtain⟨e,n,u7,u6,q1,q2,q3,_,o⟩:=wN (X:=M) hA k st.assign _ h I _ _ hR rfl B;rcases o with⟨rfl,o⟩|⟨_,o⟩
  .obtain⟨W,A4,U,p2,V,q6⟩:=hA.H7 _ _ _ o;rw[q3]at U V;obtain⟨e,o8,BR,B6,s1,s2,s3,_,p⟩:=wN (X:=M) hA k st.body u7 A4 { n with heap:=n.heap.set l (.loop { W with state:=.busy }) } _ _ (q2.heap _) V q6;have u1:Du X.C [] a.assign { tmps:=cR a.params (aj ys) a.tmps,loc:=[],heap:=abs h } .normal n:=by
    rw[h4,rF (T':=λG t=>gi (X.T G) t) c2];exact q1
   have u2:Du X.C [] a.body { n with heap:=n.heap.set l (.loop { W with state:=.busy }) } e o8:=by
    rw[h5,rF (T':=λG t=>gi (X.T G) t) c3];exact s1
   have m:(aj ys).length=a.params.length:=by
    rw[Q];have:=mT Y;simpa[aj]using this
   have d:∀(j:Tm) (b:Bool),I9 e=some j->b=j.isNone->holds (A.Gt l j B6 λh=>K [.b b] h)->∃b h',ip X.C l (aj ys) (abs h) (.bool b) (abs h')/\holds (K [.b b] h'):=by
    intro j b hj hb f;obtain⟨x6,B7,Z,z2,z3⟩:=hA.Gt _ _ _ _ f;rw[s3]at Z z2;refine⟨b,B7,?_,z3⟩;rw[z2,hb];exact ip.intro h1 m u1 U p2 u2 hj Z
   rcases p with⟨rfl,p⟩|⟨p,H⟩
   .exact d none true rfl rfl p
   .cases e with
    |ret=>exact d (some .ret) false rfl rfl H
    |exit id=>exact d (some (.exit id)) false rfl rfl H
    |_=>exact absurd H hA.fail
  .exact absurd o hA.fail
end
end Sx
namespace Sx
section
variable {P:TI}
end
end Sx
namespace Sx
inductive MC where
 |no
 |row (s:Nat) (w:Bool)
 |hr
 |hw
 |neu (f:TQ)
abbrev _root_.Tc:=FuncId->Option Nat
def az(N:Tc)(b_:TC)(o:Oper):Option MC:=
 match o.op with
 | .move _ | .assign _ | .pick _ _ _ | .build _ _ | .nilCheck _ | .unOp _ _ _ | .convert _ _ _ | .fieldAddr _ _ _ | .field _ _ _ | .indexAddr _ _ _ | .index _ _ _ | .extract _ _=>some .no
 | .binOp _ _ _ _ _=>some .no
 | .makeFunc _ _ _=>some .no
 | .load _ a=>match nI b_ a with
  |0=>some .hr
  |1=>some .no
  |s+2=>some (.row s false)
 | .store _ a _=>match nI b_ a with
  |0=>some .hw
  |1=>none
  |s+2=>some (.row s true)
 | .alloc _ | .box _ _=>match o.dst with
  |some d=>if b_.getD d 0=d+2 then some (.row d true)else some .hw
  |none=>none
 | .buildSlice _ _ _ | .makeMap _ _ | .makeSlice _ _ _ | .mapUpdate _ _ _ _ | .mapEntry _ _ _ | .entryStore _ _ _ _ | .insert _ _ _ _=>some .hw
 | .lookup _ _ _ _ | .slice _ _ _ _ _=>some .hr
 | .call c=>match c.callee with
  | .builtin b=>match b with
   | .append | .copy | .delete | .clear=>some .hw
   | .len=>some .hr
   | .cap | .min | .max=>some .no
   |_=>none
  | .value f=>match f with
   | .func g=>some (if N g=some (2*c.args.size)then .neu g else if N g=some (2*c.args.size+1)then .hr else .hw)
   |_=>some .hw
  |_=>none
 |_=>none
def bj(ops:To)(o:Oper):TC:=
 (o.op.operands.toList.filterMap λx=>match x with
  | .tmp t=>some t
  |_=>none) ++
 match o.guard with
 |some (j,_)=>((ops[j]?).bind (·.dst)).toList
 |none=>[]
section
variable [Co]
def execOp_congr{e t7:Tg}{o:Oper}(N:Tc)(b_:TC)(C:az N b_ o≠none)(h:∀x∈o.op.operands.toList,e x=t7 x):execOp e o=execOp t7 o:=by
 obtain⟨dst,A,B,pos,z,guard⟩:=o;have l:∀ {j:Array Operand},(∀x∈j.toList,e x=t7 x)->j.map e=j.map t7:=by
  simp_all
 have w:∀ {j:Array (Nat×Operand)},(∀x∈j.toList.map (·.2),e x=t7 x)->(j.map λ(i,x)=>(i,e x))=(j.map λ(i,x)=>(i,t7 x)):=by
  grind
 have g:∀ {r:Th},(∀x∈r.toArray.toList,e x=t7 x)->r.map e=r.map t7:=by
  intro r q;cases r with
  |none=>rfl
  |some y=>simp[q y c_]
 cases A<;>simp only[az,ne_eq,not_true_eq_false,not_false_eq_true,reduceCtorEq]at C<;>simp only[Op.operands]at h
 case move x=>simp only[execOp,h x c_]
 case assign x=>simp only[execOp,h x c_]
 case pick c a b=>simp only[execOp,h c c_,h a c_,h b c_]
 case alloc t=>rfl
 case box t x=>simp only[execOp,h x c_]
 case build t ps=>simp only[execOp,w (by simpa using h)]
 case buildSlice t n ps=>simp only[execOp,w (by simpa using h)]
 case load t a=>simp only[execOp,h a c_]
 case store t a x=>simp only[execOp,h a c_,h x c_]
 case nilCheck x=>simp only[execOp,h x c_]
 case binOp A t x y yt=>simp only[execOp,h x c_,h y c_]
 case unOp A t x=>simp only[execOp,h x c_]
 case convert s d x=>simp only[execOp,h x c_]
 case makeFunc fn a b=>simp only[execOp,l (λx q=>h x (by simp;exact .inl (by simpa using q))),l (λx q=>h x (by simp;exact .inr (by simpa using q)))]
 case makeMap t r=>simp only[execOp,g h]
 case makeSlice t a b=>simp only[execOp,h a c_,h b c_]
 case slice t x a b c=>
  simp only[Y0,Ek]at h;simp only[execOp,h x c_,g (λy u=>h y (.inl (.inl (.inr u)))),g (λy u=>h y (.inl (.inr u))),g (λy u=>h y (.inr u))]
 case fieldAddr t x f=>simp only[execOp,h x c_]
 case field t x f=>simp only[execOp,h x c_]
 case indexAddr t x i=>simp only[execOp,h x c_,h i c_]
 case index t x i=>simp only[execOp,h x c_,h i c_]
 case lookup t x i ok=>simp only[execOp,h x c_,h i c_]
 case mapUpdate t m k v=>simp only[execOp,h m c_,h k c_,h v c_]
 case insert t m k v=>simp only[execOp,h m c_,h k c_,h v c_]
 case mapEntry t m k=>simp only[execOp,h m c_,h k c_]
 case entryStore t m s v=>simp only[execOp,h m c_,h s c_,h v c_]
 case extract t i=>simp only[execOp,h t c_]
 case call c=>
  have p:resolve e c B=resolve t7 c B:=by
   unfold resolve;simp only[Call.operands,Y0,Ek]at h
   grind
  simp only[execOp,p]
def ph{C:m'}{e t7:Tg}{o:Oper}(N:Tc)(b_:TC)(G:az N b_ o≠none)(h:∀x∈o.op.operands.toList,e x=t7 x):au C b_ e o=au C b_ t7 o:=by
 have u:=execOp_congr N b_ G h;have w:∀(f:TR->Bool),(o.op.operands.toList.all λx=>f (e x))=(o.op.operands.toList.all λx=>f (t7 x)):=by
  grind
 have q:cK C e o=cK C t7 o:=by
  unfold cK;rw[w flat,u]
 have j:∀ {r:Th},(∀x∈r.toArray.toList,e x=t7 x)->r.map e=r.map t7:=by
  intro r u;cases r with
  |none=>rfl
  |some y=>simp[u y c_]
 have B:∀ {l:Array (Nat×Operand)},(∀x∈l.toList.map (·.2),e x=t7 x)->(l.toList.map λp=>(p.1,e p.2))=(l.toList.map λp=>(p.1,t7 p.2)):=by
  intro l u;refine WN λp q=>?_
  grind
 have A:∀(f:TR->Bool) {l:Array (Nat×Operand)},(∀x∈l.toList.map (·.2),e x=t7 x)->(l.toList.all λp=>f (e p.2))=(l.toList.all λp=>f (t7 p.2)):=by
  grind
 obtain⟨dst,F,H,pos,g,guard⟩:=o;cases F<;>simp only[az,ne_eq,not_true_eq_false,not_false_eq_true,reduceCtorEq]at G<;>simp only[Op.operands]at h
 case move x=>simp only[au,h x c_]
 case assign x=>simp only[au,h x c_]
 case pick c a b=>simp only[au,h c c_,h a c_,h b c_]
 case alloc t=>rfl
 case box t x=>simp only[au,h x c_]
 case build t ps=>simp only[au,B (by simpa using h),A (λv=>!aH v) (by simpa using h)]
 case buildSlice t n ps=>simp only[au,B (by simpa using h),A (λv=>v.cells.toList.all bh) (by simpa using h)]
 case load t a=>simp only[au,h a c_]
 case store t a x=>simp only[au,h a c_,h x c_]
 case nilCheck x=>simp only[au,h x c_]
 case binOp F t x y yt=>simp only[au,h x c_,h y c_,q]
 case unOp F t x=>simp only[au,q]
 case convert s d x=>simp only[au,q]
 case makeFunc fn a b=>
  have D:a.map e=a.map t7:=v6.1 kb;have E:b.map e=b.map t7:=v6.1 kb;simp only[au,D,E]
 case makeMap t r=>simp only[au,j h]
 case makeSlice t a b=>simp only[au,h a c_,h b c_]
 case slice t x a b c=>
  simp only[Y0,Ek]at h;simp only[au,h x c_,j (λy z=>h y (.inl (.inl (.inr z)))),j (λy z=>h y (.inl (.inr z))),j (λy z=>h y (.inr z)),q]
 case fieldAddr t x f=>simp only[au,h x c_]
 case field t x f=>simp only[au,h x c_]
 case indexAddr t x i=>simp only[au,h x c_,h i c_]
 case index t x i=>simp only[au,h x c_,h i c_]
 case lookup t x i ok=>simp only[au,h x c_,h i c_]
 case mapUpdate t m k v=>simp only[au,h m c_,h k c_,h v c_]
 case insert t m k v=>simp only[au,h m c_,h k c_,h v c_]
 case mapEntry t m k=>simp only[au,h m c_,h k c_]
 case entryStore t m s v=>simp only[au,h m c_,h s c_,h v c_]
 case extract t i=>simp only[au,h t c_]
 case call c=>
  simp only[Call.operands,Y0,Ek]at h;have D:c.args.toList.map e=c.args.toList.map t7:=WN λx u=>h x (.inr u);have E:∀b,aX C e b (c.args.toList.map e) c.argTypes ⟨dst,.call c,H,pos,g,guard⟩=aX C t7 b (c.args.toList.map t7) c.argTypes ⟨dst,.call c,H,pos,g,guard⟩:=by
   intro b;unfold aX;rw[D,q]
  simp only[au,gM];cases I:c.callee with
  |builtin b=>exact E b
  |value f=>grind
  |invoke r m=>rfl
structure Ef where
 v:Value
 rw:Option (Nat×Option (Tn))
 hp:Option (Tu)
def Ef.on(e:Ef)(dst:Tq)(g9:St):St:=
 ({ tmps:=g9.tmps,loc:=(match e.rw with|some p=>g9.loc.set p.1 p.2|none=>g9.loc),heap:=e.hp.getD g9.heap }:St).put dst e.v
def CP(N:Tc)(b_:TC)(ops:To)(o:Oper)(g9 i9:St):Prop:=
 (∀t∈bj ops o,i9.tmps[t]?=g9.tmps[t]?)/\match az N b_ o with
 |some (.row s _)=>i9.loc[s]?=g9.loc[s]?
 |some .hr=>i9.heap=g9.heap
 |some .hw=>i9.heap=g9.heap
 |_=>True
def DJ(N:Tc)(B:Below):Prop:=(∀f args H r H',N f=some (2*args.length)->B.call f args H r H'->H'=H/\∀a,B.call f args a r a)/\
 ∀f args H r H',N f=some (2*args.length+1)->B.call f args H r H'->H'=H
def uv(m:Option MC)(e:Ef):Prop:=
 (∀p,e.rw=some p->m=some (.row p.1 true))/\(e.hp≠none->m=some .hw)
def mr{g9 i9:St}{x:TK}(h:∀t,x = .tmp t->i9.tmps[t]?=g9.tmps[t]?):jw i9.tmps x=jw g9.tmps x:=by
 cases x with
 |tmp t=>simp[jw,List.getD_eq_getElem?_getD,h t rfl]
 |_=>rfl
def Ah{N:Tc}{b_:TC}{ops:To}{o:Oper}{g9 i9:St}(h:CP N b_ ops o g9 i9):∀x∈o.op.operands.toList,jw i9.tmps x=jw g9.tmps x:=by
 intro x b;refine mr λt a=>h.1 t ?_;subst a;simp only[bj,Ek,Q_]
 grind
def nG{N:Tc}{b_:TC}{ops:To}{o:Oper}{g9 i9:St}(h:CP N b_ ops o g9 i9):cB ops i9.tmps o=cB ops g9.tmps o:=by
 unfold cB;split
 .rfl
 next j a c=>
  cases b:(ops[j]?).bind (·.dst)with
  |none=>rfl
  |some d=>
   simp only[Ds];rw[h.1 d (by simp[bj,c,b])]
def pp(N:Tc)(m:Option MC):DS->Prop
 | .val _=>True
 | .FC s _=>m=some (.row s true)
 | .Hc s _=>m=some (.row s false)
 | .FD s _=>m=some (.row s true)
 | .EZ _=>m=some .hr
 | .F9 _=>m=some .hw
 | .call f args=>(m=some (.neu f)/\N f=some (2*args.length))∨(m=some .hr/\N f=some (2*args.length+1))∨m=some .hw
 | .yield _ _=>m=some .hw
def eY{N:Tc}{m:Option MC}{x:Tk}{e:DS}(h:x.map DS.val=some e):pp N m e:=by
 obtain⟨v,_,rfl⟩:=DC.1 h;trivial
def ey{C:m'}{a:Tg}{o:Oper}{N:Tc}{m:Option MC}{e:DS}(h:cK C a o=some e):pp N m e:=by
 unfold cK at h;split at h
 .split at h
  .split at h
   .cases h;trivial
   .cases h
  .cases h
 .cases h
def Vo{N:Tc}{m:Option MC}{a:Tk}{b:Option DS}{e:DS}(c:b=some e->pp N m e)(h:pZ a b=some e):pp N m e:=by
 unfold pZ at h;split at h
 .cases h;trivial
 .exact c h
def pC{C:m'}{N:Tc}{b_:TC}{o:Oper}{t:TP}{v:TR}{e:DS}(ho:(∃y,o.op = .box t y)∨o.op = .alloc t)(h:cJ C b_ o.dst t v=some e):pp N (az N b_ o) e:=by
 unfold cJ at h;split at h
 .cases h
 .split at h
  .cases h
  next d b=>
   split at h
   .cases h
   .split at h
    next a=>
     cases h;rcases ho with⟨y,ho⟩|ho<;>(simp only[pp,az,ho,b];rw[rv a])
    next a=>
     cases h;rcases ho with⟨y,ho⟩|ho<;>(simp only[pp,az,ho,b];rw[te a])
def iP{C:m'}{N:Tc}{b_:TC}{w:Tg}{o:Oper}{e:DS}(A:∀g,w (.func g) = .func (.func g) #[] #[])(D:az N b_ o≠none)(d:au C b_ w o=some e):pp N (az N b_ o) e:=by
 unfold au at d;split at d
 .cases d;trivial
 .cases d;trivial
 .split at d
  .cases d;trivial
  .cases d
 next t h=>
  obtain⟨z,_,d⟩:=EE.1 d;exact pC (.inr h) d
 next t x h=>
  exact pC (.inl ⟨x,h⟩) d
 .split at d
  .exact eY d
  .cases d
 next t n H h=>
  split at d
  .obtain⟨r,_,rfl⟩:=DC.1 d;simp only[pp,az,h]
  .cases d
 next t a h=>
  unfold dX at d;split at d
  next j=>
   split at d
   .cases d;simp only[pp,az,h,j]
   .obtain⟨p,_,rfl⟩:=DC.1 d;simp only[pp,az,h,j]
  .obtain⟨p,_,d⟩:=EE.1 d;exact eY d
  next s j=>
   obtain⟨p,_,rfl⟩:=DC.1 d;simp only[pp,az,h,j]
 next t a x h=>
  unfold fg at d;split at d
  .cases d
  .split at d
   next j=>
    obtain⟨p,_,rfl⟩:=DC.1 d;simp only[pp,az,h,j]
   .cases d
   next s j=>
    obtain⟨p,_,rfl⟩:=DC.1 d;simp only[pp,az,h,j]
 .split at d<;>cases d<;>trivial
 .split at d
  .split at d
   .split at d
    .cases d;trivial
    .cases d
   .exact ey d
  .split at d
   .split at d
    .cases d;trivial
    .cases d
   .exact ey d
  .exact ey d
 .split at d
  .cases d
  .cases d;trivial
 next t r h=>
  split at d
  .cases d;simp only[pp,az,h]
  .cases d
 next t l c h=>
  cases d;simp only[pp,az,h]
 next t x E B F h=>
  split at d
  .split at d
   .exact eY d
   .cases d;simp only[pp,az,h]
  .exact Vo ey d
 .exact eY d
 .exact eY d
 .exact eY d
 .exact eY d
 next t m k G h=>
  split at d
  .exact eY d
  .cases d;simp only[pp,az,h]
 next t m k v h=>
  cases d;simp only[pp,az,h]
 next t m k v h=>
  cases d;simp only[pp,az,h]
 next t m k h=>
  cases d;simp only[pp,az,h]
 next t m s v h=>
  cases d;simp only[pp,az,h]
 .split at d
  .split at d
   .cases d
   .exact eY d
  .cases d
 next c h=>
  unfold gM at d;simp only at d;cases i:c.callee with
  |invoke r m=>simp_all
  |builtin b=>
   simp only[i]at d;unfold aX at d;split at d
   .split at d
    .cases d
    .cases d;simp only[pp,az,h,i]
   .split at d
    .cases d;trivial
    .cases d;simp only[pp,az,h,i]
    .cases d;trivial
    .exact ey d
   .split at d
    .cases d;trivial
    .cases d;trivial
    .cases d;trivial
    .cases d
   .cases d;simp only[pp,az,h,i]
   .cases d;simp only[pp,az,h,i]
   .cases d;simp only[pp,az,h,i]
   .exact ey d
  |value f=>
   simp only[i]at d;split at d
   .cases d
   .split at d
    next g first q u=>
     split at d
     .cases d;cases f with
      |func y=>
       rw[A]at u;cases u;simp only[az,h,i,pp]
       grind
      |_=>simp only[pp,az,h,i,or_true]
     .cases d
    next l first q u=>
     split at d
     .cases d;cases f with
      |func y=>simp_all
      |_=>simp only[pp,az,h,i]
     .cases d
    .cases d
 .exact ey d
 .exact ey d
 .cases d
def jl{C:m'}{B:Below}{N:Tc}(L:DJ N B){b_:TC}{ops:To}{i:Nat}{o:Oper}(I:ops[i]?=some o)(m:az N b_ o≠none){g9 A:St}(u:ao C B b_ ops i g9 A) :
  ∃e:Ef,A=e.on o.dst g9/\uv (az N b_ o) e/\∀i9,CP N b_ ops o g9 i9->ao C B b_ ops i i9 (e.on o.dst i9):=by
 unfold ao at u;simp only[I]at u;have val:∀v:Value,A=g9.put o.dst v->(∀i9,CP N b_ ops o g9 i9->ao C B b_ ops i i9 (i9.put o.dst v))->
   ∃e:Ef,A=e.on o.dst g9/\uv (az N b_ o) e/\∀i9,CP N b_ ops o g9 i9->ao C B b_ ops i i9 (e.on o.dst i9):=by
  intro v j h;exact⟨⟨v,none,none⟩,j,⟨λp c=>(by cases c),λh=>absurd rfl h⟩,h⟩
 split at u
 .exact u.elim
 next J=>
  refine val undef u λi9 b=>?_;unfold ao;simp only[I,nG b,J]
 next J=>
  have step:∀ {i9 D:St},CP N b_ ops o g9 i9->((∃e,au C b_ (jw i9.tmps) o=some e/\mY B e o.dst i9 D)∨(∃v,nB C i9.tmps o v/\D=i9.put o.dst v))->ao C B b_ ops i i9 D:=by
   intro i9 D b h;unfold ao;simp only[I,nG b,J];exact h
  rcases u with⟨e,n,t⟩|⟨v,j,rfl⟩
  .have k:∀i9,CP N b_ ops o g9 i9->au C b_ (jw i9.tmps) o=some e:=λi9 b=>by
    rw[ph N b_ m (Ah b)];exact n
   cases e with
   |val v=>
    obtain⟨p,c,rfl⟩:=t;cases c;exact val v rfl λi9 b=>step b (.inl ⟨_,k i9 b,_,rfl,rfl⟩)
   |FC s E=>
    obtain⟨p,c,rfl⟩:=t;simp only[aW]at c;split at c
    next g=>
     cases c;have a:az N b_ o=some (.row s true):=iP (λ_=>rfl) m n;refine⟨⟨.pointer (some ⟨s,0,some 0⟩),some (s,some E),none⟩,rfl,⟨λp c=>by cases c;exact a,λh=>absurd rfl h⟩,λi9 b=>step b (.inl ⟨_,k i9 b,({ i9 with loc:=i9.loc.set s (some E) },.pointer (some ⟨s,0,some 0⟩)),?_,rfl⟩)⟩;have:=b.2;rw[a]at this;simp only[aW,this,g]
    .cases c
   |Hc s f=>
    obtain⟨p,c,rfl⟩:=t;simp only[aW]at c;split at c
    next E g=>
     obtain⟨v,j,rfl⟩:=DC.1 c;have a:az N b_ o=some (.row s false):=iP (λ_=>rfl) m n;refine val v rfl λi9 b=>step b (.inl ⟨_,k i9 b,(i9,v),?_,rfl⟩);have:=b.2;rw[a]at this;simp only[aW,this,g,j,EO]
    .cases c
   |FD s f=>
    obtain⟨p,c,rfl⟩:=t;simp only[aW]at c;split at c
    next E g=>
     obtain⟨z,j,rfl⟩:=DC.1 c;have a:az N b_ o=some (.row s true):=iP (λ_=>rfl) m n;refine⟨⟨undef,some (s,some z),none⟩,rfl,⟨λp c=>by cases c;exact a,λh=>absurd rfl h⟩,λi9 b=>step b (.inl ⟨_,k i9 b,({ i9 with loc:=i9.loc.set s (some z) },undef),?_,rfl⟩)⟩;have:=b.2;rw[a]at this;simp only[aW,this,g,j,EO]
    .cases c
   |EZ f=>
    obtain⟨p,c,rfl⟩:=t;simp only[aW]at c;obtain⟨v,j,rfl⟩:=DC.1 c;have a:az N b_ o=some .hr:=iP (λ_=>rfl) m n;refine val v rfl λi9 b=>step b (.inl ⟨_,k i9 b,(i9,v),?_,rfl⟩);have:=b.2;rw[a]at this;simp only[aW,this,j,EO]
   |F9 f=>
    obtain⟨p,c,rfl⟩:=t;simp only[aW]at c;obtain⟨q,j,rfl⟩:=DC.1 c;have a:az N b_ o=some .hw:=iP (λ_=>rfl) m n;refine⟨⟨q.2,none,some q.1⟩,rfl,⟨λp c=>(by cases c),λ_=>a⟩,λi9 b=>step b (.inl ⟨_,k i9 b,({ i9 with heap:=q.1 },q.2),?_,rfl⟩)⟩;have:=b.2;rw[a]at this;simp only[aW,this,j,EO]
   |call f d=>
    obtain⟨r,H,F,rfl⟩:=t;have a:(az N b_ o=some (.neu f)/\N f=some (2*d.length))∨(az N b_ o=some .hr/\N f=some (2*d.length+1))∨az N b_ o=some .hw:=iP (λ_=>rfl) m n;rcases a with⟨a,G⟩|⟨a,G⟩|a
    .obtain⟨rfl,K⟩:=L.1 f d _ r H G F;exact val r rfl λi9 b=>step b (.inl ⟨_,k i9 b,r,i9.heap,K i9.heap,rfl⟩)
    .obtain rfl:=L.2 f d _ r H G F;refine val r rfl λi9 b=>step b (.inl ⟨_,k i9 b,r,i9.heap,?_,rfl⟩);have:=b.2
     simp_all
    .refine⟨⟨r,none,some H⟩,rfl,⟨λp c=>(by cases c),λ_=>a⟩,λi9 b=>step b (.inl ⟨_,k i9 b,r,H,?_,rfl⟩)⟩;have:=b.2
     simp_all
   |yield l d=>
    obtain⟨r,H,F,rfl⟩:=t;have a:az N b_ o=some .hw:=iP (λ_=>rfl) m n;refine⟨⟨r,none,some H⟩,rfl,⟨λp c=>(by cases c),λ_=>a⟩,λi9 b=>step b (.inl ⟨_,k i9 b,r,H,?_,rfl⟩)⟩;have:=b.2
    simp_all
  .refine val v rfl λi9 b=>step b (.inr ⟨v,?_,rfl⟩);obtain⟨M,K,O,P⟩:=j;have y:=Ah b;refine⟨M,?_,O,λw=>?_⟩
   .simp_all
   .rw[execOp_congr N b_ m (t7:=λx=>FS (jw g9.tmps x)) λx Q=>by rw[y x Q]];exact P w
def MC.ok2:MC->MC->Bool
 | .no,_=>true
 |_,.no=>true
 | .row s w,.row a w'=>!Nat.beq s a||(!w && !w')
 | .row _ _,_=>true
 |_,.row _ _=>true
 | .neu _,_=>true
 |_,.neu _=>true
 | .hr,.hr=>true
 |_,_=>false
def bw(d:Tq)(l:TC):Bool:=match d with
 |some d=>!l.contains d
 |none=>true
def bg(a b:Tq):Bool:=match a,b with
 |some a,some b=>!Nat.beq a b
 |_,_=>true
def AN(N:Tc)(b_:TC)(ops:To)(a b:Oper):Bool:=
 match az N b_ a,az N b_ b with
 |some m,some n=>(m.ok2 n||kQ a b)&&bw a.dst (bj ops b)&&bw b.dst (bj ops a)&&bg a.dst b.dst
 |_,_=>false
def tP{g9:St}{d:Tq}{v:TR}{t:Nat}(h:∀x,d=some x->x≠t):(g9.put d v).tmps[t]?=g9.tmps[t]?:=by
 cases d with
 |none=>rfl
 |some x=>simp only[St.put];simp_all
def tQ{g9:St}{d:Tq}{v:TR}:(g9.put d v).loc=g9.loc:=by cases d<;>rfl
def lF{g9:St}{d:Tq}{v:TR}:(g9.put d v).heap=g9.heap:=by cases d<;>rfl
def tR{g9:St}{d:Tq}{v:TR}:(g9.put d v).tmps=(match d with|some d=>g9.tmps.set d v|none=>g9.tmps):=by cases d<;>rfl
def ml{e:Ef}{d:Tq}{g9:St}:(e.on d g9).tmps=(match d with|some d=>g9.tmps.set d e.v|none=>g9.tmps):=by unfold Ef.on;rw[tR]
def zC{e:Ef}{d:Tq}{g9:St}:(e.on d g9).loc=(match e.rw with|some p=>g9.loc.set p.1 p.2|none=>g9.loc):=by unfold Ef.on;rw[tQ]
def dY{e:Ef}{d:Tq}{g9:St}:(e.on d g9).heap=e.hp.getD g9.heap:=by unfold Ef.on;rw[lF]
def Az{N:Tc}{b_:TC}{ops:To}{a b:Oper}{m n:MC}(o:az N b_ a=some m)(q:az N b_ b=some n)(c:m.ok2 n=true∨n.ok2 m=true)
  (i:bw a.dst (bj ops b)=true) {e:Ef} (g:uv (az N b_ a) e) (g9:St):CP N b_ ops b g9 (e.on a.dst g9):=by
 refine⟨λt hr=>?_,?_⟩
 .unfold Ef.on;refine tP λx r j=>?_;subst j;rw[r]at i;simp only[bw,gE,hj,decide_eq_false_iff_not]at i;exact i hr
 .rw[o]at g;rw[q];cases n with
  |no=>trivial
  |neu f=>trivial
  |row s w=>
   show(e.on a.dst g9).loc[s]?=_;rw[zC];cases l:e.rw with
   |none=>rfl
   |some p=>
    have d:=g.1 p l;cases d;have:p.1≠s:=by
     intro j;subst j;rcases c with h|h<;>simp[MC.ok2]at h
    simp_all
  |hr=>
   show(e.on a.dst g9).heap=_;rw[dY];cases k:e.hp with
   |none=>rfl
   |some H=>
    have d:=g.2 (by rw[k];simp);cases d;rcases c with h|h<;>cases h
  |hw=>
   show(e.on a.dst g9).heap=_;rw[dY];cases k:e.hp with
   |none=>rfl
   |some H=>
    have d:=g.2 (by rw[k];simp);cases d;rcases c with h|h<;>cases h
def set_comm{i7:Type}(l:List i7){i j:Nat}(a b:i7)(h:i≠j):(l.set i a).set j b=(l.set j b).set i a:=List.set_comm _ _ h
def K1{N:Tc}{b_:TC}{a b:Oper}{m n:MC}(k:az N b_ a=some m)(l:az N b_ b=some n)(c:m.ok2 n=true)(o:bg a.dst b.dst=true){e f:Ef}
  (r:uv (az N b_ a) e) (s:uv (az N b_ b) f) (g9:St):f.on b.dst (e.on a.dst g9)=e.on a.dst (f.on b.dst g9):=by
 have t:(f.on b.dst (e.on a.dst g9)).tmps=(e.on a.dst (f.on b.dst g9)).tmps:=by
  simp only[ml];cases h:a.dst with
  |none=>rfl
  |some x=>
   cases i:b.dst with
   |none=>rfl
   |some y=>
    rw[h,i]at o;have:x≠y:=by
     intro j;subst j;simp[bg]at o
    exact set_comm _ _ _ this
 have u:(f.on b.dst (e.on a.dst g9)).loc=(e.on a.dst (f.on b.dst g9)).loc:=by
  simp only[zC];cases h:e.rw with
  |none=>rfl
  |some p=>
   cases i:f.rw with
   |none=>rfl
   |some q=>
    have d:=r.1 p h;have g:=s.1 q i;rw[k]at d;rw[l]at g;cases d;cases g;have:p.1≠q.1:=by
     intro j;rw[j]at c;simp[MC.ok2]at c
    exact set_comm _ _ _ this
 have v:(f.on b.dst (e.on a.dst g9)).heap=(e.on a.dst (f.on b.dst g9)).heap:=by
  simp only[dY];cases h:e.hp with
  |none=>rfl
  |some p=>
   cases i:f.hp with
   |none=>rfl
   |some q=>
    have d:=r.2 (by rw[h];simp);have g:=s.2 (by rw[i];simp);rw[k]at d;rw[l]at g;cases d;cases g;cases c
 generalize f.on b.dst (e.on a.dst g9)=x at *;generalize e.on a.dst (f.on b.dst g9)=y at *;cases x;simp_all
def yo{ops:To}{o:Oper}{g9 i9:St}(h:∀t∈bj ops o,i9.tmps[t]?=g9.tmps[t]?):cB ops i9.tmps o=cB ops g9.tmps o:=by
 unfold cB;split
 .rfl
 next j a c=>
  cases b:(ops[j]?).bind (·.dst)with
  |none=>rfl
  |some d=>
   simp only[Ds];rw[h d (by simp[bj,c,b])]
def zH{ops:To}{o:Oper}{g9 i9:St}(h:∀t∈bj ops o,i9.tmps[t]?=g9.tmps[t]?):∀x∈o.op.operands.toList,jw i9.tmps x=jw g9.tmps x:=by
 intro x b;refine mr λt a=>h t ?_;subst a;simp only[bj,Ek,Q_]
 grind
def BG{C:m'}{B:Below}{N:Tc}(k:DJ N B){b_:TC}{ops:To}{i j:Nat}{a b:Oper}(l:ops[i]?=some a)(m:ops[j]?=some b)(d:kQ a b=true)
  (e:bw a.dst (bj ops b)=true) (f:bw b.dst (bj ops a)=true) (g:bg a.dst b.dst=true) {g9 j6 c:St}
  (h1:ao C B b_ ops i g9 j6) (h:ao C B b_ ops j j6 c):∃i9,ao C B b_ ops j g9 i9/\ao C B b_ ops i i9 c:=by
 cases d
def Xf{C:m'}{B:Below}{N:Tc}(k:DJ N B){b_:TC}{ops:To}{i j:Nat}{a b:Oper}(r:ops[i]?=some a)(s:ops[j]?=some b)(c:AN N b_ ops a b=true){g9 j6 u:St}
  (h1:ao C B b_ ops i g9 j6) (q:ao C B b_ ops j j6 u):∃i9,ao C B b_ ops j g9 i9/\ao C B b_ ops i i9 u:=by
 unfold AN at c;split at c
 next m n d g=>
  simp only[vd]at c;obtain⟨⟨⟨c1,l⟩,o⟩,p⟩:=c;rw[Gk]at c1;rcases c1 with c1|c1
  case inr=>exact BG k r s c1 l o p h1 q
  obtain⟨e,rfl,v,y⟩:=jl k r (by rw[d];simp) h1;obtain⟨f,rfl,w,z⟩:=jl k s (by rw[g];simp) q;have A:CP N b_ ops b (e.on a.dst g9) g9:=by
   have:=Az d g (.inl c1) l v g9;refine⟨λt x=>(this.1 t x).symm,?_⟩;have h:=this.2
   grind
  have D:CP N b_ ops a g9 (f.on b.dst g9):=Az g d (.inr c1) o w g9;refine⟨f.on b.dst g9,z g9 A,?_⟩;rw[K1 d g c1 p v w g9];exact y _ D
 .cases c
end
end Sx
namespace Sx
section
variable [Co] {C:m'} {B:Below} {N:Tc} {b_:TC} {ops:To}
def rC{i:Nat}{post:TC}:∀(pre:TC),(∀k∈pre,∀g9 j6 a:St,ao C B b_ ops k g9 j6->ao C B b_ ops i j6 a->∃i9,ao C B b_ ops i g9 i9/\ao C B b_ ops k i9 a)->
  ∀g9 a:St,br C B b_ ops (pre++i :: post) g9 a->br C B b_ ops (i :: (pre++post)) g9 a
 | [],_,g9,a,h=>h
 |k :: pre,b,g9,a,⟨j6,h1,d⟩=>by
  obtain⟨c,e,f⟩:=rC pre (λk l=>b k (by simp[l])) j6 a d;obtain⟨i9,g,j⟩:=b k c_ g9 j6 c h1 e;exact⟨i9,g,c,j,f⟩
inductive IH(ops:To)(k:Nat):Nat->Prop
 |edge {i:Nat} {o:Oper} {e:Edge} (ho:ops[i]?=some o) (he:e∈o.after.toList) (hb:Region.binds .any e=true) (hk:e.on=k):IH ops k i
 |step {i:Nat} {o:Oper} {e:Edge} (ho:ops[i]?=some o) (he:e∈o.after.toList) (hb:Region.binds .any e=true) (h:IH ops k e.on):IH ops k i
def N9{b:TC}(d:∀(i k:Nat),(b.getD i 0).testBit k=true->IH ops k i){i:Nat}{o:Oper}(n:ops[i]?=some o){k:Nat}(h:(JZ b o).testBit k=true):IH ops k i:=by
 unfold JZ at h;have f:∀(l:List Edge) (m:Nat),(∀e∈l,e∈o.after.toList)->(m.testBit k=true->IH ops k i)->
   (l.foldl (λm e=>match Region.binds .any e with
    |true=>Nat.lor (Nat.lor m (Nat.shiftLeft 1 e.on)) (b.getD e.on 0)
    |false=>m) m).testBit k=true->IH ops k i:=by
  intro l
  induction l with
  |nil=>simp_all
  |cons e l r=>
   intro m g q h;simp only[WJ]at h;refine r _ (λe p=>g e (by simp[p])) (λj=>?_) h;cases c:Region.binds .any e with
   |false=>simp_all
   |true=>
    simp only[c]at j;have a:((m ||| (1 <<< e.on)) ||| b.getD e.on 0).testBit k=true:=j;rw[Nat.testBit_or,Nat.testBit_or,Gk,Gk]at a;rcases a with(a|a)|a
    .exact q a
    .rw[Nat.one_shiftLeft,Nat.testBit_two_pow]at a;exact .edge n (g e c_) c (by simpa using a)
    .exact .step n (g e c_) c (d _ _ a)
 exact f _ 0 (λ_ h=>h) (λh=>by simp at h) h
def oN:∀(l:TA) (a:TC),ops.toList.drop a.length=l->(∀(i k:Nat),(a.getD i 0).testBit k=true->IH ops k i)->∀(i k:Nat),((Fi l a).getD i 0).testBit k=true->IH ops k i
 | [],a,_,b=>b
 |o :: l,a,c,b=>by
  have f:ops[a.length]?=some o:=by
   have:(ops.toList.drop a.length)[0]?=some o:=by rw[c];rfl
   simpa using this
  refine oN l (a++[JZ a o]) (by rw[Gv,←n5,c];rfl) λi k h=>?_;rw[List.getD_eq_getElem?_getD,r5]at h;split at h
  .simp_all
  next d=>
   by_cases e:i=a.length
   .subst e;simp at h;exact N9 b f h
   grind
def fC:TA->Nat->Bool
 | [],_=>true
 |o :: l,i=>(o.after.toList.all λe=>!Region.binds .any e||Nat.blt e.on i)&&fC l (i+1)
def sH(N:Tc)(b_:TC)(ops:To)(b:Oper)(m:Nat):TA->Nat->Bool
 | [],_=>true
 |a :: l,k=>(Nat.testBit m k||AN N b_ ops a b)&&sH N b_ ops b m l (k+1)
def tL(N:Tc)(b_:TC)(ops:To)(ms:TC):TA->TA->Nat->Bool
 |_,[],_=>true
 |pre,b :: l,i=>sH N b_ ops b (ms.getD i 0) pre 0&&tL N b_ ops ms (pre++[b]) l (i+1)
def vX(N:Tc)(b_:TC)(ops:To):Bool:=
 fC ops.toList 0&&tL N b_ ops (Fi ops.toList []) [] ops.toList 0
def ep:∀ {l:TA} {i:Nat},fC l i=true->∀(j:Nat) o,l[j]?=some o->∀e∈o.after.toList,Region.binds .any e=true->e.on<i+j
 | [],i,_,j,o,h,_,_,_=>by simp at h
 |o :: l,i,h,j,p,a,e,b,c=>by
  simp only[fC,vd,A_]at h;cases j with
  |zero=>
   simp at a;subst a;have:=h.1 e b
   simp_all
  |succ j=>
   have:=ep h.2 j p (by simpa using a) e b c;omega
def qU{b:Oper}{m:Nat}:∀ {l:TA} {k:Nat},sH N b_ ops b m l k=true->∀(j:Nat) a,l[j]?=some a->m.testBit (k+j)=true∨AN N b_ ops a b=true
 | [],k,_,j,a,h=>by simp at h
 |a :: l,k,h,j,c,d=>by
  simp only[sH,vd,Gk]at h;cases j with
  |zero=>simp_all
  |succ j=>
   have:=qU h.2 j c (by simpa using d)
   grind
def rO{ms:TC}:∀ {l pre:TA} {i:Nat},pre.length=i->tL N b_ ops ms pre l i=true->∀(j:Nat) b,l[j]?=some b->∀(k:Nat) a,k<i+j->(pre++l)[k]?=some a->(ms.getD (i+j) 0).testBit k=true∨AN N b_ ops a b=true
 | [],pre,i,_,_,j,b,h,_,_,_,_=>by simp at h
 |b :: l,pre,i,f,h,j,c,e,k,a,g,d=>by
  simp only[tL,vd]at h;cases j with
  |zero=>
   simp at e;subst e;rw[Fe a_]at d;have:=qU h.1 k a d;simpa using this
  |succ j=>
   have:=rO (pre:=pre++[b]) (i:=i+1) (by simp[f]) h.2 j c (by simpa using e) k a a_ (by simpa using d)
   grind
def Bq(h:vX N b_ ops=true){i k:Nat}{a b:Oper}(d:ops[i]?=some b)(c:ops[k]?=some a)(e:k<i):IH ops k i∨AN N b_ ops a b=true:=by
 simp only[vX,vd]at h;have:=rO (pre:=[]) (i:=0) rfl h.2 i b (by simpa using d) k a a_ (by simpa using c);rw[ER]at this;exact this.imp (λh=>oN ops.toList [] rfl (λi k h=>by simp at h) i k h) id
def Bp(h:vX N b_ ops=true){i:Nat}{o:Oper}(c:ops[i]?=some o){e:Edge}(b:e∈o.after.toList)(a:Region.binds .any e=true):e.on<i:=by
 simp only[vX,vd]at h;have:=ep h.1 i o (by simpa using c) e b a;omega
def EG(n:Nat)(a:Array Bool):TC:=(range n).filter λi=>!a.getD i true
def qN{a:Array Bool}(c:∀(x:Nat) o,a.getD x true=true->ops[x]?=some o->∀e∈o.after.toList,Region.binds .any e=true->a.getD e.on false=true){k i:Nat}(h:IH ops k i)
  (j:∀o,ops[i]?=some o->∀e∈o.after.toList,Region.binds .any e=true->a.getD e.on false=true):a.getD k false=true:=by
 induction h with
 |edge f d b g=>grind
 |step f d b h l=>
  grind
abbrev _root_.Tx:=Nat->Bool
def iM{p:Tx}{i:Nat}:∀ {l:TC},l.Nodup->i∈l.filter p->∃pre post,l.filter p=pre++i :: post/\(l.filter λj=>p j&&j != i)=pre++post/\(∀k∈pre,k∈l.filter p/\k≠i)
 | [],_,h=>by simp at h
 |x :: l,a,h=>by
  rw[zS]at a;by_cases f:x=i
  .subst f;have b:p x=true:=(Gm.1 h).2;refine⟨[],l.filter p,by simp[b],?_,c_⟩;simp only[DA,List.filter_cons,b,bne_self_eq_false,Bool.and_false,D7,if_false];refine qc9 λj d=>?_;have:j≠x:=λe=>a.1 (e▸d);simp[this]
  .have c:i∈l.filter p:=by
    grind
   obtain⟨pre,post,g,m,e3⟩:=iM a.2 c
   grind
def nh{p:Tx}:∀ {n:Nat} {pre post:TC} {i:Nat},(range n).filter p=pre++i :: post->∀k∈pre,k<i:=by
 intro n pre post i h k b;have a:((range n).filter p).Pairwise (· < ·):=qcK _ fu;rw[h,j2]at a
 simp_all
def Yv(V:DJ N B)(c:vX N b_ ops=true):∀(fuel t:Nat) (a:Array Bool),a.size=ops.size->(EG ops.size a).length=fuel->
  (∀(x:Nat) o,a.getD x true=true->ops[x]?=some o->∀e∈o.after.toList,Region.binds .any e=true->a.getD e.on false=true)->
  ∀g9 p:St,br C B b_ ops (EG ops.size a) g9 p->br C B b_ ops (Region.linearise.go .any ops fuel t a []) g9 p
 |0,t,a,_,Y,_,g9,p,h=>by
  have:EG ops.size a=[]:=NM.1 Y;rw[this]at h;simpa[Region.linearise.go]using h
 |fuel+1,t,a,Q,Y,u,g9,p,h=>by
  simp only[Region.linearise.go];generalize z:((range ops.size).filter λi=>!a.getD i true&&((ops[i]?).map (·.after.all λe=>!Region.binds .any e||a.getD e.on false)).getD false)=rs;have f:∀i∈rs,i<ops.size/\a.getD i true=false/\∀o,ops[i]?=some o->∀e∈o.after.toList,Region.binds .any e=true->a.getD e.on false=true:=by
   intro i K;rw[←z,Gm,Cm]at K;obtain⟨h1,H⟩:=K;simp only[vd,gE]at H;refine⟨h1,H.1,λo r e D m=>?_⟩;have I:=H.2;rw[r]at I;simp only[EO,S8]at I;rw[bx]at I
   grind
  have P:rs≠[]:=by
   have hu:EG ops.size a≠[]:=jn;obtain⟨F,tl,n⟩:=qcV hu;have L:F∈EG ops.size a:=by rw[n];simp
   have d:=L;rw[EG,Gm,Cm]at d;have g:F∈rs:=by
    rw[←z,Gm,Cm];refine⟨d.1,?_⟩;simp only[vd];refine⟨d.2,?_⟩;have r:ops[F]?=some ops[F]:=by simp[d.1]
    rw[r];simp only[EO,S8];rw[bx];intro e D;cases m:Region.binds .any e with
    |false=>simp
    |true=>
     have ad:=Bp c r (by simpa using D) m;simp only[DP,w5];by_cases Z:a.getD e.on true=true
     .grind
     .exfalso;have E:e.on∈EG ops.size a:=by
       rw[EG,Gm,Cm]
       grind
      rw[n]at E;rcases DB.1 E with E|E
      .omega
      .have hs:(EG ops.size a).Pairwise (· < ·):=qcK _ fu;rw[n,Jp]at hs
       grind
   grind
  have b:0<rs.length:=C0.2 P;have v:rs[t%rs.length]?=some (rs[t%rs.length]'(Nd _ b)):=Gn (Nd _ b);rw[v];simp only;generalize K:rs[t%rs.length]'(Nd _ b)=i;have g:i∈rs:=jn;obtain⟨i1,i2,i3⟩:=f i g;rw[linearise_go_acc,List.reverse_singleton,List.singleton_append];have M:i∈(range ops.size).filter λj=>!a.getD j true:=by
   simp_all
  obtain⟨q,post,G,e2,e3⟩:=iM List.nodup_range M;have w:=nh G;have l:EG ops.size (a.setIfInBounds i true)=q++post:=by
   rw[←e2];unfold EG;refine qc9 λj hj=>?_;rw[WF,WF,YX]
   grind
  have O:=rC (C:=C) (B:=B) (b_:=b_) (ops:=ops) (i:=i) (post:=post) q (λk X g9 S p T U=>by
   obtain⟨m1,m2⟩:=e3 k X;rw[Gm,Cm]at m1;have W:ops[k]?=some ops[k]:=by simp[m1.1]
   have m:ops[i]?=some ops[i]:=by simp[i1]
   rcases Bq c m W (w k X)with s|J
   .exfalso;have:=qN u s i3
    grind
   .exact Xf V W m J T U) g9 p
  obtain⟨S,T,U⟩:=O (by rw[←G];exact h);refine⟨S,T,Yv V c fuel _ _ (by simp[Q]) ?_ ?_ S p (by rw[l];exact U)⟩
  .rw[l];have:(EG ops.size a).length=(q++post).length+1:=by
    show(List.filter _ _).length=_;rw[G];simp;omega
   omega
  .intro x o hx r e D m;have A:∀y,a.getD y false=true->(a.setIfInBounds i true).getD y false=true:=by
    intro y hy;rw[WF]at hy ⊢;rw[YX]
    grind
   by_cases R:x=i
   .simp_all
   .refine A _ (u x o ?_ r e D m);rw[WF,YX,te (λe=>R e.symm)]at hx
    simp_all
def Zq(d:DJ N B)(a:vX N b_ ops=true){g9 b:St}(h:br C B b_ ops (range ops.size) g9 b):eo C B b_ ops g9 b:=by
 refine .inl λt=>?_;have c:EG ops.size (Array.replicate ops.size false)=range ops.size:=by
  unfold EG
  simp_all
 refine Yv d a ops.size t (Array.replicate ops.size false) c_ (by rw[c];simp) (λx o g f=>?_) g9 b (by rw[c];exact h);have e:x<ops.size:=(IG.1 f).1
 simp_all
end
end Sx
namespace Sx
section
variable [Co] [C7] {C:m'}
def Lo(v:Value):Prop:=match v with
 | .pointer (some p)=>p.spot=some 0
 |_=>True
def zX{v:TR}(h:plain v=true):Lo v:=by
 cases v<;>try trivial
 rename_i a
 cases a<;>first|trivial|(simp[plain,jL,scalar,jB]at h)
def Mm{a:TC}{v:TR}(h:Lo v):Lo (jH a v):=by
 unfold jH
 repeat' split
 all_goals first|exact h|trivial
def HH(b:TC)(g9:St):Prop:=∀a∈b,∀v,g9.tmps[a]?=some v->Lo v
def vL(N:Tc)(b_ a:TC)(o:Oper):Bool:=
 (match az N b_ o with
 |some .no=>true
 |some (.row _ _)=>true
 |some (.neu _)=>true
 |_=>false) &&
 match o.dst with
 |some d=>!a.contains d||(Nat.beq (b_.getD d 0) (d+2)&&match o.op with
  | .alloc _=>true
  | .box _ _=>true
  |_=>false)
 |none=>true
def Gc(N:Tc)(b_ c:TC):Code->Bool
 | .skip | .label _ | .ret | .exit _=>true
 | .seq a b=>Gc N b_ c a&&Gc N b_ c b
 | .cond _ a b=>Gc N b_ c a&&Gc N b_ c b
 | .block _ b=>Gc N b_ c b
 | .loop b=>Gc N b_ c b
 | .scope b=>Gc N b_ c b
 | .region _ ops _=>ops.toList.all (vL N b_ c)
 |_=>false
def Hk(N:Tc)(b_:TC)(o:Oper):Bool:=match az N b_ o with
 |some .no=>true
 |some (.row _ _)=>true
 |some (.neu _)=>true
 |some .hr=>true
 |_=>false
def Rd(N:Tc)(b_:TC):Code->Bool
 | .skip | .label _ | .ret | .exit _=>true
 | .seq a b=>Rd N b_ a&&Rd N b_ b
 | .cond _ a b=>Rd N b_ a&&Rd N b_ b
 | .block _ b=>Rd N b_ b
 | .loop b=>Rd N b_ b
 | .scope b=>Rd N b_ b
 | .region _ ops _=>ops.toList.all (Hk N b_)
 |_=>false
def iC(l:List ResultVar):TC:=l.filterMap λr=>match r with
 | .cell a _=>some a
 | .tmp _=>none
def Ji(N:Tc)(C:m')(f:TQ)(n:Nat):Bool:=
 match C.P.funcs[f]? with
 |some c=>match c.body with
  |some b=>match Nat.beq (n%2) 0 with
   |true=>Gc N (C.b_ f) (iC c.results.toList) b&&(iC c.results.toList).all λa=>Nat.ble (n / 2) a
   |false=>C.opq f||Rd N (C.b_ f) b
  |none=>false
 |none=>false
def vM{b_:TC}{d:Nat}{t:TP}{v:TR}{e:DS}(b:b_.getD d 0=d+2)(a:cJ C b_ (some d) t v=some e):∃s vs,e = .FC s vs:=by
 unfold cJ at a
 grind
def Ac{b:TC}{g9 i9:St}{dst:Tq}{v:TR}(h:HH b g9)(f:i9.tmps=g9.tmps)(g:(∀d,dst=some d->d∉b)∨Lo v):HH b (i9.put dst v):=by
 intro a e x c;cases dst with
 |none=>exact h a e x (by rw[←f];exact c)
 |some d=>
  simp only[St.put,GS,f]at c;split at c
  .simp_all
  .exact h a e x c
def Ap{N:Tc}{B:Below}(I:DJ N B){b_ b:TC}{ops:To}(l:ops.toList.all (vL N b_ b)=true){i:Nat}{g9 m:St}(k:HH b g9)(h:ao C B b_ ops i g9 m) :
  m.heap=g9.heap/\HH b m/\∀H,ao C B b_ ops i { g9 with heap:=H } { m with heap:=H }:=by
 cases n:ops[i]? with
 |none=>
  have:m=g9:=by simpa[ao,n]using h
  subst this;exact⟨rfl,k,λH=>by simp[ao,n]⟩
 |some o=>
  have y:vL N b_ b o=true:=A_.1 l o (by
   grind)
  unfold vL at y;rw[vd]at y;obtain⟨S,q⟩:=y;have K:az N b_ o≠none:=jn;obtain⟨e,rfl,Q,O⟩:=jl I n K h;have D:e.hp=none:=by
   cases J:e.hp with
   |none=>rfl
   |some x=>
    have:=Q.2 (by rw[J];simp)
    simp_all
  refine⟨by rw[dY,D];rfl,?_,λH=>?_⟩
  .by_cases g:∀d,o.dst=some d->d∉b
   .unfold Ef.on;exact Ac k rfl (.inl g)
   · -- a local row is laid
    obtain⟨d,g⟩:=Classical.not_forall.1 g;obtain⟨c,g⟩:=Classical.not_imp.1 g;have g:=Classical.not_not.1 g;rw[c]at q;simp only[hj,g,decide_true,DP,w5,vd]at q;have E:b_.getD d 0=d+2:=by simpa using q.1
    unfold ao at h;simp only[n]at h;split at h
    .exact h.elim
    .rw[h];exact Ac k rfl (.inr trivial)
    .rcases h with⟨G,j,u⟩|⟨v,j,u⟩
     .have w:∃s F,G = .FC s F:=by
       have o3:=q.2;obtain⟨dst,P,T,pos,r,guard⟩:=o;simp only at c o3;subst c;cases P<;>first|cases o3|skip
       .simp only[au]at j;obtain⟨z,_,M⟩:=EE.1 j;exact vM E M
       .exact vM E j
      obtain⟨s,F,rfl⟩:=w;obtain⟨p,f,A⟩:=u;rw[A];simp only[aW]at f;split at f
      .cases f;exact Ac k rfl (.inr rfl)
      .cases f
     .rw[u];exact Ac k rfl (.inr (zX j.2.2.1))
  .have L:CP N b_ ops o g9 { g9 with heap:=H }:=by
    refine⟨λt _=>rfl,?_⟩
    grind
   have:=O _ L;have R:e.on o.dst { g9 with heap:=H } = { e.on o.dst g9 with heap:=H }:=by
    unfold Ef.on;rw[D];cases o.dst<;>rfl
   simp_all
def xG{N:Tc}{B:Below}(e:DJ N B){b_ b:TC}{ops:To}(a:ops.toList.all (vL N b_ b)=true):∀(l:TC) {g9 c:St},HH b g9->br C B b_ ops l g9 c->
  c.heap=g9.heap/\HH b c/\∀H,br C B b_ ops l { g9 with heap:=H } { c with heap:=H }
 | [],g9,c,d,h=>by
  have:c=g9:=h;subst this;exact⟨rfl,d,λH=>rfl⟩
 |i :: l,g9,c,d,⟨q,o,p⟩=>by
  obtain⟨f,g,j⟩:=Ap e a d o;obtain⟨k,m,n⟩:=xG e a l g p;exact⟨k.trans f,m,λH=>⟨_,j H,n H⟩⟩
def rU{b:TC}{g9 c:St}(k:HH b g9)(h:gj g9 c):HH b c:=by
 intro a j v d;obtain⟨_,_,m,g⟩:=h;have l:a<c.tmps.length:=(s4.1 d).1;have f:g9.tmps[a]?=some (g9.tmps[a]'(by omega)):=Gn _;rcases g a _ _ f d with e|⟨_,i,_⟩
 .rw[e];exact k a j _ f
 .exact zX i
def nu{g9 a:St}(h:gj g9 a)(H:Tu):gj { g9 with heap:=H } { a with heap:=H }:=⟨h.1,rfl,h.2.2.1,h.2.2.2⟩
def zF{N:Tc}{B:Below}(f:DJ N B){b_ b:TC}{ops:To}(a:ops.toList.all (vL N b_ b)=true):∀(l:TC) {g9 c:St},HH b g9->fM C B b_ ops l g9 c->
  c.heap=g9.heap/\HH b c/\∀H,fM C B b_ ops l { g9 with heap:=H } { c with heap:=H }
 | [],g9,c,e,h=>by
  have:c=g9:=h;subst this;exact⟨rfl,e,λH=>rfl⟩
 |i :: l,g9,c,e,⟨s,r,d,p,q⟩=>by
  obtain⟨g,j,k⟩:=Ap f a (rU e d) p;obtain⟨m,n,o⟩:=zF f a l j q;exact⟨m.trans (g.trans d.2.1),n,λH=>⟨_,_,nu d H,k H,o H⟩⟩
def OK{b:TC}{g9:St}{c:TC}(d:HH b g9):HH b (g9.clear c):=by
 unfold St.clear;split
 .exact d
 .intro a f v e;simp only[Ew,DC]at e;obtain⟨x,g,rfl⟩:=e;exact Mm (d a f x g)
def J7(g9:St)(a:TC)(H:Tu):St.clear { g9 with heap:=H } a = { g9.clear a with heap:=H }:=by
 unfold St.clear;split<;>rfl
def yE(g9:St)(a:TC):(g9.clear a).heap=g9.heap:=by
 unfold St.clear;split<;>rfl
def Bt{g9:St}{r:ResultVar}{b:TC}(e:HH b g9)(d:∀a∈iC [r],a∈b)(H:Tu):fR C { g9 with heap:=H } r=fR C g9 r:=by
 cases r with
 |tmp t=>rfl
 |cell a t=>
  have f:a∈b:=d a (by simp[iC]);unfold fR;simp only;cases c:g9.tmps[a]? with
  |none=>simp[List.getD_eq_getElem?_getD,c,undef]
  |some v=>
   have:=e a f v c;simp only[List.getD_eq_getElem?_getD,c,S8];cases v<;>try rfl
   rename_i p
   cases p with
   |none=>rfl
   |some p=>
    have g:p.spot=some 0:=this;simp only[g]
def qh{g9:St}{b:TC}(d:HH b g9)(H:Tu):∀(l:List ResultVar),(∀a∈iC l,a∈b)->dd C { g9 with heap:=H } l=dd C g9 l
 | [],_=>rfl
 |r :: l,c=>by
  have e:=Bt (C:=C) (r:=r) d (λa h=>c a (by cases r<;>simp[iC]at h ⊢;exact .inl h)) H;have f:=qh d H l (λa h=>c a (by cases r<;>simp[iC]at h ⊢<;>first|exact h|exact .inr h));simp only[dd,e,f]
def V8{N:Tc}{b_ b:TC}{o:Oper}(h:dv b_ o=true)(f:vL N b_ b o=true):False:=by
 have i:az N b_ o=some .hw:=by
  obtain⟨dst,g,j,pos,a,guard⟩:=o;cases g<;>simp only[dv,D7]at h<;>first|rfl|skip
  .cases dst with
   |none=>cases h
   |some d=>
    simp only[az];rw[te (λe=>by
     simp_all)]
  .cases dst with
   |none=>cases h
   |some d=>
    simp only[az];rw[te (λe=>by
     simp_all)]
  next c=>
   simp only[az]
   grind
 unfold vL at f
 simp_all
def LL{N:Tc}{B:Below}(f:DJ N B){b_:TC}{ops:To}(a:ops.toList.all (Hk N b_)=true){i:Nat}{g9 c:St}(h:ao C B b_ ops i g9 c):c.heap=g9.heap:=by
 cases d:ops[i]? with
 |none=>
  have:c=g9:=by simpa[ao,d]using h
  rw[this]
 |some o=>
  have b:Hk N b_ o=true:=A_.1 a o (by
   grind)
  have k:az N b_ o≠none:=by intro e;unfold Hk at b;rw[e]at b;cases b
  obtain⟨e,rfl,l,_⟩:=jl f d k h;have j:e.hp=none:=by
   cases g:e.hp with
   |none=>rfl
   |some x=>
    have:=l.2 (by rw[g];simp);unfold Hk at b
    simp_all
  rw[dY,j];rfl
def Qt{N:Tc}{B:Below}(b:DJ N B){b_:TC}{ops:To}(a:ops.toList.all (Hk N b_)=true):∀(l:TC) {g9 c:St},br C B b_ ops l g9 c->c.heap=g9.heap
 | [],_,_,h=>by cases h;rfl
 |_ :: l,_,_,⟨_,h1,d⟩=>(Qt b a l d).trans (LL b a h1)
def K5{N:Tc}{B:Below}(b:DJ N B){b_:TC}{ops:To}(a:ops.toList.all (Hk N b_)=true):∀(l:TC) {g9 c:St},fM C B b_ ops l g9 c->c.heap=g9.heap
 | [],_,_,h=>by cases h;rfl
 |_ :: l,_,_,⟨_,_,h0,h1,d⟩=>(K5 b a l d).trans ((LL b a h1).trans h0.2.1)
def pD{N:Tc}{b_:TC}{o:Oper}(h:dv b_ o=true)(b:Hk N b_ o=true):False:=by
 have g:az N b_ o=some .hw:=by
  obtain⟨dst,f,i,pos,a,guard⟩:=o;cases f<;>simp only[dv,D7]at h<;>first|rfl|skip
  .cases dst with
   |none=>cases h
   |some d=>
    simp only[az];rw[te (λe=>by
     simp_all)]
  .cases dst with
   |none=>cases h
   |some d=>
    simp only[az];rw[te (λe=>by
     simp_all)]
  next c=>
   simp only[az]
   grind
 unfold Hk at b
 simp_all
def rD{N:Tc}(Z:∀f n,N f=some n->Ji N C f n=true)(hk:∀f args H r H',C7.kh f args H r H'->N f=none∨(N f=some (2*args.length+1)/\H'=H)):∀n,(DJ N (sm C n).toBelow/\∀b_ c,Rd N b_ c=true->∀g9 e p,(sm C n).ex b_ c g9 e p->p.heap=g9.heap)/\
  ∀b_ j c,Gc N b_ j c=true->∀g9 e p,HH j g9->(sm C n).ex b_ c g9 e p->p.heap=g9.heap/\HH j p/\∀H,(sm C n).ex b_ c { g9 with heap:=H } e { p with heap:=H }
 |0=>⟨⟨⟨λf args H r H' L h=>(by
   rcases h with h|h
   .exact⟨h.2,λR=>.inl ⟨h.1,rfl⟩⟩
   grind),λf args H r H' L h=>(by
   rcases h with h|h
   .exact h.2
   grind)⟩,λ_ _ _ _ _ _ h=>absurd h id⟩,λ_ _ _ _ _ _ _ _ h=>absurd h id⟩
 |n+1=>by
  obtain⟨⟨y,F⟩,i⟩:=rD Z hk n;refine⟨⟨⟨λf args H r H' L h=>?_,λf args H r H' L h=>?_⟩,λb_ c d g9 e p h=>?_⟩,λb_ j c d g9 e p s h=>?_⟩
  rotate_left
  .rcases h with h|⟨U,b,e,g9,vs,S,T,V,X,c5,c6,c7,c8,Y⟩
   .rcases h with h|h
    .exact h.2
    grind
   .have G:=Z f _ L;have W:=(ng.1 V).2;unfold Ji at G;have O:Nat.beq ((2*args.length+1)%2) 0=false:=by
     rw[show(2*args.length+1)%2=1 by omega];rfl
    simp only[S,T,O,W,w5]at G;exact Y.trans (F _ _ G _ _ _ X)
  .have h:pz C (sm C n) b_ c g9 e p:=h;cases c with
   |skip=>obtain⟨rfl,rfl⟩:=h;rfl
   |label l=>obtain⟨rfl,rfl⟩:=h;rfl
   |ret=>obtain⟨rfl,rfl⟩:=h;rfl
   |exit id=>obtain⟨rfl,rfl⟩:=h;rfl
   |seq a b=>
    simp only[Rd,vd]at d;obtain⟨Q,j6,g,k⟩:=h
    grind
   |cond x a b=>
    simp only[Rd,vd]at d;obtain⟨t,g,k⟩:=h
    grind
   |block id b=>
    obtain⟨Q,g,rfl⟩:=h;exact F b_ b d _ _ _ g
   |scope b=>exact F b_ b d _ _ _ h
   |loop b=>
    obtain⟨Q,j6,g,k⟩:=h;have u:=F b_ b d _ _ _ g;rw[yE]at u
    grind
   |region id q w=>
    obtain⟨rfl,E⟩:=h;cases w with
    |true=>
     obtain⟨J,K,g⟩ : ∃J,gj g9 J/\eo C (sm C n).toBelow b_ q J p:=E;rcases g with g|⟨sl,m,q1,_⟩
     .exact(Qt y d _ (g 0)).trans K.2.1
     .exfalso;obtain⟨o,o1,o2⟩:=c9.1 q1;exact pD o2 (A_.1 d o o1)
    |false=>
     have E:fM C (sm C n).toBelow b_ q (range q.size) g9 p:=E;exact K5 y d _ E
   |_=>cases d
  rotate_right
  .rcases h with h|⟨U,b,e,g9,vs,S,T,V,X,c5,c6,c7,c8,Y⟩
   .rcases h with h|h
    .exact⟨h.2,λR=>.inl (.inl ⟨h.1,rfl⟩)⟩
    grind
   .have G:=Z f _ L;unfold Ji at G;have ad:Nat.beq (2*args.length%2) 0=true:=by
     simp_all
    simp only[S,T,ad,vd,A_,show 2*args.length / 2=args.length by omega]at G;have s:HH (iC U.results.toList) (mZ U args H):=by
     intro a ha v P;have ag:args.length<=a:=by simpa using G.2 a ha
     simp only[mZ]at P;rw[GV ag,YY]at P;split at P
     .cases P;trivial
     .cases P
    obtain⟨d1,d2,d3⟩:=i _ _ _ G.1 _ _ _ s X;refine⟨Y.trans d1,λR=>.inr ⟨U,b,e,_,vs,S,T,V,d3 R,c5,?_,c7,c8,rfl⟩⟩;rw[qh d2 R _ (λa h=>h)];exact c6
  .have h:pz C (sm C n) b_ c g9 e p:=h;show _/\_/\∀H,pz C (sm C n) b_ c { g9 with heap:=H } e { p with heap:=H };cases c with
   |skip=>obtain⟨rfl,rfl⟩:=h;exact⟨rfl,s,λH=>⟨rfl,rfl⟩⟩
   |label l=>obtain⟨rfl,rfl⟩:=h;exact⟨rfl,s,λH=>⟨rfl,rfl⟩⟩
   |ret=>obtain⟨rfl,rfl⟩:=h;exact⟨rfl,s,λH=>⟨rfl,rfl⟩⟩
   |exit id=>obtain⟨rfl,rfl⟩:=h;exact⟨rfl,s,λH=>⟨rfl,rfl⟩⟩
   |seq a b=>
    simp only[Gc,vd]at d;obtain⟨Q,j6,g,k⟩:=h;obtain⟨u,z,I⟩:=i _ _ _ d.1 _ _ _ s g;rcases k with⟨rfl,k⟩|⟨k,rfl,rfl⟩
    .obtain⟨A,B,D⟩:=i _ _ _ d.2 _ _ _ z k;exact⟨A.trans u,B,λH=>⟨_,_,I H,.inl ⟨rfl,D H⟩⟩⟩
    .exact⟨u,z,λH=>⟨_,_,I H,.inr ⟨k,rfl,rfl⟩⟩⟩
   |cond x a b=>
    simp only[Gc,vd]at d;obtain⟨t,g,k⟩:=h;cases t with
    |true=>
     obtain⟨A,B,D⟩:=i _ _ _ d.1 _ _ _ s k;exact⟨A,B,λH=>⟨true,g,D H⟩⟩
    |false=>
     obtain⟨A,B,D⟩:=i _ _ _ d.2 _ _ _ s k;exact⟨A,B,λH=>⟨false,g,D H⟩⟩
   |block id b=>
    obtain⟨Q,g,rfl⟩:=h;obtain⟨A,B,D⟩:=i b_ j b d _ _ _ s g;exact⟨A,B,λH=>⟨_,D H,rfl⟩⟩
   |scope b=>exact i b_ j b d _ _ _ s h
   |loop b=>
    obtain⟨Q,j6,g,k⟩:=h;obtain⟨u,z,I⟩:=i b_ j b d _ _ _ (OK s) g;rw[yE]at u;rcases k with⟨rfl,k⟩|⟨k,rfl,rfl⟩
    .obtain⟨A,B,D⟩:=i b_ j (.loop b) d _ _ _ z k;exact⟨A.trans u,B,λH=>⟨_,_,by rw[J7];exact I H,.inl ⟨rfl,D H⟩⟩⟩
    .exact⟨u,z,λH=>⟨_,_,by rw[J7];exact I H,.inr ⟨k,rfl,rfl⟩⟩⟩
   |region id q w=>
    obtain⟨rfl,E⟩:=h;cases w with
    |true=>
     obtain⟨J,K,g⟩ : ∃J,gj g9 J/\eo C (sm C n).toBelow b_ q J p:=E;have M:=rU s K;rcases g with g|⟨sl,m,q1,_⟩
     case inr=>
      exfalso;obtain⟨o,o1,o2⟩:=c9.1 q1;exact V8 o2 (A_.1 d o o1)
     obtain⟨u,z,_⟩:=xG y d _ M (g 0);refine⟨u.trans K.2.1,z,λH=>⟨rfl,⟨_,nu K H,.inl λt=>?_⟩⟩⟩;exact(xG y d _ M (g t)).2.2 H
    |false=>
     have E:fM C (sm C n).toBelow b_ q (range q.size) g9 p:=E;obtain⟨u,z,I⟩:=zF y d _ s E;exact⟨u,z,λH=>⟨rfl,I H⟩⟩
   |_=>cases d
def gb{N:Tc}(b:∀f n,N f=some n->Ji N C f n=true)(c:∀f args H r H',C7.kh f args H r H'->N f=none∨(N f=some (2*args.length+1)/\H'=H))(b_:TC)(ops:To)(h:vX N b_ ops=true)(n:Nat)(g9 a:St)(d:br C (sm C n).toBelow b_ ops (range ops.size) g9 a) :
  eo C (sm C n).toBelow b_ ops g9 a:=Zq (rD b c n).1.1 h d
end
end Sx
def LK.plain:LK->Bool
 | .v=>false
 |_=>true
def SK.plain:SK->Bool
 | .leaf k=>k.plain
 | .agg ks=>ks.all LK.plain
def GN.plain(s:GN):Bool:=s.ps.all SK.plain&&s.rs.all SK.plain
namespace Sx
section
variable [Co] [C7]
variable {w:TG}
def xH(k:TL)(c:Int)(K:Int->RT):Ib k c K=K (k.wrap c):=by
 unfold Ib;cases e:Sj k c with
 |true=>rw[ve e]
 |false=>exact kR _ _
def Qw(c:Int)(K:Int->RT):YF c K=K (IntKind.wrap .i64 c):=by
 refine Eq.trans ?_ (xH .i64 c K);cases c<;>rfl
def Qx(c:Int)(K:Int->RT):YH c K=K (IntKind.wrap .u8 c):=by
 refine Eq.trans ?_ (xH .u8 c K);cases c<;>rfl
def qa(k:TL)(c:Int)(K:Int->RT):GJ k c K=K (k.wrap c):=by
 cases k<;>first|exact xH _ _ _|exact Qw _ _|exact Qx _ _
def T0(a b:Int)(K:Int->RT):Zn a b K=K (a+b):=by
 unfold Zn;cases a with
 |ofNat m=>
  cases b with
  |ofNat n=>exact congrArg K rfl
  |negSucc n=>
   simp only[ew];cases e:Nat.blt n m with
   |true=>rw[Gp]at e;grind
   |false=>
    have e:¬n<m:=λh=>by rw[←Gp,e]at h;cases h
    grind
 |negSucc m=>
  cases b with
  |ofNat n=>
   simp only[ew];cases e:Nat.blt m n with
   |true=>rw[Gp]at e;grind
   |false=>
    have e:¬m<n:=λh=>by rw[←Gp,e]at h;cases h
    grind
  |negSucc n=>exact congrArg K (show Int.negSucc (m+n+1)=Int.negSucc m+Int.negSucc n by omega)
def Xd(a b:Int)(K:Int->RT):U' a b K=K (a - b):=by
 unfold U';cases a with
 |ofNat m=>
  cases b with
  |ofNat n=>
   simp only[ew];cases e:Nat.ble n m with
   |true=>rw[HB]at e;grind
   |false=>
    have e:¬n<=m:=λh=>by rw[←HB,e]at h;cases h
    grind
  |negSucc n=>exact congrArg K (show ofNat (m+n+1)=ofNat m - Int.negSucc n by grind)
 |negSucc m=>
  cases b with
  |ofNat n=>exact congrArg K (show Int.negSucc (m+n)=Int.negSucc m - ofNat n by grind)
  |negSucc n=>
   simp only[ew];cases e:Nat.ble m n with
   |true=>rw[HB]at e;grind
   |false=>
    have e:¬m<=n:=λh=>by rw[←HB,e]at h;cases h
    grind
def V2(a b:Int)(K:Int->RT):y5 a b K=K (a*b):=by
 unfold y5;cases a with
 |ofNat m=>
  cases b with
  |ofNat n=>exact congrArg K rfl
  |negSucc n=>
   cases m with
   |zero=>exact congrArg K (show ofNat 0=ofNat 0*Int.negSucc n by simp)
   |succ m=>
    refine congrArg K (show Int.negSucc ((m+1)*n+m)=ofNat (m+1)*Int.negSucc n from ?_)
    grind
 |negSucc m=>
  cases b with
  |ofNat n=>
   cases n with
   |zero=>exact congrArg K (show ofNat 0=Int.negSucc m*ofNat 0 by simp)
   |succ n=>
    refine congrArg K (show Int.negSucc (m*(n+1)+n)=Int.negSucc m*ofNat (n+1)from ?_)
    grind
  |negSucc n=>
   refine congrArg K (show ofNat ((m+1)*(n+1))=Int.negSucc m*Int.negSucc n from ?_)
   grind
def WP(a b:Int)(K:Int->RT):W3 a b K=K (Int.tdiv a b):=by
 unfold W3;cases a with
 |ofNat m=>
  cases b with
  |ofNat n=>exact congrArg K rfl
  |negSucc n=>exact kR _ _
 |negSucc m=>exact kR _ _
def WT(a b:Int)(K:Int->RT):t1 a b K=K (Int.tmod a b):=by
 unfold t1;cases a with
 |ofNat m=>
  cases b with
  |ofNat n=>exact congrArg K rfl
  |negSucc n=>exact kR _ _
 |negSucc m=>exact kR _ _
def vw{b:Int}(h:dT b=false):b≠0:=by
 intro e;subst e;cases h
def Ko{k:TL}{c:Int}{K:Int->RT}(h:GJ k c K=some w):K (k.wrap c)=some w:=(qa k c K).symm.trans h
def T_{d:BinOp}{k:TL}{a b:Int}{K:Int->RT}(h:Zu d k a b K=some w):∃n,sn d k a b n/\K n=some w:=by
 cases d<;>simp only[Zu,reduceCtorEq]at h
 .rw[T0,qa]at h;exact⟨_,λP t w=>by simp[binOp,Op.intArith],h⟩
 .rw[Xd,qa]at h;exact⟨_,λP t w=>by simp[binOp,Op.intArith],h⟩
 .rw[V2,qa]at h;exact⟨_,λP t w=>by simp[binOp,Op.intArith],h⟩
 .cases c:dT b with
  |true=>rw[c]at h;cases h
  |false=>
   rw[c]at h;simp only[WP,qa]at h;have c:=vw c;exact⟨_,λP t w=>by simp[binOp,Op.intDiv,c],h⟩
 .cases c:dT b with
  |true=>rw[c]at h;cases h
  |false=>
   rw[c]at h;simp only[WT]at h;have c:=vw c;exact⟨_,λP t w=>by simp[binOp,Op.intDiv,c],h⟩
 .split at h
  next c=>
   have c:=Kd.1 c;subst c;rw[kR]at h;exact⟨_,qi rfl,h⟩
  .split at h
   .rw[kR]at h;exact⟨_,xX _ _,Ko h⟩
   .cases h
 .split at h
  .rw[kR]at h;exact⟨_,By _ _,Ko h⟩
  .cases h
 .split at h
  .rw[kR]at h;exact⟨_,ya _ _,Ko h⟩
  .cases h
def Z1(x y:Int):b6 x y=(x==y):=by rw[WI,Kd,beq_iff_eq]
def wK(x y:Int):Pb x y=(x==y):=by
 rw[←Z1];cases x<;>cases y<;>rfl
def R'(x y:Int):VH x y=decide (x<=y):=by rw[WI,KK,decide_eq_true_iff]
def V9(b:Bool):Qr b = !b:=by cases b<;>rfl
def UJ{c:BinOp}{a b:Int}{K:Bool->RT}(h:ZQ c a b K=some w):∃t,qS c a b=some t/\K t=some w:=by
 cases c<;>simp only[ZQ,reduceCtorEq,wK,R',V9]at h
 .exact⟨_,rfl,h⟩
 .exact⟨_,rfl,h⟩
 .exact⟨_,rfl,by rw[show decide (a<b) = !decide (b<=a)by grind];exact h⟩
 .exact⟨_,rfl,h⟩
 .exact⟨_,rfl,by rw[show decide (a > b) = !decide (a<=b)by grind];exact h⟩
 .exact⟨_,rfl,h⟩
def UZ(a b:Lf):I4 a b=ir a b:=by
 cases a<;>cases b<;>try rfl
 .exact wK _ _
 next x y=>cases x<;>cases y<;>rfl
def U9(l:List (Lf×Lf)):Z9 l=cj l:=by
 unfold cj
 induction l with
 |nil=>rfl
 |cons p l a=>
  show(Bool.rec false (Z9 l) (I4 p.1 p.2):Bool)=_;rw[UZ,S4,a];cases ir p.1 p.2<;>rfl
def U7{l:List (Lf×Lf)}{K:Bool->RT}(h:p4 l K=some w):K (cj l)=some w:=by
 rw[←U9];exact h
structure D5(C:m')(Sg:Td)(T:Tv)(call:fW):Prop where
 f:∀g ls h K w,dU ls->call (.f g) ls h K=some w->∃rs h',aA C Sg g ls (g_ T (CU h)) rs (g_ T (CU h'))/\K rs h'=some w
 y:∀j8 vs l ls h K w st pd xs,h.at l=some (.lp j8 st pd vs)->Told ((T j8).params.map (·.2)) ls xs->call (.y j8 vs l) ls h K=some w->
  ∃b h',ip C l (aj xs) (g_ T (CU h)) (.bool b) (g_ T (CU h'))/\K [.b b] h'=some w
def pG(T:Tv)(h:HL):tf T h=λi=>(g_ T h)[i]?:=by
 funext i
 simp only[tf,g_,Ew];cases h[i]?<;>rfl
def Vv(T:Tv)(h:x_):G_ T h=λi=>(g_ T (CU h))[i]?:=by
 funext i
 simp only[G_,g_,Ew,mP,Option.map_map];cases h.at i<;>rfl
def ot(T:Tv)(h:x_):G_ T h=tf T (CU h):=(Vv T h).trans (pG T (CU h)).symm
def pF{T:Tv}{h:x_}{i:Nat}{x:Ff}(e:h.at i=some x):tf T (CU h) i=some (EA T x.ho):=by
 rw[←ot];unfold G_;rw[e]
def gI(T:Tv)(h:HL):(g_ T h).length=h.length:=by simp[g_]
def kI(T:Tv)(h:HL)(i:Nat)(o:HO):g_ T (h.set i o)=(g_ T h).set i (EA T o):=by simp[g_,l1]
def kF(T:Tv)(h:HL)(o:HO):g_ T (h++[o])=g_ T h++[EA T o]:=by simp[g_]
def lS(T:Tv):∀(l:List Cw) (h:HL),g_ T (bG h l)=ii (g_ T h) l
 | [],h=>rfl
 |a :: l,h=>by
  have b:=lS T l (a.onH h);show g_ T (bG (a.onH h) l)=ii (a.on (g_ T h)) l;rw[b]
  congr 1
  cases a with
  |set i o=>exact kI T h i _
  |push o=>exact kF T h _
def su:∀ {l:List Cw} {h:x_} {k:x_->RT},AD l h k=some w->∃h',CU h'=bG (CU h) l/\k h'=some w
 | [],h,k,a=>⟨h,rfl,a⟩
 | .set i o :: l,h,k,a=>by
  have a:(vy o λo=>EN h i o λh=>AD l h k)=some w:=a;obtain⟨x,b,c⟩:=kY (o:=o) (k:=λo=>EN h i o λh=>AD l h k);rw[c,iY]at a;obtain⟨h',e,a⟩:=su a;exact⟨h',by rw[e,je,b];rfl,a⟩
 | .push o :: l,h,k,a=>by
  have a:(vy o λo=>nL h o λh=>AD l h k)=some w:=a;obtain⟨x,b,c⟩:=kY (o:=o) (k:=λo=>nL h o λh=>AD l h k);rw[c,jo]at a;obtain⟨h',e,a⟩:=su a;exact⟨h',by rw[e,jy,b];rfl,a⟩
def Ao(s:Ts):RH s=(s != some 0):=by
 cases s with
 |none=>rfl
 |some k=>cases k<;>rfl
def yW(v:TR):H3 v=aF v:=by
 unfold H3;split
 next a=>
  rw[Ao];simp[aF,n_,aS,bB,bi,aO,aH]
 next a _ _=>
  rw[Ao];simp[aF,n_,aS,bB,bi,aO,aH]
 .rfl
def xj{i7:Type}(l:List i7):VI l=l.length:=by
 induction l with
 |nil=>rfl
 |cons a l b=>exact congrArg Nat.succ b
def kx{T:Tv}{n:Nat}{p:TR}{h:x_}{K:Tn->RT}(b:ldB n p h K=some w):∃cs,eP n p (tf T (CU h))=some cs/\K cs=some w:=by
 unfold ldB at b;split at b
 next a=>
  split at b
  next g=>
   split at b
   next m e i c f=>
    split at b
    next d=>
     rw[HB]at d;refine⟨_,?_,b⟩;unfold eP;simp only[g,iD,pF f,Ff.ho,EA,Ds,cut];rw[rv (by rw[bq];exact d),lI c n a.off m d]
    .cases b
   .cases b
  .cases b
 .cases b
def j4{T:Tv}{C:m'}{n:Nat}{p:TR}{h:x_}{K:Tn->RT}(b:lgB C n p h K=some w):∃cs,fs C n p (tf T (CU h))=some cs/\K cs=some w:=by
 unfold lgB at b;split at b
 next a=>
  split at b
  next g=>
   split at b
   next m e o c f=>
    split at b
    next d=>
     rw[HB]at d;refine⟨_,?_,b⟩;unfold fs;simp only[g,iD,pF f,Ff.ho,EA,Ds,cut];rw[rv (by rw[bq];exact d),lI c n a.off m d]
    .cases b
   .cases b
  next k g=>
   split at b
   next j=>
    split at b
    next q l=>
     split at b
     next cs i=>
      refine⟨cs,?_,b⟩;unfold fs;simp only[g,j,l,Ds];rw[oX]at i;exact i
     .cases b
    .cases b
   .cases b
 .cases b
def W7{T:Tv}{p:TR}{new:Tn}{h:x_}{K:Tn->x_->RT}{n0:Nat}(b:stB p new h K=some w) :
  ∃d cs h',JH p new (tf T (CU h)) n0=some (d,cs)/\CU h'=bG (CU h) d/\K cs h'=some w:=by
 unfold stB at b;split at b
 next a=>
  split at b
  next i=>
   split at b
   next m e c g=>
    split at b
    next f=>
     rw[HB,xj]at f;rw[pN,iY]at b;refine⟨[.set a.block (.cells (cM (F_ new a.off c) m) e true)],[],_,?_,?_,b⟩
     .unfold JH;simp only[i,pF g,Ff.ho,EA,s_];rw[rv (by rw[bq];exact f),qQ f];rfl
     .rw[je];rfl
    .cases b
   .cases b
  .cases b
 .cases b
def Ar{s:Ts}{r_:Nat}:Xh s r_=true↔s=le r_:=by
 unfold Xh le;cases s with
 |none=>simp
 |some k=>simp_all
def t6{C:m'}{T:Tv}{r_:Nat}{x:TR}{h:x_}{K:Tn->Nat->RT}(b:slB C T r_ x h K=some w) :
  ∃l n,NP C r_ (tf T (CU h)) x=some (l,n)/\K l n=some w:=by
 have d:∀ {x:TR},(match NP C r_ (G_ T h) x with|some p=>K p.1 p.2|none=>none)=some w->∃l n,NP C r_ (tf T (CU h)) x=some (l,n)/\K l n=some w:=by
  intro x b;split at b
  next p e=>
   rw[ot]at e
   grind
  .cases b
 unfold slB at b;split at b
 next a k q=>
  split at b
  next f=>
   have f:=Ar.1 f;split at b
   next m e o c j=>
    split at b
    next g i=>
     have g:=Dx g;rw[HB]at i;subst g;refine⟨_,_,?_,b⟩;unfold NP;simp only[pF j,Ff.ho,EA];rw[te (by rw[f];simp[le]),rv f]
     first|rw[rv rfl]|rw[rv trivial]
     rw[cut,rv (by rw[bq];exact i),lI c _ a.off m i];rfl
    .cases b
   .cases b
  .exact d b
 .exact d b
def yX{c:Tr Value}{m off a r_:Nat}{new:Tn}{k:Ff->RT}(f:off+a<=m)(b:Ky c m off a r_ new k=some w) :
  ∃x:Ff,x.ho = .o (.cells (((cM c m).drop off).take a++new) r_ true)/\k x=some w:=by
 unfold Ky at b;split at b
 next d e=>
  have d:=Dx d;have e:=Dx e;subst d e;rw[pN,ew,xj]at b;refine⟨_,?_,b⟩;show HO.o (.cells (cM (F_ new a c) (a+new.length)) r_ true)=_;rw[oU,WK,Ik (by rw[bq];omega)]
 .rw[lI c a off m f]at b;obtain⟨x,g,h⟩:=kY (o:=.cells (((cM c m).drop off).take a++new) r_ true) (k:=k)
  grind
def Zr{C:m'}{T:Tv}{r_ bytes:Nat}{s x:TR}{h:x_}{K:Tn->x_->RT}(b:apB T C r_ bytes s x h K=some w) :
  ∃g cs h',Em C r_ bytes s x (tf T (CU h)) (CU h).length=some (g,cs)/\CU h'=bG (CU h) g/\K cs h'=some w:=by
 obtain⟨f,n,v,b⟩:=t6 b;unfold Em;rw[v,gn];simp only at b ⊢;split at b
 .cases n with
  |zero=>exact⟨_,_,h,rfl,rfl,b⟩
  |succ n=>
   simp only at b;split at b
   next G=>
    obtain⟨y,j,E⟩:=kY (o:=.cells f r_ true) (k:=λo=>nL h o λh'=>fN (n+1) λn=>K [.slice (some ⟨h.n,0,le r_⟩) n 0] h');rw[E,jo,ew]at b;refine⟨[.push (.cells f r_ true)],_,_,?_,?_,b⟩
    .simp_all
    .rw[jy,j];rfl
   .cases b
 next a d D _=>
  split at b
  .cases b
  next z=>
   have z:=Ar.1 z;split at b
   next m e F c t=>
    split at b
    next r A=>
     have r:=Dx r;rw[HB]at A;subst r;have u:a.off+d*e<=m:=A;have l:cut (cM c m) a.off (d*e)=some (((cM c m).drop a.off).take (d*e)):=by rw[cut,rv (by rw[bq];exact u)]
     simp only[z,ne_eq,not_true_eq_false,if_false,pF t,Ff.ho,EA,l];cases D with
     |zero=>
      simp only at b ⊢;cases n with
      |zero=>exact⟨[],_,h,kb,rfl,b⟩
      |succ n=>
       simp only at b;split at b
       next B i=>
        obtain⟨y,j,b⟩:=yX u b;rw[iY,jo,ew]at b;refine⟨[.set a.block .dead,.push (.cells (((cM c m).drop a.off).take (d*e)++f) e true)],_,_,kb,?_,b⟩;rw[jy,je,j];rfl
       .cases b
     |succ q=>
      simp only at b ⊢;split at b
      next p=>
       rw[HB]at p;split at b
       next B i=>
        rw[HB,xj]at i;have i:a.off+d*e+f.length<=m:=i;rw[pN,iY,ew]at b;refine⟨[.set a.block (.cells ((cM c m).take (a.off+d*e)++f++(cM c m).drop (a.off+d*e+f.length)) e true)],_,_,by rw[rv p,rv rfl,s_,rv (by rw[bq];exact i)];rfl,?_,b⟩;rw[je];show(CU h).set a.block (.o (.cells (cM (F_ f (a.off+d*e) c) m) e true))=_;rw[qQ i];rfl
       .cases b
      next p=>
       have p:¬d+n<=q:=λh=>by rw[←HB,p]at h;cases h
       split at b
       next B=>
        obtain⟨y,j,b⟩:=yX u b;rw[jo,ew]at b;refine⟨[.push (.cells (((cM c m).drop a.off).take (d*e)++f) e true)],_,_,jn,?_,b⟩;rw[jy,j];rfl
       .cases b
    .cases b
   .cases b
 .cases b
def Pw{T:Tv}{f:Hp}{h:x_}{K:Tn->x_->RT}(a:KA T f h K=some w) :
  ∃b cs h',f.run (tf T (CU h)) (CU h).length=some (b,cs)/\CU h'=bG (CU h) b/\K cs h'=some w:=by
 unfold KA at a;cases f with
 |st p g=>exact W7 (n0:=(CU h).length) a
 |ap C d bytes s x=>exact Zr a
 |fn f=>
  simp only at a;rw[ot]at a;split at a
  next p e=>
   rw[qd]at a;obtain⟨h',c,a⟩:=su a;exact⟨p.1,p.2,h',by rw[gn];exact e,c,a⟩
  .cases a
def LZ{k:LK}{v:TR}{l:SL}(h:NA k v=some l):l.is k=true/\l.val=v/\l.i_:=by
 cases k with
 |i k=>
  cases v<;>simp only[NA]at h<;>first|cases h|skip
  split at h
  next e=>cases h;exact⟨e,rfl,trivial⟩
  .cases h
 |b=>
  cases v<;>simp only[NA]at h<;>cases h;exact⟨rfl,rfl,trivial⟩
 |v=>
  simp only[NA]at h;split at h
  next e=>cases h;exact⟨rfl,rfl,e⟩
  .cases h
def Av:∀ {ks:TJ} {vs:Tn} {xs:List SL},L0 ks vs=some xs->aT xs ks=true/\xs.map SL.val=vs/\∀x∈xs,x.i_
 | [],[],xs,h=>by cases h;exact⟨rfl,rfl,λ_ h=>by cases h⟩
 |k :: ks,v :: vs,xs,h=>by
  simp only[L0]at h;split at h
  next x e=>
   split at h
   next ys c=>
    cases h;obtain⟨a1,a2,d⟩:=LZ e;obtain⟨a,b,f⟩:=Av c;refine⟨by simp[aT,a1,a],by simp[a2,b],λy g=>?_⟩
    grind
   .cases h
  .cases h
 | [],_ :: _,_,h=>by cases h
 |_ :: _,[],_,h=>by cases h
def Xm{d:SK}{v:TR}{x:S0}(h:zl d v=some x):x.is d=true/\x.val=v/\x.i_:=by
 cases d with
 |leaf k=>
  obtain⟨l,e,rfl⟩:=DC.1 h;obtain⟨a,b,c⟩:=LZ e;refine⟨a,b,λy f=>?_⟩;simp only[S0.cells,Fc]at f;subst f;exact c
 |agg g=>
  cases v<;>simp only[zl]at h<;>first|cases h|skip
  obtain⟨l,e,rfl⟩:=DC.1 h;obtain⟨a,b,c⟩:=Av e;exact⟨a,by simp[S0.val,b],c⟩
def um:∀ {sks:TN} {vs:Tn} {xs:List S0},Iv sks vs=some xs->bW xs sks=true/\aj xs=vs/\∀x∈xs,x.i_
 | [],[],xs,h=>by cases h;exact⟨rfl,rfl,λ_ h=>by cases h⟩
 |k :: ks,v :: vs,xs,h=>by
  simp only[Iv]at h;split at h
  next x e=>
   split at h
   next ys c=>
    cases h;obtain⟨a1,a2,d⟩:=Xm e;obtain⟨b,a,f⟩:=um c;refine⟨by simp[bW,a1,b],by simp only[aj,DD,a2]at a ⊢;rw[a],λy g=>?_⟩
    grind
   .cases h
  .cases h
 | [],_ :: _,_,h=>by cases h
 |_ :: _,[],_,h=>by cases h
def Ke{a b:LK}(h:UY a b=true):a=b:=by
 cases a<;>cases b<;>simp only[UY]at h<;>first|rfl|cases h|skip
 rw[dK h]
def yO:∀ {a b:TJ},Kf a b=true->a=b
 | [],[],_=>rfl
 |a :: l,b :: m,h=>by
  simp only[Kf,vd]at h;rw[Ke h.1,yO h.2]
 | [],_ :: _,h=>by cases h
 |_ :: _,[],h=>by cases h
def U2{a b:SK}(h:Z4 a b=true):a=b:=by
 cases a<;>cases b<;>simp only[Z4]at h<;>first|cases h|skip
 .rw[Ke h]
 .rw[yO h]
def sP:∀ {a b:TN},HW a b=true->a=b
 | [],[],_=>rfl
 |a :: l,b :: m,h=>by
  simp only[HW,vd]at h;rw[U2 h.1,sP h.2]
 | [],_ :: _,h=>by cases h
 |_ :: _,[],h=>by cases h
def fG:∀ {ls:TG},iQ ls=true->dU ls
 | [],_=>λ_ h=>by cases h
 | .i n :: ls,h=>λl a=>by
  rcases DB.1 a with rfl|a
  .trivial
  .exact fG (ls:=ls) h l a
 | .b n :: ls,h=>λl a=>by
  rcases DB.1 a with rfl|a
  .trivial
  .exact fG (ls:=ls) h l a
 | .v n :: ls,h=>λl a=>by
  have h:(match H3 n with|true=>iQ ls|false=>false)=true:=h;split at h
  next e=>
   rw[yW]at e;rcases DB.1 a with rfl|a
   .exact e
   .exact fG (ls:=ls) h l a
  .cases h
def yD{C:m'}{Sg:Td}{T:Tv}{call:fW}(c:D5 C Sg T call){g:TQ}{ls:TG}{h:x_}{K:TG->x_->RT}(a:J4 call g ls h K=some w) :
  ∃b h',aA C Sg g ls (g_ T (CU h)) b (g_ T (CU h'))/\K b h'=some w:=by
 unfold J4 at a;split at a
 next e=>exact c.f g ls h K w (fG e) a
 .cases a
def oP{C:m'}{Sg:Td}{T:Tv}{call:fW}(o:D5 C Sg T call){g:TQ}{j:Option (TN)}{b:Tn}{h:x_}{K:TG->x_->RT}(a:nU Sg call g j b h K=some w) :
  ∃sg c ys h',Sg g=some sg/\(∀x,j=some x->sg.rs=x)/\Told sg.rs c ys/\jF C g b (g_ T (CU h)) (fQ (aj ys)) (g_ T (CU h'))/\K c h'=some w:=by
 unfold nU at a;split at a
 .cases a
 next sg e=>
  split at a
  .cases a
  next n=>
   split at a
   .cases a
   next u e3=>
    obtain⟨c,h',⟨q,s,ys,d,f,k,i⟩,a⟩:=yD o a;rw[e]at d;cases d;obtain⟨l,m,t⟩:=um e3;obtain⟨r,_⟩:=cW f.1 l f.2.1;rw[r,m]at i;refine⟨sg,c,ys,h',e,λx p=>?_,k,i,a⟩;subst p;exact sP n
def kV{T:Tv}{h:x_}{l a:Nat}{st:LoopState}{b:Tm}{vs:Tn}(e:h.at l=some (.lp a st b vs)):eI (g_ T (CU h)) l=some { Er (T a) a vs with state:=st,pending:=b }:=by
 unfold eI g_;rw[Ew,mP,e];rfl
def Mh{C:m'}{Sg:Td}{T:Tv}{call:fW}(k:D5 C Sg T call){v:TR}{args:Tn}{m:TN}{h:x_}{K:TG->x_->RT}(a:IK Sg T call v args m h K=some w) :
  ∃d h',wu C v args m (g_ T (CU h)) d (g_ T (CU h'))/\K d h'=some w:=by
 unfold IK at a;split at a
 next J first c=>
  split at a
  next g=>
   obtain⟨L,d,H,h',I,q,j,r,s⟩:=oP k a;rw[q _ rfl]at j;exact⟨d,h',⟨H,j,.inl ⟨g,first,c,rfl,r⟩⟩,s⟩
  next l=>
   split at a
   next f i=>
    have f:first = #[]:=v6.1 f
    have i:c = #[]:=v6.1 i;subst f i;split at a
    next A D B E e=>
     split at a
     .cases a
     next e3=>
      have e3:=sP e3;subst e3;split at a
      .cases a
      next F e4=>
       split at a
       next e5=>
        obtain⟨t,u,z⟩:=um e4;obtain⟨b,h',p,G⟩:=k.y A E l _ h K w D B F e ⟨t,rfl,z⟩ a;rw[u]at p;refine⟨[.b b],h',⟨[.leaf (.b b)],⟨rfl,rfl,λx n=>?_⟩,.inr ⟨l,rfl,p⟩⟩,G⟩;simp only[Fc]at n;subst n;intro y o;simp only[S0.cells,Fc]at o;subst o;trivial
       .cases a
    .cases a
   .cases a
  .cases a
 .cases a
def Ri{C:m'}{Sg:Td}{T:Tv}{call:fW}(A:D5 C Sg T call){m:Nat}{v:TR}{c:Tn}{h:x_}{K:Tm->x_->RT}(d:Rh Sg call m v c h K=some w) :
  ∃g first cap r j f k,v = .func (.func g) first cap/\jF C g (first.toList++[.func (.yield (g_ T (CU h)).length) #[] #[]]++cap.toList) (g_ T (CU h)++[.loop (Er (T m) m c)]) r j/\
   eI j (g_ T (CU h)).length=some f/\f.state≠.busy/\g_ T (CU k)=j.set (g_ T (CU h)).length (.loop { f with state:=.exhausted })/\K f.pending k=some w:=by
 unfold Rh at d;split at d
 next F first cap=>
  split at d
  next g=>
   rw[jo]at d;obtain⟨H,G,D,q,_,_,E,t,u⟩:=oP A d;have b:(g_ T (CU h)).length=h.n:=by rw[gI,gn]
   split at u
   next p y o s e=>
    have B:=kV (T:=T) e;rw[jy,kF]at t;have z:∀(l:y≠.busy),(EN q h.n (.lp p .exhausted o s) λk=>K o k)=some w->∃x a i r j f k,(Value.func (.func g) first cap) = .func (.func x) a i/\jF C x (a.toList++[.func (.yield (g_ T (CU h)).length) #[] #[]]++i.toList) (g_ T (CU h)++[.loop (Er (T m) m c)]) r j/\
      eI j (g_ T (CU h)).length=some f/\f.state≠.busy/\g_ T (CU k)=j.set (g_ T (CU h)).length (.loop { f with state:=.exhausted })/\K f.pending k=some w:=by
     intro l d;rw[iY]at d;refine⟨g,first,cap,fQ (aj D),g_ T (CU q),{ Er (T p) p s with state:=y,pending:=o },q.put h.n (.lp p .exhausted o s),rfl,?_,?_,l,?_,d⟩
     .rw[b];exact t
     .rw[b];exact B
     .rw[je,kI,b];rfl
    grind
   .cases u
  .cases d
 .cases d
def vR{id:Nat}:∀ {ks:List (Nat×RT)},(List.rec none (λp _ f=>match Nat.beq p.1 id with|true=>p.2|false=>f) ks:RT)=some w->
  ∃d x,some (Code.exit id)=some (Code.exit d)/\(d,x)∈ks/\x=some w
 | [],h=>by cases h
 |p :: ks,h=>by
  have h:(match Nat.beq p.1 id with|true=>p.2|false=>(List.rec none (λp _ f=>match Nat.beq p.1 id with|true=>p.2|false=>f) ks:RT))=some w:=h;split at h
  next e=>
   exact⟨id,p.2,rfl,by rw[←Dx e];grind,h⟩
  .obtain⟨d,x,a,b,c⟩:=vR h
   simp_all
def LA{e:BinOp}{k d:TL}{a b:Int}{K:Int->RT}(h:Ry e k a d b K=some w):∃n,JU e k a d b n/\K n=some w:=by
 unfold Ry at h;split at h
 next c=>
  have c:¬b<0:=by have:=KK.1 c;omega
  split at h
  .rw[kR]at h;exact⟨_,λP t w=>by simp[binOp,Op.shift,c],h⟩
  .rw[kR]at h;exact⟨_,λP t w=>by simp[binOp,Op.shift,c],h⟩
  .cases h
 .cases h
def Xv{C:m'}{Sg:Td}{T:Tv}{call:fW}(B:D5 C Sg T call):qs (BA Sg T call) C Sg T (λb=>b=some w) (λh=>g_ T (CU h)) where
 fail:=by intro h;cases h
 cond:=by
  intro b x y h;cases b
  .exact .inr ⟨rfl,h⟩
  .exact .inl ⟨rfl,h⟩
 z_:=λH k a b K h=>T_ h
 FK:=λH k a G b K h=>LA h
 cmp:=λH a b K h=>UJ h
 eqs:=λl K h=>U7 h
 conv:=λk a K h=>Ko h
 Gq:=by intro t a b K h;cases t<;>exact h
 j_:=by
  intro U o K h;cases o with
  |none=>cases h
  |some x=>exact⟨x,rfl,h⟩
 nC:=by
  intro v K h;have h:ZM v K=some w:=h;unfold ZM at h;split at h
  next e=>rw[yW]at e;exact⟨e,h⟩
  .cases h
 pu:=by
  intro q K h
  match q,h with
  | .i n :: r,h=>exact⟨n,r,rfl,h⟩
 D9:=by
  intro q K h
  match q,h with
  | .b n :: r,h=>exact⟨n,r,rfl,h⟩
 Ci:=by
  intro q K h
  match q,h with
  | .v n :: r,h=>exact⟨n,r,rfl,h⟩
 w_:=by
  intro q K h
  match q,h with
  | [],h=>exact⟨rfl,h⟩
 td:=by
  intro k q K h
  match q,h with
  | .int G n :: r,h=>
   have h:(match cY k G with|true=>K n r|false=>none)=some w:=h;split at h
   next e=>rw[dK e];grind
   .cases h
 D1:=by
  intro q K h
  match q,h with
  | .bool n :: r,h=>exact⟨n,r,rfl,h⟩
 BM:=by
  intro q K h
  match q,h with
  |n :: r,h=>exact⟨n,r,rfl,h⟩
 v9:=by
  intro q K h
  match q,h with
  | [],h=>exact⟨rfl,h⟩
 my:=by
  intro f h K d;have d:QO T f h K=some w:=d;unfold QO at d;rw[←pG];cases f with
  |ld n p=>exact kx d
  |lg C n p=>exact j4 d
  |fn f=>
   simp only at d;rw[ot]at d;split at d
   next x e=>exact⟨x,e,d⟩
   .cases d
 heap:=by
  intro f h K d;have d:KA T f h K=some w:=d;obtain⟨z,N,A,J,L,M⟩:=Pw d;exact⟨z,N,A,by rw[←pG,gI];exact J,by rw[L];exact lS T z (CU h),M⟩
 new:=by
  intro o h K d;have d:lD o h K=some w:=d;unfold lD at d;obtain⟨x,O,P⟩:=kY (o:=o) (k:=λo=>nL h o λA=>K h.n A);rw[P,jo]at d;exact⟨h.push x,by rw[jy,O];exact kF T (CU h) _,by rw[gI,gn];exact d⟩
 call:=λg q h K d=>yD B d
 BO:=λv E S h K d=>Mh B d
 join:=λb m h=>h
 loop:=by
  intro F q h d;refine⟨λn=>Nat.rec (motive:=λ_=>TG->x_->RT) (λ_ _=>none) (λ_ Q q h=>F Q q h) n,λq h=>c_,λn q h=>rfl,1000000,d⟩
 Ei:=λs v I h K d=>Ri B d
 DZ:=by
  intro D V W X h;cases D with
  |none=>exact .inl ⟨rfl,h⟩
  |some c=>
   cases c<;>first|exact .inr (.inl ⟨rfl,h⟩)|skip
   case exit id=>
    exact .inr (.inr (vR h))
   all_goals cases h
 H7:=by
  intro l h K d;have d:jm l h K=some w:=d;unfold jm at d;split at d
  next s R D u e=>
   split at d
   .rw[iY]at d;exact⟨_,_,kV e,rfl,by rw[je];exact kI T (CU h) l _,d⟩
   .cases d
  .cases d
 Gt:=by
  intro l j h K d;have d:l0 l j h K=some w:=d;unfold l0 at d;split at d
  next s R D u e=>
   cases j with
   |none=>
    have d:EN h l (.lp s .ready none u) K=some w:=d;rw[iY]at d;exact⟨_,h.put l (.lp s .ready none u),kV e,(congrArg (g_ T) (je h l (.lp s .ready none u))).trans (kI T (CU h) l (.lp s .ready none u)),d⟩
   |some c=>
    have d:EN h l (.lp s .done (some c) u) K=some w:=d;rw[iY]at d;exact⟨_,h.put l (.lp s .done (some c) u),kV e,(congrArg (g_ T) (je h l (.lp s .done (some c) u))).trans (kI T (CU h) l (.lp s .done (some c) u)),d⟩
  .cases d
end
end Sx
namespace Sx
def Kw(v:Value):Bool:=match v with
 | .pointer (some a)=>a.spot==some 1
 | .slice (some a) _ _=>a.spot==some 1
 |v=>scalar v
section
variable [Co]
def vO [Dw]{mu:ke}{p:Pl}{x y:Option Obj}{o:p_}(b:∀a,x=some a->y=some a)(h:Eg mu p x o):Eg mu p y o:=by
 cases o with
 |cells t j rw=>
  obtain⟨d,f,l,c,e,k,m,n⟩:=h;exact⟨d,f,l,c,e,k,b _ m,n⟩
 |map q g=>
  obtain⟨i,d,f⟩:=h;exact⟨i,b _ d,f⟩
 |loop r=>
  obtain⟨L,d,f⟩:=h;exact⟨L,b _ d,f⟩
 |GW s pos=>exact b _ h
 |dead=>trivial
def Vq [Dw]{la:q_}{mu a:ke}{vs cs:Tn}(e:vs.all flat=true)(h:u9 la mu vs cs):u9 la a vs cs:=by
 refine⟨h.1,λi x y c f=>?_⟩;have d:=h.2 i x y c f;have b:flat x=true:=A_.1 e x (Cf c);rw[dt b d];exact .of_flat b
def s5 [Dw]{la d:q_}{mu e:ke}{v c:TR}(a:Kw v=true)(h:VR la mu v c):VR d e v c:=by
 cases h with
 |w9 c=>cases a
 |LP h=>cases a
 |scalar h=>exact .scalar h
 |agg _ _=>cases a
 |tuple _ _ _=>cases a
 |func _ _ _ _ _=>cases a
 |yield _=>cases a
 |Es _=>cases a
 |DM _=>cases a
 |DV=>exact .DV
 |x3 _ _ _ _=>simp[Kw,le]at a
 |u_ _=>simp[Kw,le]at a
 |Cu f b=>exact .Cu f b
 |y9 b=>exact .y9 b
 |map _=>cases a
def kU [Dw]{mu a:ke}{vs:Tn}{c:Tl}{o:Nat}(f:vs.all Kw=true)(h:cD mu vs c o):cD a vs c o:=by
 intro i v b;obtain⟨g,d,e⟩:=h i v b;exact⟨g,d,s5 (A_.1 f v (Cf b)) e⟩
def Jk{mu:ke}{b:Nat}:¬HI mu [] b:=by
 rintro⟨id,o,p,h,_⟩;simp at h
def Pn{C:m'}(M:∀g vs,C.G g=some vs->vs.all Kw=true){f:TQ}{args:Tn}{r:TR}{H':Tu}(h:dG C f args [] r H')(N:args.all flat=true)(E:flat r=true)(H:Tu):dG C f args H r H:=by
 intro _ A P w d D l k L;have y:WR C w.heap.size (λ_=>none) [] w:=by
  refine⟨λid o h=>by simp at h,λi j S T U V h=>by simp at h,λi o p h=>by simp at h,λi o p h=>by simp at h,λ_ _=>rfl,λg vs t=>?_⟩;obtain⟨u,n,c,e,B,q,s⟩:=k.DL g vs t;exact⟨a_,n,c,e,B,q,kU (M g vs t) s⟩
 obtain⟨v,Q,F,I,R,a,J,K⟩:=h _ w.heap.size (λ_=>none) w d (A9 _) (Vq N l) y L;have m:∀(b:Nat) x,w.heap[b]?=some x->F.heap[b]?=some x:=by
  intro b x O;have z:b<w.heap.size:=by
   grind
  rw[a.j9 b z Jk];exact O
 refine⟨v,P,F,?_,?_,?_,J,K⟩
 .rw[dt E I];exact .of_flat E
 .refine⟨λid o u n=>?_,k.inj,k.own,k.ro,k.Hw,λg vs t=>?_⟩
  .obtain⟨p,q,s⟩:=k.obj id o u n;exact⟨p,q,vO (m p.b) s⟩
  .obtain⟨u,n,c,e,B,q,s⟩:=k.DL g vs t
   simp_all
 .exact⟨A9 _,λ_ _=>rfl,a.size,λb D _=>a.j9 b D Jk,λb h=>.inr h,a.os,a.tape,a.output,a.dr⟩
end
section
variable [Co] [C7]
end
end Sx
namespace Sx
def jP(F:TC)(H a:Tu):Prop:=∀r∈F,∀x,H[r]?=some x->x.alive=true->a[r]?=some x
structure CZ where
 set:Option (Nat×p_)
 push:Option (p_×(Nat->Value))
 v:Value
def CZ.put(e:CZ)(H:Tu):Tu:=match e.set with
 |some p=>H.set p.1 p.2
 |none=>H
def CZ.heap(e:CZ)(H:Tu):Tu:=match e.push with
 |some p=>e.put H++[p.1]
 |none=>e.put H
def CZ.val(e:CZ)(n:Nat):Value:=match e.push with
 |some p=>p.2 n
 |none=>e.v
def FZ(b:Prop)(F W:TC)(f:Tu->Option (List p_×Value))(H:Tu):Prop:=
 ∀H' v,f H=some (H',v)->∃e:CZ,H'=e.heap H/\v=e.val H.length/\(∀p,e.set=some p->p.1∈W/\∃x,H[p.1]?=some x/\x.alive=true)/\(∀p,e.push=some p->b/\Dv p.2/\p.1.alive=true)/\
  ∀a,jP F H a->f a=some (e.heap a,e.val a.length)
def Zh(F:TC)(f:Tu->Tk)(H:Tu):Prop:=∀v,f H=some v->∀a,jP F H a->f a=some v
def gJ{F:TC}{H a:Tu}(h:jP F H a){r:Nat}(c:r∈F){vs:Tn}{e:Nat}{b:Bool}(d:H[r]?=some (.cells vs e b)):a[r]?=some (.cells vs e b):=h r c _ d rfl
def iu{F:TC}{H d:Tu}(h:jP F H d){r:Nat}(f:r∈F){b:Tj}{c:Nat}(a:Dy H r=some (b,c)):H[r]?=some (.map b c)/\Dy d r=some (b,c):=by
 unfold Dy at a;split at a
 next e=>
  cases a;exact⟨e,by unfold Dy;rw[h r f _ e rfl]⟩
 .cases a
def wD{C:m'}{H f:Tu}{r_:Nat}{x:TR}{p:List Value×Nat}(c:dW C H r_ x=some p){F:TC}(j:∀r∈Df x,r∈F)(h:jP F H f):dW C f r_ x=some p:=by
 unfold dW at c ⊢;split at c
 .exact c
 next a d i=>
  split at c
  .simp_all
  next l=>
   split at c
   next g=>
    simp only[l,if_false,g,if_true];split at c
    next m e b i'=>
     have k:a.block∈Df (.slice (some a) d i):=by
      simp[Df,g,le]
     rw[gJ h (j _ k) i'];exact c
    .cases c
   .cases c
 .exact c
 .cases c
def xm{b:Prop}{F W:TC}{H:Tu}(c:b)(x:p_)(mk:Nat->TR)(g:x.alive=true)(f:Dv mk):FZ b F W (λH=>some (H++[x],mk H.length)) H:=by
 intro d v h;cases h;exact⟨⟨none,some (x,mk),undef⟩,rfl,rfl,λp a=>(by cases a),λp a=>jn,λe _=>rfl⟩
def tC{d:Prop}{F W:TC}{f:Tu->Option (List p_×Value)}{H:Tu}{v:TR}(h:f H=some (H,v))(c:∀a,jP F H a->f a=some (a,v)) :
  ∃e:CZ,H=e.heap H/\v=e.val H.length/\(∀p,e.set=some p->p.1∈W/\∃x,H[p.1]?=some x/\x.alive=true)/\(∀p,e.push=some p->d/\Dv p.2/\p.1.alive=true)/\∀a,jP F H a->f a=some (e.heap a,e.val a.length):=
 ⟨⟨none,none,v⟩,rfl,rfl,λp b=>(by cases b),λp b=>(by cases b),c⟩
def tB{c:Prop}{F W:TC}{f:Tu->Option (List p_×Value)}{H:Tu}{x:p_}{mk:Nat->TR}(g:c)(i:x.alive=true)(h:Dv mk)(d:∀a,jP F H a->f a=some (a++[x],mk a.length)) :
  ∃e:CZ,H++[x]=e.heap H/\mk H.length=e.val H.length/\(∀p,e.set=some p->p.1∈W/\∃x,H[p.1]?=some x/\x.alive=true)/\(∀p,e.push=some p->c/\Dv p.2/\p.1.alive=true)/\∀a,jP F H a->f a=some (e.heap a,e.val a.length):=
 ⟨⟨none,some (x,mk),undef⟩,rfl,rfl,λp b=>(by cases b),λp b=>jn,d⟩
def tD{d:Prop}{F W:TC}{f:Tu->Option (List p_×Value)}{H:Tu}{i:Nat}{x y:p_}{v:TR}(h:i∈W)(j:H[i]?=some y)(g:y.alive=true)(c:∀a,jP F H a->f a=some (a.set i x,v)) :
  ∃e:CZ,H.set i x=e.heap H/\v=e.val H.length/\(∀p,e.set=some p->p.1∈W/\∃x,H[p.1]?=some x/\x.alive=true)/\(∀p,e.push=some p->d/\Dv p.2/\p.1.alive=true)/\∀a,jP F H a->f a=some (e.heap a,e.val a.length):=
 ⟨⟨some (i,x),none,v⟩,rfl,rfl,λp b=>jn,λp b=>(by cases b),c⟩
def Ba{P:Prop}{C:m'}{t:TP}{s x:Value}{H:Tu}{F W:TC}(m:P)(K:∀r∈Df s,r∈F/\r∈W)(U:∀r∈Df x,r∈F):FZ P F W (gk C t s x) H:=by
 intro X v c;unfold gk at c;split at c
 case h_2=>cases c
 rename_i N T
 split at c
 .cases c
 rename_i b R
 split at c
 .cases c
 rename_i L
 split at c
 .cases c
 rename_i V
 split at c
 .cases c
 rename_i j n D
 have g:∀f,jP F H f->gk C t s x f=(match (motive:=Value->Option (List p_×Value)) s with
   | .slice none 0 0=>
    if n=0 then some (f,.slice none 0 0)
    else if bc n b.bytes then some (f++[.cells j b.size true],.slice (some ⟨f.length,0,le b.size⟩) n 0)else none
   | .slice (some a) d B=>
    if a.spot≠le b.size then none else
    match f[a.block]? with
    |some (.cells A e rw)=>
     if e≠b.size then none else
     match cut A a.off (d*b.size)with
     |none=>none
     |some l=>
      match B with
      |0=>
       if n=0 then some (f,.slice (some a) d 0)
       else if rw&&bc (d+n) b.bytes then
        some (f.set a.block .dead++[.cells (l++j) b.size true],.slice (some ⟨f.length,0,le b.size⟩) (d+n) 0)
       else none
      |cap+1=>
       if d+n<=cap then
        if rw then(s_ A (a.off+d*b.size) j).map λz=>(f.set a.block (.cells z e true),.slice (some a) (d+n) (cap+1))
        else if n=0 then some (f,.slice (some a) d (cap+1))else none
       else if bc (d+n) b.bytes then
        some (f++[.cells (l++j) b.size true],.slice (some ⟨f.length,0,le b.size⟩) (d+n) 0)
       else none
    |_=>none
   |_=>none):=by
  intro f i;unfold gk;simp only[T,R,L,if_false,V,wD D U i];rfl
 split at c
 .split at c
  next u=>
   cases c;exact tC (by rw[g H λ_ _ _ h _=>h];simp only[u,if_true]) λf i=>kb
  next u=>
   split at c
   next o=>
    cases c;exact tB (mk:=λk=>.slice (some ⟨k,0,le b.size⟩) n 0) m rfl (.slice _ _ _) λf i=>kb
   .cases c
 next a d B=>
  split at c
  .cases c
  rename_i q
  have G:a.block∈Df (.slice (some a) d B):=by
   simp only[ne_eq,Classical.not_not]at q;simp[Df,q,le]
  split at c
  case h_2=>cases c
  rename_i A e M i'
  split at c
  .cases c
  rename_i Q
  split at c
  .cases c
  rename_i l w
  have y:∀ {f},jP F H f->f[a.block]?=some (.cells A e M):=λi=>gJ i (K _ G).1 i';split at c
  .split at c
   next u=>
    cases c;exact tC (by rw[g H λ_ _ _ h _=>h];simp_all) λf i=>kb
   next u=>
    split at c
    next o=>
     cases c;refine⟨⟨some (a.block,.dead),some (.cells (l++j) b.size true,λk=>.slice (some ⟨k,0,le b.size⟩) (d+n) 0),undef⟩,rfl,rfl,λp I=>by cases I;exact⟨(K _ G).2,_,i',rfl⟩,λp I=>by cases I;exact⟨m,.slice _ _ _,rfl⟩,λf i=>?_⟩;rw[g f i];simp only[q,y i,Q,w,u,o,if_true,if_false];rfl
    .cases c
  .split at c
   next cap E=>
    split at c
    next J=>
     obtain⟨z,O,S⟩:=DC.1 c;cases S;exact tD (K _ G).2 i' rfl λf i=>kb
    next J=>
     split at c
     next u=>
      cases c;exact tC (by rw[g H λ_ _ _ h _=>h];simp_all) λf i=>kb
     .cases c
   next cap E=>
    split at c
    next o=>
     cases c;exact tB (mk:=λk=>.slice (some ⟨k,0,le b.size⟩) (d+n) 0) m rfl (.slice _ _ _) λf i=>kb
    .cases c
 .cases c
def P8{b:Prop}{C:m'}{t:TP}{d x:TR}{H:Tu}{F W:TC}(e:∀r∈Df d,r∈F/\r∈W)(f:∀r∈Df x,r∈F):FZ b F W (HP C t d x) H:=by
 intro c v a;cases a
def MV{b:Prop}{C:m'}{t:TP}{x:TR}{H:Tu}{F W:TC}(d:∀r∈Df x,r∈F/\r∈W):FZ b F W (uG C t x) H:=by
 intro c v a;cases a
def MX{g:Prop}{C:m'}{t:TP}{id off:Nat}{x:TR}{H:Tu}{F W:TC}(h1:id∈F)(b:id∈W):FZ g F W (jU C t id off x) H:=by
 intro i v a;unfold jU at a;split at a
 next k e i'=>
  obtain⟨h,f,d⟩:=DC.1 a;cases d;refine tD b i' rfl λj c=>?_;unfold jU;simp only[gJ c h1 i',f,EO]
 .cases a
def rx{s:Prop}{C:m'}{t:TP}{m k x:TR}{H:Tu}{F W:TC}(q:∀r∈Df m,r∈F/\r∈W):FZ s F W (cI C t m k x) H:=by
 intro u v a;unfold cI at a;split at a
 case h_2=>cases a
 rename_i z y id l
 split at a
 .cases a
 rename_i d
 split at a
 .cases a
 rename_i w c g
 obtain⟨e,n⟩:=q id (by simp[Df]);have j:=(iu (λ_ _ _ h _=>h:jP F H H) e g).1;split at a
 .cases a
 next b=>
  cases a;refine tD n j rfl λo f=>?_;unfold cI;simp only[l,d,(iu f e g).2,b];rfl
 next i b=>
  split at a
  next p=>
   cases a;refine tD n j rfl λo f=>?_;unfold cI;simp only[l,d,(iu f e g).2,b,p];rfl
  .cases a
def MW{b:Prop}{C:m'}{t:TP}{m k:TR}{H:Tu}{F W:TC}(d:∀r∈Df m,r∈F/\r∈W):FZ b F W (iS C t m k) H:=by
 intro c v a;cases a
def Bc{b:Prop}{m s x:TR}{H:Tu}{F W:TC}(d:∀r∈Df m,r∈F/\r∈W):FZ b F W (fE m s x) H:=by
 intro c v a;cases a
def Bb{b:Prop}{C:m'}{t:TP}{m k:TR}{H:Tu}{F W:TC}(d:∀r∈Df m,r∈F/\r∈W):FZ b F W (oZ C t m k) H:=by
 intro c v a;cases a
def P9{f:Prop}{C:m'}{t:TP}{l c:TR}{H:Tu}{F W:TC}(d:f):FZ f F W (dz C t l c) H:=by
 intro j v a;unfold dz at a;split at a
 case h_2=>cases a
 rename_i i g e n o r
 split at a
 case h_2=>cases a
 rename_i b q
 split at a
 .cases a
 rename_i h
 split at a
 case h_2=>cases a
 rename_i z s
 split at a
 next p=>
  cases a;refine tB (mk:=λk=>.slice (some ⟨k,0,le b.size⟩) i.toNat (g.toNat+1)) d rfl (.slice _ _ _) λm _=>?_;unfold dz
  simp_all
 .cases a
def Bd{C:m'}{t:TP}{m k:TR}{ok:Bool}{H:Tu}{F:TC}(g:∀r∈Df m,r∈F):Zh F (dL C t m k ok) H:=by
 intro v a h e;unfold dL at a;unfold dL;split at a
 case h_2=>cases a
 rename_i o j l
 split at a
 .cases a
 rename_i b
 simp only[b];split at a
 .cases a
 rename_i z n
 split at a
 .exact a
 next id=>
  have d:=g id (by simp[Df]);split at a
  .cases a
  rename_i i c f
  simp only[(iu e d f).2];exact a
 .cases a
def VM{C:m'}{t:TP}{a:Addr}{d c e:Tk}{H:Tu}{F:TC}(f:∀r∈Df (.pointer (some a)),r∈F):Zh F (lM C t a d c e) H:=by
 intro v b;cases b
end Sx
end Go.Am
end

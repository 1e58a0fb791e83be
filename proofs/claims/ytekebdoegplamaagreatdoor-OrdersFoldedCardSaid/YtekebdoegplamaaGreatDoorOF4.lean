import Derived.Test.YtekebdoegplamaaGreatDoorOF3
import Derived.Laws.Entries
import Derived.Laws.StructEq
set_option linter.all false
noncomputable section
open Option renaming some->O,none->Q
open Bool renaming true->J,false->U
open List renaming length->W,range->EW,replicate->FJ
open Int renaming ofNat->DO
open Go.Value renaming int->EO,slice->DW,pointer->EQ,agg->EU
open Go.IntKind renaming i64->DQ,u8->DU
open Go renaming Value->FO,Oper->FQ,Operand->GJ,BinOp->GO,TypeDesc->GQ
open Go.Am.wa renaming cells->EJ
namespace Go.Am
section
variable {P:TI}
def aX{j7 c:Type}(s:Sem j7)(f:j7->Sem c):EH P (s >>= f)=(EH P s).bind λa=>EH P (f a):=by
 show EH P (s.bind f)=_
 induction s with
 |pure a=>rfl
 |program k b=>exact b P
 |_=>rfl
def iD{j7:Type}(a:j7):EH P (pure a:Sem j7)=O a:=rfl
def nT:EH P program=O P:=rfl
def br{t:TS}{d:GQ}(h:P.underlying t=O d):EH P (underlying t)=O d:=by unfold underlying;rw[aX,nT];simp only[Fj,h];rfl
def tj{d:Nat}{t:TS}{k c:TN}{a b:Int}(h:P.underlying t=O (.int c)):EH P (Op.equalIn (d+1) t (.int k a) (.int k b))=O (a==b):=by simp only[Op.equalIn,aX,br h,Fj,if_true,iD]
def rn{d:Nat}{t:TS}{a b:Bool}(h:P.underlying t=O .bool):EH P (Op.equalIn (d+1) t (.bool a) (.bool b))=O (a==b):=by simp only[Op.equalIn,aX,br h,Fj,iD]
def BP{t:TS}{a:Bool}(h:DV P t=O a):EH P (isAgg t)=O a:=by
 unfold isAgg;unfold DV at h;split at h
 next b e=>cases h;rw[aX,br e];rfl
 next b e=>cases h;rw[aX,br e];rfl
 next d c f e=>cases h;rw[aX,br e];simp only[Fj];rfl
 .cases h
def mF{t:TS}{d:GQ}(h:P.underlying t=O d):EH P (sizeOf t)=O (P.cellsOf t):=by
 unfold sizeOf typeInfo;have a:∃i,P.info? t=O i:=by
  unfold Program.underlying at h
  grind
 let⟨i,a⟩:=a;simp only[aX,nT,Fj,a];simp[EH,Program.cellsOf,a];rfl
def nR{t:TS}{c:Bool}(h:DV P t=O c){cs:Tn}{off:Nat}{ds:Tn}(a:cut cs off (if c then P.cellsOf t else 1)=O ds) :
  ∃v,EH P (part t ⟨cs⟩ off)=O v/\eC c ds v:=by
 have f:∃d,P.underlying t=O d:=by
  unfold DV at h
  grind
 let⟨d,f⟩:=f;unfold part;rw[aX,BP h];simp only[Fj];unfold cut at a;cases c with
 |true=>
  simp only[if_true]at a ⊢;split at a
  next e=>
   cases a;refine⟨EU ⟨(cs.drop off).take (P.cellsOf t)⟩,?_,.inl ⟨rfl,rfl⟩⟩;rw[aX,mF f];simp only[Fj,iD,Ih,Value.agg.injEq]
   simp_all
  .cases a
 |false=>
  simp only[FG,if_false]at a ⊢;split at a
  next e=>
   cases a;have b:off<W cs:=a_;refine⟨cs[off],?_,.inr ⟨rfl,by rw[RK b];rfl⟩⟩;have:(⟨cs⟩ : Array FO)[off]?=O cs[off]:=by simp[b]
   rw[this];rfl
  .cases a
def Gh(a b:List SL):Bool:=cz ((a.map SL.lf).zip (b.map SL.lf))
def wt(a b:List (Lf×Lf)):cz (a++b)=(cz a&&cz b):=by simp[cz]
def qC{a b c d:List SL}(h:W a=W b):Gh (a++c) (b++d)=(Gh a b&&Gh c d):=by unfold Gh;rw[ME,ME,List.zip_append (by simpa using h),wt]
def r1(a:Bool)(cs:List SL)(v:FO):Prop:=eC a (cs.map SL.val) v
def EqD(P:TI)(d:Nat)(t:TS)(ks:TK):Prop:=
 ∃c,DV P t=O c/\(if c then P.cellsOf t else 1)=W ks/\∀(a b:List SL) (x y:FO),bf a ks=J->bf b ks=J->r1 c a x->r1 c b y->EH P (Op.equalIn d t x y)=O (Gh a b)
def gY{cs:List SL}{d e:TK}(h:bf cs (d++e)=J):∃a b,cs=a++b/\bf a d=J/\bf b e=J:=by
 induction d generalizing cs with
 |nil=>exact⟨[],cs,rfl,rfl,h⟩
 |cons k d i=>
  cases cs with
  |nil=>cases h
  |cons c cs=>simp only[Fe,bf,y_]at h;obtain⟨a,b,rfl,f,g⟩:=i h.2;exact⟨c::a,b,rfl,by simp[bf,h.1,f],g⟩
def tW{pre a post:List SL}{n off:Nat}(c:off=W pre)(b:n=W a):cut ((pre++a++post).map SL.val) off n=O (a.map SL.val):=by
 subst c;subst b;unfold cut
 simp_all
def Nm{j7:Type}{c:Prop} [Decidable c](a b:Sem j7):EH P (if c then a else b)=if c then EH P a else EH P b:=by split<;>rfl
def ru{d:Nat}{F:TS->Option (TK)}(B:∀t ks,F t=O ks->EqD P d t ks):∀(l:List Field) (off:Nat) (ks:TK),oC F l off=O ks->
  ∀(c a e b:List SL),W c=off->W e=off->bf a ks=J->bf b ks=J->
   EH P (Op.eqFields d ⟨(c++a).map SL.val⟩ ⟨(e++b).map SL.val⟩ l)=O (Gh a b)
 | [],off,ks,h,c,a,e,b,_,_,m,o=>by
  cases h;cases a with
  |cons _ _=>cases m
  |nil=>cases b with
   |cons _ _=>cases o
   |nil=>rfl
 |f::l,off,ks,h,c,a,e,b,la,lb,m,o=>by
  simp only[oC]at h;split at h
  next k1 q C H=>
   have q:¬f.name = "_":=of_decide_eq_false q
   have C:=Fs C;obtain⟨K,I,rfl⟩:=FD.1 h;let⟨N,A,R,E⟩:=B _ _ H;obtain⟨g,w,rfl,j,n⟩:=gY m;obtain⟨i,z,rfl,k,p⟩:=gY o;have L:=bU j;have M:=bU k;let⟨x,r,s⟩:=nR A (cs:=(c++(g++w)).map SL.val) (off:=f.offset) (ds:=g.map SL.val) (by rw[←Gu];exact tW a_ a_);let⟨y,u,v⟩:=nR A (cs:=(e++(i++z)).map SL.val) (off:=f.offset) (ds:=i.map SL.val) (by rw[←Gu];exact tW a_ a_);have G:=E g i x y j k s v;have D:=ru B l (off+W k1) K I (c++g) w (e++i) z z_ z_ n p;rw[Gu,Gu]at D;simp only[Op.eqFields,ne_eq,q,not_false_eq_true,if_true];rw[aX,r];simp only[Fj];rw[aX,u];simp only[Fj];rw[aX,G];simp only[Fj];rw[qC a_];cases Gh g i with
   |true=>simpa using D
   |false=>rfl
  .cases h
def gV(d:Nat)(t:TS)(c:Array Field)(xs ys:Tl)(i:P.underlying t=O (.struct c))(k:P.stoodInHeld t=U) :
  EH P (Op.equalIn (d+1) t (.agg xs) (.agg ys))=EH P (Op.eqFields d xs ys c.toList):=by
 simp only[Op.equalIn,aX,br i,Fj,nT,k,FG,if_false];rw[←Array.forIn_toList];generalize c.toList=c;clear i
 induction c with
 |nil=>simp only[List.forIn_nil,Op.eqFields];rfl
 |cons f c j=>
  simp only[qdF,Op.eqFields,aX,Nm];split
  .cases e:EH P (part f.type xs f.offset)with
   |none=>simp
   |some a=>
    cases g:EH P (part f.type ys f.offset)with
    |none=>simp[e,g]
    |some b=>
     cases h:EH P (Op.equalIn d f.type a b)with
     |none=>simp[e,g,h]
     |some r=>
      cases r
      .simp[e,g,h,iD]
      .simpa[e,g,h,iD]using j
  .simpa[iD]using j
def ft(d n:Nat)(e:TS)(xs ys:Tl):TC->Sem Bool
 | []=>pure J
 |i::is=>do
  let a ←part e xs (i*n)
  let b ←part e ys (i*n)
  let r ←Op.equalIn d e a b
  if (!r)=J then pure U else ft d n e xs ys is
def iN(d:Nat)(t e:TS)(n:Nat)(xs ys:Tl)(g:P.underlying t=O (.array n e))(f:∃k,P.underlying e=O k) :
  EH P (Op.equalIn (d+1) t (.agg xs) (.agg ys))=EH P (ft d (P.cellsOf e) e xs ys (EW n)):=by
 let⟨k,f⟩:=f;simp only[Op.equalIn,aX,br g,Fj,mF f];rw[Std.Legacy.Range.forIn_eq_forIn_range'];simp only[Std.Legacy.Range.size,Nat.sub_zero,Nat.add_sub_cancel,Nat.div_one];rw[qby];generalize List.range' 0 n=is;clear g
 induction is with
 |nil=>simp only[List.forIn_nil,ft];rfl
 |cons i is h=>
  simp only[qdF,ft,aX,Nm];cases j:EH P (part e xs (i*P.cellsOf e))with
  |none=>simp
  |some a=>
   cases l:EH P (part e ys (i*P.cellsOf e))with
   |none=>simp
   |some b=>
    cases c:EH P (Op.equalIn d e a b)with
    |none=>simp[c]
    |some r=>
     cases r
     .simp[c,iD]
     .simpa[c,iD]using h
def tq{d:Nat}{e:TS}{p:TK}(E:EqD P d e p)(l:W p=P.cellsOf e):∀(n i:Nat) (c a f b:List SL),W c=i*P.cellsOf e->W f=i*P.cellsOf e->
  bf a (FJ n p).flatten=J->bf b (FJ n p).flatten=J->
   EH P (ft d (P.cellsOf e) e ⟨(c++a).map SL.val⟩ ⟨(f++b).map SL.val⟩ (List.range' i n))=O (Gh a b)
 |0,i,c,a,f,b,_,_,m,o=>by
  cases a with
  |cons _ _=>cases m
  |nil=>cases b with
   |cons _ _=>cases o
   |nil=>rfl
 |n+1,i,c,a,f,b,la,lb,m,o=>by
  rw[qck,qce]at m o;let⟨C,h1,D,A⟩:=E;obtain⟨g,w,rfl,j,q⟩:=gY m;obtain⟨h,z,rfl,k,r⟩:=gY o;have G:=bU j;have H:=bU k;let⟨x,s,t⟩:=nR h1 (cs:=(c++(g++w)).map SL.val) (off:=i*P.cellsOf e) (ds:=g.map SL.val) (by rw[←Gu];exact tW la.symm a_);let⟨y,u,v⟩:=nR h1 (cs:=(f++(h++z)).map SL.val) (off:=i*P.cellsOf e) (ds:=h.map SL.val) (by rw[←Gu];exact tW lb.symm a_);have F:=A g h x y j k t v;have B:=tq ⟨C,h1,D,A⟩ l n (i+1) (c++g) w (f++h) z jw jw q r;rw[Gu,Gu]at B;simp only[qcB,ft];rw[aX,s];simp only[Fj];rw[aX,u];simp only[Fj];rw[aX,F];simp only[Fj];rw[qC a_];cases Gh g h with
  |true=>simpa using B
  |false=>rfl
def Pm{k:LK}(g:k≠.v){a b:List SL}(d:bf a [k]=J)(e:bf b [k]=J):∃x y,a=[x]/\b=[y]/\x.is k=J/\y.is k=J:=by
 cases a with
 |nil=>cases d
 |cons x c=>cases c with
  |cons _ _=>simp[bf]at d
  |nil=>cases b with
   |nil=>cases e
   |cons y f=>cases f with
    |cons _ _=>simp[bf]at e
    |nil=>simp only[bf,qdO]at d e;simp_all
def pI:∀(d:Nat) (t:TS) (ks:TK),EE P d t=O ks->EqD P d t ks
 |0,t,ks,h=>by cases h
 |d+1,t,ks,h=>by
  simp only[EE]at h;split at h
  next k e=>
   cases h;refine⟨U,by simp[DV,e],d_,λa b x y i j f g=>?_⟩;obtain⟨u,v,rfl,rfl,m,o⟩:=Pm d_ i j;rcases f with⟨c,_⟩|⟨_,f⟩
   .cases c
   rcases g with⟨c,_⟩|⟨_,g⟩
   .cases c
   simp only[Fx,L9,Li,and_true]at f g;subst f;subst g;cases u<;>simp only[SL.is,FG]at m;cases v<;>simp only[SL.is,FG]at o;have w:=dS m;have z:=dS o;subst w;subst z;simp only[SL.val];rw[tj e];simp[Gh,cz,SL.lf,iP]
  next e=>
   cases h;refine⟨U,by simp[DV,e],d_,λa b x y i j f g=>?_⟩;obtain⟨u,v,rfl,rfl,m,o⟩:=Pm d_ i j;rcases f with⟨c,_⟩|⟨_,f⟩
   .cases c
   rcases g with⟨c,_⟩|⟨_,g⟩
   .cases c
   simp only[Fx,L9,Li,and_true]at f g;subst f;subst g;cases u<;>simp only[SL.is,FG]at m<;>cases v<;>simp only[SL.is,FG]at o<;>
   .simp only[SL.val];rw[rn e];simp[Gh,cz,SL.lf,iP]
  next r e=>
   split at h
   next H E B=>
    split at h
    next l=>
     cases h;have l:=Fs l;refine⟨J,by simp[DV,e],by simp[l],λa b x y i j f g=>?_⟩;rcases f with⟨_,rfl⟩|⟨c,_⟩
     .rcases g with⟨_,rfl⟩|⟨c,_⟩
      .rw[gV d t r _ _ e E];exact ru (pI d) r.toList 0 _ B [] a [] b rfl rfl i j
      .cases c
     .cases c
    .cases h
   .cases h
  next n p e=>
   split at h
   next F C=>
    split at h
    next l=>
     simp only[y_]at l;have q:=Fs l.1;have D:=Fs l.2;cases h;refine⟨J,by simp[DV,e],k_,λa b x y i j f g=>?_⟩;rcases f with⟨_,rfl⟩|⟨c,_⟩
     .rcases g with⟨_,rfl⟩|⟨c,_⟩
      .have s:=pI d p F C;have m:∃k,P.underlying p=O k:=by
        let⟨G,A,_⟩:=s;unfold DV at A
        grind
       rw[iN d t p n _ _ e m,qby];exact tq s q n 0 [] a [] b d_ d_ i j
      .cases c
     .cases c
    .cases h
   .cases h
  .cases h
end
section
variable {P:TI}
def Pd{a b:Bool}:YE a b=(a==b):=by cases a<;>cases b<;>rfl
def yz{a b:Int}:kg a b=(a==b):=by
 rw[h9,beq_iff_eq];cases a<;>cases b<;>simp only[kg]
 .rw[Nat.beq_eq];grind
 .simp_all
 .simp_all
 simp_all
def pE:∀ {ks:TK} {xs ys:Tn} {r:Bool},fU ks xs ys=O r->∃a b:List SL,a.map SL.val=xs/\b.map SL.val=ys/\bf a ks=J/\bf b ks=J/\Gh a b=r
 | [],[],[],r,h=>by cases h;exact⟨[],[],rfl,rfl,rfl,rfl,rfl⟩
 | .i k::ks,.int a x::xs,.int b y::ys,r,h=>by
  simp only[fU]at h;split at h
  next r' m n e3=>
   let⟨c,d,h1,e,f,g,j⟩:=pE e3;refine⟨.i a x::c,.i b y::d,by simp[SL.val,h1],by simp[SL.val,e],by simp[bf,SL.is,m,f],by simp[bf,SL.is,n,g],?_⟩;have l:Gh (.i a x::c) (.i b y::d)=((x==y)&&Gh c d):=by simp[Gh,cz,iP,SL.lf]
   rw[l,j,←yz]
   grind
  .cases h
 | .b::ks,.bool x::xs,.bool y::ys,r,h=>by
  simp only[fU]at h;split at h
  next r' e3=>
   let⟨c,d,h1,e,f,g,j⟩:=pE e3;refine⟨.b x::c,.b y::d,by simp[SL.val,h1],by simp[SL.val,e],by simp[bf,SL.is,f],by simp[bf,SL.is,g],?_⟩;have l:Gh (.b x::c) (.b y::d)=((x==y)&&Gh c d):=by simp[Gh,cz,iP,SL.lf]
   rw[l,j,←Pd]
   grind
  .cases h
def jh:∀ {ks:TK} {xs ys:Tn} {r:Bool},fU ks xs ys=O r->xs.all scalar=J
 | [],[],[],r,h=>rfl
 | .i k::ks,.int a x::xs,.int b y::ys,r,h=>by
  simp only[fU]at h;split at h
  next r' c d e3=>simp only[j3,y_];exact⟨rfl,jh e3⟩
  .cases h
 | .b::ks,.bool x::xs,.bool y::ys,r,h=>by
  simp only[fU]at h;split at h
  next r' e3=>simp only[j3,y_];exact⟨rfl,jh e3⟩
  .cases h
def T8:∀ {ks:TK} {xs ys:Tn} {r:Bool},fU ks xs ys=O r->W xs=W ks:=by intro ks xs ys r h;let⟨a,b,c,e,d,f,g⟩:=pE h;rw[←c,IR];exact bU d
def nh:∀ {ks:TK} {xs:Tn} {r:Bool},fU ks xs xs=O r->r=J
 | [],[],r,h=>by cases h;rfl
 | .i k::ks,.int a x::xs,r,h=>by
  simp only[fU]at h;split at h
  next r' c d e3=>
   have:kg x x=J:=by rw[yz];simp
   rw[this]at h;simp only[Ih]at h;rw[←h];exact nh e3
  .cases h
 | .b::ks,.bool x::xs,r,h=>by
  simp only[fU]at h;split at h
  next r' e3=>
   have:YE x x=J:=by cases x<;>rfl
   rw[this]at h;simp only[Ih]at h;rw[←h];exact nh e3
  .cases h
def vt{j7:Type}{g:j7->PUnit->Sem (ForInStep PUnit)}:∀(l:List j7),(∀x∈l,EH P (g x PUnit.unit)=O (.yield PUnit.unit))->EH P (forIn l PUnit.unit g)=O PUnit.unit
 | [],_=>rfl
 |x::l,h=>by rw[qdF,aX,h x MA];exact vt l λy a=>h y (G_ _ a)
def ChkD(P:TI)(d:Nat)(t:TS)(ks:TK):Prop:=∃a,DV P t=O a/\(if a then P.cellsOf t else 1)=W ks/\∀(b:Bool) (m:Nat) (cs:Tn) (v:FO),d<=m->W cs=W ks->eC a cs v->EH P (Instr.checkKey b m t v)=O ()
def wB{F:TS->Option (TK)}:∀(d:List Field) (off:Nat) (ks:TK),oC F d off=O ks->∀f∈d,∃k1,F f.type=O k1/\f.offset+W k1<=off+W ks
 | [],off,ks,h,f,c=>by cases c
 |j::d,off,ks,h,f,c=>by
  simp only[oC]at h;split at h
  next k1 l e k=>
   have e:=Fs e;obtain⟨i,g,rfl⟩:=FD.1 h;rcases Fy.1 c with rfl|c
   .simp_all
   .obtain⟨m,a,b⟩:=wB d _ i g f c
    grind
  .cases h
def MP:∀(d:Nat) (t:TS) (ks:TK),EE P d t=O ks->ChkD P d t ks
 |0,t,ks,h=>by cases h
 |d+1,t,ks,h=>by
  simp only[EE]at h;split at h
  next k e=>cases h;refine⟨U,by simp[DV,e],d_,λb m cs v E _ _=>?_⟩;obtain⟨m,rfl⟩ : ∃l,m=l+1:=⟨m-1,a_⟩;unfold Instr.checkKey;rw[aX,br e];rfl
  next e=>cases h;refine⟨U,by simp[DV,e],d_,λb m cs v E _ _=>?_⟩;obtain⟨m,rfl⟩ : ∃l,m=l+1:=⟨m-1,a_⟩;unfold Instr.checkKey;rw[aX,br e];rfl
  next K e=>
   split at h
   next V T M=>
    split at h
    next c=>
     cases h;have c:=Fs c;refine⟨J,by simp[DV,e],by simp[c],λb m cs v E y G=>?_⟩;obtain⟨m,rfl⟩ : ∃l,m=l+1:=⟨m-1,a_⟩;rcases G with⟨_,rfl⟩|⟨u,_⟩
     case inr=>cases u
     unfold Instr.checkKey;rw[aX,br e];simp only[Fj];rw[←Array.forIn_toList];have:=vt (P:=P) (g:=λf _=>if f.name ≠ "_" then(do Instr.checkKey b m f.type (←part f.type ⟨cs⟩ f.offset);pure (ForInStep.yield PUnit.unit))else pure (ForInStep.yield PUnit.unit)) K.toList (λf z=>by
      let⟨L,B,S⟩:=wB K.toList 0 _ M f z;rw[Nm];split
      .obtain⟨s,q,I,r⟩:=MP d f.type L B;have w:cut cs f.offset (if s then P.cellsOf f.type else 1)=O ((cs.drop f.offset).take (W L)):=by
        unfold cut
        simp_all
       let⟨x,H,j⟩:=nR q w;rw[aX];rw[H];simp only[Fj];rw[aX,r b m _ x a_ z_ j];rfl
      .rfl)
     simp_all
    .cases h
   .cases h
  next n a e=>
   split at h
   next p B=>
    split at h
    next c=>
     simp only[y_]at c;have C:=Fs c.1;have N:=Fs c.2;cases h;refine⟨J,by simp[DV,e],k_,λb m cs v E y G=>?_⟩;obtain⟨m,rfl⟩ : ∃l,m=l+1:=⟨m-1,a_⟩;rcases G with⟨_,rfl⟩|⟨u,_⟩
     case inr=>cases u
     let⟨s,q,I,r⟩:=MP d a p B;have F:∃k,P.underlying a=O k:=by
      unfold DV at q
      grind
     let⟨R,F⟩:=F;unfold Instr.checkKey;rw[aX,br e];simp only[Fj];rw[Std.Legacy.Range.forIn_eq_forIn_range'];simp only[Std.Legacy.Range.size,Nat.sub_zero,Nat.add_sub_cancel,Nat.div_one];have o:W cs=n*W p:=k_;have:=vt (P:=P) (g:=λi _=>(do Instr.checkKey b m a (←part a ⟨cs⟩ (i*(←sizeOf a)));pure (ForInStep.yield PUnit.unit))) (List.range' 0 n) (λi A=>by
      have A:i<n:=by simpa using A
      have D:i*P.cellsOf a+W p<=W cs:=by
       rw[o,←C];have:=p9 (W p) (Nat.succ_le_of_lt A)
       grind
      have w:cut cs (i*P.cellsOf a) (if s then P.cellsOf a else 1)=O ((cs.drop (i*P.cellsOf a)).take (W p)):=by unfold cut;rw[I,rv D]
      let⟨x,H,j⟩:=nR q w;rw[aX,mF F];simp only[Fj];rw[aX,H];simp only[Fj];rw[aX,r b m _ x a_ z_ j];rfl)
     simp_all
    .cases h
   .cases h
  .cases h
def PV{kt:TS}{k:TV}(h:LP P kt k=J):kj P kt k=J:=by
 unfold LP at h;split at h
 next b=>
  split at h
  next B=>
   split at h
   next g n=>
    split at h
    next r i=>
     have o:=T8 i;have s:=nh i;subst s;let⟨p,z,A,q⟩:=pI 10000 kt g n;have l:p=J:=by simp_all
     subst l;let⟨a,c,t,u,v,w,x⟩:=pE i;have e:=q a c (.agg b) (.agg b) v w (.inl ⟨rfl,by rw[t]⟩) (.inl ⟨rfl,by rw[u]⟩);rw[x]at e;have f:EH P (Op.equal kt (.agg b) (.agg b))=O J:=e;let⟨j,y,_,m⟩:=MP 10000 kt g n;have d:j=J:=by simp_all
     subst d;unfold kj;rw[m J 10000 b.toList (.agg b) (B7 _) o (.inl ⟨rfl,rfl⟩),m U 10000 b.toList (.agg b) (B7 _) o (.inl ⟨rfl,rfl⟩),f];have:gI (.agg b)=J:=jh i;rw[this];rfl
    .exact h
   .exact h
  .exact h
 .exact h
def LM(a:Bool)(xs:Tn)(x:FO):Prop:=(a=J/\x=EU ⟨xs⟩)∨(a=U/\∃b,xs=x::b)
def sT(P:TI)(d:Nat)(t:TS)(ks:TK):Prop:=
 ∃a,DV P t=O a/\(if a then P.cellsOf t else 1)=W ks/\∀(xs ys:Tn) (x y:FO) (r:Bool),C2 ks xs ys=O r->LM a xs x->LM a ys y->EH P (Op.equalIn d t x y)=O r
def mY:∀ {k1 a:TK} {xs ys:Tn} {r:Bool},C2 (k1++a) xs ys=O r->
  ∃c,C2 k1 (xs.take (W k1)) (ys.take (W k1))=O c/\(c=U->r=U)/\(c=J->C2 a (xs.drop (W k1)) (ys.drop (W k1))=O r)
 | [],a,xs,ys,r,h=>by refine⟨J,by simp only[C2],(λq=>Bool.noConfusion q),λ_=>?_⟩;simpa using h
 | .i k::k1,a,xs,ys,r,h=>by
  cases xs with
  |nil=>simp[C2]at h
  |cons x xs=>cases ys with
   |nil=>cases x<;>simp[C2]at h
   |cons y ys=>
    cases x<;>first|(simp[C2]at h;done)|skip
    cases y<;>first|(simp[C2]at h;done)|skip
    simp only[Fe,C2]at h;simp only[j1,qcl,qcE,C2];split at h
    next d e=>
     split at h
     next e3=>exact mY h
     simp_all
    .cases h
 | .b::k1,a,xs,ys,r,h=>by
  cases xs with
  |nil=>simp[C2]at h
  |cons x xs=>cases ys with
   |nil=>cases x<;>simp[C2]at h
   |cons y ys=>
    cases x<;>first|(simp[C2]at h;done)|skip
    cases y<;>first|(simp[C2]at h;done)|skip
    simp only[Fe,C2]at h;simp only[j1,qcl,qcE,C2];split at h
    next e3=>exact mY h
    simp_all
 | .v::k1,a,xs,ys,r,h=>by simp[C2]at h
def y8{k:LK}{ks:TK}{xs ys:Tn}{r:Bool}(h:C2 (k::ks) xs ys=O r):∃x b y a,xs=x::b/\ys=y::a:=by
 cases xs with
 |nil=>cases k<;>simp[C2]at h
 |cons x xs=>cases ys with
  |nil=>cases k<;>cases x<;>simp[C2]at h
  |cons y ys=>simp_all
def RI{t:TS}{a:Bool}(h:DV P t=O a){cs:Tn}{off n:Nat}(b:(if a then P.cellsOf t else 1)=n)(c:a=U->∃x f,(cs.drop off).take n=x::f) :
  ∃v,EH P (part t ⟨cs⟩ off)=O v/\LM a ((cs.drop off).take n) v:=by
 have e:∃d,P.underlying t=O d:=by
  unfold DV at h
  grind
 let⟨d,e⟩:=e;unfold part;rw[aX,BP h];simp only[Fj];cases a with
 |true=>
  simp only[if_true]at b ⊢;subst b;refine⟨EU ⟨(cs.drop off).take (P.cellsOf t)⟩,?_,.inl ⟨rfl,rfl⟩⟩;rw[aX,mF e];simp only[Fj,iD,Ih,Value.agg.injEq]
  simp_all
 |false=>
  let⟨x,f,i⟩:=c rfl;simp only[FG,if_false]at b ⊢;subst b;refine⟨x,?_,.inr ⟨rfl,f,i⟩⟩;have g:(cs.drop off)[0]?=O x:=by
   have:((cs.drop off).take 1)[0]?=O x:=by rw[i];rfl
   grind
  rw[qb9,qdh]at g;have:(⟨cs⟩ : Array FO)[off]?=O x:=by simpa using g
  rw[this];rfl
def Ao{d:Nat}{t:TS}{k1 l:TK}(u:sT P d t k1){xs ys:Tn}{off:Nat}{r:Bool}(h:C2 (k1++l) (xs.drop off) (ys.drop off)=O r)(s:Bool->Sem Bool){r':Bool}
  (E:C2 l (xs.drop (off+W k1)) (ys.drop (off+W k1))=O r->EH P (s J)=O r) (v:EH P (s U)=O U) (w:r'=r) :
  (EH P (part t ⟨xs⟩ off)).bind (λa=>(EH P (part t ⟨ys⟩ off)).bind λb=>(EH P (Op.equalIn d t a b)).bind λq=>EH P (s q))=O r':=by
 subst w;let⟨n,j,e,p⟩:=u;let⟨m,i,o,e3⟩:=mY h;have c:n=U->(∃x f,(xs.drop off).take (W k1)=x::f)/\∃x f,(ys.drop off).take (W k1)=x::f:=by
  intro g;subst g;simp only[FG,if_false]at e;cases k1 with
  |nil=>cases e
  |cons k F=>
   let⟨x,f,y,z,G,H⟩:=y8 i
   grind
 let⟨x,A,B⟩:=RI j (cs:=xs) (off:=off) e λh=>(c h).1;let⟨y,C,D⟩:=RI j (cs:=ys) (off:=off) e λh=>(c h).2;rw[A];simp only[Fj];rw[C];simp only[Fj];rw[p _ _ x y m i B D];simp only[Fj];cases m with
 |true=>simp_all
 |false=>rw[o rfl];exact v
def oL{d:Nat}{F:TS->Option (TK)}(g:∀t ks,F t=O ks->sT P d t ks):∀(a:List Field) (off:Nat) (ks:TK),oC F a off=O ks->
  ∀(xs ys:Tn) (r:Bool),C2 ks (xs.drop off) (ys.drop off)=O r->EH P (Op.eqFields d ⟨xs⟩ ⟨ys⟩ a)=O r
 | [],off,ks,h,xs,ys,r,b=>by cases h;simp only[C2,Ih]at b;subst b;rfl
 |f::a,off,ks,h,xs,ys,r,b=>by
  simp only[oC]at h;split at h
  next k1 c e i=>
   have c:¬f.name = "_":=of_decide_eq_false c
   have e:=Fs e;obtain⟨k,j,rfl⟩:=FD.1 h;simp only[Op.eqFields,ne_eq,c,not_false_eq_true,if_true,aX];rw[e];exact Ao (g _ _ i) b (λq=>if (!q)=J then pure U else Op.eqFields d ⟨xs⟩ ⟨ys⟩ a) (λh=>by simpa using oL g a _ k j xs ys r h) rfl rfl
  .cases h
def rr{d:Nat}{e:TS}{c:TK}(f:sT P d e c)(b:W c=P.cellsOf e):∀(n i:Nat) (xs ys:Tn) (r:Bool),
  C2 (FJ n c).flatten (xs.drop (i*P.cellsOf e)) (ys.drop (i*P.cellsOf e))=O r->EH P (ft d (P.cellsOf e) e ⟨xs⟩ ⟨ys⟩ (List.range' i n))=O r
 |0,i,xs,ys,r,a=>by simp only[List.replicate_zero,List.flatten_nil,C2,Ih]at a;subst a;rfl
 |n+1,i,xs,ys,r,a=>by rw[qck,qce]at a;simp only[qcB,ft,aX];refine Ao f a (λq=>if (!q)=J then pure U else ft d (P.cellsOf e) e ⟨xs⟩ ⟨ys⟩ (List.range' (i+1) n)) (λh=>?_) rfl rfl;have:=rr f b n (i+1) xs ys r jw;simpa using this
def qG:∀(d:Nat) (t:TS) (ks:TK),EE P d t=O ks->sT P d t ks
 |0,t,ks,h=>by cases h
 |d+1,t,ks,h=>by
  simp only[EE]at h;split at h
  next k e=>
   cases h;refine⟨U,by simp[DV,e],d_,λxs ys x y r a c f=>?_⟩;rcases c with⟨h0,_⟩|⟨_,A,rfl⟩
   .cases h0
   rcases f with⟨h0,_⟩|⟨_,ty,rfl⟩
   .cases h0
   cases x<;>first|(simp[C2]at a;done)|skip
   cases y<;>first|(simp[C2]at a;done)|skip
   simp only[C2]at a;split at a
   next g i=>
    have g:=dS g;have i:=dS i;subst g;subst i;rw[tj e,←yz]
    grind
   .cases a
  next e=>
   cases h;refine⟨U,by simp[DV,e],d_,λxs ys x y r a c f=>?_⟩;rcases c with⟨h0,_⟩|⟨_,A,rfl⟩
   .cases h0
   rcases f with⟨h0,_⟩|⟨_,ty,rfl⟩
   .cases h0
   cases x<;>first|(simp[C2]at a;done)|skip
   cases y<;>first|(simp[C2]at a;done)|skip
   simp only[C2]at a;rw[rn e,←Pd]
   grind
  next m e=>
   split at h
   next C v q=>
    split at h
    next b=>
     cases h;have b:=Fs b;refine⟨J,by simp[DV,e],by simp[b],λxs ys x y r a c f=>?_⟩;rcases c with⟨_,rfl⟩|⟨h0,_⟩
     .rcases f with⟨_,rfl⟩|⟨h0,_⟩
      .rw[gV d t m _ _ e v];exact oL (qG d) m.toList 0 _ q xs ys r a
      .cases h0
     .cases h0
    .cases h
   .cases h
  next n j e=>
   split at h
   next z s=>
    split at h
    next b=>
     simp only[y_]at b;have l:=Fs b.1;have u:=Fs b.2;cases h;refine⟨J,by simp[DV,e],k_,λxs ys x y r a c f=>?_⟩;rcases c with⟨_,rfl⟩|⟨h0,_⟩
     .rcases f with⟨_,rfl⟩|⟨h0,_⟩
      .have o:=qG d j z s;have w:∃k,P.underlying j=O k:=by
        let⟨B,p,_⟩:=o;unfold DV at p
        grind
       rw[iN d t j n _ _ e w,qby];exact rr o l n 0 xs ys r (by simpa using a)
      .cases h0
     .cases h0
    .cases h
   .cases h
  .cases h
def wy{kt:TS}{ks:TK}{cs:Tl}(d:∀(xs ys:Tn) (x y:TV) (r:Bool),C2 ks xs ys=O r->LM J xs x->LM J ys y->EH P (Op.equalIn 10000 kt x y)=O r) :
  ∀(a:Tj) (i:Nat) (r:Ts),jZ ks cs.toList a i=O r->∃q,EH P (Instr.findAsking kt (.agg cs) (a.map bF) i)=O q/\q.map (·.1)=r
 | [],i,r,h=>by cases h;exact⟨Q,rfl,rfl⟩
 |e::a,i,r,h=>by
  simp only[jZ]at h;split at h
  next ds f=>
   have g:∀b,C2 ks cs.toList ds.toList=O b->EH P (Op.equal kt (.agg cs) (bF e).key)=O b:=by intro b c;have:=d cs.toList ds.toList (.agg cs) (.agg ds) b c (.inl ⟨rfl,rfl⟩) (.inl ⟨rfl,rfl⟩);show EH P (Op.equalIn 10000 kt (.agg cs) e.key)=O b;rw[f];exact this
   have j:EH P (Instr.findAsking kt (.agg cs) ((e::a).map bF) i)=(EH P (Op.equal kt (.agg cs) (bF e).key)).bind λb=>EH P (if b then pure (O (i,(bF e).val))else Instr.findAsking kt (.agg cs) (a.map bF) (i+1)):=by show EH P (Op.equal kt (.agg cs) (bF e).key >>= λb=>if b then pure (O (i,(bF e).val))else Instr.findAsking kt (.agg cs) (a.map bF) (i+1))=_;rw[aX]
   split at h
   next c=>cases h;refine⟨O (i,(bF e).val),?_,rfl⟩;rw[j,g J c];rfl
   next c=>
    let⟨q,k,l⟩:=wy d a (i+1) r h
    simp_all
   .cases h
  .cases h
def AB(kt:TS)(k:TV)(b:Tj):wx P kt k b=ur P kt k b:=by
 unfold wx;split
 next f=>
  simp only[pG];split
  next o a j=>
   split
   next r h=>
    let⟨p,g,u,i⟩:=qG 10000 kt o j;rw[a]at g;cases g;let⟨q,v,w⟩:=wy (P:=P) (kt:=kt) i b 0 r h;have c:∃d,P.underlying kt=O d/\∀x,Instr.sameNow d (.agg f) x=Q:=by
     unfold DV at a;split at a
     next t e=>exact⟨_,e,λx=>by simp[Instr.sameNow]⟩
     next n s e=>exact⟨_,e,λx=>by simp[Instr.sameNow]⟩
     .cases a
     .cases a
    let⟨d,c,m⟩:=c;unfold ur Instr.findKey;rw[aX,br c];simp only[Fj];cases b with
    |nil=>cases h;rfl
    |cons e l=>
     have:Instr.findNow d (.agg f) ((e::l).map bF) 0=Q:=by simp only[Fx];unfold Instr.findNow;rw[m]
     simp_all
   .rfl
  .rfl
 .rfl
end
section
variable [El] [E_] {R HT:Type} {A:Eh R HT} {X:Ex} {Sg:Td} {holds:R->Prop} {abs:HT->Tu}
variable {ev:Env} {g9:St} {h:HT} {o:FQ} {K:KN R HT}
def SL.nv:SL->Prop
 | .v _=>False
 |_=>True
def SL.Vz{l:SL}(h:l.nv):scalar l.val=J:=by cases l<;>first|rfl|exact h.elim
def SL.nv_den{l:SL}(h:l.nv):It l.val=l.val:=by cases l<;>first|rfl|exact h.elim
def uX{x:S0}(h:∀l∈x.cells,l.nv):plain x.val=J/\GE x.val=x.val:=by
 cases x with
 |leaf l=>have a:=h l (by simp[S0.cells]);cases l<;>first|exact⟨rfl,rfl⟩|exact a.elim
 |agg b=>
  refine⟨?_,?_⟩
  .simp only[S0.val,plain,D7,Ed];rintro _ ⟨l,a,rfl⟩;simp[kL,SL.Vz (h l a)]
  .simp only[S0.val,GE,Value.agg.injEq];apply e1.1;rw[qdv,y5];refine p' λl a=>?_;exact SL.nv_den (h l a)
def tL:∀ {cs:List SL} {ks:TK},bf cs ks=J->tM ks=J->∀l∈cs,l.nv
 | [],[],_,_,l,a=>by cases a
 |c::cs,k::ks,h1,b,l,a=>by
  simp only[bf,y_]at h1;simp only[tM,j3,y_]at b;rcases Fy.1 a with rfl|a
  .cases l<;>first|trivial|(cases k<;>first|(simp at b;done)|(simp[SL.is]at h1;done))
  .exact tL h1.2 b.2 l a
 | [],_::_,h,_,_,_=>by cases h
 |_::_,[],h,_,_,_=>by cases h
def ic{d:GO}{t m:TS}{x y:TM}{a b u:TV}(c:o.op = .binOp d t x y m)(e:ka g9.tmps x=a)(f:ka g9.tmps y=b)(g:plain a=J/\GE a=a)(i:plain b=J/\GE b=b)
  (j:plain u=J/\GE u=u) (k:∀w,(eqGuard d t x y a b).run X.C.P w = .ok () w) (l:∀w,(binOp d t a b).run X.C.P w = .ok u w):oP X.C g9.tmps o u:=by
 refine⟨by rw[c];rfl,?_,j.1,λw=>?_⟩
 .rw[c];simp[Op.operands,e,f,g.1,i.1]
 .simp only[execOp,c,e,f,g.2,i.2,Sem.run_bind,k w,Result.andThen_ok,l w,Sem.run_pure,j.2]
def qL{d:GO}{t:TS}{x y:TM}{k c:TN}{a b:Int}{P:TI}(w:TX):(eqGuard d t x y (.int k a) (.int c b)).run P w = .ok () w:=by unfold eqGuard;split<;>rfl
def sG{c:GO}{t:TS}{x y:TM}{a b:Bool}{P:TI}(w:TX):(eqGuard c t x y (.bool a) (.bool b)).run P w = .ok () w:=by unfold eqGuard;split<;>rfl
def wK{c:GO}{t:TS}{x y:TM}{a b:ByteArray}{P:TI}(w:TX):(eqGuard c t x y (.string a) (.string b)).run P w = .ok () w:=by unfold eqGuard;split<;>rfl
def Sd(a b:ByteArray):(a.toList==b.toList)=T4 a.data.toList b.data.toList:=by rw[h9,Av,beq_iff_eq,ByteArray.toList_eq,ByteArray.toList_eq]
def rE{x y:TV}{t:Bool}(h:Sc x y=O t):∃a b,x = .string a/\y = .string b/\t=T4 a.data.toList b.data.toList:=by
 unfold Sc at h
 grind
def o6{P:TI}{c:GO}{k:TN}{a b:Int}{t:Bool}(h:sq c a b=O t)(d:PM c=U)(ty:TS)(w:TX):(binOp c ty (.int k a) (.int k b)).run P w = .ok (.bool t) w:=by cases c<;>simp only[sq,reduceCtorEq,Ih]at h<;>subst h<;>simp[binOp,Op.intCmp]
def aF{l:SL}(h:l.g_):(S0.leaf l).g_:=λm a=>by simp only[S0.cells,HN]at a;subst a;exact h
def bin_ok(hA:te A X.C Sg X.T holds abs)(q:Rp ev g9)(z:abs h=g9.heap){op:GO}{t yt:TS}{x y:TM}{a b:S0}(D:o.op = .binOp op t x y yt)
  (hx:Ea ev x=O a) (hy:Ea ev y=O b) (g:holds (binE A X o.dst op t a b ev h K)):ED X holds abs o g9 K:=by
 let⟨j,ga⟩:=q.Ea hx;let⟨p,gb⟩:=q.Ea hy;unfold binE at g;split at g
 next k n k' m=>
  simp only[S0.val,SL.val]at j p;have F:∀(k:TN) (n:Int),plain (.int k n)=J/\GE (.int k n) = .int k n:=λ_ _=>⟨rfl,rfl⟩;split at g
  .obtain⟨r,Z,f⟩:=hA.IX _ _ _ _ _ _ g;exact cH q z (s:=.st (.leaf (.i k r))) (aF trivial) (ic D j p (F _ _) (F _ _) (F _ _) (λw=>qL w) (λw=>Z _ _ w)) f
  next hs G hc=>have e:=dS G;subst e;let⟨r,Z,f⟩:=hA.cmp _ _ _ _ g;exact cH q z (s:=.st (.leaf (.b r))) (aF trivial) (ic D j p (F _ _) (F _ _) ⟨rfl,rfl⟩ (λw=>qL w) (λw=>o6 Z hs _ w)) f
  next hs G hc=>have e:=dS G;subst e;let⟨r,Z,f⟩:=hA.C5 _ _ _ _ _ g;exact cH q z (s:=.st (.leaf (.i k r))) (aF trivial) (ic D j p (F _ _) (F _ _) (F _ _) (λw=>qL w) (λw=>Z _ _ w)) f
  .exact absurd g hA.fail
 next cs es=>
  split at g
  next ks hf al an=>
   split at g
   next hc=>
    simp only[y_]at hc;let⟨⟨I,L⟩,M⟩:=hc;have V:=uX (x:=.agg cs) (tL I M);have Y:=uX (x:=.agg es) (tL L M);let⟨ag,g1,g2,g3⟩:=pI 10000 t ks hf;have S:∀w,(eqGuard op t x y (S0.val (.agg cs)) (S0.val (.agg es))).run X.C.P w = .ok () w:=λw=>run_eqGuard_agg w op t x y _ _ al;have ad:ag=J:=by simp_all
    subst ad;have N:=g3 cs es _ _ I L (.inl ⟨rfl,rfl⟩) (.inl ⟨rfl,rfl⟩);split at g
    .have f:=hA.eqs _ _ g;refine cH q z (s:=.st (.leaf (.b _))) (aF trivial) (ic D j p V Y ⟨rfl,rfl⟩ S λw=>?_) f;rw[S0.val,S0.val,run_eql_struct,iz N];rfl
    .have f:=hA.eqs _ _ g;refine cH q z (s:=.st (.leaf (.b _))) (aF trivial) (ic D j p V Y ⟨rfl,rfl⟩ S λw=>?_) f;rw[S0.val,S0.val,run_neq_struct,iz N];rfl
    .exact absurd g hA.fail
   .exact absurd g hA.fail
  .exact absurd g hA.fail
 next u v=>
  simp only[S0.val,SL.val]at j p;split at g
  next hu=>
   split at g
   .obtain⟨t',B,f⟩:=hA.km _ _ g;obtain⟨c,d,rfl,rfl,rfl⟩:=rE B;refine cH q z (s:=.st (.leaf (.b _))) (aF trivial) (ic D j p ⟨rfl,rfl⟩ ⟨rfl,rfl⟩ ⟨rfl,rfl⟩ (λw=>wK w) λw=>?_) f;simp only[binOp,Op.stringOp,Sd];rfl
   .obtain⟨t',B,f⟩:=hA.km _ _ g;obtain⟨c,d,rfl,rfl,rfl⟩:=rE B;refine cH q z (s:=.st (.leaf (.b _))) (aF trivial) (ic D j p ⟨rfl,rfl⟩ ⟨rfl,rfl⟩ ⟨rfl,rfl⟩ (λw=>wK w) λw=>?_) f;simp only[binOp,Op.stringOp,Sd];rfl
   .exact absurd g hA.fail
  .split at g
   .obtain⟨t',B,f⟩:=hA.km _ _ g;let⟨B,H⟩:=xy ‹X.C.P.underlying t=O _› B;refine aK q z (s:=.st (.leaf (.b t'))) (aF trivial) ?_ f;simp only[aA,D,j,p,B,H,if_true];rfl
   .obtain⟨t',B,f⟩:=hA.km _ _ g;let⟨B,H⟩:=xy ‹X.C.P.underlying t=O _› B;refine aK q z (s:=.st (.leaf (.b (!t')))) (aF trivial) ?_ f;simp only[aA,D,j,p,B,H,if_true];rfl
   .exact absurd g hA.fail
  .exact absurd g hA.fail
 next u v _ _=>
  split at g
  next hb hu=>
   simp only[y_]at hb;have E:∀ {l:SL},l.is .b=J->∃c,l.val = .bool c/\l.lf = .b c:=by intro l hl;cases l<;>simp only[SL.is,FG]at hl<;>exact⟨_,rfl,rfl⟩
   let⟨c,c1,c2⟩:=E hb.1;let⟨d,d1,d2⟩:=E hb.2;simp only[S0.val]at j p;rw[c1]at j;rw[d1]at p;have hq:∀w,(Op.equal t (.bool c) (.bool d)).run X.C.P w = .ok (c==d) w:=λw=>run_equal_bool w t c d hu;split at g
   .have f:=hA.eqs _ _ g;rw[c2,d2]at f;refine cH q z (s:=.st (.leaf (.b _))) (aF trivial) (ic D j p ⟨rfl,rfl⟩ ⟨rfl,rfl⟩ ⟨rfl,rfl⟩ (λw=>sG w) λw=>?_) f;simp only[binOp,Sem.run_bind,hq w,Result.andThen_ok,Sem.run_pure];simp[SV.val,S0.val,SL.val,cz,iP]
   .have f:=hA.eqs _ _ g;rw[c2,d2]at f;refine cH q z (s:=.st (.leaf (.b _))) (aF trivial) (ic D j p ⟨rfl,rfl⟩ ⟨rfl,rfl⟩ ⟨rfl,rfl⟩ (λw=>sG w) λw=>?_) f;simp only[binOp,Sem.run_bind,hq w,Result.andThen_ok,Sem.run_pure];simp[SV.val,S0.val,SL.val,cz,iP]
   .exact absurd g hA.fail
  .exact absurd g hA.fail
 .exact absurd g hA.fail
def un_ok(hA:te A X.C Sg X.T holds abs)(d:Rp ev g9)(j:abs h=g9.heap){v:UnOp}{t:TS}{x:TM}(p:o.op = .unOp v t x)
  (g:holds (match (generalizing:=false) v,n_ ev x with
  | .not,.st (.leaf (.b t))=>pu o.dst (.st (.leaf (.b (!t)))) ev h K
  | .not,.st (.leaf (.l t))=>pu o.dst (.st (.leaf (.l (!t)))) ev h K
  | .neg,.st (.leaf (.i k n))=>A.C5 .sub k 0 n λn=>pu o.dst (.st (.leaf (.i k n))) ev h K
  |_,_=>A.fail)):ED X holds abs o g9 K:=by
 have c:∀ {a u:TV},ka g9.tmps x=a->(plain a=J/\GE a=a)->(plain u=J/\GE u=u)->(∀w,(Op.unary v a).run X.C.P w = .ok u w)->oP X.C g9.tmps o u:=by intro a u z B D q;refine⟨by rw[p];rfl,by rw[p];simp[Op.operands,z,B.1],D.1,λw=>?_⟩;simp only[execOp,p,z,B.2,Sem.run_bind,q w,Result.andThen_ok,Sem.run_pure,D.2]
 split at g
 next y e=>let⟨f,_⟩:=d.n_ e d_;refine cH d j (s:=.st (.leaf (.b (!y)))) (aF trivial) (c f ⟨rfl,rfl⟩ ⟨rfl,rfl⟩ λw=>?_) g;simp[SV.val,S0.val,SL.val,Op.unary]
 next y e=>let⟨f,_⟩:=d.n_ e d_;refine cH d j (s:=.st (.leaf (.l (!y)))) (aF trivial) (c f ⟨rfl,rfl⟩ ⟨rfl,rfl⟩ λw=>?_) g;simp[SV.val,S0.val,SL.val,Op.unary]
 next k n e=>let⟨f,_⟩:=d.n_ e d_;let⟨r,q,m⟩:=hA.C5 _ _ _ _ _ g;refine cH d j (s:=.st (.leaf (.i k r))) (aF trivial) (c f ⟨rfl,rfl⟩ ⟨rfl,rfl⟩ λw=>?_) m;have:=q X.C.P t w;simp[SV.val,S0.val,SL.val,Op.unary,binOp,Op.intArith]at this ⊢;exact this
 .exact absurd g hA.fail
def c'(hA:te A X.C Sg X.T holds abs)(g:Rp ev g9)(l:abs h=g9.heap){j f:TS}{x:TM}(d:o.op = .convert j f x)
  (b:holds (match X.C.P.underlying j,X.C.P.underlying f,n_ ev x with
  |some (.int _),O (.int k),.st (.leaf (.i _ n))=>A.conv k n λn=>pu o.dst (.st (.leaf (.i k n))) ev h K
  |_,_,_=>A.fail)):ED X holds abs o g9 K:=by
 split at b
 next r k q n m p e=>
  let⟨a,_⟩:=g.n_ e d_;have c:=hA.conv _ _ _ b
  simp only[SV.val,S0.val,SL.val]at a;refine cH g l (s:=.st (.leaf (.i k _))) (aF trivial) ⟨by rw[d];rfl,by rw[d];simp[Op.operands,a];rfl,rfl,λw=>?_⟩ c;simp only[execOp,d,a];simp[GE,It,convert,run_underlying m,run_underlying p,Conv.intToInt,SV.val,S0.val,SL.val]
 .exact absurd b hA.fail
end
namespace Sx
section
variable [El] [E_] {R HT:Type} {A:Eh R HT} {X:Ex} {Sg:Td} {holds:R->Prop} {abs:HT->Tu}
variable {ev:Env} {g9:St} {h:HT} {o:FQ} {K:KN R HT}
def rh:∀(ix:List (Int×Nat)) (a:Nat) (p:Int×Nat),E1 a (ix++[p])=E1 a ix+p.1.toNat*p.2
 | [],_,_=>rfl
 |q::l,a,p=>rh l (a+q.1.toNat*q.2) p
def mq:∀(ix:List (Int×Nat)) (a n:Nat),E1 (a+n) ix=E1 a ix+n
 | [],_,_=>rfl
 |q::l,a,n=>by simp only[E1];rw[show a+n+q.1.toNat*q.2=a+q.1.toNat*q.2+n by omega];exact mq l _ n
def ze(hA:te A X.C Sg X.T holds abs)(b:Rp ev g9)(d:abs h=g9.heap){x:TM}(i:o.op = .nilCheck x)
  (c:holds (match n_ ev x with
  | .st (.leaf (.v p))=>A.km (EZ p) λq=>A.qa q (pu o.dst (.st (.leaf (.v q))) ev h K)
  | .Kb s off=>pu o.dst (.Kb s off) ev h K
  | .My s off=>pu o.dst (.My s off) ev h K
  |_=>A.fail)):ED X holds abs o g9 K:=by
 split at c
 next p e=>let⟨a,_⟩:=b.n_ e d_;simp only[SV.val,S0.val,SL.val]at a;let⟨q,j,f⟩:=hA.km _ _ c;let⟨k,g⟩:=hA.qa _ _ f;refine aK b d (s:=.st (.leaf (.v q))) (aF k) ?_ g;simp only[aA,i,a];unfold EZ at j;split at j<;>cases j<;>rfl
 next s off e=>let⟨a,_⟩:=b.n_ e d_;exact aK b d (s:=.Kb s off) trivial (by simp only[aA,i,a,SV.val]) c
 next s off e=>let⟨a,_⟩:=b.n_ e d_;exact aK b d (s:=.My s off) trivial (by simp only[aA,i,a,SV.val]) c
 .exact absurd c hA.fail
def ww(hA:te A X.C Sg X.T holds abs)(l:Rp ev g9)(n:abs h=g9.heap){t:TS}{x:TM}{f:Nat}(E:o.op = .fieldAddr t x f)
  (i:holds (ni A X o.dst t x f ev h K)):ED X holds abs o g9 K:=by
 unfold ni at i;split at i
 next H F=>
  split at i
  next m B=>
   have c:∀ {b d:Nat} {z:Ts},Nat.beq (X.C.P.cellsOf m.type) 0=U->ka g9.tmps x=EQ (O ⟨b,d,z⟩)->
     aA X.C X.b_ (ka g9.tmps) o=O (.val (EQ (O ⟨b,d+m.offset,z⟩))):=by
    intro b d z g G;have g:¬X.C.P.cellsOf m.type=0:=λe=>by rw[e]at g;cases g
    simp only[aA,E,G,gN,F,B,ts g,G9]
   split at i
   next s d g e=>let⟨k,_⟩:=l.n_ e d_;exact aK l n (s:=.Kb s (d+m.offset)) trivial (c g k) i
   next s d g e=>let⟨k,_⟩:=l.n_ e d_;exact aK l n (s:=.My s (d+m.offset)) trivial (c g k) i
   next s j y g e=>let⟨k,_⟩:=l.n_ e d_;refine aK l n (s:=.Mz s (j+m.offset) y) trivial ?_ i;rw[c g k,SV.val,mq]
   next s j y g e=>let⟨k,_⟩:=l.n_ e d_;refine aK l n (s:=.Pz s (j+m.offset) y) trivial ?_ i;rw[c g k,SV.val,mq]
   next p g e=>
    let⟨k,_⟩:=l.n_ e d_;simp only[SV.val,S0.val,SL.val]at k;let⟨q,r,u⟩:=hA.km _ _ i;let⟨D,w⟩:=hA.qa _ _ u;refine aK l n (s:=.st (.leaf (.v q))) (aF D) ?_ w;unfold Fq at r;split at r
    next a=>cases r;exact c g k
    .cases r
   .exact absurd i hA.fail
  .exact absurd i hA.fail
 .exact absurd i hA.fail
def lO{i:TM}{n:Nat}(h:MV i=O n):intOf (ka g9.tmps i)=O (n:Int):=by
 unfold MV at h;split at h
 .cases h;simp[ka,flat,gI,scalar,Am.intOf]
 .cases h
def wP{len:Nat}{j:Int}{u:Unit}(h:G4 len j=O u):0<=j/\j<(len:Int):=by
 rw[Zd]at h
 simp_all
def idS_ok{vd:Nat}{x q:TV}{i:Int}(h:D8 vd x i=O q) :
  ∃a len cx,x=DW (O a) len cx/\(0<=i/\i<(len:Int))/\q=EQ (O ⟨a.block,a.off+i.toNat*vd,if a.spot=O 1 then O 1 else Q⟩):=by
 rw[sI]at h
 grind
def wQ(hA:te A X.C Sg X.T holds abs)(w:Rp ev g9)(G:abs h=g9.heap){t:TS}{x i:TM}(ho:o.op = .indexAddr t x i)
  (d:holds (nl A X o.dst t x i ev h K)):ED X holds abs o g9 K:=by
 unfold nl at d;split at d
 next E e Z=>
  have c:∀ {b r:Nat} {sp:Ts} {j:Int},Nat.beq (X.C.P.cellsOf e) 0=U->ka g9.tmps x=EQ (O ⟨b,r,sp⟩)->intOf (ka g9.tmps i)=O j->0<=j->j<(E:Int)->
    aA X.C X.b_ (ka g9.tmps) o=O (.val (EQ (O ⟨b,r+j.toNat*X.C.P.cellsOf e,sp⟩))):=by
   intro b r sp j f hx hi h0 g;have f:¬X.C.P.cellsOf e=0:=λe=>by rw[e]at f;cases f
   simp only[aA,ho,hx,fH,hi,Z,ts f,rv (And.intro h0 g),G9]
  have z:∀ {k:TN} {j:Int},n_ ev i = .st (.leaf (.i k j))->intOf (ka g9.tmps i)=O j:=by intro k j Y;let⟨g,_⟩:=w.n_ Y d_;rw[g];rfl
  simp only at d;split at d
  next s r n f y M=>
   let⟨g,_⟩:=w.n_ y d_;split at d
   next B=>have B:n<E:=k_;refine aK w G (s:=.Kb s (r+n*X.C.P.cellsOf e)) trivial ?_ d;rw[c f g (lO M) a_ a_];simp[SV.val]
   .exact absurd d hA.fail
  next s r n f y M=>
   let⟨g,_⟩:=w.n_ y d_;split at d
   next B=>have B:n<E:=k_;refine aK w G (s:=.My s (r+n*X.C.P.cellsOf e)) trivial ?_ d;rw[c f g (lO M) a_ a_];simp[SV.val]
   .exact absurd d hA.fail
  next s l N n f y M=>
   let⟨g,_⟩:=w.n_ y d_;split at d
   next B=>have B:n<E:=k_;refine aK w G (s:=.Mz s (l+n*X.C.P.cellsOf e) N) trivial ?_ d;rw[c f g (lO M) a_ a_];simp[SV.val,mq]
   .exact absurd d hA.fail
  next s l N n f y M=>
   let⟨g,_⟩:=w.n_ y d_;split at d
   next B=>have B:n<E:=k_;refine aK w G (s:=.Pz s (l+n*X.C.P.cellsOf e) N) trivial ?_ d;rw[c f g (lO M) a_ a_];simp[SV.val,mq]
   .exact absurd d hA.fail
  next s r k j f y F _=>let⟨g,_⟩:=w.n_ y d_;let⟨u,D,m⟩:=hA.km _ _ d;let⟨I,L⟩:=wP D;exact aK w G (s:=.Mz s r [(j,X.C.P.cellsOf e)]) trivial (by rw[c f g (z F) I L];rfl) m
  next s r k j f y F _=>let⟨g,_⟩:=w.n_ y d_;let⟨u,D,m⟩:=hA.km _ _ d;let⟨I,L⟩:=wP D;exact aK w G (s:=.Pz s r [(j,X.C.P.cellsOf e)]) trivial (by rw[c f g (z F) I L];rfl) m
  next s l N k j f y F _=>let⟨g,_⟩:=w.n_ y d_;let⟨u,D,m⟩:=hA.km _ _ d;let⟨I,L⟩:=wP D;exact aK w G (s:=.Mz s l (N++[(j,X.C.P.cellsOf e)])) trivial (by rw[c f g (z F) I L,SV.val,rh]) m
  next s l N k j f y F _=>let⟨g,_⟩:=w.n_ y d_;let⟨u,D,m⟩:=hA.km _ _ d;let⟨I,L⟩:=wP D;exact aK w G (s:=.Pz s l (N++[(j,X.C.P.cellsOf e)])) trivial (by rw[c f g (z F) I L,SV.val,rh]) m
  next p k j f y F=>
   let⟨g,_⟩:=w.n_ y d_;simp only[SV.val,S0.val,SL.val]at g;let⟨q,H,m⟩:=hA.km _ _ d;let⟨hg,V⟩:=hA.qa _ _ m;unfold Y9 at H;split at H
   next a=>
    split at H
    next S=>cases H;exact aK w G (s:=.st (.leaf (.v _))) (aF hg) (c f g (z F) S.1 S.2) V
    .cases H
   .cases H
  .exact absurd d hA.fail
 next e Z=>
  simp only at d;split at d
  next p k j f y F=>
   let⟨g,_⟩:=w.n_ y d_;let⟨h2,_⟩:=w.n_ F d_;simp only[SV.val,S0.val,SL.val]at g h2;let⟨q,H,m⟩:=hA.km _ _ d;have f:¬X.C.P.cellsOf e=0:=λe=>by rw[e]at f;cases f
   obtain⟨a,E,cx,rfl,S,rfl⟩:=idS_ok H;refine aK w G (s:=.st (.leaf (.v _))) (aF ?_) ?_ m
   .show aH _=J;by_cases Y:a.spot=O 1<;>simp[Y,aH,q8,aW,bG,bu,aR,aL]
   .simp only[aA,ho,g,h2,fH,Am.intOf,Z,ts f,rv S,G9];rfl
  .exact absurd d hA.fail
 .exact absurd d hA.fail
def BC{C:p_}{t:TS}{i:Bool}{cs ds:List SL}{off:Nat}{x:S0}(a:DV C.P t=O i)(b:F0 cs off (if i then C.P.cellsOf t else 1)=O ds)(l:Kd i ds=O x) :
  zo C t ⟨cs.map SL.val⟩ off=O x.val/\x.cells=ds:=by
 let⟨k,c⟩:=qX l;refine⟨?_,k⟩;unfold F0 at b;unfold DV at a;unfold zo;split at a
 next p e=>
  cases a;simp only[if_true]at b;split at b
  next g=>
   cases b;rcases c with⟨_,c⟩|⟨f,_⟩
   .simp_all
   .cases f
  .cases b
 next n m e=>
  cases a;simp only[if_true]at b;split at b
  next g=>
   cases b;rcases c with⟨_,c⟩|⟨f,_⟩
   .simp_all
   .cases f
  .cases b
 next d q r e=>
  cases a;simp only[FG,if_false]at b;split at b
  next g=>
   cases b;rcases c with⟨f,_⟩|⟨_,c⟩
   .cases f
   .rw[e];have j:off<W cs:=a_;rw[RK j]at c
    grind
  .cases b
 .cases a
def YP(hA:te A X.C Sg X.T holds abs)(j:Rp ev g9)(u:abs h=g9.heap){t:TS}{x:TM}{f:Nat}(w:o.op = .field t x f)
  (a:holds (match X.C.P.underlying t,n_ ev x with
  |some (.struct i),.st (.agg cs)=>match i[f]? with
   |some c=>match (DV X.C.P c.type).bind (λd=>(F0 cs c.offset (if d then X.C.P.cellsOf c.type else 1)).bind (Kd d))with
    |some x=>pu o.dst (.st x) ev h K
    |none=>A.fail
   |none=>A.fail
  |_,_=>A.fail)):ED X holds abs o g9 K:=by
 split at a
 next i cs y e=>
  let⟨p,n⟩:=j.n_ e d_;split at a
  next c v=>
   split at a
   next z b=>
    let⟨d,g,b⟩:=GY.1 b;let⟨B,k,b⟩:=GY.1 b;let⟨q,r⟩:=BC g k b;refine aK j u (s:=.st z) (λl m=>?_) ?_ a
    .rw[r]at m;exact n l ((qt k).2 l m)
    .simp only[aA,w,p,SV.val,S0.val,wv,y,v,Fj,q,G9]
   .exact absurd a hA.fail
  .exact absurd a hA.fail
 .exact absurd a hA.fail
def CG(hA:te A X.C Sg X.T holds abs)(b:Rp ev g9)(f:abs h=g9.heap){t:TM}{i:Nat}(g:o.op = .extract t i)
  (a:holds (match n_ ev t with
  | .NE xs=>match xs[i]? with
   |some x=>pu o.dst (.st x) ev h K
   |none=>A.fail
  |_=>A.fail)):ED X holds abs o g9 K:=by
 split at a
 next xs e=>
  let⟨d,c,k⟩:=b.n_ e d_;split at a
  next x j=>
   refine aK b f (s:=.st x) (c x (A9 j)) ?_ a;simp only[aA,g,d,SV.val]
   grind
  .exact absurd a hA.fail
 .exact absurd a hA.fail
def yT(hA:te A X.C Sg X.T holds abs)(c:Rp ev g9)(k:abs h=g9.heap){f:Fn}{first cap:Array GJ}(m:o.op = .makeFunc f first cap)
  (d:holds (match (generalizing:=false) f,EM ev first.toList,EM ev cap.toList with
  | .func g,O a,O b=>A.qa (.func (.func g) ⟨ao a⟩ ⟨ao b⟩) (pu o.dst (.st (.leaf (.v (.func (.func g) ⟨ao a⟩ ⟨ao b⟩)))) ev h K)
  |_,_,_=>A.fail)):ED X holds abs o g9 K:=by
 split at d
 next g a b _ i j=>
  let⟨n,_⟩:=c.EM i;let⟨p,_⟩:=c.EM j;let⟨l,e⟩:=hA.qa _ _ d;refine aK c k (s:=.st (.leaf (.v _))) (aF l) ?_ e;simp only[aA,m,SV.val,S0.val,SL.val,Ih,FY.val.injEq,Value.func.injEq,true_and]
  grind
 .exact absurd d hA.fail
def nJ(b:Rp ev g9){r:Th}{x:Tt}(h:Hm ev r=O x):(r=Q/\x=Q)∨∃y k n,r=O y/\ka g9.tmps y = .int k n/\x=O n:=by
 unfold Hm at h;split at h
 .simp_all
 next y=>
  split at h
  next k n e=>cases h;let⟨a,_⟩:=b.n_ e d_;exact .inr ⟨y,k,n,rfl,a,rfl⟩
  .cases h
def eo(b:Rp ev g9){r:Th}{x:Tt}(h:Hm ev r=O x):iU (r.map (ka g9.tmps))=O x:=by
 rcases nJ b h with⟨rfl,rfl⟩|⟨y,k,n,rfl,a,rfl⟩
 .rfl
 .simp[a,iU]
def nu(hA:te A X.C Sg X.T holds abs)(d:Rp ev g9)(j:abs h=g9.heap){t:TS}{r:Th}(l:o.op = .makeMap t r)
  (b:holds (match qM X.C t (r.map λ_=>EO DQ 0),Hm ev r with
  |true,O _=>A.new (.map [] 0) h λn h=>pu o.dst (.st (.leaf (.v (.map (O n))))) ev h K
  |_,_=>A.fail)):ED X holds abs o g9 K:=by
 split at b
 next x g e=>
  let⟨m,c,a⟩:=hA.new _ _ _ b;rw[j]at c a;refine dE d c (s:=.st (.leaf (.v (.map (O (W g9.heap)))))) (aF rfl) (f:=λH=>O (H++[.map [] 0],.map (O (W H)))) ?_ rfl a;have:qM X.C t (r.map (ka g9.tmps))=J:=by
   rcases nJ d e with⟨rfl,rfl⟩|⟨y,k,n,rfl,i,rfl⟩
   .rfl
   .simp only[G9,qM,i]at g ⊢;exact g
  simp only[aA,l,this,if_true]
 .exact absurd b hA.fail
def da(n vd a b:Nat):aH (DW (O ⟨n,0,le vd⟩) a b)=J:=by simp[aH,q8,aW,bG,bu,aR,aL,le]
def xe(hA:te A X.C Sg X.T holds abs)(j:Rp ev g9)(I:abs h=g9.heap){t:TS}{l c:TM}(M:o.op = .makeSlice t l c)
  (b:holds (match X.C.P.underlying t,n_ ev l,n_ ev c with
  |some (.slice e),.st (.leaf (.i _ l)),.st (.leaf (.i _ c))=>match X.C.P.info? e with
   |some a=>match Nat.beq a.size 0||Nat.blt 4096 a.bytes,(mT a).bind K9 with
    |false,O z=>A.km (FV l c) λ_=>A.new (EJ (aQ (z.cells.map SL.val) c.toNat) a.size J) h λn h=>pu o.dst (.st (.leaf (.v (DW (O ⟨n,0,le a.size⟩) l.toNat (c.toNat+1))))) ev h K
    |_,_=>A.fail
   |none=>A.fail
  |_,_,_=>A.fail)):ED X holds abs o g9 K:=by
 split at b
 next e S Y V D N E F=>
  let⟨G,_⟩:=j.n_ E d_;let⟨H,_⟩:=j.n_ F d_;split at b
  next a L=>
   split at b
   next z y r=>
    let⟨zv,w,x⟩:=GY.1 r;let⟨Z,z2,_⟩:=vx x;let⟨u,p,m⟩:=hA.km _ _ b;let⟨h',B,g⟩:=hA.new _ _ _ m;rw[I]at B g;unfold FV at p;split at p
    next d=>
     simp only[qbM]at y;have q:¬a.size=0:=λe=>k_;have k:a.bytes<=4096:=by have:=y.2;rw[←Ii,IV]at this;omega
     refine dE j B (s:=.st (.leaf (.v _))) (aF (da _ _ _ _)) (f:=dN X.C t (.int S Y) (.int V D)) ?_ ?_ g
     .simp only[aA,M,G,H];rfl
     .simp only[dN,Am.intOf,N,L,ts q,w];rw[rv ⟨d.1,d.2.1,d.2.2,k⟩,←Z,S0.Fa z2];rfl
    .cases p
   .exact absurd b hA.fail
  .exact absurd b hA.fail
 .exact absurd b hA.fail
def tR(hA:te A X.C Sg X.T holds abs)(E:Rp ev g9)(V:abs h=g9.heap){t:TS}{n:Nat}{u:Array (Nat×GJ)}(ho:o.op = .buildSlice t n u)
  (b:holds (match X.C.P.underlying t,EM ev (u.toList.map (·.2))with
  |some (.slice e),O xs=>match X.C.P.info? e with
   |some a=>match Nat.beq a.size 0||Nat.blt 16777216 (n*a.size),(mT a).bind K9 with
    |false,O z=>match uo (λi=>O (i*a.size,a.size)) (FJ n z.cells).flatten ((u.toList.map (·.1)).zip xs)with
     |some cs=>A.new (EJ (cs.map SL.val) a.size J) h λm h=>pu o.dst (.st (.leaf (.v (DW (O ⟨m,0,le a.size⟩) n (n+1))))) ev h K
     |none=>A.fail
    |_,_=>A.fail
   |none=>A.fail
  |_,_=>A.fail)):ED X holds abs o g9 K:=by
 split at b
 next e xs hu S=>
  split at b
  next a Z=>
   split at b
   next z L y=>
    let⟨zv,B,D⟩:=GY.1 y;let⟨z1,N,_⟩:=vx D;split at b
    next cs Y=>
     let⟨h',M,r⟩:=hA.new _ _ _ b;rw[V]at M r;let⟨hv,F⟩:=E.EM S;have ad:∀c∈(FJ n z.cells).flatten,c.g_:=by intro c w;let⟨l,G,w⟩:=List.mem_flatten.1 w;rw[List.mem_replicate]at G;rw[G.2]at w;exact N c w
     have g:=uq _ _ _ _ (vN (is:=u.toList.map (·.1)) F) Y;simp only[qbM]at L;let⟨k,d⟩:=L;have k:¬a.size=0:=λe=>k_;have d:¬n*a.size > 16777216:=by rw[←Ii,IV]at d;omega
     refine dE E M (s:=.st (.leaf (.v _))) (aF (da _ _ _ _))
      (f:=λH=>O (H++[EJ (cs.map SL.val) a.size J],DW (O ⟨W H,0,le a.size⟩) n (n+1))) ?_ rfl r
     have q:(u.toList.all λp=>(ka g9.tmps p.2).cells.toList.all bj)=J:=by
      rw[D7];intro p hp;have I:ka g9.tmps p.2∈ao xs:=by grind
      simp only[ao,Ed]at I;let⟨x,hx,e⟩:=I;rw[←e];exact S0.Ir (F x hx)
     have j:(aQ zv.cells.toList n).toArray=⟨((FJ n z.cells).flatten).map SL.val⟩:=by rw[←z1,S0.Fa N];simp[aQ,List.map_flatten]
     simp only[aA,ho,q,if_true,fO,hu,Z];rw[ts k,ts d];simp only[B];rw[tH hv,j,g];rfl
    .exact absurd b hA.fail
   .exact absurd b hA.fail
  .exact absurd b hA.fail
 .exact absurd b hA.fail
end
end Sx
namespace Sx
section
variable [El] [E_] {R HT:Type} {A:Eh R HT} {X:Ex} {Sg:Td} {holds:R->Prop} {abs:HT->Tu}
variable {ev:Env} {g9:St} {h:HT} {o:FQ} {K:KN R HT}
def Ys{cs ds:List SL}{off n:Nat}(h:F0 cs off n=O ds):W ds=n:=by
 unfold F0 at h
 grind
def mk_any{a:Bool}{ds:List SL}{n:Nat}(b:W ds=(if a then n else 1)):∃x,Kd a ds=O x:=by
 cases a with
 |true=>exact⟨_,rfl⟩
 |false=>
  simp only[FG,if_false]at b
  match ds,b with
  | [d],_=>exact⟨_,rfl⟩
def Ze(hA:te A X.C Sg X.T holds abs)(m:Rp ev g9)(Z:abs h=g9.heap){t:TS}{x i:TM}{w:TP}(ho:o.op = .index t x i)
  (a:holds (match X.C.P.underlying t,n_ ev x,n_ ev i with
  |some (.array len e),.st (.agg cs),.st (.leaf (.i _ j))=>match DV X.C.P e with
   |some n=>match YE n (lz (pe w))&&vT cs (La (pe w)) 0 [(j,X.C.P.cellsOf e)]&&Nat.beq (if n then X.C.P.cellsOf e else 1) (W (La (pe w))) with
    |false=>A.fail
    |true=>A.km (G4 len j) λ_=>A.km (jz (cs.map SL.lf) 0 [(j,X.C.P.cellsOf e)] (if n then X.C.P.cellsOf e else 1)) λls=>Md A o.dst (pe w) ls ev h K
   |none=>A.fail
  |some .string,.st (.leaf (.v (.string s))),.st (.leaf (.i _ j))=>A.km (Mg s j) λb=>pu o.dst (.st (.leaf (.i DU b))) ev h K
  |_,_,_=>A.fail)):ED X holds abs o g9 K:=by
 split at a
 next len e cs k j N E F=>
  let⟨d,Y⟩:=m.n_ E d_;let⟨f,_⟩:=m.n_ F d_;split at a
  next n G=>
   split at a
   .exact absurd a hA.fail
   next r=>
    simp only[y_]at r;let⟨⟨B,c2⟩,D⟩:=r;have B:=YF B;have D:=Fs D;let⟨u,H,g⟩:=hA.km _ _ a;let⟨b1,b2⟩:=wP H;let⟨ls,hp,L⟩:=hA.km _ _ g;obtain⟨ds,p,rfl⟩:=BF hp;have q:W ds=(if n then X.C.P.cellsOf e else 1):=Ys p;let⟨y,hy⟩:=mk_any q;let⟨p1,p2⟩:=BC G p hy;let⟨m1,m2⟩:=qX hy;rw[D]at p;rw[B]at m2;let⟨z,S,V,M⟩:=R2 hA (pf c2 p) (λc r=>Y c ((qt p).2 c r)) m2 L;refine aK m Z (s:=.st z) V ?_ M;have I:oD X.C t (EU ⟨cs.map SL.val⟩) (.int k j)=O y.val:=by
     have:E1 0 [(j,X.C.P.cellsOf e)]=j.toNat*X.C.P.cellsOf e:=by simp[E1]
     rw[this]at p1;simp only[oD,Am.intOf,N,rv (And.intro b1 b2)];exact p1
    have d:ka g9.tmps x=EU ⟨cs.map SL.val⟩:=d;have f:ka g9.tmps i = .int k j:=f;simp only[aA,ho,d,f,I,G9];rw[←S];rfl
  .exact absurd a hA.fail
 next s k j N E F=>
  let⟨d,Y⟩:=m.n_ E d_;let⟨f,_⟩:=m.n_ F d_;let⟨b,H,g⟩:=hA.km _ _ a;let⟨q1,q2⟩:=t6 H;have d:ka g9.tmps x = .string s:=d;have f:ka g9.tmps i = .int k j:=f;refine aK m Z (s:=.st (.leaf (.i DU b))) (λl hl=>?_) ?_ g
  .simp only[S0.cells,HN]at hl;subst hl;trivial
  .have I:oD X.C t (.string s) (.int k j)=O (EO DU b):=by simp only[oD,Am.intOf,N,rv q1];exact q2
   simp only[aA,ho,d,f,I,G9];rfl
 .exact absurd a hA.fail
def yh{P:TI}{d b e:Tk}(h1:∀v,d=O v->∃k,v = .int k 0)(f:∀v,b=O v->∃k,v = .int k 0)(g:∀v,e=O v->∃k,v = .int k 0)(i:e=Q∨b.isSome=J)(w:TX) :
  (Instr.sliceBounds J 0 0 d b e).run P w = .ok (0,0,0) w:=by
 have a:∀(k:TN) (c:BoundsCode),(Instr.sliceBound (.int k 0) 0 c).run P w = .ok 0 w:=λk c=>by simp[Instr.sliceBound,asIntOf]
 unfold Instr.sliceBounds;cases e with
 |none=>
  cases b with
  |none=>
   cases d with
   |none=>simp
   |some l=>obtain⟨k,rfl⟩:=h1 _ rfl;simp[a]
  |some u=>
   obtain⟨k,rfl⟩:=f _ rfl;cases d with
   |none=>simp[a]
   |some l=>obtain⟨k,rfl⟩:=h1 _ rfl;simp[a]
 |some m=>
  obtain⟨k,rfl⟩:=g _ rfl;cases b with
  |none=>simp_all
  |some u=>
   obtain⟨k,rfl⟩:=f _ rfl;cases d with
   |none=>simp[a]
   |some l=>obtain⟨k,rfl⟩:=h1 _ rfl;simp[a]
def V3(hA:te A X.C Sg X.T holds abs)(f:Rp ev g9)(V:abs h=g9.heap){t:TS}{x:TM}{H j D:Th}(E:o.op = .slice t x H j D)
  (p:holds (match X.C.P.underlying t,n_ ev x,Hm ev H,Hm ev j,Hm ev D with
  |some (.slice e),.st (.leaf (.v x)),O H,O j,O D=>match Nat.beq (X.C.P.cellsOf e) 0 with
   |true=>A.fail
   |false=>A.km (GV (X.C.P.cellsOf e) x H j D) λq=>A.qa q (pu o.dst (.st (.leaf (.v q))) ev h K)
  |_,_,_,_,_=>A.fail)):ED X holds abs o g9 K:=by
 split at p
 next e v al ad an Y e1 I e3 e4=>
  let⟨g,_⟩:=f.n_ e1 d_;simp only[SV.val,S0.val,SL.val]at g;split at p
  .exact absurd p hA.fail
  next B=>
   have B:¬X.C.P.cellsOf e=0:=λe=>by rw[e]at B;cases B
   let⟨q,d,M⟩:=hA.km _ _ p;let⟨hg,u⟩:=hA.qa _ _ M;have b2:=eo f I;have b3:=eo f e3;have b4:=eo f e4;unfold GV at d;split at d
   next a ag cx=>
    split at d
    .cases d
    next N=>
     split at d
     next l=>cases d;refine aK f V (s:=.st (.leaf (.v _))) (aF hg) ?_ u;simp only[aA,E,g,BW,b2,b3,b4,Y,ts B,ts N,rv l,rj];rfl
     .cases d
   .split at d
    next l=>
     cases d;have c:∀ {r:Th} {x:Tt},Hm ev r=O x->x.getD 0=0->∀v,r.map (ka g9.tmps)=O v->∃k,v = .int k 0:=by
      intro r x G h0 v hv;rcases nJ f G with⟨rfl,rfl⟩|⟨y,k,n,rfl,g,rfl⟩
      .cases hv
      grind
     have F:∀ {r:Th} {x:Tt},Hm ev r=O x->∀y,r=O y->plain (ka g9.tmps y)=J/\GE (ka g9.tmps y)=ka g9.tmps y:=by
      intro r x G y Z;rcases nJ f G with⟨rfl,rfl⟩|⟨y',k,n,rfl,g,rfl⟩
      .cases Z
      .cases Z;rw[g];exact⟨rfl,rfl⟩
     have b:∀ {r:Th} {x:Tt},Hm ev r=O x->r.map (λy=>GE (ka g9.tmps y))=r.map (ka g9.tmps):=by
      intro r x G;cases r with
      |none=>rfl
      |some y=>grind
     refine cH f V (s:=.st (.leaf (.v (DW Q 0 0)))) (aF rfl) ⟨by rw[E];rfl,?_,rfl,λw=>?_⟩ u
     .rw[E];simp only[Op.operands,qbF,qdC,y_];refine⟨⟨⟨by simp[g];rfl,?_⟩,?_⟩,?_⟩
      .grind
      .grind
      grind
     .have z:D.map (ka g9.tmps)=Q∨(j.map (ka g9.tmps)).isSome=J:=by
       rcases l.2.2.2 with z|z
       .left;rcases nJ f e4 with⟨rfl,rfl⟩|⟨y',k,n,rfl,g,rfl⟩
        .rfl
        .cases z
       .right;rcases nJ f e3 with⟨rfl,rfl⟩|⟨y',k,n,rfl,g,rfl⟩
        .cases z
        .rfl
      have L:=yh (P:=X.C.P) (c I l.1) (c e3 l.2.1) (c e4 l.2.2.1) z w;have S:∃i,X.C.P.info? e=O i:=by
       unfold Program.cellsOf at B;cases j:X.C.P.info? e with
       |none=>simp_all
       |some i=>exact⟨i,rfl⟩
      let⟨i,j⟩:=S;have m:GE (DW Q 0 0)=DW Q 0 0:=rfl;simp only[execOp,E,g,b I,b e3,b e4,m,Instr.sliceAt,Instr.slice,Sem.run_bind,run_underlying Y,Result.andThen_ok,L,bL j,Sem.run_pure];simp only[SV.val,S0.val,SL.val,m];simp
    .cases d
   .cases d
 .exact absurd p hA.fail
def qk{a:Bool}{v:TV}{cs:Tn}(h:gM a v=O cs):eC a cs v:=by
 unfold gM at h;split at h
 .cases h;exact .inl ⟨rfl,rfl⟩
 .cases h
 .cases h
 .cases h;exact .inr ⟨rfl,rfl⟩
def Ra(H:Tu)(id:Nat):KS (λi=>H[i]?) id=Ft H id:=rfl
def ZP{C:p_}{t kt l:TS}{j ok:Bool}{z m k:TV}{H:Tu}{cs:Tn}(q:C.P.underlying t=O (.map kt l))(r:fq C.P l=O z)
  (a:Hv C kt j z m k ok (λi=>H[i]?)=O cs):∃v b d,gM j v=O d/\cs=d++(if ok then [.bool b]else [])/\dV C t m k ok H=O (if ok then .tuple #[v,.bool b]else v):=by
 unfold Hv at a;simp only[AB]at a;unfold dV;rw[q];simp only;split at a
 .cases a
 next e=>
  have e:¬(!kj C.P kt k)=J:=by have:=PV (P:=C.P) (kt:=kt) (k:=k) (by simpa using e);simpa using this
  rw[ts e];simp only[r];split at a
  .obtain⟨d,f,n⟩:=FD.1 a
   grind
  next id=>
   rw[Ra]at a;split at a
   .cases a
   next s c p=>
    simp only[p];split at a
    .cases a
    next g=>
     rw[g];let⟨d,f,n⟩:=FD.1 a
     grind
    next i g=>
     rw[g];simp only;let⟨d,f,n⟩:=FD.1 a;let⟨v,u,w⟩:=GY.1 f
     grind
  .cases a
def CU{C:p_}{b_:TC}{a:Tg}{t:TS}{m k:TM}{ok:Bool}(d:o.op = .lookup t m k ok)(H:Tu){v:TV}(b:dV C t (a m) (a k) ok H=O v) :
  aA C b_ a o=O (.val v)∨∃f,aA C b_ a o=O (.Hj f)/\f H=O v:=by
 simp only[aA,d];split
 next c=>left;rw[c]at b;have:dV C t (.map Q) (a k) ok []=dV C t (.map Q) (a k) ok H:=rfl;rw[this,b];rfl
 simp_all
def wk(b:Rp ev g9)(c:abs h=g9.heap){s:SV}(e:s.gd){t:TS}{m k:TM}{ok:Bool}(i:o.op = .lookup t m k ok)
  (j:dV X.C t (ka g9.tmps m) (ka g9.tmps k) ok g9.heap=O s.val) (d:holds (pu o.dst s ev h K)):ED X holds abs o g9 K:=by
 rcases CU (b_:=X.b_) i g9.heap j with a|⟨f,a,g⟩
 .exact aK b c e a d
 .exact lP b c e a g d
def h8(hA:te A X.C Sg X.T holds abs)(p:Rp ev g9)(q:abs h=g9.heap){t:TS}{m k:TM}{ok:Bool}{hs:TP}(L:o.op = .lookup t m k ok)
  (a:holds (match X.C.P.underlying t,n_ ev m,Ea ev k with
  |some (.map kt H),.st (.leaf (.v m)),O k=>match fq X.C.P H with
   |some z=>match (generalizing:=false) hs,ok with
    | [g],U=>A.oo (.fn (Hv X.C kt (lz g) z m k.val U)) h λcs=>NH A g cs λx r=>A.wb r (pu o.dst (.st x) ev h K)
    | [g,.leaf .b],J=>A.oo (.fn (Hv X.C kt (lz g) z m k.val J)) h λcs=>NH A g cs λx r=>A.F5 r λt r=>A.wb r (pu o.dst (.NE [x,.leaf (.b t)]) ev h K)
    |_,_=>A.fail
   |none=>A.fail
  |_,_,_=>A.fail)):ED X holds abs o g9 K:=by
 split at a
 next kt H mv kv M Y Z=>
  let⟨w,_⟩:=p.n_ Y d_;let⟨I,_⟩:=p.Ea Z;simp only[SV.val,S0.val,SL.val]at w;split at a
  next z S=>
   split at a
   next g=>let⟨cs,f,c⟩:=hA.oo _ _ _ a;simp only[Pk.run]at f;rw[q]at f;let⟨v,b,u,E,j,l⟩:=ZP M S f;let⟨x,r,n,F,G,d⟩:=tF hA c;let⟨D,e⟩:=hA.wb _ _ d;rw[D,Kv]at n;simp only[FG,if_false,Kv]at j l;have i:=qk E;rw[←j,n]at i;refine wk p q (s:=.st x) G L ?_ e;rw[w,I,l,←sS F i];rfl
   next g=>
    let⟨cs,f,c⟩:=hA.oo _ _ _ a;simp only[Pk.run]at f;rw[q]at f;let⟨v,b,u,E,j,l⟩:=ZP M S f;let⟨x,r,n,F,G,d⟩:=tF hA c;let⟨t',r',r4,e⟩:=hA.F5 _ _ d;let⟨D,B⟩:=hA.wb _ _ e;simp only[if_true]at j l;rw[r4,D,j]at n;let⟨w1,V⟩:=List.append_inj' n rfl;simp only[Li,Value.bool.injEq,and_true]at V;have i:=qk E;rw[w1]at i;refine wk p q (s:=.NE [x,.leaf (.b t')]) ⟨λy N=>?_,B7 2⟩ L ?_ B
    .simp only[Fy,kG,or_false]at N;rcases N with rfl|rfl
     .exact G
     .exact aF trivial
    .rw[w,I,l,←sS F i,V];rfl
   .exact absurd a hA.fail
  .exact absurd a hA.fail
 .exact absurd a hA.fail
def muG_ok{C:p_}{t kt j:TS}{m k v:TV}{H:Tu}{n:Nat}{b:List Er}{cs:Tn}(q:C.P.underlying t=O (.map kt j))(f:q8 v=J)(g:aL v=U)
  (a:Ic C kt m k v (λi=>H[i]?) n=O (b,cs)):cL C t m k v H=O (iK H b,undef):=by
 unfold Ic at a;simp only[AB]at a;unfold cL;split at a
 next id=>
  rw[q];simp only;split at a
  .cases a
  next d=>
   have d:kj C.P kt k=J:=PV (by simpa using d);rw[ts (by simp[d,f,g])];rw[Ra]at a;split at a
   .cases a
   next r c p=>
    simp only[p];split at a
    .cases a
    next e=>rw[e];cases a;rfl
    next i e=>
     rw[e];simp only;split at a
     next l=>rw[rv l];cases a;rfl
     .cases a
 .cases a
def AZ(hA:te A X.C Sg X.T holds abs)(a:Rp ev g9)(r:abs h=g9.heap){t:TS}{m k v:TM}(ho:o.op = .mapUpdate t m k v∨o.op = .insert t m k v)
  (b:holds (match X.C.P.underlying t,n_ ev m,Ea ev k,Ea ev v with
  |some (.map kt _),.st (.leaf (.v m)),O k,O v=>A.heap (.fn (Ic X.C kt m k.val v.val)) h λ_ h=>pu o.dst .un ev h K
  |_,_,_,_=>A.fail)):ED X holds abs o g9 K:=by
 split at b
 next kt z w kv x u l n e3=>let⟨i,_⟩:=a.n_ l d_;let⟨p,_⟩:=a.Ea n;let⟨q,g⟩:=a.Ea e3;simp only[SV.val,S0.val,SL.val]at i;let⟨e,y,B,d,j,c⟩:=hA.heap _ _ _ b;simp only[Hp.run]at d;rw[r]at d j;refine dE a j (s:=.un) trivial (f:=cL X.C t w kv.val x.val) ?_ (muG_ok u (S0.q8 g) (S0.F3 g) d) c;rcases ho with ho|ho<;>simp only[aA,ho,i,p,q]
 .exact absurd b hA.fail
def meG_ok{C:p_}{t kt e:TS}{d:Bool}{z m k:TV}{H:Tu}{n:Nat}{a:List Er}{cs:Tn}(g:C.P.underlying t=O (.map kt e))(j:fq C.P e=O z)
  (f:meG C kt d z m k (λi=>H[i]?) n=O (a,cs)):∃v b c,gM d v=O b/\cs=b++[EO DQ c]/\jt C t m k H=O (iK H a,.tuple #[v,EO DQ c]):=by
 cases f
def ZT(hA:te A X.C Sg X.T holds abs)(b:Rp ev g9)(N:abs h=g9.heap){t:TS}{m k:TM}{Y:TP}(S:o.op = .mapEntry t m k)
  (a:holds (match X.C.P.underlying t,n_ ev m,Ea ev k with
  |some (.map kt u),.st (.leaf (.v m)),O k=>match fq X.C.P u with
   |some z=>match Y with
    | [p,.leaf (.i DQ)]=>A.heap (.fn (meG X.C kt (lz p) z m k.val)) h λcs h=>NH A p cs λx r=>A.ua DQ r λn r=>A.wb r (pu o.dst (.NE [x,.leaf (.i DQ n)]) ev h K)
    |_=>A.fail
   |none=>A.fail
  |_,_,_=>A.fail)):ED X holds abs o g9 K:=by
 split at a
 next kt u mv kv Z I L=>
  let⟨w,_⟩:=b.n_ I d_;let⟨M,_⟩:=b.Ea L;simp only[SV.val,S0.val,SL.val]at w;split at a
  next z hz=>
   split at a
   next p=>
    let⟨q,cs,h',l,E,d⟩:=hA.heap _ _ _ a;simp only[Hp.run]at l;rw[N]at l E;let⟨v,H,c,w1,w2,w3⟩:=meG_ok Z hz l;let⟨x,r,F,r2,r3,e⟩:=tF hA d;let⟨n,r',r4,g⟩:=hA.ua _ _ _ e;let⟨V,j⟩:=hA.wb _ _ g;rw[r4,V,w2]at F;let⟨u1,G⟩:=List.append_inj' F rfl;simp only[Li,Value.int.injEq,true_and,and_true]at G;have B:=qk w1;rw[u1]at B;refine dE b E (s:=.NE [x,.leaf (.i DQ n)]) ⟨λy D=>?_,B7 2⟩ (f:=jt X.C t mv kv.val) ?_ ?_ j
    .simp only[Fy,kG,or_false]at D;rcases D with rfl|rfl
     .exact r3
     .exact aF trivial
    .simp only[aA,S,w,M]
    .rw[w3,←sS r2 B,G];rfl
   .exact absurd a hA.fail
  .exact absurd a hA.fail
 .exact absurd a hA.fail
def esG_ok{m v:TV}{b:Int}{k:TN}{H:Tu}{n:Nat}{a:List Er}{cs:Tn}(d:q8 v=J)(e:aL v=U)
  (c:esG m b v (λi=>H[i]?) n=O (a,cs)):fT m (.int k b) v H=O (iK H a,undef):=by
 cases c
def YD(hA:te A X.C Sg X.T holds abs)(a:Rp ev g9)(w:abs h=g9.heap){t:TS}{m s v:TM}(x:o.op = .entryStore t m s v)
  (c:holds (match n_ ev m,n_ ev s,Ea ev v with
  | .st (.leaf (.v m)),.st (.leaf (.i _ b)),O v=>A.heap (.fn (esG m b v.val)) h λ_ h=>pu o.dst .un ev h K
  |_,_,_=>A.fail)):ED X holds abs o g9 K:=by
 split at c
 next y k b z q r e3=>let⟨l,_⟩:=a.n_ q d_;let⟨n,_⟩:=a.n_ r d_;let⟨u,j⟩:=a.Ea e3;simp only[SV.val,S0.val,SL.val]at l n;let⟨g,B,D,e,p,d⟩:=hA.heap _ _ _ c;simp only[Hp.run]at e;rw[w]at e p;refine dE a p (s:=.un) trivial (f:=fT y (.int k b) z.val) ?_ (esG_ok (S0.q8 j) (S0.F3 j) e) d;simp only[aA,x,l,n,u]
 .exact absurd c hA.fail
def deG_ok{C:p_}{t kt b:TS}{m k:TV}{H:Tu}{n:Nat}{a:List Er}{cs:Tn}(d:C.P.underlying t=O (.map kt b))
  (c:deG C kt m k (λi=>H[i]?) n=O (a,cs)):qu C t m k H=O (iK H a,undef):=by
 cases c
end
end Sx
namespace Sx
section
variable [El] [E_] {R HT:Type} {A:Eh R HT} {X:Ex} {Sg:Td} {holds:R->Prop} {abs:HT->Tu}
variable {ev:Env} {g9:St} {h:HT} {o:FQ} {K:KN R HT}
def slG_at(C:p_)(vd:Nat)(H:Tu)(x:TV):Xm C vd (λi=>H[i]?) x=ep C H vd x:=rfl
def apG_ok{C:p_}{t e:TS}{c:TypeInfo}{s x:TV}{H:Tu}{f:List Er}{cs:Tn}(z:C.P.underlying t=O (.slice e))(w:C.P.info? e=O c)(h0:¬c.size=0)
  (B:(mT c).isNone=U) (b:Gx C c.size c.bytes s x (λi=>H[i]?) (W H)=O (f,cs)):∃v,cs=[v]/\gH C t s x H=O (iK H f,v):=by
 unfold Gx at b;unfold gH;simp only[z,w,ts h0,B,FG,if_false];rw[slG_at]at b;split at b
 .cases b
 next E n q=>
  simp only[q];split at b
  .split at b
   next d=>simp only[rv d];cases b;exact⟨_,rfl,rfl⟩
   next d=>
    simp only[ts d];split at b
    next y=>simp only[rv y];cases b;exact⟨_,rfl,rfl⟩
    .cases b
  next a D N=>
   split at b
   .cases b
   next m=>
    simp only[ts m];split at b
    next T S L u=>
     simp only[u];split at b
     .cases b
     next r=>
      simp only[ts r];split at b
      .cases b
      next F k=>
       simp only[k];split at b
       .split at b
        next d=>simp only[rv d];cases b;exact⟨_,rfl,rfl⟩
        next d=>
         simp only[ts d];split at b
         next l=>simp only[rv l];cases b;refine⟨_,rfl,?_⟩;simp[iK,Er.on]
         .cases b
       next p=>
        split at b
        next g=>
         simp only[rv g];split at b
         next j=>simp only[rv j];let⟨M,G,I⟩:=FD.1 b;cases I;exact⟨_,rfl,by simp only[G];rfl⟩
         next j=>
          simp only[ts j];split at b
          next d=>simp only[rv d];cases b;exact⟨_,rfl,rfl⟩
          .cases b
        next g=>
         simp only[ts g];split at b
         next l=>simp only[rv l];cases b;exact⟨_,rfl,rfl⟩
         .cases b
    .cases b
  .cases b
def cpG_ok{C:p_}{t e:TS}{d x:TV}{H:Tu}{n:Nat}{a:List Er}{cs:Tn}(c:C.P.underlying t=O (.slice e))(h0:¬C.P.cellsOf e=0)
  (b:cpG C (C.P.cellsOf e) d x (λi=>H[i]?) n=O (a,cs)):∃v,cs=[v]/\Ly C t d x H=O (iK H a,v):=by
 cases b
def clG_ok{C:p_}{t e:TS}{x:TV}{z:S0}{H:Tu}{n:Nat}{a:List Er}{cs:Tn}(c:C.P.underlying t=O (.slice e))(h0:¬C.P.cellsOf e=0)(d:zZ C.P e=O z)
  (b:clG (C.P.cellsOf e) (z.cells.map SL.val) x (λi=>H[i]?) n=O (a,cs)):wc C t x H=O (iK H a,undef):=by
 cases b
def vB(hA:te A X.C Sg X.T holds abs){dst:Tq}{a:SK}(c:lz a=U){v:TV}(b:holds (K_ A dst a [v] ev h K)):∃x:S0,x.val=v/\x.g_/\holds (pu dst (.st x) ev h K):=
 nX hA (.inr ⟨c,rfl⟩) b
def Cu(hA:te A X.C Sg X.T holds abs)(G:Rp ev g9)(I:abs h=g9.heap){c:Call}{b:Builtin}{xs:List S0}{sk:SK}(Y:o.op = .call c)(hb:c.callee = .builtin b)(hx:EM ev c.args.toList=O xs)
  (d:holds (pv A X o.dst sk b xs c.argTypes ev h K)):ED X holds abs o g9 K:=by
 let⟨hv,hg⟩:=G.EM hx;have q:aA X.C X.b_ (ka g9.tmps) o=ba X.C (ka g9.tmps) b (ao xs) c.argTypes o:=by simp only[aA,Y,ig,hb,hv]
 have M:∀ys:List S0,(∀y∈ys,∀l∈y.cells,l.nv)->ys=xs->c.args.toList.all (λx=>plain (ka g9.tmps x))=J/\c.args.map (λx=>GE (ka g9.tmps x))=⟨ao xs⟩:=by
  intro ys V e;subst e;have Z:∀v∈c.args.toList.map (ka g9.tmps),plain v=J/\GE v=v:=by rw[hv];intro v hm;simp only[ao,Ed]at hm;obtain⟨y,hm,rfl⟩:=hm;exact uX (V y hm)
  grind
 unfold pv at d;split at d
 next s x t D=>
  split at d
  next e u=>
   split at d
   next ag hi=>
    split at d
    .exact absurd d hA.fail
    next hc=>
     simp only[qbM]at hc;let⟨⟨⟨c1,c2⟩,c3⟩,c4⟩:=hc;have c1:¬ag.size=0:=λe=>by rw[e]at c1;cases c1
     let⟨L,cs,h',E,N,j⟩:=hA.heap _ _ _ d;simp only[Hp.run]at E;rw[I]at E N;obtain⟨v,rfl,q3⟩:=apG_ok u hi c1 c2 E;obtain⟨y,rfl,g,r⟩:=vB hA rfl j;refine dE G N (s:=.st y) g (f:=gH X.C t s x) ?_ q3 r;rw[q];simp only[ba,ao,Fx,L9,S0.val,SL.val,D]
     grind
   .exact absurd d hA.fail
  .exact absurd d hA.fail
 next x t D=>
  split at d
  next e x' u=>
   let⟨n,S,j⟩:=hA.km _ _ d;unfold KP at S;split at S
   next a m cx=>cases S;refine aK G I (s:=.st (.leaf (.i DQ _))) (aF trivial) ?_ j;rw[q];simp only[ba,ao,Fx,L9,S0.val,SL.val,D,u];rfl
   .cases S
  next kt et x' u=>
   let⟨cs,F,j⟩:=hA.oo _ _ _ d;simp only[Pk.run]at F;rw[I]at F;unfold lenM at F;split at F
   next id=>
    split at F
    next es ck al=>
     cases F;let⟨y,V,g,r⟩:=vB hA rfl j;refine lP G I (s:=.st y) g (f:=λH=>(Ft H id).map λp=>EO DQ (W p.1)) ?_ ?_ r
     .rw[q];simp only[ba,ao,Fx,L9,S0.val,SL.val,D,u]
     .simp only[Ft,al,G9,SV.val,V]
    .cases F
   .cases F
  next n el u=>refine aK G I (s:=.st (.leaf (.i DQ _))) (aF trivial) ?_ d;rw[q];simp only[ba,ao,Fx,L9,D,u];rfl
  .exact absurd d hA.fail
 next x t D=>
  split at d
  next e x' u=>
   let⟨n,S,j⟩:=hA.km _ _ d;unfold fb at S;split at S
   .cases S;refine aK G I (s:=.st (.leaf (.i DQ _))) (aF trivial) ?_ j;rw[q];simp only[ba,ao,Fx,L9,S0.val,SL.val,D,u];rfl
   .cases S;refine aK G I (s:=.st (.leaf (.i DQ _))) (aF trivial) ?_ j;rw[q];simp only[ba,ao,Fx,L9,S0.val,SL.val,D,u];rfl
   .cases S
  next n el u=>refine aK G I (s:=.st (.leaf (.i DQ _))) (aF trivial) ?_ d;rw[q];simp only[ba,ao,Fx,L9,D,u];rfl
  .exact absurd d hA.fail
 next s x t D=>
  split at d
  next e u=>
   split at d
   .exact absurd d hA.fail
   next hz=>
    have hz:¬X.C.P.cellsOf e=0:=λe=>by rw[e]at hz;cases hz
    let⟨L,cs,h',E,N,j⟩:=hA.heap _ _ _ d;simp only[Hp.run]at E;rw[I]at E N;obtain⟨v,rfl,q3⟩:=cpG_ok u hz E;obtain⟨y,rfl,g,r⟩:=vB hA rfl j;refine dE G N (s:=.st y) g (f:=Ly X.C t s x) ?_ q3 r;rw[q];simp only[ba,ao,Fx,L9,S0.val,SL.val,D]
  .exact absurd d hA.fail
 next m k t D=>
  split at d
  next kt et u=>let⟨L,cs,h',E,N,j⟩:=hA.heap _ _ _ d;simp only[Hp.run]at E;rw[I]at E N;refine dE G N (s:=.un) trivial (f:=qu X.C t m k.val) ?_ (deG_ok u E) j;rw[q];simp only[ba,ao,Fx,L9,S0.val,SL.val,D]
  .exact absurd d hA.fail
 next s t D=>
  split at d
  next e u=>
   split at d
   next z ad hz=>have ad:¬X.C.P.cellsOf e=0:=λe=>k_;let⟨L,cs,h',E,N,j⟩:=hA.heap _ _ _ d;simp only[Hp.run]at E;rw[I]at E N;refine dE G N (s:=.un) trivial (f:=wc X.C t s) ?_ (clG_ok u ad hz E) j;rw[q];simp only[ba,ao,Fx,L9,S0.val,SL.val,D]
   .exact absurd d hA.fail
  .exact absurd d hA.fail
 next k a k' b'=>
  split at d
  next B=>
   have B:=dS B;subst B;let⟨t,Z,j⟩:=hA.cmp _ _ _ _ d;have r:=hA.I4 _ _ _ _ j;simp only[sq,Ih]at Z;subst Z;let⟨p1,p2⟩:=M _ (λy V l F=>by simp only[Fy,kG,or_false]at V;rcases V with rfl|rfl<;>(simp only[S0.cells,HN]at F;subst F;trivial)) rfl
   refine cH G I (s:=.st (.leaf (.i k _))) (aF trivial) ⟨by rw[Y];rfl,?_,rfl,λw=>?_⟩ r
   .rw[Y];simp only[Op.operands,Call.operands,hb];simpa using p1
   .simp only[execOp,Y,resolve,hb,Sem.run_bind,p2];simp only[Sem.run_pure,Result.andThen_ok,invoke,builtin,ao,Fx,L9,S0.val,SL.val,Sem.run_bind];rw[show(⟨[Value.int k a,Value.int k b']⟩ : Array FO) = #[Value.int k a,Value.int k b']from rfl,run_min_int2];simp[SV.val,S0.val,SL.val,GE,It]
  .exact absurd d hA.fail
 next k a k' b'=>
  split at d
  next B=>
   have B:=dS B;subst B;let⟨t,Z,j⟩:=hA.cmp _ _ _ _ d;have r:=hA.I4 _ _ _ _ j;simp only[sq,Ih]at Z;subst Z;let⟨p1,p2⟩:=M _ (λy V l F=>by simp only[Fy,kG,or_false]at V;rcases V with rfl|rfl<;>(simp only[S0.cells,HN]at F;subst F;trivial)) rfl
   refine cH G I (s:=.st (.leaf (.i k _))) (aF trivial) ⟨by rw[Y];rfl,?_,rfl,λw=>?_⟩ r
   .rw[Y];simp only[Op.operands,Call.operands,hb];simpa using p1
   .simp only[execOp,Y,resolve,hb,Sem.run_bind,p2];simp only[Sem.run_pure,Result.andThen_ok,invoke,builtin,ao,Fx,L9,S0.val,SL.val,Sem.run_bind];rw[show(⟨[Value.int k a,Value.int k b']⟩ : Array FO) = #[Value.int k a,Value.int k b']from rfl,run_max_int2];simp[SV.val,S0.val,SL.val,GE,It]
  .exact absurd d hA.fail
 .exact absurd d hA.fail
end
end Sx
namespace Sx
section
variable [El] [E_] {R HT:Type} {A:Eh R HT} {X:Ex} {Sg:Td} {holds:R->Prop} {abs:HT->Tu}
variable {ev:Env} {g9:St} {h:HT} {o:FQ} {K:KN R HT}
def Vp(x:S0):cT [x]=x.cells.map SL.lf:=by simp[cT]
def zH(hA:te A X.C Sg X.T holds abs)(p:Rp ev g9){sks:TP}{w:TG}{ys:List S0}(D:Told sks w ys){H':Tu}(q:abs h=H')
  (i:XD X.C X.b_ o g9 (({ g9 with heap:=H' }:St).put o.dst (gL (ao ys)))) (k:holds (V0 A o.dst sks w ev h K)):ED X holds abs o g9 K:=by
 obtain⟨c,rfl,z⟩:=D;unfold V0 at k;split at k
 next E=>
  let⟨x,r,j,e,d⟩:=NI hA k;let⟨n,g⟩:=hA.C3 _ _ d;rw[n,Kv]at j
  match ys,c with
  | [y],c=>simp only[cJ,qdO]at c;rw[Vp]at j;let⟨t,u⟩:=S0.Zj c e j;refine dP p H' q (s:=.st x) (u (z y d_)) ?_ g;rw[show(SV.st x).val=gL (ao [y])from by simp[SV.val,ao,gL,t]];exact i
  | [],c=>cases c
  |_::_::_,c=>simp[cJ]at c
 .obtain⟨n,d⟩:=hA.C3 _ _ k
  match ys,c with
  | [],_=>exact dP p H' q (s:=.un) trivial i d
  |_::_,c=>cases c
 next B v=>
  let⟨m,r,j,e,d⟩:=rI hA k;let⟨n,g⟩:=hA.C3 _ _ d;rw[n,Kv]at j;let⟨t,u⟩:=db c e j;have f:2<=W m:=by
   match m,e with
   | [],e=>cases sks with
    |nil=>exact absurd rfl v
    |cons _ _=>cases e
   | [x],e=>cases sks with
    |nil=>exact absurd rfl v
    |cons a l=>cases l with
     |nil=>exact absurd rfl (B _)
     |cons _ _=>simp[cJ]at e
   |_::_::_,_=>simp
  refine dP p H' q (s:=.NE m) ⟨u z,f⟩ ?_ g;have:(SV.NE m).val=gL (ao ys):=by
   rw[t]
   match m,f with
   |a::b::l,_=>rfl
  rw[this];exact i
def SE{xs:List S0}(a:∀x∈xs,x.g_):(ao xs).all q8=J:=by simp only[ao,D7,Ed];rintro _ ⟨x,b,rfl⟩;exact S0.q8 (a x b)
def g7(hA:te A X.C Sg X.T holds abs)(n:Rp ev g9)(w:abs h=g9.heap){c:Call}{z:TP}(x:o.op = .call c)
  (a:holds (match EM ev c.args.toList with
  |some xs=>match c.callee with
   | .builtin b=>pv A X o.dst (pe z) b xs c.argTypes ev h K
   | .value f=>match n_ ev f with
    | .st (.leaf (.v v))=>match f with
     | .func g=>match Sg g with
      |some sg=>match cJ xs sg.ps with
       |true=>A.call g (cT xs) h λr h=>V0 A o.dst sg.rs r ev h K
       |false=>A.fail
      |none=>A.fail
     |_=>A.D' v (ao xs) z h λr h=>V0 A o.dst z r ev h K
    |_=>A.fail
   |_=>A.fail
  |none=>A.fail)):ED X holds abs o g9 K:=by
 split at a
 next xs G=>
  let⟨F,S⟩:=n.EM G;have q:=SE S;split at a
  next b N=>exact Cu hA n w x N G a
  next f E=>
   split at a
   next v P=>
    let⟨t,L⟩:=n.n_ P d_;simp only[SV.val,S0.val,SL.val]at t;have M:aH v=J:=L (.v v) (by simp[S0.cells]);have k:∀ {g:TT} {first d:Tl},v = .func (.func g) first d->aA X.C X.b_ (ka g9.tmps) o=O (.call g (first.toList++ao xs++d.toList)):=by
     intro g first d e
     subst e;simp only[aA,x,ig,E,F,q,t,(fc.1 M).1,Fv,FG,if_false,if_true]
    split at a
    next g=>
     have e:v = .func (.func g) #[] #[]:=by have:=t;simp only[ka]at this;exact this.symm
     split at a
     next sg B=>
      split at a
      next y=>let⟨r,s,⟨V,Z,u,p,⟨j,H,c4⟩,I,D⟩,i⟩:=hA.call _ _ _ _ a;rw[B]at p;cases p;let⟨Y,_⟩:=db y j H.symm;rw[w]at D;refine zH hA n I rfl (.inl ⟨_,k e,gL (ao u),abs s,?_,rfl⟩) i;rw[Y];show kw X.C g _ _ _ _;simpa using D
      .exact absurd a hA.fail
     .exact absurd a hA.fail
    .obtain⟨r,s,⟨u,p,j⟩,i⟩:=hA.D' _ _ _ _ _ a;rw[w]at j;rcases j with⟨g,first,d,e,j⟩|⟨l,e,j⟩
     .exact zH hA n p rfl (.inl ⟨_,k e,gL (ao u),abs s,j,rfl⟩) i
     .have m:aA X.C X.b_ (ka g9.tmps) o=O (.yield l (ao xs)):=by subst e;simp only[aA,x,ig,E,F,q,t,Fv,FG,if_false];rfl
      exact zH hA n p rfl (.inl ⟨_,m,gL (ao u),abs s,j,rfl⟩) i
   .exact absurd a hA.fail
  .exact absurd a hA.fail
 .exact absurd a hA.fail
def opE_ok(hA:te A X.C Sg X.T holds abs)(j:Rp ev g9)(p:abs h=g9.heap){M:TP}(g:holds (opE A X Sg o M ev h K)):ED X holds abs o g9 K:=by
 unfold opE at g;split at g
 next x d=>
  split at g
  .exact absurd g hA.fail
  next D=>exact Rg j p (.inl d) rfl (λe=>D e) g
 next x d=>
  split at g
  .exact absurd g hA.fail
  next D=>exact Rg j p (.inr d) rfl (λe=>D e) g
 next c a b d=>exact x1 hA j p d g
 next t d=>
  split at g
  next x q=>let⟨z,u,w,I⟩:=Ck q;exact Rj hA j p I (by simp only[aA,d,u,Fj,w]) (.inr d) g
  .exact absurd g hA.fail
 next t y d=>
  split at g
  next x q=>let⟨u,w⟩:=j.n_ q d_;exact Rj hA j p w (by simp only[aA,d,u];rfl) (.inl ⟨y,d⟩) g
  .exact absurd g hA.fail
 next t P d=>exact X' hA j p d g
 next t n P d=>exact tR hA j p d g
 next t a d=>
  split at g
  next E B=>
   split at g
   next L=>exact t2 hA j p d B (YF L) g
   .exact absurd g hA.fail
  .exact absurd g hA.fail
 next t a y d=>
  split at g
  next x q=>exact t5 hA j p d q g
  .exact absurd g hA.fail
 next x d=>exact ze hA j p d g
 next N t x y yt d=>
  split at g
  next a b G H=>exact bin_ok hA j p d G H g
  .exact absurd g hA.fail
 next N t x d=>exact un_ok hA j p d g
 next sT S x d=>exact c' hA j p d g
 next V first F d=>exact yT hA j p d g
 next t r d=>exact nu hA j p d g
 next t l c d=>exact xe hA j p d g
 next t x Z Y mx d=>exact V3 hA j p d g
 next t x f d=>exact ww hA j p d g
 next t x i d=>exact wQ hA j p d g
 next t x f d=>exact YP hA j p d g
 next t x i d=>exact Ze hA j p d g
 next t m k ok d=>exact h8 hA j p d g
 next t m k v d=>exact AZ hA j p (.inl d) g
 next t m k v d=>exact AZ hA j p (.inr d) g
 next t m k d=>exact ZT hA j p d g
 next t m s v d=>exact YD hA j p d g
 next t i d=>exact CG hA j p d g
 next c d=>exact g7 hA j p d g
 .exact absurd g hA.fail
def Xp(X:Ex)(holds:R->Prop)(abs:HT->Tu)(ops:To)(i:Nat)(o:FQ)(g9:St)(K:KN R HT):Prop:=
 ∃b a h',ar X.C (uB X.C) X.b_ ops i g9 b/\Rp a b/\abs h'=b.heap/\Fr o.dst.toList (xA X.b_ o).toList (lj X.b_ o).toList g9 b/\holds (K a h')
def na(c:Rp ev g9){d:Nat}{t:Bool}(f:ev.tm.getD d .no = .st (.leaf (.b t))):Rp ⟨ev.tm.set d (.st (.leaf (.l t))),ev.lc⟩ g9:=by
 let⟨e,_⟩:=c.at f d_;refine⟨by simp[c.len],λi x a=>?_,c.Gk,c.row⟩;simp only[Kk]at a;split at a
 next g=>
  subst g;split at a
  .cases a;exact⟨e,aF trivial⟩
  .cases a
 .exact c.val i x a
def Bp(hA:te A X.C Sg X.T holds abs)(f:Rp ev g9)(v:abs h=g9.heap){ops:To}{i:Nat}{x:TP}(w:ops[i]?=O o)(a:holds (opG A X Sg ops o x ev h K)):Xp X holds abs ops i o g9 K:=by
 have g:∀ {ev:Env},Rp ev g9->cE ops g9.tmps o=O J->holds (opE A X Sg o x ev h K)->Xp X holds abs ops i o g9 K:=by intro ev f n a;let⟨D,l,y,E,F,G,H,I⟩:=opE_ok hA f v a;exact⟨D,l,y,by unfold ar;simp only[w,n];exact E,F,G,H,I⟩
 have e:∀ {ev:Env},Rp ev g9->cE ops g9.tmps o=O U->holds (pu o.dst .un ev h K)->Xp X holds abs ops i o g9 K:=by intro ev f n a;let⟨l,m,z⟩:=zG f (s:=.un) trivial a;refine⟨g9.put o.dst undef,l,h,by unfold ar;simp only[w,n],m,?_,.put _ _ _ _,z⟩;rw[v];cases o.dst<;>rfl
 unfold opG at a;split at a
 next q=>exact g f (by simp only[cE,q]) a
 next j k q=>
  split at a
  next d r=>
   split at a
   next b p=>
    let⟨m,_⟩:=f.at p d_;have n:cE ops g9.tmps o=O (b==k):=by simp only[cE,q,r,Fj,m];rfl
    grind
   next p=>
    let⟨m,_⟩:=f.at p d_;have n:cE ops g9.tmps o=O U:=by simp only[cE,q,r,Fj,m];rfl
    exact e f n a
   next t p=>
    let⟨m,_⟩:=f.at p d_;have n:cE ops g9.tmps o=O (t==k):=by simp only[cE,q,r,Fj,m];rfl
    have B:=na f p;split at a
    .rcases hA.cond _ _ _ a with⟨u,c⟩|⟨u,c⟩
     .rw[fk]at c
      grind
     .rw[fk]at c
      grind
    .rcases hA.cond _ _ _ a with⟨u,c⟩|⟨u,c⟩
     .rw[fk]at c
      grind
     .rw[fk]at c
      grind
   .exact absurd a hA.fail
  .exact absurd a hA.fail
def ql(l:TA):TC:=l.filterMap (·.dst)
def Zp(b_:TC)(l:TA):TC:=l.filterMap (xA b_)
def nH(b_:TC)(l:TA):TC:=l.filterMap (lj b_)
def bE{f:FQ->Ts}{o:FQ}{l:TA}(a:o∈l):∀i∈(f o).toList,i∈l.filterMap f:=by grind
def pS(hA:te A X.C Sg X.T holds abs){ops:To}:∀(l:TA) (i:Nat) (e:List (TP)) (ev:Env) (h:HT) (g9:St),l <+: ops.toList.drop i->Rp ev g9->abs h=g9.heap->holds (VD A X Sg ops l e ev h K)->
  ∃d a h',bw X.C (uB X.C) X.b_ ops (List.range' i (W l)) g9 d/\Rp a d/\abs h'=d.heap/\Fr (ql l) (Zp X.b_ l) (nH X.b_ l) g9 d/\holds (K a h')
 | [],i,e,ev,h,g9,_,g,j,k=>⟨g9,ev,h,rfl,g,j,.refl _ _ _ _,k⟩
 |o::l,i,e,ev,h,g9,c,g,j,k=>by
  have q:ops[i]?=O o:=by
   let⟨t,c⟩:=c;have:(ops.toList.drop i)[0]?=O o:=by rw[←c];rfl
   simpa using this
  let⟨n,F,E,x,y,z,B,D⟩:=Bp (K:=λev h=>VD A X Sg ops l e.tail ev h K) hA g j q k;have m:l <+: ops.toList.drop (i+1):=by let⟨t,c⟩:=c;exact⟨t,by rw[←qco,←c];rfl⟩
  let⟨d,a,h',r,s,u,v,w⟩:=pS hA l (i+1) e.tail F E n m y z D;refine⟨d,a,h',⟨n,x,r⟩,s,u,?_,w⟩;have p:Fr (ql (o::l)) (Zp X.b_ (o::l)) (nH X.b_ (o::l)) g9 n:=B.mono (bE d_) (bE d_) (bE d_);have b:∀(f:FQ->Ts) (i:Nat),i∈l.filterMap f->i∈(o::l).filterMap f:=by simp_all
  exact p.trans (v.mono (b _) (b _) (b _))
def l5(hA:te A X.C Sg X.T holds abs){ops:To}(l:TA)(i:Nat)(c:List (TP))(ev:Env)(h:HT)(g9:St)(g:ops.toList.drop i=l)(d:Rp ev g9)(e:abs h=g9.heap)(f:holds (VD A X Sg ops l c ev h K)) :
  ∃b a h',bw X.C (uB X.C) X.b_ ops (List.range' i (W l)) g9 b/\Rp a b/\abs h'=b.heap/\Fr (ql l) (Zp X.b_ l) (nH X.b_ l) g9 b/\holds (K a h'):=
 pS hA l i c ev h g9 (g▸List.prefix_refl _) d e f
end
end Sx
namespace Sx
section
variable [El] [E_] {R HT:Type} {A:Eh R HT} {X:Ex} {Sg:Td} {holds:R->Prop} {abs:HT->Tu}
def Pa(a ks:TC):∀(l:List SV) (i:Nat) (K:List SV->R),∃l',clrT a ks l i K=K l'/\l'.length=W l/\
  ∀(j:Nat) s,l'[j]?=O s->s = .no∨(l[j]?=O s/\¬a.contains (i+j)=J/\s.Ge ks=U)
 | [],i,K=>⟨[],rfl,rfl,λj s h=>by simp at h⟩
 |x::l,i,K=>by
  let⟨l',h1,c,f⟩:=Pa a ks l (i+1) λl=>match a.contains i||x.Ge ks with
   |true=>K (.no::l)
   |false=>K (x::l)
  have g:∀(j:Nat) s,l'[j]?=O s->s = .no∨((x::l)[j+1]?=O s/\¬a.contains (i+(j+1))=J/\s.Ge ks=U):=by grind
  have b:clrT a ks (x::l) i K=(match a.contains i||x.Ge ks with
   |true=>K (.no::l')
   |false=>K (x::l')):=h1
  cases d:a.contains i||x.Ge ks with
  |true=>
   refine⟨.no::l',by rw[b,d],by simp[c],λj s e=>?_⟩;cases j with
   |zero=>simp_all
   |succ j=>simp_all
  |false=>
   simp only[qbM]at d;refine⟨x::l',k_,by simp[c],λj s e=>?_⟩;cases j with
   |zero=>simp_all
   |succ j=>simp_all
def vw(r a:LR):Prop:=r = .Mm∨(∃n,r = .any n/\(a = .any n∨∃cs,a = .row cs/\cs.length=n))
def N'(a ks:TC)(e:LR):∀(l:List LR) (i:Nat) (K:List LR->R),∃l',Yh a ks e l i K=K l'/\l'.length=W l/\
  ∀(j:Nat) r,l'[j]?=O r->(ks.contains (i+j)=J/\r=e)∨(ks.contains (i+j)=U/\a.contains (i+j)=J/\∃f,l[j]?=O f/\vw r f)∨
   (ks.contains (i+j)=U/\a.contains (i+j)=U/\l[j]?=O r)
 | [],i,K=>⟨[],rfl,rfl,λj s h=>by simp at h⟩
 |x::l,i,K=>by
  let⟨l',h1,k,o⟩:=N' a ks e l (i+1) λl=>match ks.contains i,a.contains i with
   |true,_=>K (e::l)
   |false,J=>(match x with
    | .row g=>uz (W g) λn=>K (.any n::l)
    | .any n=>K (.any n::l)
    |_=>K (.Mm::l))
   |false,U=>K (x::l)
  have q:∀(j:Nat) r,l'[j]?=O r->(ks.contains (i+(j+1))=J/\r=e)∨(ks.contains (i+(j+1))=U/\a.contains (i+(j+1))=J/\∃f,(x::l)[j+1]?=O f/\vw r f)∨
   (ks.contains (i+(j+1))=U/\a.contains (i+(j+1))=U/\(x::l)[j+1]?=O r):=by
   grind
  have b:∀y:LR,Yh a ks e (x::l) i K=K (y::l')->((ks.contains i=J/\y=e)∨(ks.contains i=U/\a.contains i=J/\vw y x)∨(ks.contains i=U/\a.contains i=U/\y=x))->
    ∃l',Yh a ks e (x::l) i K=K l'/\l'.length=W (x::l)/\∀(j:Nat) r,l'[j]?=O r->(ks.contains (i+j)=J/\r=e)∨(ks.contains (i+j)=U/\a.contains (i+j)=J/\∃f,(x::l)[j]?=O f/\vw r f)∨
     (ks.contains (i+j)=U/\a.contains (i+j)=U/\(x::l)[j]?=O r):=by
   intro y m p;refine⟨y::l',m,by simp[k],λj r t=>?_⟩;cases j with
   |zero=>grind
   |succ j=>simp_all
  cases c:ks.contains i with
  |true=>exact b e (by show _=_;apply h1.trans;simp only[c]) (.inl ⟨c,rfl⟩)
  |false=>
   cases d:a.contains i with
   |false=>exact b x (by apply h1.trans;simp only[c,d]) (.inr (.inr ⟨c,d,rfl⟩))
   |true=>
    cases x with
    |row g=>exact b (.any (W g)) (by apply h1.trans;simp only[c,d,yH]) (.inr (.inl ⟨c,d,.inr ⟨_,rfl,.inr ⟨g,rfl,rfl⟩⟩⟩))
    |any n=>exact b (.any n) (by apply h1.trans;simp only[c,d]) (.inr (.inl ⟨c,d,.inr ⟨_,rfl,.inl rfl⟩⟩))
    |Mm=>exact b .Mm (by apply h1.trans;simp only[c,d]) (.inr (.inl ⟨c,d,.inl rfl⟩))
    |nil=>exact b .Mm (by apply h1.trans;simp only[c,d]) (.inr (.inl ⟨c,d,.inl rfl⟩))
def kT{C:p_}{T:Tv}(hA:te A C Sg T holds abs):∀(lv:List (Nat×SK)) (xs:List S0) (tm:List SV) (K:List SV->R),holds (upT A lv xs tm K)->cJ xs (lv.map (·.2))=J->
  ∃a,holds (K a)/\a.length=W tm/\∀(j:Nat) s,a[j]?=O s->tm[j]?=O s∨∃e x,(j,e)∈lv/\s = .st x/\((j,e),x)∈lv.zip xs
 | [],xs,tm,K,d,_=>⟨tm,d,rfl,λj s f=>.inl f⟩
 |p::lv,[],tm,K,d,h=>by cases h
 |p::lv,x::xs,tm,K,d,h=>by
  simp only[Fx,cJ,y_]at h;have c:holds (Ht (.st x) tm p.1 λtm=>upT A lv xs tm K):=d;rw[fk]at c;let⟨a,g,i,k⟩:=kT hA lv xs _ K c h.2;refine⟨a,g,by rw[i];simp,λj s f=>?_⟩;rcases k j s f with b|⟨e,y,b,l,m⟩
  .simp only[Kk]at b;split at b
   next n=>
    split at b
    .cases b;subst n;exact .inr ⟨p.2,x,d_,rfl,d_⟩
    .cases b
   .exact .inl b
  .exact .inr ⟨e,y,by simp[b],l,by simp[m]⟩
def zl{C:p_}{T:Tv}(hA:te A C Sg T holds abs):∀(lv:List (Nat×List LK)) (ls:TG) (c:List LR) (K:List LR->TG->R),holds (upR A lv ls c K)->
  ∃(b:List LR) (r:TG) (a:List (List SL)),holds (K b r)/\ls=(a.map (·.map SL.lf)).flatten++r/\a.length=W lv/\(∀(i:Nat) p cs,lv[i]?=O p->a[i]?=O cs->bf cs p.2=J)/\b.length=W c/\
   ∀(j:Nat) s,b[j]?=O s->c[j]?=O s∨∃(i:Nat) (ks:TK) (cs:List SL),lv[i]?=O (j,ks)/\a[i]?=O cs/\s = .row cs
 | [],ls,c,K,f=>⟨c,ls,[],f,rfl,rfl,λ_ _ _ h=>by simp at h,rfl,λj s k=>.inl k⟩
 |p::lv,ls,c,K,f=>by
  have g:holds (Xn A p.2 ls λcs r=>Ht (.row cs) c p.1 λc=>upR A lv r c K):=f;let⟨cs,r,m,B,e⟩:=tG hA g;rw[fk]at e;let⟨b,z,a,n,o,t,D,u,v⟩:=zl hA lv r _ K e;refine⟨b,z,cs::a,n,by rw[m,o];simp,by simp[t],λi q l F E=>?_,by rw[u];simp,λj s k=>?_⟩
  .grind
  .rcases v j s k with d|⟨i,ks,l,d,w,x⟩
   .simp only[Kk]at d;split at d
    next y=>
     split at d
     .cases d;subst y;exact .inr ⟨0,p.2,cs,rfl,rfl,rfl⟩
     .cases d
    .exact .inl d
   .exact .inr ⟨i+1,ks,l,by simpa using d,by simpa using w,x⟩
def s6{b:Env}{g9:St}(c:Rp b g9):∀ {lv:List (Nat×SK)} {ls:TG},pkT b.tm lv=O ls->
  ∃xs,cT xs=ls/\cJ xs (lv.map (·.2))=J/\(∀x∈xs,x.g_)/\∀p∈lv.zip xs,g9.tmps[p.1.1]?=O p.2.val
 | [],ls,h=>by cases h;exact⟨[],rfl,rfl,d_,d_⟩
 |(t,m)::lv,ls,h=>by
  simp only[pkT]at h;split at h
  next x l k j=>
   split at h
   next a=>
    cases h;let⟨xs,h1,f,g,i⟩:=s6 c j;let⟨d,e⟩:=c.at k d_;refine⟨x::xs,by simp[cT,h1],by simp[cJ,a,f],w9.2 ⟨e,g⟩,λp hp=>?_⟩;simp only[qdg,Fy]at hp;rcases hp with rfl|hp
    .exact d
    .exact i p hp
   .cases h
  .cases h
def R'{b:Env}{g9:St}(d:Rp b g9):∀ {lv:List (Nat×List LK)} {ls:TG},pkR b.lc lv=O ls->
  ∃a:List (List SL),(a.map (·.map SL.lf)).flatten=ls/\a.length=W lv/\(∀(i:Nat) p cs,lv[i]?=O p->a[i]?=O cs->bf cs p.2=J/\(∀c∈cs,c.g_)/\g9.loc[p.1]?=O (O (cs.map SL.val)))
 | [],ls,h=>by cases h;simp_all
 |(s,ks)::lv,ls,h=>by
  simp only[pkR]at h;split at h
  next cs l k g=>
   split at h
   next f=>
    cases h;let⟨a,h1,e,q⟩:=R' d g;have j:vu b s=O cs:=by unfold vu;rw[k]
    let⟨n,o,_⟩:=mI d j;refine⟨cs::a,by simp[h1],by simp[e],λi p m t r=>?_⟩
    grind
   .cases h
  .cases h
def Yr:∀ {lv:List (Nat×List LK)} {a b:List (List SL)} {r:TG},W a=W lv->W b=W lv->
  (∀(i:Nat) p c,lv[i]?=O p->a[i]?=O c->bf c p.2=J)->(∀(i:Nat) p c,lv[i]?=O p->b[i]?=O c->bf c p.2=J)->
  (a.map (·.map SL.lf)).flatten=(b.map (·.map SL.lf)).flatten++r->r=[]/\∀(i:Nat) x y,a[i]?=O x->b[i]?=O y->x.map SL.lf=y.map SL.lf
 | [],a,b,r,la,lb,_,_,h=>by simp_all
 |p::lv,a,b,r,la,lb,f,g,h=>by
  cases a with
  |nil=>simp at la
  |cons x a=>cases b with
   |nil=>simp at lb
   |cons y b=>
    simp only[Fx,qce,Gu]at h;have k:=bU (f 0 p x rfl rfl);have l:=bU (g 0 p y rfl rfl);let⟨m,j⟩:=qdD h (by simp[k,l]);let⟨n,o⟩:=Yr (lv:=lv) (by simpa using la) (by simpa using lb) (λi q c e d=>f (i+1) q c (by simpa using e) (by simpa using d))
     (λi q c e d=>g (i+1) q c (by simpa using e) (by simpa using d)) j
    grind
def CV{j7 b:Type}{l:List j7}{m:List b}{p:j7×b}(h:p∈l.zip m):∃i:Nat,l[i]?=O p.1/\m[i]?=O p.2:=by let⟨i,a⟩:=E4 h;rw[qbB]at a;exact⟨i,a⟩
def sN:∀ {a b:List S0} {sks:TP},cJ a sks=J->cJ b sks=J->W (cT a)=W (cT b)
 | [],[],[],_,_=>rfl
 |x::a,y::b,k::sks,c,d=>by simp only[cJ,y_]at c d;let⟨n,e,f⟩:=S0.Zi c.1;simp only[cT,IL,IR,e,f y d.1,sN c.2 d.2]
 | [],_::_,[],_,d=>by cases d
 | [],_,_::_,c,_=>by cases c
 |_::_,_,[],c,_=>by cases c
 |_::_,[],_::_,_,d=>by cases d
structure Like(ks:TC)(nw:LR)(j6 j8:St):Prop where
 Mi:j8.tmps.length=j6.tmps.length
 Gk:j8.loc.length=j6.loc.length
 tm:∀(i:Nat) v,j6.tmps[i]?=some v->q8 v=true->j8.tmps[i]?=some v
 tp:∀(i s off:Nat),j6.tmps[i]?=some (.pointer (some ⟨s,off,some 0⟩))->s∉ks->j8.tmps[i]?=some (.pointer (some ⟨s,off,some 0⟩))
 row:∀(s:Nat) x,j6.loc[s]?=some x->s∉ks->j8.loc[s]?=some x
 new:∀s,s∈ks->s<j8.loc.length->nw.ok j8.loc s
theorem Like.refl(ks:TC)(g9:St):Like ks .Mm g9 g9:=⟨rfl,rfl,λ_ _ h _=>h,λ_ _ _ h _=>h,λ_ _ h _=>h,λ_ _ _=>trivial⟩
def FF{C:p_}{T:Tv}(hA:te A C Sg T holds abs){b_:TC}{c:Code}{nw:LR}{lv:Live}{N P:Env}{g9 j6 j8:St}{ls:TG}{K:Env->R}
  (H:Rp N g9) (V:Rp P j6) (z:Fr (Lm c) (aS b_ c) (HS b_ c) g9 j6) (hp:pk P lv=O ls) (o:Like (aS b_ c) nw j6 j8)
  (h:j8=j6∨∀p∈lv.rows,p.1∉aS b_ c) (hk:holds (reE A b_ c nw lv N ls K)):∃S,Rp S j8/\holds (K S):=by
 unfold reE at hk;let⟨a6,h1,h2,h3⟩:=Pa (Lm c) (aS b_ c) N.tm 0 λtm=>Yh (HS b_ c) (aS b_ c) nw N.lc 0 λF=>
  Ml A (lv.tm.map (·.2)) ls λL r=>upT A lv.tm L tm λtm=>upR A lv.rows r F λF r=>A.C3 r (K ⟨tm,F⟩)
 rw[h1]at hk;let⟨bb,g1,g2,g3⟩:=N' (HS b_ c) (aS b_ c) nw N.lc 0 λF=>
  Ml A (lv.tm.map (·.2)) ls λL r=>upT A lv.tm L a6 λtm=>upR A lv.rows r F λF r=>A.C3 r (K ⟨tm,F⟩)
 rw[g1]at hk;let⟨L,r,e1,e2,an⟩:=rI hA hk;let⟨ag,ap,u1,u2⟩:=kT hA _ _ _ _ an e2;let⟨ad,r2,a8,av,v1,v2,v3,v4,v5⟩:=zl hA _ _ _ _ ap;let⟨a4,ax⟩:=hA.C3 _ _ av;subst a4;rw[Kv]at v1;unfold pk at hp;split at hp
 next la lb aE a0=>
  cases hp;let⟨ys,y1,y2,y3,y4⟩:=s6 V aE;let⟨al,d1,d2,d3⟩:=R' V a0;rw[←y1,←d1]at e1;let⟨s1,s2⟩:=qdD e1 (sN y2 e2);let⟨w1,w2⟩:=db y2 e2 s1;have B:=w2 y3;let⟨_,z2⟩:=Yr (r:=[]) d2 v2 (λi p G a b=>(d3 i p G a b).1) v3 k_;refine⟨⟨ag,ad⟩,⟨?_,λi s hs=>?_,?_,λi s hs=>?_⟩,ax⟩
  .show (W ag)=_;rw[u1,h2,H.len,o.Mi,z.Mi]
  .rcases u2 i s hs with D|⟨sk,x,a1,rfl,a3⟩
   .rcases h3 i s D with rfl|⟨m,q,u⟩
    .trivial
    .have e:=H.val i s m;rw[Hd]at q;have q:i∉Lm c:=by simpa using q
     have d:∀v,g9.tmps[i]?=O v->q8 v=J->j8.tmps[i]?=O v:=λv E Y=>o.tm i v (z.tm i v E q Y) Y;have l:∀s f,g9.tmps[i]?=O (EQ (O ⟨s,f,O 0⟩))->s∉aS b_ c->j8.tmps[i]?=O (EQ (O ⟨s,f,O 0⟩)):=λs f E Y=>
      o.tp i s f (z.tp i s f E q Y) Y
     cases s with
     |no=>trivial
     |st x=>exact⟨d _ e.1 (S0.q8 e.2),e.2⟩
     |NE L=>simp[SV.Ge]at u
     |un=>exact⟨d _ e.1 rfl,trivial⟩
     |My g f=>exact⟨d _ e.1 rfl,trivial⟩
     |Pz g M ix=>exact⟨d _ e.1 rfl,trivial⟩
     |Kb s f=>exact⟨l s f e.1 (by simpa[SV.Ge]using u),trivial⟩
     |Mz s M ix=>exact⟨l s _ e.1 (by simpa[SV.Ge]using u),trivial⟩
   .obtain⟨k,q1,q2⟩:=CV a3;simp only at q1 q2;have Z:(ao L)[k]?=O x.val:=by simp[ao,q2]
    rw[←w1]at Z;simp only[ao,GL,FD]at Z;let⟨y,a9,a5⟩:=Z;have hm:((i,sk),y)∈lv.tm.zip ys:=by
     apply A9 (i:=k)
     grind
    have E:=y4 _ hm;simp only at E;rw[a5]at E;have gx:=B x (A9 q2);exact⟨o.tm i _ E (S0.q8 gx),gx⟩
  .show (W ad)=_;rw[v4,g2,H.Gk,o.Gk,z.Gk]
  .rcases v5 i s hs with D|⟨k,ks,G,a1,a2,rfl⟩
   .rcases g3 i s D with⟨m,rfl⟩|⟨m,q,r0,u,b4⟩|⟨m,q,u⟩
    .rw[Hd]at m;apply o.new i (by simpa using m);rw[o.Gk,z.Gk,←H.Gk,←g2]
     grind
    .rw[Hd]at m;have t:i∉aS b_ c:=by simpa using m
     have w:=H.row i r0 u;rcases b4 with rfl|⟨n,rfl,b4⟩
     .trivial
     .have:∃I,g9.loc[i]?=O (O I)/\I.length=n:=by
       rcases b4 with rfl|⟨G,rfl,hl⟩
       .exact w
       .exact⟨_,w.1,by simpa using hl⟩
      let⟨I,c1,c2⟩:=this;let⟨a7,c3,c4⟩:=z.VT i I c1 t;exact⟨a7,o.row i _ c3 t,c4.trans c2⟩
    .rw[Hd]at m q;have t:i∉aS b_ c:=by simpa using m
     have ay:i∉HS b_ c:=by simpa using q
     have w:=H.row i s u;have j:∀x,g9.loc[i]?=O x->j8.loc[i]?=O x:=λx Z=>o.row i x (z.row i x Z ay) t;cases s with
     |Mm=>trivial
     |nil=>exact j _ w
     |any n=>let⟨I,c1,c2⟩:=w;exact⟨I,j _ c1,c2⟩
     |row G=>exact⟨j _ w.1,w.2⟩
   .have hd:∃ds,al[k]?=O ds:=by grind
    let⟨ds,hd⟩:=hd;let⟨f1,f2,f3⟩:=d3 k _ ds a1 hd;have f4:=v3 k _ G a1 a2;let⟨m1,m2⟩:=iT f1 f4 (z2 k ds G hd a2);simp only at f3;rw[m1]at f3;refine⟨?_,m2 f2⟩;rcases h with rfl|h
    .exact f3
    .exact o.row i _ f3 (h (i,ks) (A9 a1))
 .cases hp
end
end Sx
namespace Sx
section
variable [El] [E_] {R HT:Type} {A:Eh R HT} {X:Ex} {Sg:Td} {holds:R->Prop} {abs:HT->Tu}
def er(X:Ex)(c:AC):Code:=c.erase λa t=>gF (X.T a) t
def Out(X:Ex)(holds:R->Prop)(abs:HT->Tu)(c:Code)(g9:St)(d:KN R HT)(f:Exit->KN R HT):Prop:=
 ∃e b a h',Fo X.C X.b_ c g9 e b/\Rp a b/\abs h'=b.heap/\Fr (Lm c) (aS X.b_ c) (HS X.b_ c) g9 b/\((e = .normal/\holds (d a h'))∨(e≠.normal/\holds (f e a h')))
def uK(hA:te A X.C Sg X.T holds abs){c:Code}{j:Option Live}{l:Env}{g9:St}{d:KN R HT}{b:KN R HT->R}{s:Exit->KN R HT}{f:Code}
  (z:Lm f=Lm c) (w:aS X.b_ f=aS X.b_ c) (y:HS X.b_ f=HS X.b_ c)
  (v:Rp l g9) (q:∀d,holds (b d)->Out X holds abs f g9 d s) (k:holds (wS A X.b_ c j l d b)):Out X holds abs f g9 d s:=by
 unfold wS at k;cases j with
 |none=>exact q d k
 |some lv=>
  let⟨e,r,g,m,n,o,p,i,a⟩:=q _ (hA.join _ _ k);rcases a with⟨rfl,a⟩|a
  .simp only at a;split at a
   next B x=>rw[z,w,y]at i;let⟨h,t,u⟩:=FF hA v o i x (.refl _ _) (.inl rfl) a;exact⟨.normal,r,h,m,n,t,p,k_,.inl ⟨rfl,u⟩⟩
   .exact absurd a hA.fail
  .exact⟨e,r,g,m,n,o,p,i,.inr a⟩
def g8(b_:TC):∀c:Code,∀s∈aS b_ c,s∈HS b_ c:=by
 intro c
 induction c with
 |region id k i=>
  intro s d;simp only[aS,Np]at d;simp only[HS,Np];let⟨o,j,d⟩:=d;refine⟨o,j,?_⟩;unfold lj
  grind
 |seq a b g h=>intro s d;simp only[aS,HS,F_]at d ⊢;grind
 |cond c a b g h=>intro s d;simp only[aS,HS,F_]at d ⊢;grind
 |block id b e=>exact e
 |loop b e=>exact e
 |scope b e=>exact e
 |rangeFunc f l a b g h=>intro s d;simp only[aS,HS,F_]at d ⊢;grind
 |_=>intro s d;cases d
def wg{b:TC}{v:TV}(h:q8 v=J):kz b v=v:=by
 unfold kz;split
 next a=>
  split
  next c=>simp only[y_,Gp]at c;simp[q8,aW,bG,bu,c.1]at h
  .rfl
 .rw[rv h]
def we{a:TC}{s off:Nat}(h:s∉a):kz a (EQ (O ⟨s,off,O 0⟩))=EQ (O ⟨s,off,O 0⟩):=by unfold kz;simp[h]
def jJ{g9:St}{a:TC}{i:Nat}{v:TV}(c:g9.tmps[i]?=O v)(b:kz a v=v):(g9.clear a).tmps[i]?=O v:=by
 unfold St.clear
 grind
def qn{g9:St}{a:TC}{s:Nat}{x:Option (Tn)}(b:g9.loc[s]?=O x)(c:s∉a):(g9.clear a).loc[s]?=O x:=by
 unfold St.clear;split
 .exact b
 .simp only;rw[fP,Hd,ts (by simpa using c)];exact b
def S6{g9:St}{a:TC}{s:Nat}(c:s∈a)(b:s<W g9.loc):(g9.clear a).loc[s]?=O Q:=by
 unfold St.clear;split
 .simp_all
 .simp only;rw[fP,Hd,rv (by simpa using c)];simp[b]
def sn{g9:St}{a:TC}:W (g9.clear a).tmps=W g9.tmps:=by unfold St.clear;split<;>simp
def ky(a:TC):∀(l:List (Option (Tn))) (i:Nat),W (jb a l i)=W l
 | [],_=>rfl
 |_::l,i=>by simp[jb,ky a l]
def mW{g9:St}{a:TC}:W (g9.clear a).loc=W g9.loc:=by unfold St.clear;split<;>simp[ky]
def Cx{g9:St}{a:TC}:(g9.clear a).heap=g9.heap:=by unfold St.clear;split<;>rfl
def Cy(g9:St)(a:TC):Like a .nil g9 (g9.clear a):=
 ⟨sn,mW,λ_ _ h b=>jJ h (wg b),λ_ _ _ h b=>jJ h (we b),λ_ _ h b=>qn h b,λ_ h c=>S6 h (by rw[mW]at c;exact c)⟩
def Yf{g9:St}{g a d:TC}(c:∀s∈a,s∈d):Fr g a d g9 (g9.clear a):=
 ⟨sn,mW,λ_ _ h _ b=>jJ h (wg b),λ_ _ _ h _ b=>jJ h (we b),λs _ h b=>qn h λe=>b (c s e),
  λs f h b=>⟨f,qn h b,rfl⟩⟩
def si{d:Env}{g9:St}(e:Rp d g9):∀ {caps:List (Nat×SK)} {vs:Tn},qj d.tm caps=O vs->∀(b:Nat) (tm:Tn),
  (∀(i:Nat) x,tm[i]?=O x->x=A_∨(g9.tmps[i]?=O x/\q8 x=J))->∀(i:Nat) x,(rQ b caps vs tm)[i]?=O x->x=A_∨(g9.tmps[i]?=O x/\q8 x=J)
 | [],vs,h,b,tm,c=>by cases h;exact c
 |(t,n)::caps,vs,h,b,tm,c=>by
  simp only[qj]at h;split at h
  next x m l k=>
   split at h
   .cases h;let⟨f,g⟩:=e.at l d_;refine si e k b _ λi y a=>?_;simp only[Kk]at a;split at a
    next j=>
     subst j;split at a
     .cases a;exact .inr ⟨f,S0.q8 g⟩
     .cases a
    .exact c i y a
   .cases h
  .cases h
def ot:∀(nt:Nat) (caps:List (Nat×SK)) (vs tm:Tn),W (rQ nt caps vs tm)=W tm
 |_,[],_,_=>rfl
 |_,_::_,[],_=>rfl
 |nt,(t,_)::caps,v::vs,tm=>by simp[rQ,ot nt caps vs]
def Rm(hA:te A X.C Sg X.T holds abs){ops:To}:∀(l:TA) (i:Nat) (g:List (TP)) (c:Env) (h:HT) (g9:St) (K:Env->HT->List HT->R),l <+: ops.toList.drop i->Rp c g9->abs h=g9.heap->holds (opsM A X Sg ops l g c h K)->
  ∃e a h' b,HM X.C (uB X.C) X.b_ ops (List.range' i (W l)) g9 (b.map abs) e/\Rp a e/\abs h'=e.heap/\Fr (ql l) (Zp X.b_ l) (nH X.b_ l) g9 e/\holds (K a h' b)
 | [],i,g,c,h,g9,K,_,j,k,m=>⟨g9,c,h,[],⟨rfl,rfl⟩,j,k,.refl _ _ _ _,m⟩
 |o::l,i,g,c,h,g9,K,b,j,k,m=>by
  have v:ops[i]?=O o:=by
   let⟨t,b⟩:=b;have:(ops.toList.drop i)[0]?=O o:=by rw[←b];rfl
   simpa using this
  let⟨p,H,s,D,E,r,F,G⟩:=Bp (K:=λc h=>opsM A X Sg ops l g.tail c h λa h' b=>K a h' (h::b)) hA j k v m;have n:l <+: ops.toList.drop (i+1):=by let⟨t,b⟩:=b;exact⟨t,by rw[←qco,←b];rfl⟩
  let⟨e,a,h',q,w,x,y,z,B⟩:=Rm hA l (i+1) g.tail H s p _ n E r G;refine⟨e,a,h',s::q,⟨p,q.map abs,D,by rw[Fx,r],w⟩,x,y,?_,B⟩;have u:Fr (ql (o::l)) (Zp X.b_ (o::l)) (nH X.b_ (o::l)) g9 p:=F.mono (bE d_) (bE d_) (bE d_);have d:∀(f:FQ->Ts) (i:Nat),i∈l.filterMap f->i∈(o::l).filterMap f:=by simp_all
  exact u.trans (z.mono (d _) (d _) (d _))
def vb(h0:HT)(a:List HT)(p:Nat×Nat):abs (atM h0 a p)=atM (abs h0) (a.map abs) p:=by
 unfold atM
 grind
def kH(hA:te A X.C Sg X.T holds abs){ops:To}{g:List (TP)}{a:Env}{h0:HT}{c:List HT}{K:R}{g9 i:St}(f:Rp a i)(b:abs h0=g9.heap):∀ {l:List (Nat×Nat)},holds (reM A X Sg ops g a h0 c K l)->
  He X.C (uB X.C) X.b_ ops g9 (c.map abs) i l/\holds K
 | [],h=>⟨λp hp=>(by cases hp),h⟩
 |q::l,h=>by
  have h:holds (match ops[q.1]? with
   |some o=>match o.dst with
    |some d=>opG A X Sg ops o (g.getD q.1 []) a (atM h0 c q) λe _=>samS A (a.tm.getD d .no) (e.tm.getD d .no) (reM A X Sg ops g a h0 c K l)
    |none=>A.fail
   |none=>A.fail):=h
  split at h
  next o j=>
   split at h
   next d k=>
    let⟨y,B,z,m,n,D,_,r⟩:=Bp (g9:={ i with heap:=atM g9.heap (c.map abs) q }) hA (f.heap _) (by rw[vb (abs:=abs),b]) j h;let⟨⟨x,u,v⟩,w⟩:=samS_ok hA f n r;let⟨s,t⟩:=kH hA f b w;refine⟨λp hp=>?_,t⟩;rcases Fy.1 hp with rfl|hp
    .exact⟨y,m,o,d,x,j,k,u,v⟩
    .exact s p hp
   .exact absurd h hA.fail
  .exact absurd h hA.fail
def yB(hA:te A X.C Sg X.T holds abs){dr:Dr}
  (ap:Xq X.C dr) :
  ∀(c:AC) (k:Env) (h:HT) (g9:St) (z:KN R HT) (F:Exit->KN R HT),Rp k g9->abs h=g9.heap->holds (exec A X Sg dr c k h z F)->Out X holds abs (er X c) g9 z F:=by
 intro c
 induction c with
 |skip=>intro k h g9 z F D I w;exact⟨.normal,g9,k,h,.skip,D,I,.refl _ _ _ _,.inl ⟨rfl,w⟩⟩
 |ret=>intro k h g9 z F D I w;exact⟨.ret,g9,k,h,.ret,D,I,.refl _ _ _ _,.inr ⟨d_,w⟩⟩
 |exit id=>intro k h g9 z F D I w;exact⟨.exit id,g9,k,h,.exit,D,I,.refl _ _ _ _,.inr ⟨d_,w⟩⟩
 |label l=>intro k h g9 z F D I w;exact⟨.normal,g9,k,h,.label,D,I,.refl _ _ _ _,.inl ⟨rfl,w⟩⟩
 |seq a b a2 a3=>
  intro k h g9 z F D I w;let⟨e,S,Y,V,q1,q2,q3,q4,E⟩:=a2 k h g9 _ _ D I w;have m1:Fr (Lm (er X (.seq a b))) (aS X.b_ (er X (.seq a b))) (HS X.b_ (er X (.seq a b))) g9 S:=
   q4.mono (λi B=>Nn _ B) (λi B=>Nn _ B) (λi B=>Nn _ B)
  rcases E with⟨rfl,E⟩|⟨E,q6⟩
  .obtain⟨e',P,G,Z,M,K,p3,p4,N⟩:=a3 Y V S z F q2 q3 E;exact⟨e',P,G,Z,.seq q1 M,K,p3,m1.trans (p4.mono (λi B=>t7 _ B) (λi B=>t7 _ B) (λi B=>t7 _ B)),N⟩
  .exact⟨e,S,Y,V,.seqX q1 E,q2,q3,m1,.inr ⟨E,q6⟩⟩
 |scope b ih=>intro k h g9 z F D I w;let⟨e,S,Y,V,q1,q⟩:=ih k h g9 z F D I w;exact⟨e,S,Y,V,.scope q1,q⟩
 |region id H L hs j=>
  intro k h g9 z F D I w;have s:holds (match drX dr L X.b_ H with
   |none=>A.fail
   |some ps=>wS A X.b_ (.region id H L) j k z λz=>regE A X Sg H hs ps k h z):=w
  split at s
  .exact absurd s hA.fail
  next ps hd=>
   refine uK hA (c:=.region id H L) rfl rfl rfl D (λz w=>?_) s;unfold regE at w;cases ad:HG ps with
   |some l=>
    rw[ad]at w;simp only at w;let⟨P,G,Z,hl,M,K,p3,p4,N⟩:=Rm hA H.toList 0 hs k h g9 _ k_ D I w;let⟨N,p6⟩:=kH (g9:=g9) hA K I N;have M:HM X.C (uB X.C) X.b_ H (EW H.size) g9 (hl.map abs) P:=by rw[qby];omega
    refine⟨.normal,P,G,Z,?_,K,p3,p4,.inl ⟨rfl,p6⟩⟩;cases L with
    |false=>cases hd;cases ad
    |true=>have hq:=ap _ _ _ hd;rw[ad]at hq;let⟨n,g1⟩:=L3 M;let⟨m,g2⟩:=again_at N;exact .drawA (hq (max n m) g9 P _ (g1 _ (qcf _ _)) (g2 _ (qcC _ _)))
   |none=>
    rw[ad]at w;simp only at w;cases al:IY ps with
    |none=>
     rw[al]at w;simp only at w;let⟨P,G,Z,M,K,p3,p4,N⟩:=l5 hA H.toList 0 hs k h g9 rfl D I w;let⟨N,p6⟩:=sepK_ok hA K N;have M:bw X.C (uB X.C) X.b_ H (EW H.size) g9 P:=by rw[qby];omega
     refine⟨.normal,P,G,Z,?_,K,p3,p4,.inl ⟨rfl,p6⟩⟩;cases L with
     |false=>exact .region M
     |true=>have hq:=ap _ _ _ hd;rw[ad]at hq;simp only at hq;rw[al]at hq;exact .draw (λn hn=>hq n _ _ hn N) M
    |some q=>
     rw[al]at w;simp only at w;let⟨S,Y,V,M,K,p3,p4,N⟩:=pS hA (H.toList.take (q.2+1)) 0 hs k h g9 jw D I w;unfold reK at N;split at N
     next o ho=>
      split at N
      next d bd=>
       let⟨s8,Dz,B6,q1,q2,q3,_,E⟩:=Bp hA K p3 ho N;simp only at E;split at E
       next x y hx hy=>
        let⟨u,e1,e2⟩:=hA.km _ _ E;have e1:=Pe e1;subst e1;have sm:KD H q.1 S s8:=⟨o,d,x,ho,bd,Pb K hx,Pb q2 hy⟩;let⟨P,G,Z,r1,r2,r3,r4,r5⟩:=pS hA (H.toList.drop (q.2+1)) (q.2+1) _ Y V S (List.prefix_refl _) K p3 e2;refine⟨.normal,P,G,Z,?_,r2,r3,?_,.inl ⟨rfl,r5⟩⟩
        .cases L with
         |false=>cases hd;cases al
         |true=>have hq:=ap _ _ _ hd;rw[ad]at hq;simp only at hq;rw[al]at hq;exact .drawS (λn h1 h2 h3=>hq n _ _ _ _ h1 h2 sm h3) M q1 r1
        .refine(p4.mono (λi B=>?_) (λi B=>?_) (λi B=>?_)).trans (r4.mono (λi B=>?_) (λi B=>?_) (λi B=>?_))
         all_goals
          replace B:=Np.1 B
          let⟨o,ho,e⟩:=B;exact Np.2 ⟨o,jw,e⟩
       .exact absurd E hA.fail
      .exact absurd N hA.fail
     .exact absurd N hA.fail
 |cond c a b j a2 a3=>
  intro k h g9 z F D I w;have s:holds (match n_ k c with
   | .st (.leaf (.l J))=>exec A X Sg dr a k h z F
   | .st (.leaf (.l U))=>exec A X Sg dr b k h z F
   | .st (.leaf (.b t))=>wS A X.b_ (er X (.cond c a b j)) j k z λz=>A.cond t (exec A X Sg dr a k h z F) (exec A X Sg dr b k h z F)
   |_=>A.fail):=w
  have ga:∀ {z},ka g9.tmps c = .bool J->holds (exec A X Sg dr a k h z F)->Out X holds abs (er X (.cond c a b j)) g9 z F:=by intro z hc w;let⟨e,S,Y,V,q1,q2,q3,q4,E⟩:=a2 k h g9 z F D I w;exact⟨e,S,Y,V,.cond hc q1,q2,q3,q4.mono (λi B=>Nn _ B) (λi B=>Nn _ B) (λi B=>Nn _ B),E⟩
  have gb:∀ {z},ka g9.tmps c = .bool U->holds (exec A X Sg dr b k h z F)->Out X holds abs (er X (.cond c a b j)) g9 z F:=by intro z hc w;let⟨e,S,Y,V,q1,q2,q3,q4,E⟩:=a3 k h g9 z F D I w;exact⟨e,S,Y,V,.cond hc (show Fo X.C X.b_ (if U=J then er X a else er X b) g9 e S by simp_all),q2,q3,q4.mono (λi B=>t7 _ B) (λi B=>t7 _ B) (λi B=>t7 _ B),E⟩
  split at s
  next e=>exact ga (D.n_ e d_).1 s
  next e=>exact gb (D.n_ e d_).1 s
  next t e=>
   have h1:=(D.n_ e d_).1;refine uK hA (c:=er X (.cond c a b j)) rfl rfl rfl D (λz w=>?_) s;rcases hA.cond _ _ _ w with⟨ht,ax⟩|⟨ht,ax⟩
   .exact ga (by rw[h1,ht];rfl) ax
   .exact gb (by rw[h1,ht];rfl) ax
  .exact absurd s hA.fail
 |block id b j ih=>
  intro k h g9 z F D I w;refine uK hA (c:=er X b) rfl rfl rfl D (λz w=>?_) (show holds (wS A X.b_ (er X b) j k z λz=>exec A X Sg dr b k h z λe=>match wu e id with
   |true=>z
   |false=>F e)from w)
  let⟨e,S,Y,V,q1,q2,q3,q4,E⟩:=ih k h g9 _ _ D I w;refine⟨kU id e,S,Y,V,.block q1,q2,q3,q4,?_⟩;rcases E with⟨rfl,E⟩|⟨E,q6⟩
  .exact .inl ⟨rfl,E⟩
  .cases e with
   |normal=>exact absurd rfl E
   |exit i=>
    by_cases B:i=id
    .subst B;left;simp only[kU,if_true,true_and];simpa[wu]using q6
    .right;simp only[kU,ts B];refine⟨d_,?_⟩;have:Nat.beq i id=U:=by rw[←Ii];simp_all
     simpa[wu,this]using q6
   |_=>exact .inr ⟨by simp[kU],by simpa[wu,kU]using q6⟩
 |loop b lv ih=>
  intro k h g9 z F D I w;have s:holds (match pk k lv with
   |none=>A.fail
   |some ls=>match lv.rows.all λp=>!(aS X.b_ (er X b)).contains p.1 with
    |false=>A.fail
    |true=>A.loop (λa7 ls h=>reE A X.b_ (er X b) .nil lv k ls λk=>exec A X Sg dr b k h (λk h=>match pk k lv with
     |some ls=>a7 ls h
     |none=>A.fail) F) ls h):=w
  split at s
  .exact absurd s hA.fail
  next bm be=>
   split at s
   .exact absurd s hA.fail
   next bt=>
    have ay:∀p∈lv.rows,p.1∉aS X.b_ (er X b):=by grind
    let⟨it,i0,i1,n,hn⟩:=hA.loop _ _ _ s;have a6:∀(n:Nat) (ls:TG) (h:HT) (j8:St) (B8:Env),Rp B8 j8->Fr (Lm (er X b)) (aS X.b_ (er X b)) (HS X.b_ (er X b)) g9 j8->pk B8 lv=O ls->abs h=j8.heap->holds (it n ls h)->
      ∃e P G Z,Fo X.C X.b_ (.loop (er X b)) j8 e P/\e≠.normal/\Rp G P/\abs Z=P.heap/\Fr (Lm (er X b)) (aS X.b_ (er X b)) (HS X.b_ (er X b)) g9 P/\holds (F e G Z):=by
     intro n
     induction n with
     |zero=>simp_all
     |succ n bl=>
      intro ls h j8 B8 DH hF hp DI hh;rw[i1]at hh;let⟨a8,g1,g2⟩:=FF hA D DH hF hp (Cy j8 _) (.inr ay) hh;let⟨e,S,Y,V,q1,q2,q3,q4,E⟩:=ih a8 h (j8.clear (aS X.b_ (er X b))) _ _ g1 (by rw[Cx];exact DI) g2;have a4:Fr (Lm (er X b)) (aS X.b_ (er X b)) (HS X.b_ (er X b)) g9 S:=(hF.trans (Yf (g8 _ _))).trans q4;rcases E with⟨rfl,E⟩|⟨E,q6⟩
      .simp only at E;split at E
       next bn bk=>let⟨e',P,G,Z,M,K,p3,p4,N,p6⟩:=bl bn V S Y q2 a4 bk q3 E;exact⟨e',P,G,Z,.loop q1 M,K,p3,p4,N,p6⟩
       .exact absurd E hA.fail
      .exact⟨e,S,Y,V,.loopX q1 E,E,q2,q3,a4,q6⟩
    let⟨e',P,G,Z,M,K,p3,p4,N,p6⟩:=a6 n bm h g9 k D (.refl _ _ _ _) be I hn;exact⟨e',P,G,Z,M,p3,p4,N,.inr ⟨K,p6⟩⟩
 |rangeFunc f m8 a5=>
  intro k h g9 z F D I w;have s:holds (match (generalizing:=false) f,n_ k f,X.b_ with
   | .tmp _,.st (.leaf (.v v)),_::_=>match Nat.beq (W k.tm) (X.T m8).nt,qj k.tm (X.T m8).caps with
    |true,O vs=>A.Gr m8 v vs h λpd h=>A.F4 pd (z k h) (F .ret k h) (a5.map λid=>(id,F (.exit id) k h))
    |_,_=>A.fail
   |_,_,_=>A.fail):=w
  clear w;cases f with
  |tmp t=>
   cases ag:X.b_ with
   |nil=>rw[ag]at s;split at s<;>first|exact absurd s hA.fail|(rename_i e;cases e)
   |cons p0 pr=>
    rw[ag]at s;split at s
    next t2 v hd tl e0 e e1=>
     split at s
     next vs aE a9=>
      have aE:=Fs aE;let⟨h1,g1⟩:=D.n_ e d_;have gv:aH v=J:=g1 (.v v) (by simp[S0.cells]);let⟨g,first,bs,r,H1,lp,h2,r1,r2,r3,r4,r5,r6⟩:=hA.Gr _ _ _ _ _ s;subst r1;rw[I]at r2 r3 r5;have a1:Af g9.tmps (GD (X.T m8) m8 vs).tmps:=by
       refine⟨by simp only[GD,ot,qcU];rw[←aE,D.len],si D a9 _ _ λi x hx=>?_⟩
       grind
      have a0:=hA.F4 _ _ _ _ r6;have av:∀ {e:Exit},Ay lp.pending=O e->Fo X.C X.b_ (er X (.rangeFunc (.tmp t) m8 a5)) g9 e { g9 with heap:=H1.set (W g9.heap) (.loop { lp with state:=.exhausted }) }:=by
       intro e he;have bb:X.b_≠[]:=by rw[ag];simp
       refine Fo.rangeFunc (r:=r) (A8:=m8) (tm:=(GD (X.T m8) m8 vs).tmps) bb a1 h1 (fc.1 gv).1 ?_ r3 r4 he;simpa[GD]using r2
      have an:Rp k { g9 with heap:=H1.set (W g9.heap) (.loop { lp with state:=.exhausted }) }:=D.heap _;rcases a0 with⟨M,K⟩|⟨M,K⟩|⟨id,x,M,K,p3⟩
      .exact⟨.normal,_,k,h2,av (by rw[M];rfl),an,r5,(Fr.refl _ _ _ _).heap _,.inl ⟨rfl,K⟩⟩
      .exact⟨.ret,_,k,h2,av (by rw[M];rfl),an,r5,(Fr.refl _ _ _ _).heap _,.inr ⟨d_,K⟩⟩
      .obtain⟨bx,j_,he⟩:=Ed.1 K;cases he;exact⟨.exit id,_,k,h2,av (by rw[M];rfl),an,r5,(Fr.refl _ _ _ _).heap _,.inr ⟨d_,p3⟩⟩
     .exact absurd s hA.fail
    .exact absurd s hA.fail
  |_=>exact absurd s hA.fail
end
end Sx
namespace Sx
section
variable [El] [E_] {R HT:Type} {A:Eh R HT} {X:Ex} {Sg:Td} {holds:R->Prop} {abs:HT->Tu}
def en(ls:TG):Prop:=∀l∈ls,match l with
 | .v x=>aH x=J
 |_=>True
def CJ{xs:List S0}(h:en (cT xs)):∀x∈xs,x.g_:=by
 intro x a l b;have c:l.lf∈cT xs:=by
  induction xs with
  |nil=>cases a
  |cons y e d=>
   simp only[cT,F_,Ed];rcases Fy.1 a with rfl|a
   .grind
   .exact .inr (d (λl b=>h l (by simp only[cT,F_];exact .inr b)) a)
 have:=h _ c;cases l<;>first|trivial|exact this
def sQ:∀ {xs:List S0},(∀x∈xs,x.g_)->en (cT xs)
 | [],_,l,a=>by cases a
 |x::xs,h,l,a=>by
  simp only[cT,F_,Ed]at a;rcases a with⟨c,b,rfl⟩|a
  .have:=h x d_ c b;cases c<;>first|trivial|exact this
  .exact sQ (λy d=>h y (by simp[d])) l a
def ja{C:p_}{T:Tv}(hA:te A C Sg T holds abs):∀ {cs:List SL} {K:R},holds (MN A cs K)->(∀c∈cs,bG c.val=J)/\holds K
 | [],K,h=>⟨d_,h⟩
 |c::cs,K,h=>by
  cases c with
  |v x=>
   have h':holds (A.km (H0 x) λ_=>MN A cs K):=h;let⟨u,e,f⟩:=hA.km _ _ h';let⟨a,d⟩:=ja hA f;refine⟨w9.2 ⟨?_,a⟩,d⟩;unfold H0 at e;split at e
   .assumption
   .cases e
  |i k n=>let⟨a,d⟩:=ja (cs:=cs) (K:=K) hA h;exact⟨w9.2 ⟨rfl,a⟩,d⟩
  |b t=>let⟨a,d⟩:=ja (cs:=cs) (K:=K) hA h;exact⟨w9.2 ⟨rfl,a⟩,d⟩
  |l t=>let⟨a,d⟩:=ja (cs:=cs) (K:=K) hA h;exact⟨w9.2 ⟨rfl,a⟩,d⟩
def SY{C:p_}{T:Tv}(hA:te A C Sg T holds abs){a:Bool}{x:S0}{K:R}(e:x.g_)(h:holds (iL A a x K)):(a=J->aW x.val=J)/\holds K:=by
 unfold iL at h;split at h
 next b=>
  let⟨f,c⟩:=ja hA h;refine⟨λ_=>?_,c⟩;simp only[S0.val,aW,D7,Ed]
  simp_all
 next d=>
  refine⟨λg=>?_,h⟩;cases x with
  |agg b=>simp_all
  |leaf l=>exact(fc.1 (SL.F6 (e l (by simp[S0.cells])))).2.1
def RP(hA:te A X.C Sg X.T holds abs){i:Env}{g9:St}{h:HT}(F:Rp i g9)(ha:abs h=g9.heap){b:Bool}:∀(d:List ResultVar) (sks:TP) (e:TG) (K:TG->HT->R),holds (Kl A X b i h d sks e K)->
  ∃ys,cJ ys sks=J/\(∀y∈ys,y.g_)/\(b=J->∀y∈ys,aW y.val=J)/\ys.length=W d/\dq X.C g9 d=O (ao ys)/\holds (K (e++cT ys) h)
 | [],sks,e,K,j=>by
  cases sks with
  |nil=>have c:holds (K e h):=j;exact⟨[],rfl,d_,d_,rfl,rfl,by rw[cT,Kv];exact c⟩
  |cons _ _=>exact absurd j hA.fail
 |M::d,sks,e,K,j=>by
  cases sks with
  |nil=>exact absurd j hA.fail
  |cons k sks=>
   have q:∀x:S0,x.is k=J->x.g_->gh X.C g9 M=O x.val->holds (iL A b x (Kl A X b i h d sks (e++x.cells.map SL.lf) K))->
     ∃ys,cJ ys (k::sks)=J/\(∀y∈ys,y.g_)/\(b=J->∀y∈ys,aW y.val=J)/\ys.length=W (M::d)/\dq X.C g9 (M::d)=O (ao ys)/\holds (K (e++cT ys) h):=by
    intro x o hg H j;let⟨h1,E⟩:=SY hA hg j;let⟨ys,z,I,a3,a4,a5,a6⟩:=RP hA F ha d sks _ K E;refine⟨x::ys,by simp[cJ,o,z],w9.2 ⟨hg,I⟩,λhm=>w9.2 ⟨h1 hm,a3 hm⟩,by simp[a4],?_,by simpa[cT]using a6⟩;simp only[dq,H,a5];rfl
   cases M with
   |tmp t=>
    have c:holds (match i.tm.getD t .no with
     | .st x=>match x.is k with
      |true=>iL A b x (Kl A X b i h d sks (e++x.cells.map SL.lf) K)
      |false=>A.fail
     |_=>A.fail):=j
    split at c
    next x o=>
     let⟨D,g2⟩:=F.at o d_;split at c
     next u=>exact q x u g2 (by simp[gh,List.getD_eq_getElem?_getD,D];rfl) c
     .exact absurd c hA.fail
    .exact absurd c hA.fail
   |cell a t=>
    have c:holds (match (generalizing:=false) DV X.C.P t with
     |some g=>
      let n:=if g then X.C.P.cellsOf t else 1
      match (generalizing:=false) i.tm.getD a .no with
      | .Kb s w=>match (vu i s).bind (λm=>(F0 m w n).bind (Kd g))with
       |some x=>match x.is k with
        |true=>iL A b x (Kl A X b i h d sks (e++x.cells.map SL.lf) K)
        |false=>A.fail
       |none=>A.fail
      | .st (.leaf (.v p))=>match (generalizing:=false) g,k with
       |true,.agg _=>A.oo (.ld n p) h λm=>NH A k m λx r=>A.wb r (iL A b x (Kl A X b i h d sks (e++x.cells.map SL.lf) K))
       |false,.leaf _=>A.oo (.ld n p) h λm=>NH A k m λx r=>A.wb r (iL A b x (Kl A X b i h d sks (e++x.cells.map SL.lf) K))
       |_,_=>A.fail
      |_=>A.fail
     |none=>A.fail):=j
    clear j;split at c
    next g G=>
     simp only at c;split at c
     next s w L=>
      let⟨D,_⟩:=F.at L d_;split at c
      next x o=>
       let⟨m,Z,o⟩:=GY.1 o;let⟨ds,hd,o⟩:=GY.1 o;let⟨r1,r2,_⟩:=mI F Z;let⟨c1,c2⟩:=qt hd;let⟨v,v1,v2⟩:=dp G c1;let⟨m1,m2⟩:=qX o;split at c
       next u=>
        have hv:x.val=v:=by
         rcases m2 with⟨z,I⟩|⟨z,I⟩<;>rcases v2 with⟨B,b2⟩|⟨B,b2⟩
         .rw[I,b2]
         .rw[z]at B;cases B
         .rw[z]at B;cases B
         simp_all
        refine q x u (λl L=>?_) ?_ c
        .simp_all
        .simp only[gh,List.getD_eq_getElem?_getD,D,jn,SV.val,r1,v1,hv]
       .exact absurd c hA.fail
      .exact absurd c hA.fail
     next p L=>
      let⟨D,_⟩:=F.at L d_;have f:g=lz k->holds (A.oo (.ld (if g then X.C.P.cellsOf t else 1) p) h λm=>NH A k m λx r=>A.wb r (iL A b x (Kl A X b i h d sks (e++x.cells.map SL.lf) K)))->
        ∃ys,cJ ys (k::sks)=J/\(∀y∈ys,y.g_)/\(b=J->∀y∈ys,aW y.val=J)/\ys.length=W (ResultVar.cell a t::d)/\dq X.C g9 (.cell a t::d)=O (ao ys)/\holds (K (e++cT ys) h):=by
       intro ad j;let⟨m,E,S⟩:=hA.oo _ _ _ j;simp only[Pk.run]at E;rw[ha]at E;obtain⟨id,w,vs,rfl,h3,h4⟩:=ldP_ok E;rw[vX]at h3;let⟨v,h5,N⟩:=dp G h4;rw[ad]at N;let⟨x,r,q1,q2,q3,V⟩:=tF hA S;let⟨Z,Y⟩:=hA.wb _ _ V;rw[Z,Kv]at q1;rw[q1]at N;refine q x q2 q3 ?_ Y;rw[sS q2 N];simp only[gh,List.getD_eq_getElem?_getD,D,jn,SV.val,S0.val,SL.val,h3,Fj,h5]
      split at c
      .exact f rfl c
      .exact f rfl c
      .exact absurd c hA.fail
     .exact absurd c hA.fail
    .exact absurd c hA.fail
structure I5(X:Ex)(Sg:Td)(f:TT)(fn:Fn1):Prop where
 is:∃g,X.C.P.funcs[f]?=some g/\g.body=some (er X fn.code)/\((g.name == "runtime.NumGoroutine")||X.C.opq f)=false/\g.ntmps=fn.nt/\g.results.toList=fn.rvs
 b_:X.b_=X.C.b_ f
 sg:Sg f=some fn.sg
def zm{ys:List S0}(c:∀y∈ys,y.g_)(d:1<W ys->∀y∈ys,aW y.val=J):q8 (gL (ao ys))=J:=by
 match ys with
 | []=>rfl
 | [y]=>exact S0.q8 (c y d_)
 |a::b::l=>
  have h:=d d_;have e:gL (ao (a::b::l)) = .tuple (ao (a::b::l)).toArray:=rfl;rw[e];simp only[Am.q8,D7];intro v f;simp only[ao,Ed]at f
  grind
def oh:∀ {a:List S0} {sks:TP},cJ a sks=J->W a=W sks
 | [],[],_=>rfl
 |x::a,k::sks,h=>by simp only[cJ,y_]at h;simp[oh h.2]
 | [],_::_,h=>by cases h
 |_::_,[],h=>by cases h
def nn{xs:List S0}(f:∀x∈xs,x.g_)(d:Nat)(H:Tu) :
  Rp ⟨xs.map .st++FJ (d-W xs) .no,FJ d .nil⟩ { tmps:=ao xs++FJ (d-W (ao xs)) undef,loc:=FJ d Q,heap:=H }:=by
 refine⟨by simp[ao],λi s a=>?_,d_,λi r c=>?_⟩
 .rw[qbX]at a;split at a
  next b=>simp only[IR]at b;simp only[GL,FD]at a;obtain⟨x,e,rfl⟩:=a;refine⟨?_,f x (A9 e)⟩;rw[Kh (by simpa[ao]using b)];simp[ao,e,SV.val]
  .rw[ay]at a;split at a
   .cases a;trivial
   .cases a
 .simp only[ay]at c;split at c
  .rename_i b;cases c
   simp[LR.ok,b]
  .cases c
def ui(hA:te A X.C Sg X.T holds abs){q:Dr}
  (i:Xq X.C q)
  {f:TT} {a:Fn1} (j:I5 X Sg f a) {ls:TG} {h:HT} {K:TG->HT->R} (n:en ls) (k:holds (au A X Sg q a ls h K)) :
  ∃b h',aD X.C Sg f ls (abs h) b (abs h')/\en b/\holds (K b h'):=by
 let⟨g,F,G,f3,f4,f5⟩:=j.is;let⟨x,r,s,E,l⟩:=rI hA k;let⟨L,m⟩:=hA.C3 _ _ l;rw[L,Kv]at s;subst s;have t:=CJ n;have H:=nn t a.nt (abs h);let⟨e,V,d,h',v,M,w,_,o⟩:=yB hA i a.code _ h _ _ _ H rfl m;have u:(e = .normal∨e = .ret)->holds (Kl A X (Nat.blt 1 (W a.rvs)) d h' a.rvs a.sg.rs [] K)->∃b h',aD X.C Sg f (cT x) (abs h) b (abs h')/\en b/\holds (K b h'):=by intro I k;let⟨y,z,c,B,P,D,p⟩:=RP hA M w a.rvs a.sg.rs [] K k;rw[E7]at p;refine⟨cT y,h',⟨a.sg,x,y,j.sg,⟨E,rfl,t⟩,⟨z,rfl,c⟩,?_⟩,sQ c,p⟩;rw[w];refine kw.intro F G f3 ?_ I (by rw[f5];exact D) (zm c λS=>B (by rw[IV];omega));rw[j.b_]at v;simpa[oA,f4]using v
 rcases o with⟨rfl,o⟩|⟨o,N⟩
 .simp_all
 .cases e with
  |ret=>simp_all
  |_=>exact absurd N hA.fail
def qi:∀(caps:List (Nat×SK)) (xs:List S0) (tm:List SV) (a:Tn),W tm=W a->(∀x∈xs,x.g_)->(∀(i:Nat) s,tm[i]?=O s->s.ok a i)->
  (W (gn 0 caps xs tm))=W tm/\∀(i:Nat) s,(gn 0 caps xs tm)[i]?=O s->s.ok (cW (caps.map (·.1)) (ao xs) a) i
 | [],xs,tm,a,_,_,h=>⟨by simp[gn],by simpa[gn,cW]using h⟩
 |(t,j)::caps,[],tm,a,_,_,h=>⟨by simp[gn],by simpa[gn,cW,ao]using h⟩
 |(t,j)::caps,x::xs,tm,a,e,d,h=>by
  have:=qi caps xs (tm.set t (.st x)) (a.set t x.val) (by simp[e]) (λy g=>d y (by simp[g])) (λi s b=>?_)
  .simpa[gn,cW,ao]using this
  .simp only[Kk]at b;split at b
   next c=>
    subst c;split at b
    next f=>cases b;exact⟨by rw[Kw a_];rfl,d x d_⟩
    .cases b
   next c=>have:=h i s b;cases s<;>first|trivial|exact⟨by rw[K7 c];exact this.1,this.2⟩
def iW(b a:Nat):∀(caps:List (Nat×SK)) (xs:List S0) (tm:List SV),gn b caps xs tm=gn a caps xs tm
 | [],_,_=>rfl
 |_::_,[],_=>rfl
 |(t,_)::caps,x::xs,tm=>iW b a caps xs _
def ou(a:Nat):∀(caps:List (Nat×SK)) (vs tm:Tn),rQ a caps vs tm=cW (caps.map (·.1)) vs tm
 | [],_,_=>by simp[rQ,cW]
 |_::_,[],_=>by simp[rQ,cW]
 |(t,_)::caps,v::vs,tm=>by simp only[rQ,Fx,cW];exact ou a caps vs _
def sX{T T':Nat->Tmp->Code}:∀ {c:AC},H9 c=J->c.erase T=c.erase T':=by
 intro c
 induction c with
 |seq a b d e=>intro h;simp only[H9,y_]at h;simp only[AC.erase,d h.1,e h.2]
 |scope b g=>intro h;simp only[AC.erase,g h]
 |cond c a b j d e=>intro h;simp only[H9,y_]at h;simp only[AC.erase,d h.1,e h.2]
 |block id b j g=>intro h;simp only[AC.erase,g h]
 |loop b lv g=>intro h;simp only[AC.erase,g h]
 |rangeFunc f k i=>intro h;cases h
 |_=>intro _;rfl
def wU:∀ {caps:List (Nat×SK)} {xs:List S0},uM caps=J->cJ xs (caps.map (·.2))=J->py xs=ao xs
 | [],[],_,_=>rfl
 |p::caps,x::xs,h1,a=>by
  simp only[uM,j3,y_]at h1;simp only[Fx,cJ,y_]at a;have b:=wU (caps:=caps) h1.2 a.2;let⟨t,c⟩:=p;cases c with
  |agg d=>cases h1.1
  |leaf k=>
   cases x with
   |agg _=>cases a.1
   |leaf l=>simp only[py,kD,ao,Fx]at b ⊢;rw[b];rfl
 | [],_::_,_,h=>by cases h
 |_::_,[],_,h=>by cases h
def Ax(hA:te A X.C Sg X.T holds abs){S:Dr}
  (k:Xq X.C S)
  {st:Site} {vs:Tn} {l:Nat} {ls:TG} {h:HT} {K:TG->HT->R} {a:HI} {ys:List S0} (h1:fe (abs h) l=O a) (h2:a.tmps=rQ st.nt st.caps vs (FJ st.nt A_))
  (Y:a.params=st.params.map (·.1)) (h4:a.assign=st.assign.erase sY) (h5:a.body=st.body.erase sY) (hy:Told (st.params.map (·.2)) ls ys)
  (f:holds (uj A X Sg S st vs l ls h K)):∃b h',iO X.C l (ao ys) (abs h) (.bool b) (abs h')/\holds (K [.b b] h'):=by
 unfold uj at f;split at f
 .exact absurd f hA.fail
 next Z=>
  simp only[y_]at Z;let⟨⟨c1,c2⟩,c3⟩:=Z;let⟨L,r,V,e2,e3,x⟩:=Sr hA f;let⟨D,y⟩:=hA.wb _ _ x;rw[D,Kv,wU c1 e2]at V;subst V;let⟨M,r',P,d2,z⟩:=rI hA y;let⟨E,B⟩:=hA.C3 _ _ z;rw[E,Kv]at P;let⟨y1,y2,y3⟩:=hy;let⟨w1,w2⟩:=db y1 d2 (y2.trans P);have F:=w2 y3
  let N:Ex:={ X with b_:=[] }
  let I:St:={ tmps:=cW a.params (ao ys) a.tmps,loc:=[],heap:=abs h }
  have hR:Rp ⟨gn st.nt st.params M (gn st.nt st.caps L (FJ st.nt .no)),[]⟩ I:=by
   have u:=qi st.caps L (FJ st.nt .no) (FJ st.nt A_) d_ e3 (λi s g=>by
    rw[ay]at g;split at g
    .cases g;trivial
    .cases g)
   have c:∀(q:List Tmp) (vs tm:Tn),W (cW q vs tm)=W tm:=by
    intro q
    induction q with
    |nil=>intro vs tm;simp[cW]
    |cons t q ih=>intro vs tm;cases vs with
     |nil=>simp[cW]
     |cons v vs=>simp[cW,ih]
   have a2:=qi st.params M _ _ (by rw[u.1,c];simp) F u.2;have w:I.tmps=cW (st.params.map (·.1)) (ao M) (cW (st.caps.map (·.1)) (ao L) (FJ st.nt A_)):=by show cW a.params (ao ys) a.tmps=_;rw[Y,h2,ou,w1]
   refine⟨?_,λi s g=>?_,rfl,λi r D=>by simp at D⟩
   .rw[w,c,c,iW st.nt 0,iW st.nt 0,a2.1,u.1];simp
   .rw[iW st.nt 0,iW st.nt 0]at g
    simp_all
  let⟨e,n,v7,v6,q1,q2,q3,_,o⟩:=yB (X:=N) hA k st.assign _ h I _ _ hR rfl B;rcases o with⟨rfl,o⟩|⟨_,o⟩
  .obtain⟨w6,B6,p1,p2,p3,q6⟩:=hA.LX _ _ _ o;rw[q3]at p1 p3;let⟨e,s8,Dz,DK,s1,s2,s3,_,p⟩:=yB (X:=N) hA k st.body v7 B6 { n with heap:=n.heap.set l (.loop { w6 with state:=.busy }) } _ _ (q2.heap _) p3 q6;have u1:Fo X.C [] a.assign { tmps:=cW a.params (ao ys) a.tmps,loc:=[],heap:=abs h } .normal n:=by rw[h4,sX (T':=λG t=>gF (X.T G) t) c2];exact q1
   have u2:Fo X.C [] a.body { n with heap:=n.heap.set l (.loop { w6 with state:=.busy }) } e s8:=by rw[h5,sX (T':=λG t=>gF (X.T G) t) c3];exact s1
   have m:W (ao ys)=W a.params:=by rw[Y];have:=oh y1;simpa[ao]using this
   have d:∀(j:Tm) (b:Bool),M7 e=O j->b=j.isNone->holds (A.I1 l j DK λh=>K [.b b] h)->∃b h',iO X.C l (ao ys) (abs h) (.bool b) (abs h')/\holds (K [.b b] h'):=by intro j b hj hb f;let⟨A5,DL,z1,z2,z3⟩:=hA.I1 _ _ _ _ f;rw[s3]at z1 z2;refine⟨b,DL,?_,z3⟩;rw[z2,hb];exact iO.intro h1 m u1 p1 p2 u2 hj z1
   rcases p with⟨rfl,p⟩|⟨p,H⟩
   .exact d Q J rfl rfl p
   .cases e with
    |ret=>exact d (O .ret) U rfl rfl H
    |exit id=>exact d (O (.exit id)) U rfl rfl H
    |_=>exact absurd H hA.fail
  .exact absurd o hA.fail
end
end Sx
namespace Sx
section
variable {P:TI}
end
end Sx
namespace Sx
inductive MC where
 |no
 |row (s:Nat) (w:Bool)
 |hr
 |hw
 |neu (f:TT)
abbrev _root_.Tc:=FuncId->Option Nat
def aC(N:Tc)(b_:TC)(o:FQ):Option MC:=
 match o.op with
 | .move _ | .assign _ | .pick _ _ _ | .build _ _ | .nilCheck _ | .unOp _ _ _ | .convert _ _ _ | .fieldAddr _ _ _ | .field _ _ _ | .indexAddr _ _ _ | .index _ _ _ | .extract _ _=>O .no
 | .binOp _ _ _ _ _=>O .no
 | .makeFunc _ _ _=>O .no
 | .load _ a=>match oV b_ a with
  |0=>O .hr
  |1=>O .no
  |s+2=>O (.row s U)
 | .store _ a _=>match oV b_ a with
  |0=>O .hw
  |1=>Q
  |s+2=>O (.row s J)
 | .alloc _ | .box _ _=>match o.dst with
  |O d=>if b_.getD d 0=d+2 then O (.row d J)else O .hw
  |Q=>Q
 | .buildSlice _ _ _ | .makeMap _ _ | .makeSlice _ _ _ | .mapUpdate _ _ _ _ | .mapEntry _ _ _ | .entryStore _ _ _ _ | .insert _ _ _ _=>O .hw
 | .lookup _ _ _ _ | .slice _ _ _ _ _=>O .hr
 | .call c=>match c.callee with
  | .builtin b=>match b with
   | .append | .copy | .delete | .clear=>O .hw
   | .len=>O .hr
   | .cap | .min | .max=>O .no
   |_=>Q
  | .value f=>match f with
   | .func g=>O (if N g=O (2*c.args.size)then .neu g else if N g=O (2*c.args.size+1)then .hr else .hw)
   |_=>O .hw
  |_=>Q
 |_=>Q
def bq(ops:To)(o:FQ):TC:=
 (o.op.operands.toList.filterMap λx=>match x with
  | .tmp t=>O t
  |_=>Q) ++
 match o.guard with
 |O (j,_)=>((ops[j]?).bind (·.dst)).toList
 |Q=>[]
section
variable [El]
def execOp_congr{e u0:Tg}{o:FQ}(N:Tc)(b_:TC)(C:aC N b_ o≠Q)(h:∀x∈o.op.operands.toList,e x=u0 x):execOp e o=execOp u0 o:=by
 let⟨dst,A,B,pos,z,guard⟩:=o;have l:∀ {j:Array GJ},(∀x∈j.toList,e x=u0 x)->j.map e=j.map u0:=by simp_all
 have w:∀ {j:Array (Nat×GJ)},(∀x∈j.toList.map (·.2),e x=u0 x)->(j.map λ(i,x)=>(i,e x))=(j.map λ(i,x)=>(i,u0 x)):=by grind
 have g:∀ {r:Th},(∀x∈r.toArray.toList,e x=u0 x)->r.map e=r.map u0:=by
  intro r q;cases r with
  |none=>rfl
  |some y=>simp[q y d_]
 cases A<;>simp only[aC,ne_eq,not_true_eq_false,not_false_eq_true,reduceCtorEq]at C<;>simp only[Op.operands]at h
 case move x=>simp only[execOp,h x d_]
 case assign x=>simp only[execOp,h x d_]
 case pick c a b=>simp only[execOp,h c d_,h a d_,h b d_]
 case alloc t=>rfl
 case box t x=>simp only[execOp,h x d_]
 case build t ps=>simp only[execOp,w (by simpa using h)]
 case buildSlice t n ps=>simp only[execOp,w (by simpa using h)]
 case load t a=>simp only[execOp,h a d_]
 case store t a x=>simp only[execOp,h a d_,h x d_]
 case nilCheck x=>simp only[execOp,h x d_]
 case binOp A t x y yt=>simp only[execOp,h x d_,h y d_]
 case unOp A t x=>simp only[execOp,h x d_]
 case convert s d x=>simp only[execOp,h x d_]
 case makeFunc fn a b=>simp only[execOp,l (λx q=>h x (by simp;exact .inl (by simpa using q))),l (λx q=>h x (by simp;exact .inr (by simpa using q)))]
 case makeMap t r=>simp only[execOp,g h]
 case makeSlice t a b=>simp only[execOp,h a d_,h b d_]
 case slice t x a b c=>simp only[qbF,F_]at h;simp only[execOp,h x d_,g (λy u=>h y (.inl (.inl (.inr u)))),g (λy u=>h y (.inl (.inr u))),g (λy u=>h y (.inr u))]
 case fieldAddr t x f=>simp only[execOp,h x d_]
 case field t x f=>simp only[execOp,h x d_]
 case indexAddr t x i=>simp only[execOp,h x d_,h i d_]
 case index t x i=>simp only[execOp,h x d_,h i d_]
 case lookup t x i ok=>simp only[execOp,h x d_,h i d_]
 case mapUpdate t m k v=>simp only[execOp,h m d_,h k d_,h v d_]
 case insert t m k v=>simp only[execOp,h m d_,h k d_,h v d_]
 case mapEntry t m k=>simp only[execOp,h m d_,h k d_]
 case entryStore t m s v=>simp only[execOp,h m d_,h s d_,h v d_]
 case extract t i=>simp only[execOp,h t d_]
 case call c=>
  have p:resolve e c B=resolve u0 c B:=by
   unfold resolve;simp only[Call.operands,qbF,F_]at h
   grind
  simp only[execOp,p]
def qy{C:p_}{e u0:Tg}{o:FQ}(N:Tc)(b_:TC)(G:aC N b_ o≠Q)(h:∀x∈o.op.operands.toList,e x=u0 x):aA C b_ e o=aA C b_ u0 o:=by
 have u:=execOp_congr N b_ G h;have w:∀(f:TV->Bool),(o.op.operands.toList.all λx=>f (e x))=(o.op.operands.toList.all λx=>f (u0 x)):=by grind
 have q:cN C e o=cN C u0 o:=by unfold cN;rw[w flat,u]
 have j:∀ {r:Th},(∀x∈r.toArray.toList,e x=u0 x)->r.map e=r.map u0:=by
  intro r u;cases r with
  |none=>rfl
  |some y=>simp[u y d_]
 have B:∀ {l:Array (Nat×GJ)},(∀x∈l.toList.map (·.2),e x=u0 x)->(l.toList.map λp=>(p.1,e p.2))=(l.toList.map λp=>(p.1,u0 p.2)):=by
  intro l u;refine p' λp q=>?_
  grind
 have A:∀(f:TV->Bool) {l:Array (Nat×GJ)},(∀x∈l.toList.map (·.2),e x=u0 x)->(l.toList.all λp=>f (e p.2))=(l.toList.all λp=>f (u0 p.2)):=by grind
 let⟨dst,F,H,pos,g,guard⟩:=o;cases F<;>simp only[aC,ne_eq,not_true_eq_false,not_false_eq_true,reduceCtorEq]at G<;>simp only[Op.operands]at h
 case move x=>simp only[aA,h x d_]
 case assign x=>simp only[aA,h x d_]
 case pick c a b=>simp only[aA,h c d_,h a d_,h b d_]
 case alloc t=>rfl
 case box t x=>simp only[aA,h x d_]
 case build t ps=>simp only[aA,B (by simpa using h),A (λv=>!aL v) (by simpa using h)]
 case buildSlice t n ps=>simp only[aA,B (by simpa using h),A (λv=>v.cells.toList.all bj) (by simpa using h)]
 case load t a=>simp only[aA,h a d_]
 case store t a x=>simp only[aA,h a d_,h x d_]
 case nilCheck x=>simp only[aA,h x d_]
 case binOp F t x y yt=>simp only[aA,h x d_,h y d_,q]
 case unOp F t x=>simp only[aA,q]
 case convert s d x=>simp only[aA,q]
 case makeFunc fn a b=>have D:a.map e=a.map u0:=e1.1 k_;have E:b.map e=b.map u0:=e1.1 k_;simp only[aA,D,E]
 case makeMap t r=>simp only[aA,j h]
 case makeSlice t a b=>simp only[aA,h a d_,h b d_]
 case slice t x a b c=>simp only[qbF,F_]at h;simp only[aA,h x d_,j (λy z=>h y (.inl (.inl (.inr z)))),j (λy z=>h y (.inl (.inr z))),j (λy z=>h y (.inr z)),q]
 case fieldAddr t x f=>simp only[aA,h x d_]
 case field t x f=>simp only[aA,h x d_]
 case indexAddr t x i=>simp only[aA,h x d_,h i d_]
 case index t x i=>simp only[aA,h x d_,h i d_]
 case lookup t x i ok=>simp only[aA,h x d_,h i d_]
 case mapUpdate t m k v=>simp only[aA,h m d_,h k d_,h v d_]
 case insert t m k v=>simp only[aA,h m d_,h k d_,h v d_]
 case mapEntry t m k=>simp only[aA,h m d_,h k d_]
 case entryStore t m s v=>simp only[aA,h m d_,h s d_,h v d_]
 case extract t i=>simp only[aA,h t d_]
 case call c=>
  simp only[Call.operands,qbF,F_]at h;have D:c.args.toList.map e=c.args.toList.map u0:=p' λx u=>h x (.inr u);have E:∀b,ba C e b (c.args.toList.map e) c.argTypes ⟨dst,.call c,H,pos,g,guard⟩=ba C u0 b (c.args.toList.map u0) c.argTypes ⟨dst,.call c,H,pos,g,guard⟩:=by intro b;unfold ba;rw[D,q]
  simp only[aA,ig];cases I:c.callee with
  |builtin b=>exact E b
  |value f=>grind
  |invoke r m=>rfl
structure Ef where
 v:Value
 rw:Option (Nat×Option (Tn))
 hp:Option (Tu)
def Ef.on(e:Ef)(dst:Tq)(g9:St):St:=
 ({ tmps:=g9.tmps,loc:=(match e.rw with|O p=>g9.loc.set p.1 p.2|Q=>g9.loc),heap:=e.hp.getD g9.heap }:St).put dst e.v
def EP(N:Tc)(b_:TC)(ops:To)(o:FQ)(g9 j8:St):Prop:=
 (∀t∈bq ops o,j8.tmps[t]?=g9.tmps[t]?)/\match aC N b_ o with
 |O (.row s _)=>j8.loc[s]?=g9.loc[s]?
 |O .hr=>j8.heap=g9.heap
 |O .hw=>j8.heap=g9.heap
 |_=>True
def FM(N:Tc)(B:Below):Prop:=(∀f args H r H',N f=O (2*W args)->B.call f args H r H'->H'=H/\∀a,B.call f args a r a)/\
 ∀f args H r H',N f=O (2*W args+1)->B.call f args H r H'->H'=H
def vQ(m:Option MC)(e:Ef):Prop:=
 (∀p,e.rw=O p->m=O (.row p.1 J))/\(e.hp≠Q->m=O .hw)
def nK{g9 j8:St}{x:TM}(h:∀t,x = .tmp t->j8.tmps[t]?=g9.tmps[t]?):ka j8.tmps x=ka g9.tmps x:=by
 cases x with
 |tmp t=>simp[ka,List.getD_eq_getElem?_getD,h t rfl]
 |_=>rfl
def BT{N:Tc}{b_:TC}{ops:To}{o:FQ}{g9 j8:St}(h:EP N b_ ops o g9 j8):∀x∈o.op.operands.toList,ka j8.tmps x=ka g9.tmps x:=by
 intro x b;refine nK λt a=>h.1 t ?_;subst a;simp only[bq,F_,Np]
 grind
def oR{N:Tc}{b_:TC}{ops:To}{o:FQ}{g9 j8:St}(h:EP N b_ ops o g9 j8):cE ops j8.tmps o=cE ops g9.tmps o:=by
 unfold cE;split
 .rfl
 next j a c=>
  cases b:(ops[j]?).bind (·.dst)with
  |none=>rfl
  |some d=>simp only[Fj];rw[h.1 d (by simp[bq,c,b])]
def FS(N:Tc)(m:Option MC):FY->Prop
 | .val _=>True
 | .H6 s _=>m=O (.row s J)
 | .KR s _=>m=O (.row s U)
 | .H7 s _=>m=O (.row s J)
 | .Hj _=>m=O .hr
 | .Iy _=>m=O .hw
 | .call f args=>(m=O (.neu f)/\N f=O (2*W args))∨(m=O .hr/\N f=O (2*W args+1))∨m=O .hw
 | .yield _ _=>m=O .hw
def fw{N:Tc}{m:Option MC}{x:Tk}{e:FY}(h:x.map FY.val=O e):FS N m e:=by obtain⟨v,_,rfl⟩:=FD.1 h;trivial
def eY{C:p_}{a:Tg}{o:FQ}{N:Tc}{m:Option MC}{e:FY}(h:cN C a o=O e):FS N m e:=by
 unfold cN at h;split at h
 .split at h
  .split at h
   .cases h;trivial
   .cases h
  .cases h
 .cases h
def ej{N:Tc}{m:Option MC}{a:Tk}{b:Option FY}{e:FY}(c:b=O e->FS N m e)(h:rj a b=O e):FS N m e:=by
 unfold rj at h;split at h
 .cases h;trivial
 .exact c h
def qF{C:p_}{N:Tc}{b_:TC}{o:FQ}{t:TS}{v:TV}{e:FY}(ho:(∃y,o.op = .box t y)∨o.op = .alloc t)(h:cM C b_ o.dst t v=O e):FS N (aC N b_ o) e:=by
 unfold cM at h;split at h
 .cases h
 .split at h
  .cases h
  next d b=>
   split at h
   .cases h
   .split at h
    next a=>cases h;rcases ho with⟨y,ho⟩|ho<;>(simp only[FS,aC,ho,b];rw[rv a])
    next a=>cases h;rcases ho with⟨y,ho⟩|ho<;>(simp only[FS,aC,ho,b];rw[ts a])
def jp{C:p_}{N:Tc}{b_:TC}{w:Tg}{o:FQ}{e:FY}(A:∀g,w (.func g) = .func (.func g) #[] #[])(D:aC N b_ o≠Q)(d:aA C b_ w o=O e):FS N (aC N b_ o) e:=by
 unfold aA at d;split at d
 .cases d;trivial
 .cases d;trivial
 .split at d
  .cases d;trivial
  .cases d
 next t h=>let⟨z,_,d⟩:=GY.1 d;exact qF (.inr h) d
 next t x h=>exact qF (.inl ⟨x,h⟩) d
 .split at d
  .exact fw d
  .cases d
 next t n H h=>
  split at d
  .obtain⟨r,_,rfl⟩:=FD.1 d;simp only[FS,aC,h]
  .cases d
 next t a h=>
  unfold ey at d;split at d
  next j=>
   split at d
   .cases d;simp only[FS,aC,h,j]
   .obtain⟨p,_,rfl⟩:=FD.1 d;simp only[FS,aC,h,j]
  .obtain⟨p,_,d⟩:=GY.1 d;exact fw d
  next s j=>obtain⟨p,_,rfl⟩:=FD.1 d;simp only[FS,aC,h,j]
 next t a x h=>
  unfold fC at d;split at d
  .cases d
  .split at d
   next j=>obtain⟨p,_,rfl⟩:=FD.1 d;simp only[FS,aC,h,j]
   .cases d
   next s j=>obtain⟨p,_,rfl⟩:=FD.1 d;simp only[FS,aC,h,j]
 .split at d<;>cases d<;>trivial
 .split at d
  .split at d
   .split at d
    .cases d;trivial
    .cases d
   .exact eY d
  .split at d
   .split at d
    .cases d;trivial
    .cases d
   .exact eY d
  .exact eY d
 .split at d
  .cases d
  .cases d;trivial
 next t r h=>
  split at d
  .cases d;simp only[FS,aC,h]
  .cases d
 next t l c h=>cases d;simp only[FS,aC,h]
 next t x E B F h=>
  split at d
  .split at d
   .exact fw d
   .cases d;simp only[FS,aC,h]
  .exact ej eY d
 .exact fw d
 .exact fw d
 .exact fw d
 .exact fw d
 next t m k G h=>
  split at d
  .exact fw d
  .cases d;simp only[FS,aC,h]
 next t m k v h=>cases d;simp only[FS,aC,h]
 next t m k v h=>cases d;simp only[FS,aC,h]
 next t m k h=>cases d;simp only[FS,aC,h]
 next t m s v h=>cases d;simp only[FS,aC,h]
 .split at d
  .split at d
   .cases d
   .exact fw d
  .cases d
 next c h=>
  unfold ig at d;simp only at d;cases i:c.callee with
  |invoke r m=>simp_all
  |builtin b=>
   simp only[i]at d;unfold ba at d;split at d
   .split at d
    .cases d
    .cases d;simp only[FS,aC,h,i]
   .split at d
    .cases d;trivial
    .cases d;simp only[FS,aC,h,i]
    .cases d;trivial
    .exact eY d
   .split at d
    .cases d;trivial
    .cases d;trivial
    .cases d;trivial
    .cases d
   .cases d;simp only[FS,aC,h,i]
   .cases d;simp only[FS,aC,h,i]
   .cases d;simp only[FS,aC,h,i]
   .exact eY d
  |value f=>
   simp only[i]at d;split at d
   .cases d
   .split at d
    next g first q u=>
     split at d
     .cases d;cases f with
      |func y=>
       rw[A]at u;cases u;simp only[aC,h,i,FS]
       grind
      |_=>simp only[FS,aC,h,i,or_true]
     .cases d
    next l first q u=>
     split at d
     .cases d;cases f with
      |func y=>simp_all
      |_=>simp only[FS,aC,h,i]
     .cases d
    .cases d
 .exact eY d
 .exact eY d
 .cases d
def jM{C:p_}{B:Below}{N:Tc}(M:FM N B){b_:TC}{ops:To}{i:Nat}{o:FQ}(I:ops[i]?=O o)(m:aC N b_ o≠Q){g9 A:St}(u:ar C B b_ ops i g9 A) :
  ∃e:Ef,A=e.on o.dst g9/\vQ (aC N b_ o) e/\∀j8,EP N b_ ops o g9 j8->ar C B b_ ops i j8 (e.on o.dst j8):=by
 unfold ar at u;simp only[I]at u;have val:∀v:FO,A=g9.put o.dst v->(∀j8,EP N b_ ops o g9 j8->ar C B b_ ops i j8 (j8.put o.dst v))->
   ∃e:Ef,A=e.on o.dst g9/\vQ (aC N b_ o) e/\∀j8,EP N b_ ops o g9 j8->ar C B b_ ops i j8 (e.on o.dst j8):=by
  intro v j h;exact⟨⟨v,Q,Q⟩,j,⟨λp c=>(by cases c),λh=>absurd rfl h⟩,h⟩
 split at u
 .exact u.elim
 next K=>refine val undef u λj8 b=>?_;unfold ar;simp only[I,oR b,K]
 next K=>
  have step:∀ {j8 D:St},EP N b_ ops o g9 j8->((∃e,aA C b_ (ka j8.tmps) o=O e/\oz B e o.dst j8 D)∨(∃v,oP C j8.tmps o v/\D=j8.put o.dst v))->ar C B b_ ops i j8 D:=by intro j8 D b h;unfold ar;simp only[I,oR b,K];exact h
  rcases u with⟨e,n,t⟩|⟨v,j,rfl⟩
  .have k:∀j8,EP N b_ ops o g9 j8->aA C b_ (ka j8.tmps) o=O e:=λj8 b=>by rw[qy N b_ m (BT b)];exact n
   cases e with
   |val v=>obtain⟨p,c,rfl⟩:=t;cases c;exact val v rfl λj8 b=>step b (.inl ⟨_,k j8 b,_,rfl,rfl⟩)
   |H6 s E=>
    obtain⟨p,c,rfl⟩:=t;simp only[aZ]at c;split at c
    next g=>cases c;have a:aC N b_ o=O (.row s J):=jp (λ_=>rfl) m n;refine⟨⟨EQ (O ⟨s,0,O 0⟩),O (s,O E),Q⟩,rfl,⟨λp c=>by cases c;exact a,λh=>absurd rfl h⟩,λj8 b=>step b (.inl ⟨_,k j8 b,({ j8 with loc:=j8.loc.set s (O E) },EQ (O ⟨s,0,O 0⟩)),?_,rfl⟩)⟩;have:=b.2;rw[a]at this;simp only[aZ,this,g]
    .cases c
   |KR s f=>
    obtain⟨p,c,rfl⟩:=t;simp only[aZ]at c;split at c
    next E g=>obtain⟨v,j,rfl⟩:=FD.1 c;have a:aC N b_ o=O (.row s U):=jp (λ_=>rfl) m n;refine val v rfl λj8 b=>step b (.inl ⟨_,k j8 b,(j8,v),?_,rfl⟩);have:=b.2;rw[a]at this;simp only[aZ,this,g,j,G9]
    .cases c
   |H7 s f=>
    obtain⟨p,c,rfl⟩:=t;simp only[aZ]at c;split at c
    next E g=>obtain⟨z,j,rfl⟩:=FD.1 c;have a:aC N b_ o=O (.row s J):=jp (λ_=>rfl) m n;refine⟨⟨undef,O (s,O z),Q⟩,rfl,⟨λp c=>by cases c;exact a,λh=>absurd rfl h⟩,λj8 b=>step b (.inl ⟨_,k j8 b,({ j8 with loc:=j8.loc.set s (O z) },undef),?_,rfl⟩)⟩;have:=b.2;rw[a]at this;simp only[aZ,this,g,j,G9]
    .cases c
   |Hj f=>obtain⟨p,c,rfl⟩:=t;simp only[aZ]at c;obtain⟨v,j,rfl⟩:=FD.1 c;have a:aC N b_ o=O .hr:=jp (λ_=>rfl) m n;refine val v rfl λj8 b=>step b (.inl ⟨_,k j8 b,(j8,v),?_,rfl⟩);have:=b.2;rw[a]at this;simp only[aZ,this,j,G9]
   |Iy f=>obtain⟨p,c,rfl⟩:=t;simp only[aZ]at c;obtain⟨q,j,rfl⟩:=FD.1 c;have a:aC N b_ o=O .hw:=jp (λ_=>rfl) m n;refine⟨⟨q.2,Q,O q.1⟩,rfl,⟨λp c=>(by cases c),λ_=>a⟩,λj8 b=>step b (.inl ⟨_,k j8 b,({ j8 with heap:=q.1 },q.2),?_,rfl⟩)⟩;have:=b.2;rw[a]at this;simp only[aZ,this,j,G9]
   |call f d=>
    obtain⟨r,H,F,rfl⟩:=t;have a:(aC N b_ o=O (.neu f)/\N f=O (2*W d))∨(aC N b_ o=O .hr/\N f=O (2*W d+1))∨aC N b_ o=O .hw:=jp (λ_=>rfl) m n;rcases a with⟨a,G⟩|⟨a,G⟩|a
    .obtain⟨rfl,L⟩:=M.1 f d _ r H G F;exact val r rfl λj8 b=>step b (.inl ⟨_,k j8 b,r,j8.heap,L j8.heap,rfl⟩)
    .obtain rfl:=M.2 f d _ r H G F;refine val r rfl λj8 b=>step b (.inl ⟨_,k j8 b,r,j8.heap,?_,rfl⟩);have:=b.2
     simp_all
    .refine⟨⟨r,Q,O H⟩,rfl,⟨λp c=>(by cases c),λ_=>a⟩,λj8 b=>step b (.inl ⟨_,k j8 b,r,H,?_,rfl⟩)⟩;have:=b.2
     simp_all
   |yield l d=>
    obtain⟨r,H,F,rfl⟩:=t;have a:aC N b_ o=O .hw:=jp (λ_=>rfl) m n;refine⟨⟨r,Q,O H⟩,rfl,⟨λp c=>(by cases c),λ_=>a⟩,λj8 b=>step b (.inl ⟨_,k j8 b,r,H,?_,rfl⟩)⟩;have:=b.2
    simp_all
  .refine val v rfl λj8 b=>step b (.inr ⟨v,?_,rfl⟩);let⟨P,L,R,S⟩:=j;have y:=BT b;refine⟨P,?_,R,λw=>?_⟩
   .simp_all
   .rw[execOp_congr N b_ m (u0:=λx=>GE (ka g9.tmps x)) λx T=>by rw[y x T]];exact S w
def MC.ok2:MC->MC->Bool
 | .no,_=>J
 |_,.no=>J
 | .row s w,.row a w'=>!Nat.beq s a||(!w && !w')
 | .row _ _,_=>J
 |_,.row _ _=>J
 | .neu _,_=>J
 |_,.neu _=>J
 | .hr,.hr=>J
 |_,_=>U
def bB(d:Tq)(l:TC):Bool:=match d with
 |O d=>!l.contains d
 |Q=>J
def bi(a b:Tq):Bool:=match a,b with
 |O a,O b=>!Nat.beq a b
 |_,_=>J
def CA(N:Tc)(b_:TC)(ops:To)(a b:FQ):Bool:=
 match aC N b_ a,aC N b_ b with
 |O m,O n=>(m.ok2 n||lR a b)&&bB a.dst (bq ops b)&&bB b.dst (bq ops a)&&bi a.dst b.dst
 |_,_=>U
def vp{g9:St}{d:Tq}{v:TV}{t:Nat}(h:∀x,d=O x->x≠t):(g9.put d v).tmps[t]?=g9.tmps[t]?:=by
 cases d with
 |none=>rfl
 |some x=>simp only[St.put];simp_all
def vq{g9:St}{d:Tq}{v:TV}:(g9.put d v).loc=g9.loc:=by cases d<;>rfl
def mE{g9:St}{d:Tq}{v:TV}:(g9.put d v).heap=g9.heap:=by cases d<;>rfl
def vr{g9:St}{d:Tq}{v:TV}:(g9.put d v).tmps=(match d with|some d=>g9.tmps.set d v|none=>g9.tmps):=by cases d<;>rfl
def nE{e:Ef}{d:Tq}{g9:St}:(e.on d g9).tmps=(match d with|O d=>g9.tmps.set d e.v|Q=>g9.tmps):=by unfold Ef.on;rw[vr]
def Bo{e:Ef}{d:Tq}{g9:St}:(e.on d g9).loc=(match e.rw with|O p=>g9.loc.set p.1 p.2|Q=>g9.loc):=by unfold Ef.on;rw[vq]
def eI{e:Ef}{d:Tq}{g9:St}:(e.on d g9).heap=e.hp.getD g9.heap:=by unfold Ef.on;rw[mE]
def Cj{N:Tc}{b_:TC}{ops:To}{a b:FQ}{m n:MC}(o:aC N b_ a=O m)(q:aC N b_ b=O n)(c:m.ok2 n=J∨n.ok2 m=J)
  (i:bB a.dst (bq ops b)=J) {e:Ef} (g:vQ (aC N b_ a) e) (g9:St):EP N b_ ops b g9 (e.on a.dst g9):=by
 refine⟨λt hr=>?_,?_⟩
 .unfold Ef.on;refine vp λx r j=>?_;subst j;rw[r]at i;simp only[bB,qb4,qcx,decide_eq_false_iff_not]at i;exact i hr
 .rw[o]at g;rw[q];cases n with
  |no=>trivial
  |neu f=>trivial
  |row s w=>
   show(e.on a.dst g9).loc[s]?=_;rw[Bo];cases l:e.rw with
   |none=>rfl
   |some p=>
    have d:=g.1 p l;cases d;have:p.1≠s:=by intro j;subst j;rcases c with h|h<;>simp[MC.ok2]at h
    simp_all
  |hr=>
   show(e.on a.dst g9).heap=_;rw[eI];cases k:e.hp with
   |none=>rfl
   |some H=>have d:=g.2 (by rw[k];simp);cases d;rcases c with h|h<;>cases h
  |hw=>
   show(e.on a.dst g9).heap=_;rw[eI];cases k:e.hp with
   |none=>rfl
   |some H=>have d:=g.2 (by rw[k];simp);cases d;rcases c with h|h<;>cases h
def set_comm{j7:Type}(l:List j7){i j:Nat}(a b:j7)(h:i≠j):(l.set i a).set j b=(l.set j b).set i a:=List.set_comm _ _ h
def Rl{N:Tc}{b_:TC}{a b:FQ}{m n:MC}(k:aC N b_ a=O m)(l:aC N b_ b=O n)(c:m.ok2 n=J)(o:bi a.dst b.dst=J){e f:Ef}
  (r:vQ (aC N b_ a) e) (s:vQ (aC N b_ b) f) (g9:St):f.on b.dst (e.on a.dst g9)=e.on a.dst (f.on b.dst g9):=by
 have t:(f.on b.dst (e.on a.dst g9)).tmps=(e.on a.dst (f.on b.dst g9)).tmps:=by
  simp only[nE];cases h:a.dst with
  |none=>rfl
  |some x=>
   cases i:b.dst with
   |none=>rfl
   |some y=>
    rw[h,i]at o;have:x≠y:=by intro j;subst j;simp[bi]at o
    exact set_comm _ _ _ this
 have u:(f.on b.dst (e.on a.dst g9)).loc=(e.on a.dst (f.on b.dst g9)).loc:=by
  simp only[Bo];cases h:e.rw with
  |none=>rfl
  |some p=>
   cases i:f.rw with
   |none=>rfl
   |some q=>
    have d:=r.1 p h;have g:=s.1 q i;rw[k]at d;rw[l]at g;cases d;cases g;have:p.1≠q.1:=by intro j;rw[j]at c;simp[MC.ok2]at c
    exact set_comm _ _ _ this
 have v:(f.on b.dst (e.on a.dst g9)).heap=(e.on a.dst (f.on b.dst g9)).heap:=by
  simp only[eI];cases h:e.hp with
  |none=>rfl
  |some p=>
   cases i:f.hp with
   |none=>rfl
   |some q=>have d:=r.2 (by rw[h];simp);have g:=s.2 (by rw[i];simp);rw[k]at d;rw[l]at g;cases d;cases g;cases c
 generalize f.on b.dst (e.on a.dst g9)=x at *;generalize e.on a.dst (f.on b.dst g9)=y at *;cases x;simp_all
def zV{ops:To}{o:FQ}{g9 j8:St}(h:∀t∈bq ops o,j8.tmps[t]?=g9.tmps[t]?):cE ops j8.tmps o=cE ops g9.tmps o:=by
 unfold cE;split
 .rfl
 next j a c=>
  cases b:(ops[j]?).bind (·.dst)with
  |none=>rfl
  |some d=>simp only[Fj];rw[h d (by simp[bq,c,b])]
def Bs{ops:To}{o:FQ}{g9 j8:St}(h:∀t∈bq ops o,j8.tmps[t]?=g9.tmps[t]?):∀x∈o.op.operands.toList,ka j8.tmps x=ka g9.tmps x:=by
 intro x b;refine nK λt a=>h t ?_;subst a;simp only[bq,F_,Np]
 grind
def Ds{C:p_}{B:Below}{N:Tc}(k:FM N B){b_:TC}{ops:To}{i j:Nat}{a b:FQ}(l:ops[i]?=O a)(m:ops[j]?=O b)(d:lR a b=J)
  (e:bB a.dst (bq ops b)=J) (f:bB b.dst (bq ops a)=J) (g:bi a.dst b.dst=J) {g9 j9 c:St}
  (h1:ar C B b_ ops i g9 j9) (h:ar C B b_ ops j j9 c):∃j8,ar C B b_ ops j g9 j8/\ar C B b_ ops i j8 c:=by
 cases d
def z0{C:p_}{B:Below}{N:Tc}(k:FM N B){b_:TC}{ops:To}{i j:Nat}{a b:FQ}(r:ops[i]?=O a)(s:ops[j]?=O b)(c:CA N b_ ops a b=J){g9 j9 u:St}
  (h1:ar C B b_ ops i g9 j9) (q:ar C B b_ ops j j9 u):∃j8,ar C B b_ ops j g9 j8/\ar C B b_ ops i j8 u:=by
 unfold CA at c;split at c
 next m n d g=>
  simp only[y_]at c;let⟨⟨⟨c1,l⟩,o⟩,p⟩:=c;rw[IP]at c1;rcases c1 with c1|c1
  case inr=>exact Ds k r s c1 l o p h1 q
  obtain⟨e,rfl,v,y⟩:=jM k r (by rw[d];simp) h1;obtain⟨f,rfl,w,z⟩:=jM k s (by rw[g];simp) q;have A:EP N b_ ops b (e.on a.dst g9) g9:=by
   have:=Cj d g (.inl c1) l v g9;refine⟨λt x=>(this.1 t x).symm,?_⟩;have h:=this.2
   grind
  have D:EP N b_ ops a g9 (f.on b.dst g9):=Cj g d (.inr c1) o w g9;refine⟨f.on b.dst g9,z g9 A,?_⟩;rw[Rl d g c1 p v w g9];exact y _ D
 .cases c
end
end Sx
namespace Sx
section
variable [El] {C:p_} {B:Below} {N:Tc} {b_:TC} {ops:To}
def sU{i:Nat}{post:TC}:∀(pre:TC),(∀k∈pre,∀g9 j9 a:St,ar C B b_ ops k g9 j9->ar C B b_ ops i j9 a->∃j8,ar C B b_ ops i g9 j8/\ar C B b_ ops k j8 a)->
  ∀g9 a:St,bw C B b_ ops (pre++i::post) g9 a->bw C B b_ ops (i::(pre++post)) g9 a
 | [],_,g9,a,h=>h
 |k::pre,b,g9,a,⟨j9,h1,d⟩=>by let⟨c,e,f⟩:=sU pre (λk l=>b k (by simp[l])) j9 a d;let⟨j8,g,j⟩:=b k d_ g9 j9 c h1 e;exact⟨j8,g,c,j,f⟩
inductive MF(ops:To)(k:Nat):Nat->Prop
 |edge {i:Nat} {o:Oper} {e:Edge} (ho:ops[i]?=some o) (he:e∈o.after.toList) (hb:Region.binds .any e=true) (hk:e.on=k):MF ops k i
 |step {i:Nat} {o:Oper} {e:Edge} (ho:ops[i]?=some o) (he:e∈o.after.toList) (hb:Region.binds .any e=true) (h:MF ops k e.on):MF ops k i
def XF{b:TC}(d:∀(i k:Nat),(b.getD i 0).testBit k=J->MF ops k i){i:Nat}{o:FQ}(n:ops[i]?=O o){k:Nat}(h:(N0 b o).testBit k=J):MF ops k i:=by
 unfold N0 at h;have f:∀(l:List Edge) (m:Nat),(∀e∈l,e∈o.after.toList)->(m.testBit k=J->MF ops k i)->
   (l.foldl (λm e=>match Region.binds .any e with
    |true=>Nat.lor (Nat.lor m (Nat.shiftLeft 1 e.on)) (b.getD e.on 0)
    |false=>m) m).testBit k=J->MF ops k i:=by
  intro l
  induction l with
  |nil=>simp_all
  |cons e l r=>
   intro m g q h;simp only[y6]at h;refine r _ (λe p=>g e (by simp[p])) (λj=>?_) h;cases c:Region.binds .any e with
   |false=>simp_all
   |true=>
    simp only[c]at j;have a:((m ||| (1 <<< e.on)) ||| b.getD e.on 0).testBit k=J:=j;rw[Nat.testBit_or,Nat.testBit_or,IP,IP]at a;rcases a with(a|a)|a
    .exact q a
    .rw[Nat.one_shiftLeft,Nat.testBit_two_pow]at a;exact .edge n (g e d_) c (by simpa using a)
    .exact .step n (g e d_) c (d _ _ a)
 exact f _ 0 (λ_ h=>h) (λh=>by simp at h) h
def qg:∀(l:TA) (a:TC),ops.toList.drop (W a)=l->(∀(i k:Nat),(a.getD i 0).testBit k=J->MF ops k i)->∀(i k:Nat),((HC l a).getD i 0).testBit k=J->MF ops k i
 | [],a,_,b=>b
 |o::l,a,c,b=>by
  have f:ops[W a]?=O o:=by
   have:(ops.toList.drop (W a))[0]?=O o:=by rw[c];rfl
   simpa using this
  refine qg l (a++[N0 a o]) (by rw[IL,←qco,c];rfl) λi k h=>?_;rw[List.getD_eq_getElem?_getD,qbX]at h;split at h
  .simp_all
  next d=>
   by_cases e:i=W a
   .subst e;simp at h;exact XF b f h
   grind
def fQ:TA->Nat->Bool
 | [],_=>J
 |o::l,i=>(o.after.toList.all λe=>!Region.binds .any e||Nat.blt e.on i)&&fQ l (i+1)
def tV(N:Tc)(b_:TC)(ops:To)(b:FQ)(m:Nat):TA->Nat->Bool
 | [],_=>J
 |a::l,k=>(Nat.testBit m k||CA N b_ ops a b)&&tV N b_ ops b m l (k+1)
def ve(N:Tc)(b_:TC)(ops:To)(ms:TC):TA->TA->Nat->Bool
 |_,[],_=>J
 |pre,b::l,i=>tV N b_ ops b (ms.getD i 0) pre 0&&ve N b_ ops ms (pre++[b]) l (i+1)
def xJ(N:Tc)(b_:TC)(ops:To):Bool:=
 fQ ops.toList 0&&ve N b_ ops (HC ops.toList []) [] ops.toList 0
def eU:∀ {l:TA} {i:Nat},fQ l i=J->∀(j:Nat) o,l[j]?=O o->∀e∈o.after.toList,Region.binds .any e=J->e.on<i+j
 | [],i,_,j,o,h,_,_,_=>by simp at h
 |o::l,i,h,j,p,a,e,b,c=>by
  simp only[fQ,y_,D7]at h;cases j with
  |zero=>
   simp at a;subst a;have:=h.1 e b
   simp_all
  |succ j=>have:=eU h.2 j p (by simpa using a) e b c;omega
def su{b:FQ}{m:Nat}:∀ {l:TA} {k:Nat},tV N b_ ops b m l k=J->∀(j:Nat) a,l[j]?=O a->m.testBit (k+j)=J∨CA N b_ ops a b=J
 | [],k,_,j,a,h=>by simp at h
 |a::l,k,h,j,c,d=>by
  simp only[tV,y_,IP]at h;cases j with
  |zero=>simp_all
  |succ j=>
   have:=su h.2 j c (by simpa using d)
   grind
def th{ms:TC}:∀ {l pre:TA} {i:Nat},W pre=i->ve N b_ ops ms pre l i=J->∀(j:Nat) b,l[j]?=O b->∀(k:Nat) a,k<i+j->(pre++l)[k]?=O a->(ms.getD (i+j) 0).testBit k=J∨CA N b_ ops a b=J
 | [],pre,i,_,_,j,b,h,_,_,_,_=>by simp at h
 |b::l,pre,i,f,h,j,c,e,k,a,g,d=>by
  simp only[ve,y_]at h;cases j with
  |zero=>simp at e;subst e;rw[Kh a_]at d;have:=su h.1 k a d;simpa using this
  |succ j=>
   have:=th (pre:=pre++[b]) (i:=i+1) (by simp[f]) h.2 j c (by simpa using e) k a a_ (by simpa using d)
   grind
def De(h:xJ N b_ ops=J){i k:Nat}{a b:FQ}(d:ops[i]?=O b)(c:ops[k]?=O a)(e:k<i):MF ops k i∨CA N b_ ops a b=J:=by simp only[xJ,y_]at h;have:=th (pre:=[]) (i:=0) rfl h.2 i b (by simpa using d) k a a_ (by simpa using c);rw[Hd]at this;exact this.imp (λh=>qg ops.toList [] rfl (λi k h=>by simp at h) i k h) id
def Dd(h:xJ N b_ ops=J){i:Nat}{o:FQ}(c:ops[i]?=O o){e:Edge}(b:e∈o.after.toList)(a:Region.binds .any e=J):e.on<i:=by simp only[xJ,y_]at h;have:=eU h.1 i o (by simpa using c) e b a;omega
def GZ(n:Nat)(a:Array Bool):TC:=(EW n).filter λi=>!a.getD i J
def se{a:Array Bool}(c:∀(x:Nat) o,a.getD x J=J->ops[x]?=O o->∀e∈o.after.toList,Region.binds .any e=J->a.getD e.on U=J){k i:Nat}(h:MF ops k i)
  (j:∀o,ops[i]?=O o->∀e∈o.after.toList,Region.binds .any e=J->a.getD e.on U=J):a.getD k U=J:=by
 induction h with
 |edge f d b g=>grind
 |step f d b h l=>grind
abbrev _root_.Tx:=Nat->Bool
def ji{p:Tx}{i:Nat}:∀ {l:TC},l.Nodup->i∈l.filter p->∃pre post,l.filter p=pre++i::post/\(l.filter λj=>p j&&j != i)=pre++post/\(∀k∈pre,k∈l.filter p/\k≠i)
 | [],_,h=>by simp at h
 |x::l,a,h=>by
  rw[o7]at a;by_cases f:x=i
  .subst f;have b:p x=J:=(Hs.1 h).2;refine⟨[],l.filter p,by simp[b],?_,d_⟩;simp only[E7,qcZ,b,bne_self_eq_false,Bool.and_false,FG,if_false];refine qdo λj d=>?_;have:j≠x:=λe=>a.1 (e▸d);simp[this]
  .have c:i∈l.filter p:=by grind
   let⟨pre,post,g,m,e3⟩:=ji a.2 c
   grind
def oB{p:Tx}:∀ {n:Nat} {pre post:TC} {i:Nat},(EW n).filter p=pre++i::post->∀k∈pre,k<i:=by
 intro n pre post i h k b;have a:((EW n).filter p).Pairwise (· < ·):=qc2 _ qbt;rw[h,qcd]at a
 simp_all
def r2(hN:FM N B)(c:xJ N b_ ops=J):∀(fuel t:Nat) (a:Array Bool),a.size=ops.size->W (GZ ops.size a)=fuel->
  (∀(x:Nat) o,a.getD x J=J->ops[x]?=O o->∀e∈o.after.toList,Region.binds .any e=J->a.getD e.on U=J)->
  ∀g9 p:St,bw C B b_ ops (GZ ops.size a) g9 p->bw C B b_ ops (Region.linearise.go .any ops fuel t a []) g9 p
 |0,t,a,_,hl,_,g9,p,h=>by have:GZ ops.size a=[]:=VM.1 hl;rw[this]at h;simpa[Region.linearise.go]using h
 |fuel+1,t,a,T,hl,u,g9,p,h=>by
  simp only[Region.linearise.go];generalize z:((EW ops.size).filter λi=>!a.getD i J&&((ops[i]?).map (·.after.all λe=>!Region.binds .any e||a.getD e.on U)).getD U)=rs;have f:∀i∈rs,i<ops.size/\a.getD i J=U/\∀o,ops[i]?=O o->∀e∈o.after.toList,Region.binds .any e=J->a.getD e.on U=J:=by
   intro i L;rw[←z,Hs,D2]at L;let⟨h1,H⟩:=L;simp only[y_,qb4]at H;refine⟨h1,H.1,λo r e D m=>?_⟩;have I:=H.2;rw[r]at I;simp only[G9,jn]at I;rw[qcI]at I
   grind
  have S:rs≠[]:=by
   have hu:GZ ops.size a≠[]:=jw;let⟨F,tl,n⟩:=qdb hu;have M:F∈GZ ops.size a:=by rw[n];simp
   have d:=M;rw[GZ,Hs,D2]at d;have g:F∈rs:=by
    rw[←z,Hs,D2];refine⟨d.1,?_⟩;simp only[y_];refine⟨d.2,?_⟩;have r:ops[F]?=O ops[F]:=by simp[d.1]
    rw[r];simp only[G9,jn];rw[qcI];intro e D;cases m:Region.binds .any e with
    |false=>simp
    |true=>
     have ag:=Dd c r (by simpa using D) m;simp only[Fv,qcv];by_cases ad:a.getD e.on J=J
     .grind
     .exfalso;have E:e.on∈GZ ops.size a:=by
       rw[GZ,Hs,D2]
       grind
      rw[n]at E;rcases Fy.1 E with E|E
      .omega
      .have hs:(GZ ops.size a).Pairwise (· < ·):=qc2 _ qbt;rw[n,MB]at hs
       grind
   grind
  have b:0<W rs:=qbG.2 S;have v:rs[t%rs.length]?=O (rs[t%rs.length]'(VN _ b)):=Gn (VN _ b);rw[v];simp only;generalize L:rs[t%rs.length]'(VN _ b)=i;have g:i∈rs:=jw;let⟨i1,i2,i3⟩:=f i g;rw[linearise_go_acc,List.reverse_singleton,List.singleton_append];have P:i∈(EW ops.size).filter λj=>!a.getD j J:=by simp_all
  let⟨q,post,G,e2,e3⟩:=ji qcA P;have w:=oB G;have l:GZ ops.size (a.setIfInBounds i J)=q++post:=by
   rw[←e2];unfold GZ;refine qdo λj hj=>?_;rw[h7,h7,aE]
   grind
  have R:=sU (C:=C) (B:=B) (b_:=b_) (ops:=ops) (i:=i) (post:=post) q (λk hk g9 X p Y Z=>by
   let⟨m1,m2⟩:=e3 k hk;rw[Hs,D2]at m1;have ha:ops[k]?=O ops[k]:=by simp[m1.1]
   have m:ops[i]?=O ops[i]:=by simp[i1]
   rcases De c m ha (w k hk)with s|K
   .exfalso;have:=se u s i3
    grind
   .exact z0 hN ha m K Y Z) g9 p
  let⟨X,Y,Z⟩:=R (by rw[←G];exact h);refine⟨X,Y,r2 hN c fuel _ _ (by simp[T]) ?_ ?_ X p (by rw[l];exact Z)⟩
  .rw[l];have:W (GZ ops.size a)=W (q++post)+1:=by show(List.filter _ _).length=_;rw[G];simp;omega
   omega
  .intro x o hx r e D m;have A:∀y,a.getD y U=J->(a.setIfInBounds i J).getD y U=J:=by
    intro y hy;rw[h7]at hy ⊢;rw[aE]
    grind
   by_cases V:x=i
   .simp_all
   .refine A _ (u x o ?_ r e D m);rw[h7,aE,ts (λe=>V e.symm)]at hx
    simp_all
def any_ok(d:FM N B)(a:xJ N b_ ops=J){g9 b:St}(h:bw C B b_ ops (EW ops.size) g9 b):eS C B b_ ops g9 b:=by
 refine .inl λt=>?_;have c:GZ ops.size (Array.replicate ops.size U)=EW ops.size:=by
  unfold GZ
  simp_all
 refine r2 d a ops.size t (Array.replicate ops.size U) d_ (by rw[c];simp) (λx o g f=>?_) g9 b (by rw[c];exact h);have e:x<ops.size:=(MD.1 f).1
 simp_all
end
end Sx
namespace Sx
section
variable [El] [E_] {C:p_}
def Lo(v:FO):Prop:=match v with
 | EQ (O p)=>p.spot=O 0
 |_=>True
def BJ{v:TV}(h:plain v=J):Lo v:=by
 cases v<;>try trivial
 rename_i a
 cases a<;>first|trivial|(simp[plain,kL,scalar,kf]at h)
def S4{a:TC}{v:TV}(h:Lo v):Lo (kz a v):=by
 unfold kz
 repeat' split
 all_goals first|exact h|trivial
def Ls(b:TC)(g9:St):Prop:=∀a∈b,∀v,g9.tmps[a]?=O v->Lo v
def xq(N:Tc)(b_ a:TC)(o:FQ):Bool:=
 (match aC N b_ o with
 |O .no=>J
 |O (.row _ _)=>J
 |O (.neu _)=>J
 |_=>U) &&
 match o.dst with
 |O d=>!a.contains d||(Nat.beq (b_.getD d 0) (d+2)&&match o.op with
  | .alloc _=>J
  | .box _ _=>J
  |_=>U)
 |Q=>J
def ID(N:Tc)(b_ c:TC):Code->Bool
 | .skip | .label _ | .ret | .exit _=>J
 | .seq a b=>ID N b_ c a&&ID N b_ c b
 | .cond _ a b=>ID N b_ c a&&ID N b_ c b
 | .block _ b=>ID N b_ c b
 | .loop b=>ID N b_ c b
 | .scope b=>ID N b_ c b
 | .region _ ops _=>ops.toList.all (xq N b_ c)
 |_=>U
def K8(N:Tc)(b_:TC)(o:FQ):Bool:=match aC N b_ o with
 |O .no=>J
 |O (.row _ _)=>J
 |O (.neu _)=>J
 |O .hr=>J
 |_=>U
def F'(N:Tc)(b_:TC):Code->Bool
 | .skip | .label _ | .ret | .exit _=>J
 | .seq a b=>F' N b_ a&&F' N b_ b
 | .cond _ a b=>F' N b_ a&&F' N b_ b
 | .block _ b=>F' N b_ b
 | .loop b=>F' N b_ b
 | .scope b=>F' N b_ b
 | .region _ ops _=>ops.toList.all (K8 N b_)
 |_=>U
def iY(l:List ResultVar):TC:=l.filterMap λr=>match r with
 | .cell a _=>O a
 | .tmp _=>Q
def Nf(N:Tc)(C:p_)(f:TT)(n:Nat):Bool:=
 match C.P.funcs[f]? with
 |O c=>match c.body with
  |O b=>match Nat.beq (n%2) 0 with
   |J=>ID N (C.b_ f) (iY c.results.toList) b&&(iY c.results.toList).all λa=>Nat.ble (n / 2) a
   |U=>C.opq f||F' N (C.b_ f) b
  |Q=>U
 |Q=>U
def xw{b_:TC}{d:Nat}{t:TS}{v:TV}{e:FY}(b:b_.getD d 0=d+2)(a:cM C b_ (O d) t v=O e):∃s vs,e = .H6 s vs:=by
 unfold cM at a
 grind
def BO{b:TC}{g9 j8:St}{dst:Tq}{v:TV}(h:Ls b g9)(f:j8.tmps=g9.tmps)(g:(∀d,dst=O d->d∉b)∨Lo v):Ls b (j8.put dst v):=by
 intro a e x c;cases dst with
 |none=>exact h a e x (by rw[←f];exact c)
 |some d=>
  simp only[St.put,Kk,f]at c;split at c
  .simp_all
  .exact h a e x c
def BZ{N:Tc}{B:Below}(I:FM N B){b_ b:TC}{ops:To}(l:ops.toList.all (xq N b_ b)=J){i:Nat}{g9 m:St}(k:Ls b g9)(h:ar C B b_ ops i g9 m) :
  m.heap=g9.heap/\Ls b m/\∀H,ar C B b_ ops i { g9 with heap:=H } { m with heap:=H }:=by
 cases n:ops[i]? with
 |none=>
  have:m=g9:=by simpa[ar,n]using h
  subst this;exact⟨rfl,k,λH=>by simp[ar,n]⟩
 |some o=>
  have y:xq N b_ b o=J:=D7.1 l o (by grind)
  unfold xq at y;rw[y_]at y;let⟨X,q⟩:=y;have L:aC N b_ o≠Q:=jw;obtain⟨e,rfl,T,R⟩:=jM I n L h;have D:e.hp=Q:=by
   cases K:e.hp with
   |none=>rfl
   |some x=>
    have:=T.2 (by rw[K];simp)
    simp_all
  refine⟨by rw[eI,D];rfl,?_,λH=>?_⟩
  .by_cases g:∀d,o.dst=O d->d∉b
   .unfold Ef.on;exact BO k rfl (.inl g)
   · -- a local row is laid
    let⟨d,g⟩:=Classical.not_forall.1 g;let⟨c,g⟩:=Classical.not_imp.1 g;have g:=Classical.not_not.1 g;rw[c]at q;simp only[qcx,g,decide_true,Fv,qcv,y_]at q;have E:b_.getD d 0=d+2:=by simpa using q.1
    unfold ar at h;simp only[n]at h;split at h
    .exact h.elim
    .rw[h];exact BO k rfl (.inr trivial)
    .rcases h with⟨G,j,u⟩|⟨v,j,u⟩
     .have w:∃s F,G = .H6 s F:=by
       have o3:=q.2;let⟨dst,S,Y,pos,r,guard⟩:=o;simp only at c o3;subst c;cases S<;>first|cases o3|skip
       .simp only[aA]at j;let⟨z,_,P⟩:=GY.1 j;exact xw E P
       .exact xw E j
      obtain⟨s,F,rfl⟩:=w;let⟨p,f,A⟩:=u;rw[A];simp only[aZ]at f;split at f
      .cases f;exact BO k rfl (.inr rfl)
      .cases f
     .rw[u];exact BO k rfl (.inr (BJ j.2.2.1))
  .have M:EP N b_ ops o g9 { g9 with heap:=H }:=by
    refine⟨λt _=>rfl,?_⟩
    grind
   have:=R _ M;have V:e.on o.dst { g9 with heap:=H } = { e.on o.dst g9 with heap:=H }:=by unfold Ef.on;rw[D];cases o.dst<;>rfl
   simp_all
def zh{N:Tc}{B:Below}(e:FM N B){b_ b:TC}{ops:To}(a:ops.toList.all (xq N b_ b)=J):∀(l:TC) {g9 c:St},Ls b g9->bw C B b_ ops l g9 c->
  c.heap=g9.heap/\Ls b c/\∀H,bw C B b_ ops l { g9 with heap:=H } { c with heap:=H }
 | [],g9,c,d,h=>by have:c=g9:=h;subst this;exact⟨rfl,d,λH=>rfl⟩
 |i::l,g9,c,d,⟨q,o,p⟩=>by let⟨f,g,j⟩:=BZ e a d o;let⟨k,m,n⟩:=zh e a l g p;exact⟨k.trans f,m,λH=>⟨_,j H,n H⟩⟩
def tt{b:TC}{g9 c:St}(k:Ls b g9)(h:gG g9 c):Ls b c:=by
 intro a j v d;let⟨_,_,m,g⟩:=h;have l:a<W c.tmps:=(qbS.1 d).1;have f:g9.tmps[a]?=O (g9.tmps[a]'(by omega)):=Gn _;rcases g a _ _ f d with e|⟨_,i,_⟩
 .rw[e];exact k a j _ f
 .exact BJ i
def oM{g9 a:St}(h:gG g9 a)(H:Tu):gG { g9 with heap:=H } { a with heap:=H }:=⟨h.1,rfl,h.2.2.1,h.2.2.2⟩
def Bq{N:Tc}{B:Below}(f:FM N B){b_ b:TC}{ops:To}(a:ops.toList.all (xq N b_ b)=J):∀(l:TC) {g9 c:St},Ls b g9->gc C B b_ ops l g9 c->
  c.heap=g9.heap/\Ls b c/\∀H,gc C B b_ ops l { g9 with heap:=H } { c with heap:=H }
 | [],g9,c,e,h=>by have:c=g9:=h;subst this;exact⟨rfl,e,λH=>rfl⟩
 |i::l,g9,c,e,⟨s,r,d,p,q⟩=>by let⟨g,j,k⟩:=BZ f a (tt e d) p;let⟨m,n,o⟩:=Bq f a l j q;exact⟨m.trans (g.trans d.2.1),n,λH=>⟨_,_,oM d H,k H,o H⟩⟩
def Yg{b:TC}{g9:St}{c:TC}(d:Ls b g9):Ls b (g9.clear c):=by
 unfold St.clear;split
 .exact d
 .intro a f v e;simp only[GL,FD]at e;obtain⟨x,g,rfl⟩:=e;exact S4 (d a f x g)
def N_(g9:St)(a:TC)(H:Tu):St.clear { g9 with heap:=H } a = { g9.clear a with heap:=H }:=by unfold St.clear;split<;>rfl
def Aj(g9:St)(a:TC):(g9.clear a).heap=g9.heap:=by unfold St.clear;split<;>rfl
def Dh{g9:St}{r:ResultVar}{b:TC}(e:Ls b g9)(d:∀a∈iY [r],a∈b)(H:Tu):gh C { g9 with heap:=H } r=gh C g9 r:=by
 cases r with
 |tmp t=>rfl
 |cell a t=>
  have f:a∈b:=d a (by simp[iY]);unfold gh;simp only;cases c:g9.tmps[a]? with
  |none=>simp[List.getD_eq_getElem?_getD,c,undef]
  |some v=>
   have:=e a f v c;simp only[List.getD_eq_getElem?_getD,c,jn];cases v<;>try rfl
   rename_i p
   cases p with
   |none=>rfl
   |some p=>have g:p.spot=O 0:=this;simp only[g]
def ry{g9:St}{b:TC}(d:Ls b g9)(H:Tu):∀(l:List ResultVar),(∀a∈iY l,a∈b)->dq C { g9 with heap:=H } l=dq C g9 l
 | [],_=>rfl
 |r::l,c=>by have e:=Dh (C:=C) (r:=r) d (λa h=>c a (by cases r<;>simp[iY]at h ⊢;exact .inl h)) H;have f:=ry d H l (λa h=>c a (by cases r<;>simp[iY]at h ⊢<;>first|exact h|exact .inr h));simp only[dq,e,f]
def ek{N:Tc}{b_ b:TC}{o:FQ}(h:dJ b_ o=J)(f:xq N b_ b o=J):False:=by
 have i:aC N b_ o=O .hw:=by
  let⟨dst,g,j,pos,a,guard⟩:=o;cases g<;>simp only[dJ,FG]at h<;>first|rfl|skip
  .cases dst with
   |none=>cases h
   |some d=>simp only[aC];rw[ts (λe=>by simp_all)]
  .cases dst with
   |none=>cases h
   |some d=>simp only[aC];rw[ts (λe=>by simp_all)]
  next c=>
   simp only[aC]
   grind
 unfold xq at f
 simp_all
def Sb{N:Tc}{B:Below}(f:FM N B){b_:TC}{ops:To}(a:ops.toList.all (K8 N b_)=J){i:Nat}{g9 c:St}(h:ar C B b_ ops i g9 c):c.heap=g9.heap:=by
 cases d:ops[i]? with
 |none=>
  have:c=g9:=by simpa[ar,d]using h
  rw[this]
 |some o=>
  have b:K8 N b_ o=J:=D7.1 a o (by grind)
  have k:aC N b_ o≠Q:=by intro e;unfold K8 at b;rw[e]at b;cases b
  obtain⟨e,rfl,l,_⟩:=jM f d k h;have j:e.hp=Q:=by
   cases g:e.hp with
   |none=>rfl
   |some x=>
    have:=l.2 (by rw[g];simp);unfold K8 at b
    simp_all
  rw[eI,j];rfl
def w0{N:Tc}{B:Below}(b:FM N B){b_:TC}{ops:To}(a:ops.toList.all (K8 N b_)=J):∀(l:TC) {g9 c:St},bw C B b_ ops l g9 c->c.heap=g9.heap
 | [],_,_,h=>by cases h;rfl
 |_::l,_,_,⟨_,h1,d⟩=>(w0 b a l d).trans (Sb b a h1)
def Rn{N:Tc}{B:Below}(b:FM N B){b_:TC}{ops:To}(a:ops.toList.all (K8 N b_)=J):∀(l:TC) {g9 c:St},gc C B b_ ops l g9 c->c.heap=g9.heap
 | [],_,_,h=>by cases h;rfl
 |_::l,_,_,⟨_,_,h0,h1,d⟩=>(Rn b a l d).trans ((Sb b a h1).trans h0.2.1)
def new_rd{N:Tc}{b_:TC}{o:FQ}(h:dJ b_ o=J)(b:K8 N b_ o=J):False:=by
 have g:aC N b_ o=O .hw:=by
  let⟨dst,f,i,pos,a,guard⟩:=o;cases f<;>simp only[dJ,FG]at h<;>first|rfl|skip
  .cases dst with
   |none=>cases h
   |some d=>simp only[aC];rw[ts (λe=>by simp_all)]
  .cases dst with
   |none=>cases h
   |some d=>simp only[aC];rw[ts (λe=>by simp_all)]
  next c=>
   simp only[aC]
   grind
 unfold K8 at b
 simp_all
def sV{N:Tc}(hN:∀f n,N f=O n->Nf N C f n=J)(hk:∀f args H r H',E_.kh f args H r H'->N f=Q∨(N f=O (2*W args+1)/\H'=H)):∀n,(FM N (sm C n).toBelow/\∀b_ c,F' N b_ c=J->∀g9 e p,(sm C n).ex b_ c g9 e p->p.heap=g9.heap)/\
  ∀b_ j c,ID N b_ j c=J->∀g9 e p,Ls j g9->(sm C n).ex b_ c g9 e p->p.heap=g9.heap/\Ls j p/\∀H,(sm C n).ex b_ c { g9 with heap:=H } e { p with heap:=H }
 |0=>⟨⟨⟨λf args H r H' M h=>(by
   rcases h with h|h
   .exact⟨h.2,λV=>.inl ⟨h.1,rfl⟩⟩
   grind),λf args H r H' M h=>(by
   rcases h with h|h
   .exact h.2
   grind)⟩,λ_ _ _ _ _ _ h=>absurd h id⟩,λ_ _ _ _ _ _ _ _ h=>absurd h id⟩
 |n+1=>by
  let⟨⟨y,F⟩,i⟩:=sV hN hk n;refine⟨⟨⟨λf args H r H' M h=>?_,λf args H r H' M h=>?_⟩,λb_ c d g9 e p h=>?_⟩,λb_ j c d g9 e p s h=>?_⟩
  rotate_left
  .rcases h with h|⟨Z,b,e,g9,vs,X,Y,c3,c4,c5,c6,c7,c8,c9⟩
   .rcases h with h|h
    .exact h.2
    grind
   .have G:=hN f _ M;have ad:=(qbM.1 c3).2;unfold Nf at G;have R:Nat.beq ((2*W args+1)%2) 0=U:=by rw[show(2*W args+1)%2=1 by omega];rfl
    simp only[X,Y,R,ad,qcv]at G;exact c9.trans (F _ _ G _ _ _ c4)
  .have h:qD C (sm C n) b_ c g9 e p:=h;cases c with
   |skip=>obtain⟨rfl,rfl⟩:=h;rfl
   |label l=>obtain⟨rfl,rfl⟩:=h;rfl
   |ret=>obtain⟨rfl,rfl⟩:=h;rfl
   |exit id=>obtain⟨rfl,rfl⟩:=h;rfl
   |seq a b=>
    simp only[F',y_]at d;let⟨T,j9,g,k⟩:=h
    grind
   |cond x a b=>
    simp only[F',y_]at d;let⟨t,g,k⟩:=h
    grind
   |block id b=>obtain⟨T,g,rfl⟩:=h;exact F b_ b d _ _ _ g
   |scope b=>exact F b_ b d _ _ _ h
   |loop b=>
    let⟨T,j9,g,k⟩:=h;have u:=F b_ b d _ _ _ g;rw[Aj]at u
    grind
   |region id q w=>
    obtain⟨rfl,E⟩:=h;cases w with
    |true=>
     obtain⟨K,L,g⟩ : ∃K,gG g9 K/\eS C (sm C n).toBelow b_ q K p:=E;rcases g with g|⟨sl,m,q1,_⟩
     .exact(w0 y d _ (g 0)).trans L.2.1
     .exfalso;let⟨o,o1,o2⟩:=qcn.1 q1;exact new_rd o2 (D7.1 d o o1)
    |false=>have E:gc C (sm C n).toBelow b_ q (EW q.size) g9 p:=E;exact Rn y d _ E
   |_=>cases d
  rotate_right
  .rcases h with h|⟨Z,b,e,g9,vs,X,Y,c3,c4,c5,c6,c7,c8,c9⟩
   .rcases h with h|h
    .exact⟨h.2,λV=>.inl (.inl ⟨h.1,rfl⟩)⟩
    grind
   .have G:=hN f _ M;unfold Nf at G;have ag:Nat.beq (2*W args%2) 0=J:=by simp_all
    simp only[X,Y,ag,y_,D7,show 2*W args / 2=W args by omega]at G;have s:Ls (iY Z.results.toList) (oA Z args H):=by
     intro a ha v S;have al:W args<=a:=by simpa using G.2 a ha
     simp only[oA]at S;rw[K0 al,ay]at S;split at S
     .cases S;trivial
     .cases S
    let⟨d1,d2,d3⟩:=i _ _ _ G.1 _ _ _ s c4;refine⟨c9.trans d1,λV=>.inr ⟨Z,b,e,_,vs,X,Y,c3,d3 V,c5,?_,c7,c8,rfl⟩⟩;rw[ry d2 V _ (λa h=>h)];exact c6
  .have h:qD C (sm C n) b_ c g9 e p:=h;show _/\_/\∀H,qD C (sm C n) b_ c { g9 with heap:=H } e { p with heap:=H };cases c with
   |skip=>obtain⟨rfl,rfl⟩:=h;exact⟨rfl,s,λH=>⟨rfl,rfl⟩⟩
   |label l=>obtain⟨rfl,rfl⟩:=h;exact⟨rfl,s,λH=>⟨rfl,rfl⟩⟩
   |ret=>obtain⟨rfl,rfl⟩:=h;exact⟨rfl,s,λH=>⟨rfl,rfl⟩⟩
   |exit id=>obtain⟨rfl,rfl⟩:=h;exact⟨rfl,s,λH=>⟨rfl,rfl⟩⟩
   |seq a b=>
    simp only[ID,y_]at d;let⟨T,j9,g,k⟩:=h;let⟨u,z,I⟩:=i _ _ _ d.1 _ _ _ s g;rcases k with⟨rfl,k⟩|⟨k,rfl,rfl⟩
    .obtain⟨A,B,D⟩:=i _ _ _ d.2 _ _ _ z k;exact⟨A.trans u,B,λH=>⟨_,_,I H,.inl ⟨rfl,D H⟩⟩⟩
    .exact⟨u,z,λH=>⟨_,_,I H,.inr ⟨k,rfl,rfl⟩⟩⟩
   |cond x a b=>
    simp only[ID,y_]at d;let⟨t,g,k⟩:=h;cases t with
    |true=>let⟨A,B,D⟩:=i _ _ _ d.1 _ _ _ s k;exact⟨A,B,λH=>⟨J,g,D H⟩⟩
    |false=>let⟨A,B,D⟩:=i _ _ _ d.2 _ _ _ s k;exact⟨A,B,λH=>⟨U,g,D H⟩⟩
   |block id b=>obtain⟨T,g,rfl⟩:=h;let⟨A,B,D⟩:=i b_ j b d _ _ _ s g;exact⟨A,B,λH=>⟨_,D H,rfl⟩⟩
   |scope b=>exact i b_ j b d _ _ _ s h
   |loop b=>
    let⟨T,j9,g,k⟩:=h;let⟨u,z,I⟩:=i b_ j b d _ _ _ (Yg s) g;rw[Aj]at u;rcases k with⟨rfl,k⟩|⟨k,rfl,rfl⟩
    .obtain⟨A,B,D⟩:=i b_ j (.loop b) d _ _ _ z k;exact⟨A.trans u,B,λH=>⟨_,_,by rw[N_];exact I H,.inl ⟨rfl,D H⟩⟩⟩
    .exact⟨u,z,λH=>⟨_,_,by rw[N_];exact I H,.inr ⟨k,rfl,rfl⟩⟩⟩
   |region id q w=>
    obtain⟨rfl,E⟩:=h;cases w with
    |true=>
     obtain⟨K,L,g⟩ : ∃K,gG g9 K/\eS C (sm C n).toBelow b_ q K p:=E;have P:=tt s L;rcases g with g|⟨sl,m,q1,_⟩
     case inr=>exfalso;let⟨o,o1,o2⟩:=qcn.1 q1;exact ek o2 (D7.1 d o o1)
     let⟨u,z,_⟩:=zh y d _ P (g 0);refine⟨u.trans L.2.1,z,λH=>⟨rfl,⟨_,oM L H,.inl λt=>?_⟩⟩⟩;exact(zh y d _ P (g t)).2.2 H
    |false=>have E:gc C (sm C n).toBelow b_ q (EW q.size) g9 p:=E;let⟨u,z,I⟩:=Bq y d _ s E;exact⟨u,z,λH=>⟨rfl,I H⟩⟩
   |_=>cases d
def dr_ok{N:Tc}(b:∀f n,N f=O n->Nf N C f n=J)(c:∀f args H r H',E_.kh f args H r H'->N f=Q∨(N f=O (2*W args+1)/\H'=H))(b_:TC)(ops:To)(h:xJ N b_ ops=J)(n:Nat)(g9 a:St)(d:bw C (sm C n).toBelow b_ ops (EW ops.size) g9 a) :
  eS C (sm C n).toBelow b_ ops g9 a:=any_ok (sV b c n).1.1 h d
end
end Sx
def LK.plain:LK->Bool
 | .v=>U
 |_=>J
def SK.plain:SK->Bool
 | .leaf k=>k.plain
 | .agg ks=>ks.all LK.plain
def Ko.plain(s:Ko):Bool:=s.ps.all SK.plain&&s.rs.all SK.plain
namespace Sx
section
variable [El] [E_]
variable {w:TG}
def zi(k:TN)(c:Int)(K:Int->RT):L4 k c K=K (k.wrap c):=by
 unfold L4;cases e:Hx k c with
 |true=>rw[wA e]
 |false=>exact lS _ _
def DC(c:Int)(K:Int->RT):hq c K=K (IntKind.wrap DQ c):=by refine Eq.trans ?_ (zi DQ c K);cases c<;>rfl
def DD(c:Int)(K:Int->RT):g3 c K=K (IntKind.wrap DU c):=by refine Eq.trans ?_ (zi DU c K);cases c<;>rfl
def rl(k:TN)(c:Int)(K:Int->RT):Kg k c K=K (k.wrap c):=by cases k<;>first|exact zi _ _ _|exact DC _ _|exact DD _ _
def v4(a b:Int)(K:Int->RT):addK a b K=K (a+b):=by
 unfold addK;cases a with
 |ofNat m=>
  cases b with
  |ofNat n=>exact congrArg K rfl
  |negSucc n=>
   simp only[eW];cases e:Nat.blt n m with
   |true=>rw[IV]at e;grind
   |false=>
    have e:¬n<m:=λh=>by rw[←IV,e]at h;cases h
    grind
 |negSucc m=>
  cases b with
  |ofNat n=>
   simp only[eW];cases e:Nat.blt m n with
   |true=>rw[IV]at e;grind
   |false=>
    have e:¬m<n:=λh=>by rw[←IV,e]at h;cases h
    grind
  |negSucc n=>exact congrArg K (show Int.negSucc (m+n+1)=Int.negSucc m+Int.negSucc n by omega)
def w2(a b:Int)(K:Int->RT):subK a b K=K (a-b):=by
 unfold subK;cases a with
 |ofNat m=>
  cases b with
  |ofNat n=>
   simp only[eW];cases e:Nat.ble n m with
   |true=>rw[Lj]at e;grind
   |false=>
    have e:¬n<=m:=λh=>by rw[←Lj,e]at h;cases h
    grind
  |negSucc n=>exact congrArg K (show DO (m+n+1)=DO m-Int.negSucc n by grind)
 |negSucc m=>
  cases b with
  |ofNat n=>exact congrArg K (show Int.negSucc (m+n)=Int.negSucc m-DO n by grind)
  |negSucc n=>
   simp only[eW];cases e:Nat.ble m n with
   |true=>rw[Lj]at e;grind
   |false=>
    have e:¬m<=n:=λh=>by rw[←Lj,e]at h;cases h
    grind
def ez(a b:Int)(K:Int->RT):mulK a b K=K (a*b):=by
 unfold mulK;cases a with
 |ofNat m=>
  cases b with
  |ofNat n=>exact congrArg K rfl
  |negSucc n=>
   cases m with
   |zero=>exact congrArg K (show DO 0=DO 0*Int.negSucc n by simp)
   |succ m=>
    refine congrArg K (show Int.negSucc ((m+1)*n+m)=DO (m+1)*Int.negSucc n from ?_)
    grind
 |negSucc m=>
  cases b with
  |ofNat n=>
   cases n with
   |zero=>exact congrArg K (show DO 0=Int.negSucc m*DO 0 by simp)
   |succ n=>
    refine congrArg K (show Int.negSucc (m*(n+1)+n)=Int.negSucc m*DO (n+1)from ?_)
    grind
  |negSucc n=>
   refine congrArg K (show DO ((m+1)*(n+1))=Int.negSucc m*Int.negSucc n from ?_)
   grind
def r4(a b:Int)(K:Int->RT):quoK a b K=K (Int.tdiv a b):=by
 unfold quoK;cases a with
 |ofNat m=>
  cases b with
  |ofNat n=>exact congrArg K rfl
  |negSucc n=>exact lS _ _
 |negSucc m=>exact lS _ _
def c9(a b:Int)(K:Int->RT):remK a b K=K (Int.tmod a b):=by
 unfold remK;cases a with
 |ofNat m=>
  cases b with
  |ofNat n=>exact congrArg K rfl
  |negSucc n=>exact lS _ _
 |negSucc m=>exact lS _ _
def wR{b:Int}(h:isZ b=U):b≠0:=by intro e;subst e;cases h
def Ps{k:TN}{c:Int}{K:Int->RT}(h:Kg k c K=O w):K (k.wrap c)=O w:=(rl k c K).symm.trans h
def f0{d:GO}{k:TN}{a b:Int}{K:Int->RT}(h:ariB d k a b K=O w):∃n,tI d k a b n/\K n=O w:=by
 cases d<;>simp only[ariB,reduceCtorEq]at h
 .rw[v4,rl]at h;exact⟨_,λP t w=>by simp[binOp,Op.intArith],h⟩
 .rw[w2,rl]at h;exact⟨_,λP t w=>by simp[binOp,Op.intArith],h⟩
 .rw[ez,rl]at h;exact⟨_,λP t w=>by simp[binOp,Op.intArith],h⟩
 .cases c:isZ b with
  |true=>rw[c]at h;cases h
  |false=>rw[c]at h;simp only[r4,rl]at h;have c:=wR c;exact⟨_,λP t w=>by simp[binOp,Op.intDiv,c],h⟩
 .cases c:isZ b with
  |true=>rw[c]at h;cases h
  |false=>rw[c]at h;simp only[c9]at h;have c:=wR c;exact⟨_,λP t w=>by simp[binOp,Op.intDiv,c],h⟩
 .split at h
  next c=>have c:=Pf.1 c;subst c;rw[lS]at h;exact⟨_,rz rfl,h⟩
  .split at h
   .rw[lS]at h;exact⟨_,zy _ _,Ps h⟩
   .cases h
 .split at h
  .rw[lS]at h;exact⟨_,Dl _ _,Ps h⟩
  .cases h
 .split at h
  .rw[lS]at h;exact⟨_,zC _ _,Ps h⟩
  .cases h
def eqI_eq(x y:Int):eqI x y=(x==y):=by rw[h9,Pf,beq_iff_eq]
def yx(x y:Int):YL x y=(x==y):=by rw[←eqI_eq];cases x<;>cases y<;>rfl
def leZ_eq(x y:Int):y3 x y=decide (x<=y):=by rw[h9,P2,decide_eq_true_iff]
def eL(b:Bool):Z7 b = !b:=by cases b<;>rfl
def xf{c:GO}{a b:Int}{K:Bool->RT}(h:cmpB c a b K=O w):∃t,sq c a b=O t/\K t=O w:=by
 cases c<;>simp only[cmpB,reduceCtorEq,yx,leZ_eq,eL]at h
 .exact⟨_,rfl,h⟩
 .exact⟨_,rfl,h⟩
 .exact⟨_,rfl,by rw[show decide (a<b) = !decide (b<=a)by grind];exact h⟩
 .exact⟨_,rfl,h⟩
 .exact⟨_,rfl,by rw[show decide (a > b) = !decide (a<=b)by grind];exact h⟩
 .exact⟨_,rfl,h⟩
def p6(a b:Lf):M4 a b=iP a b:=by
 cases a<;>cases b<;>try rfl
 .exact yx _ _
 next x y=>cases x<;>cases y<;>rfl
def ec(l:List (Lf×Lf)):eqsV l=cz l:=by
 unfold cz
 induction l with
 |nil=>rfl
 |cons p l a=>show(Bool.rec U (eqsV l) (M4 p.1 p.2):Bool)=_;rw[p6,j3,a];cases iP p.1 p.2<;>rfl
def eV{l:List (Lf×Lf)}{K:Bool->RT}(h:eqsB l K=O w):K (cz l)=O w:=by rw[←ec];exact h
structure Gb(C:p_)(Sg:Td)(T:Tv)(call:gk):Prop where
 f:∀g ls h K w,en ls->call (.f g) ls h K=some w->∃rs h',aD C Sg g ls (h_ T (EV h)) rs (h_ T (EV h'))/\K rs h'=some w
 y:∀m8 vs l ls h K w st pd xs,h.at l=some (.lp m8 st pd vs)->Told ((T m8).params.map (·.2)) ls xs->call (.y m8 vs l) ls h K=some w->
  ∃b h',iO C l (ao xs) (h_ T (EV h)) (.bool b) (h_ T (EV h'))/\K [.b b] h'=some w
def qJ(T:Tv)(h:HL):w_ T h=λi=>(h_ T h)[i]?:=by
 funext i
 simp only[w_,h_,GL];cases h[i]?<;>rfl
def gC(T:Tv)(h:C8):KK T h=λi=>(h_ T (EV h))[i]?:=by
 funext i
 simp only[KK,h_,GL,ob,Option.map_map];cases h.at i<;>rfl
def pK(T:Tv)(h:C8):KK T h=w_ T (EV h):=(gC T h).trans (qJ T (EV h)).symm
def qI{T:Tv}{h:C8}{i:Nat}{x:Hw}(e:h.at i=O x):w_ T (EV h) i=O (G0 T x.ho):=by rw[←pK];unfold KK;rw[e]
def jG(T:Tv)(h:HL):W (h_ T h)=W h:=by simp[h_]
def lH(T:Tv)(h:HL)(i:Nat)(o:HO):h_ T (h.set i o)=(h_ T h).set i (G0 T o):=by simp[h_,qdH]
def lG(T:Tv)(h:HL)(o:HO):h_ T (h++[o])=h_ T h++[G0 T o]:=by simp[h_]
def mU(T:Tv):∀(l:List Er) (h:HL),h_ T (bJ h l)=iK (h_ T h) l
 | [],h=>rfl
 |a::l,h=>by
  have b:=mU T l (a.onH h);show h_ T (bJ (a.onH h) l)=iK (a.on (h_ T h)) l;rw[b]
  congr 1
  cases a with
  |set i o=>exact lH T h i _
  |push o=>exact lG T h _
def tK:∀ {l:List Er} {h:C8} {k:C8->RT},Co l h k=O w->∃h',EV h'=bJ (EV h) l/\k h'=O w
 | [],h,k,a=>⟨h,rfl,a⟩
 | .set i o::l,h,k,a=>by have a:(wT o λo=>G8 h i o λh=>Co l h k)=O w:=a;let⟨x,b,c⟩:=md (o:=o) (k:=λo=>G8 h i o λh=>Co l h k);rw[c,jA]at a;let⟨h',e,a⟩:=tK a;exact⟨h',by rw[e,jF,b];rfl,a⟩
 | .push o::l,h,k,a=>by have a:(wT o λo=>oY h o λh=>Co l h k)=O w:=a;let⟨x,b,c⟩:=md (o:=o) (k:=λo=>oY h o λh=>Co l h k);rw[c,jN]at a;let⟨h',e,a⟩:=tK a;exact⟨h',by rw[e,jV,b];rfl,a⟩
def BY(s:Ts):gy s=(s != O 0):=by
 cases s with
 |none=>rfl
 |some k=>cases k<;>rfl
def AH(v:TV):LL v=aH v:=by
 unfold LL;split
 next a=>rw[BY];simp[aH,q8,aW,bG,bu,aR,aL]
 next a _ _=>rw[BY];simp[aH,q8,aW,bG,bu,aR,aL]
 .rfl
def yQ{j7:Type}(l:List j7):r0 l=W l:=by
 induction l with
 |nil=>rfl
 |cons a l b=>exact congrArg Nat.succ b
def ldB_ok{T:Tv}{n:Nat}{p:TV}{h:C8}{K:Tn->RT}(b:ldB n p h K=O w):∃cs,ldP n p (w_ T (EV h))=O cs/\K cs=O w:=by
 unfold ldB at b;split at b
 next a=>
  split at b
  next g=>
   split at b
   next m e i c f=>
    split at b
    next d=>rw[Lj]at d;refine⟨_,?_,b⟩;unfold ldP;simp only[g,iZ,qI f,Hw.ho,G0,Fj,cut];rw[rv (by rw[bv];exact d),mG c n a.off m d]
    .cases b
   .cases b
  .cases b
 .cases b
def lgB_ok{T:Tv}{C:p_}{n:Nat}{p:TV}{h:C8}{K:Tn->RT}(b:lgB C n p h K=O w):∃cs,lgP C n p (w_ T (EV h))=O cs/\K cs=O w:=by
 unfold lgB at b;split at b
 next a=>
  split at b
  next g=>
   split at b
   next m e o c f=>
    split at b
    next d=>rw[Lj]at d;refine⟨_,?_,b⟩;unfold lgP;simp only[g,iZ,qI f,Hw.ho,G0,Fj,cut];rw[rv (by rw[bv];exact d),mG c n a.off m d]
    .cases b
   .cases b
  next k g=>
   split at b
   next j=>
    split at b
    next q l=>
     split at b
     next cs i=>refine⟨cs,?_,b⟩;unfold lgP;simp only[g,j,l,Fj];rw[qr]at i;exact i
     .cases b
    .cases b
   .cases b
 .cases b
def stB_ok{T:Tv}{p:TV}{new:Tn}{h:C8}{K:Tn->C8->RT}{n0:Nat}(b:stB p new h K=O w) :
  ∃d cs h',NC p new (w_ T (EV h)) n0=O (d,cs)/\EV h'=bJ (EV h) d/\K cs h'=O w:=by
 unfold stB at b;split at b
 next a=>
  split at b
  next i=>
   split at b
   next m e c g=>
    split at b
    next f=>
     rw[Lj,yQ]at f;rw[qP,jA]at b;refine⟨[.set a.block (EJ (cQ (Iz new a.off c) m) e J)],[],_,?_,?_,b⟩
     .unfold NC;simp only[i,qI g,Hw.ho,G0,v_];rw[rv (by rw[bv];exact f),sj f];rfl
     .rw[jF];rfl
    .cases b
   .cases b
  .cases b
 .cases b
def Cb{s:Ts}{vd:Nat}:ck s vd=J↔s=le vd:=by
 unfold ck le;cases s with
 |none=>simp
 |some k=>simp_all
def slB_ok{C:p_}{T:Tv}{vd:Nat}{x:TV}{h:C8}{K:Tn->Nat->RT}(b:slB C T vd x h K=O w) :
  ∃l n,Xm C vd (w_ T (EV h)) x=O (l,n)/\K l n=O w:=by
 have d:∀ {x:TV},(match Xm C vd (KK T h) x with|O p=>K p.1 p.2|Q=>Q)=O w->∃l n,Xm C vd (w_ T (EV h)) x=O (l,n)/\K l n=O w:=by
  intro x b;split at b
  next p e=>
   rw[pK]at e
   grind
  .cases b
 unfold slB at b;split at b
 next a k q=>
  split at b
  next f=>
   have f:=Cb.1 f;split at b
   next m e o c j=>
    split at b
    next g i=>
     have g:=Fs g;rw[Lj]at i;subst g;refine⟨_,_,?_,b⟩;unfold Xm;simp only[qI j,Hw.ho,G0];rw[ts (by rw[f];simp[le]),rv f]
     first|rw[rv rfl]|rw[rv trivial]
     rw[cut,rv (by rw[bv];exact i),mG c _ a.off m i];rfl
    .cases b
   .cases b
  .exact d b
 .exact d b
def AJ{c:Tr FO}{m off a vd:Nat}{new:Tn}{k:Hw->RT}(f:off+a<=m)(b:PD c m off a vd new k=O w) :
  ∃x:Hw,x.ho = .o (EJ (((cQ c m).drop off).take a++new) vd J)/\k x=O w:=by
 unfold PD at b;split at b
 next d e=>have d:=Fs d;have e:=Fs e;subst d e;rw[qP,eW,yQ]at b;refine⟨_,?_,b⟩;show HO.o (EJ (cQ (Iz new a c) (a+W new)) vd J)=_;rw[qm,an,K5 (by rw[bv];omega)]
 .rw[mG c a off m f]at b;let⟨x,g,h⟩:=md (o:=EJ (((cQ c m).drop off).take a++new) vd J) (k:=k)
  grind
def apB_ok{C:p_}{T:Tv}{vd bytes:Nat}{s x:TV}{h:C8}{K:Tn->C8->RT}(b:apB T C vd bytes s x h K=O w) :
  ∃g cs h',Gx C vd bytes s x (w_ T (EV h)) (W (EV h))=O (g,cs)/\EV h'=bJ (EV h) g/\K cs h'=O w:=by
 let⟨f,n,v,b⟩:=slB_ok b;unfold Gx;rw[v,iI];simp only at b ⊢;split at b
 .cases n with
  |zero=>exact⟨_,_,h,rfl,rfl,b⟩
  |succ n=>
   simp only at b;split at b
   next G=>
    let⟨y,j,E⟩:=md (o:=.cells f vd J) (k:=λo=>oY h o λh'=>fN (n+1) λn=>K [DW (O ⟨h.n,0,le vd⟩) n 0] h');rw[E,jN,eW]at b;refine⟨[.push (.cells f vd J)],_,_,?_,?_,b⟩
    .simp_all
    .rw[jV,j];rfl
   .cases b
 next a d D _=>
  split at b
  .cases b
  next z=>
   have z:=Cb.1 z;split at b
   next m e F c t=>
    split at b
    next r A=>
     have r:=Fs r;rw[Lj]at A;subst r;have u:a.off+d*e<=m:=A;have l:cut (cQ c m) a.off (d*e)=O (((cQ c m).drop a.off).take (d*e)):=by rw[cut,rv (by rw[bv];exact u)]
     simp only[z,ne_eq,not_true_eq_false,if_false,qI t,Hw.ho,G0,l];cases D with
     |zero=>
      simp only at b ⊢;cases n with
      |zero=>exact⟨[],_,h,k_,rfl,b⟩
      |succ n=>
       simp only at b;split at b
       next B i=>let⟨y,j,b⟩:=AJ u b;rw[jA,jN,eW]at b;refine⟨[.set a.block .dead,.push (EJ (((cQ c m).drop a.off).take (d*e)++f) e J)],_,_,k_,?_,b⟩;rw[jV,jF,j];rfl
       .cases b
     |succ q=>
      simp only at b ⊢;split at b
      next p=>
       rw[Lj]at p;split at b
       next B i=>rw[Lj,yQ]at i;have i:a.off+d*e+W f<=m:=i;rw[qP,jA,eW]at b;refine⟨[.set a.block (EJ ((cQ c m).take (a.off+d*e)++f++(cQ c m).drop (a.off+d*e+W f)) e J)],_,_,by rw[rv p,rv rfl,v_,rv (by rw[bv];exact i)];rfl,?_,b⟩;rw[jF];show(EV h).set a.block (.o (EJ (cQ (Iz f (a.off+d*e) c) m) e J))=_;rw[sj i];rfl
       .cases b
      next p=>
       have p:¬d+n<=q:=λh=>by rw[←Lj,p]at h;cases h
       split at b
       next B=>let⟨y,j,b⟩:=AJ u b;rw[jN,eW]at b;refine⟨[.push (EJ (((cQ c m).drop a.off).take (d*e)++f) e J)],_,_,jw,?_,b⟩;rw[jV,j];rfl
       .cases b
    .cases b
   .cases b
 .cases b
def Y6{T:Tv}{f:Hp}{h:C8}{K:Tn->C8->RT}(a:PF T f h K=O w) :
  ∃b cs h',f.run (w_ T (EV h)) (W (EV h))=O (b,cs)/\EV h'=bJ (EV h) b/\K cs h'=O w:=by
 unfold PF at a;cases f with
 |st p g=>exact stB_ok (n0:=W (EV h)) a
 |ap C d bytes s x=>exact apB_ok a
 |fn f=>
  simp only at a;rw[pK]at a;split at a
  next p e=>rw[rq]at a;let⟨h',c,a⟩:=tK a;exact⟨p.1,p.2,h',by rw[iI];exact e,c,a⟩
  .cases a
def Sp{k:LK}{v:TV}{l:SL}(h:Xb k v=O l):l.is k=J/\l.val=v/\l.g_:=by
 cases k with
 |i k=>
  cases v<;>simp only[Xb]at h<;>first|cases h|skip
  split at h
  next e=>cases h;exact⟨e,rfl,trivial⟩
  .cases h
 |b=>cases v<;>simp only[Xb]at h<;>cases h;exact⟨rfl,rfl,trivial⟩
 |v=>
  simp only[Xb]at h;split at h
  next e=>cases h;exact⟨rfl,rfl,e⟩
  .cases h
def Cf:∀ {ks:TK} {vs:Tn} {xs:List SL},Sq ks vs=O xs->bf xs ks=J/\xs.map SL.val=vs/\∀x∈xs,x.g_
 | [],[],xs,h=>by cases h;exact⟨rfl,rfl,λ_ h=>by cases h⟩
 |k::ks,v::vs,xs,h=>by
  simp only[Sq]at h;split at h
  next x e=>
   split at h
   next ys c=>
    cases h;let⟨a1,a2,d⟩:=Sp e;let⟨a,b,f⟩:=Cf c;refine⟨by simp[bf,a1,a],by simp[a2,b],λy g=>?_⟩
    grind
   .cases h
  .cases h
 | [],_::_,_,h=>by cases h
 |_::_,[],_,h=>by cases h
def ca{d:SK}{v:TV}{x:S0}(h:toS0 d v=O x):x.is d=J/\x.val=v/\x.g_:=by
 cases d with
 |leaf k=>obtain⟨l,e,rfl⟩:=FD.1 h;let⟨a,b,c⟩:=Sp e;refine⟨a,b,λy f=>?_⟩;simp only[S0.cells,HN]at f;subst f;exact c
 |agg g=>
  cases v<;>simp only[toS0]at h<;>first|cases h|skip
  obtain⟨l,e,rfl⟩:=FD.1 h;let⟨a,b,c⟩:=Cf e;exact⟨a,by simp[S0.val,b],c⟩
def vJ:∀ {sks:TP} {vs:Tn} {xs:List S0},Mj sks vs=O xs->cJ xs sks=J/\ao xs=vs/\∀x∈xs,x.g_
 | [],[],xs,h=>by cases h;exact⟨rfl,rfl,λ_ h=>by cases h⟩
 |k::ks,v::vs,xs,h=>by
  simp only[Mj]at h;split at h
  next x e=>
   split at h
   next ys c=>
    cases h;let⟨a1,a2,d⟩:=ca e;let⟨b,a,f⟩:=vJ c;refine⟨by simp[cJ,a1,b],by simp only[ao,Fx,a2]at a ⊢;rw[a],λy g=>?_⟩
    grind
   .cases h
  .cases h
 | [],_::_,_,h=>by cases h
 |_::_,[],_,h=>by cases h
def Pg{a b:LK}(h:y4 a b=J):a=b:=by
 cases a<;>cases b<;>simp only[y4]at h<;>first|rfl|cases h|skip
 rw[dS h]
def Aw:∀ {a b:TK},Ph a b=J->a=b
 | [],[],_=>rfl
 |a::l,b::m,h=>by simp only[Ph,y_]at h;rw[Pg h.1,Aw h.2]
 | [],_::_,h=>by cases h
 |_::_,[],h=>by cases h
def p5{a b:SK}(h:eqSK a b=J):a=b:=by
 cases a<;>cases b<;>simp only[eqSK]at h<;>first|cases h|skip
 .rw[Pg h]
 .rw[Aw h]
def uf:∀ {a b:TP},LD a b=J->a=b
 | [],[],_=>rfl
 |a::l,b::m,h=>by simp only[LD,y_]at h;rw[p5 h.1,uf h.2]
 | [],_::_,h=>by cases h
 |_::_,[],h=>by cases h
def gP:∀ {ls:TG},kF ls=J->en ls
 | [],_=>λ_ h=>by cases h
 | .i n::ls,h=>λl a=>by
  rcases Fy.1 a with rfl|a
  .trivial
  .exact gP (ls:=ls) h l a
 | .b n::ls,h=>λl a=>by
  rcases Fy.1 a with rfl|a
  .trivial
  .exact gP (ls:=ls) h l a
 | .v n::ls,h=>λl a=>by
  have h:(match LL n with|true=>kF ls|false=>U)=J:=h;split at h
  next e=>
   rw[AH]at e;rcases Fy.1 a with rfl|a
   .exact e
   .exact gP (ls:=ls) h l a
  .cases h
def Ai{C:p_}{Sg:Td}{T:Tv}{call:gk}(c:Gb C Sg T call){g:TT}{ls:TG}{h:C8}{K:TG->C8->RT}(a:N8 call g ls h K=O w) :
  ∃b h',aD C Sg g ls (h_ T (EV h)) b (h_ T (EV h'))/\K b h'=O w:=by
 unfold N8 at a;split at a
 next e=>exact c.f g ls h K w (gP e) a
 .cases a
def qh{C:p_}{Sg:Td}{T:Tv}{call:gk}(o:Gb C Sg T call){g:TT}{j:Option (TP)}{b:Tn}{h:C8}{K:TG->C8->RT}(a:px Sg call g j b h K=O w) :
  ∃sg c ys h',Sg g=O sg/\(∀x,j=O x->sg.rs=x)/\Told sg.rs c ys/\kw C g b (h_ T (EV h)) (gL (ao ys)) (h_ T (EV h'))/\K c h'=O w:=by
 unfold px at a;split at a
 .cases a
 next sg e=>
  split at a
  .cases a
  next n=>
   split at a
   .cases a
   next u e3=>let⟨c,h',⟨q,s,ys,d,f,k,i⟩,a⟩:=Ai o a;rw[e]at d;cases d;let⟨l,m,t⟩:=vJ e3;let⟨r,_⟩:=db f.1 l f.2.1;rw[r,m]at i;refine⟨sg,c,ys,h',e,λx p=>?_,k,i,a⟩;subst p;exact uf n
def lW{T:Tv}{h:C8}{l a:Nat}{st:LoopState}{b:Tm}{vs:Tn}(e:h.at l=O (.lp a st b vs)):fe (h_ T (EV h)) l=O { GD (T a) a vs with state:=st,pending:=b }:=by unfold fe h_;rw[GL,ob,e];rfl
def SS{C:p_}{Sg:Td}{T:Tv}{call:gk}(k:Gb C Sg T call){v:TV}{args:Tn}{m:TP}{h:C8}{K:TG->C8->RT}(a:ML Sg T call v args m h K=O w) :
  ∃d h',yb C v args m (h_ T (EV h)) d (h_ T (EV h'))/\K d h'=O w:=by
 unfold ML at a;split at a
 next L first c=>
  split at a
  next g=>let⟨M,d,H,h',I,q,j,r,s⟩:=qh k a;rw[q _ rfl]at j;exact⟨d,h',⟨H,j,.inl ⟨g,first,c,rfl,r⟩⟩,s⟩
  next l=>
   split at a
   next f i=>
    have f:first = #[]:=e1.1 f
    have i:c = #[]:=e1.1 i;subst f i;split at a
    next A D B E e=>
     split at a
     .cases a
     next e3=>
      have e3:=uf e3;subst e3;split at a
      .cases a
      next F e4=>
       split at a
       next e5=>let⟨t,u,z⟩:=vJ e4;let⟨b,h',p,G⟩:=k.y A E l _ h K w D B F e ⟨t,rfl,z⟩ a;rw[u]at p;refine⟨[.b b],h',⟨[.leaf (.b b)],⟨rfl,rfl,λx n=>?_⟩,.inr ⟨l,rfl,p⟩⟩,G⟩;simp only[HN]at n;subst n;intro y o;simp only[S0.cells,HN]at o;subst o;trivial
       .cases a
    .cases a
   .cases a
  .cases a
 .cases a
def mS{C:p_}{Sg:Td}{T:Tv}{call:gk}(A:Gb C Sg T call){m:Nat}{v:TV}{c:Tn}{h:C8}{K:Tm->C8->RT}(d:mH Sg call m v c h K=O w) :
  ∃g first cap r j f k,v = .func (.func g) first cap/\kw C g (first.toList++[.func (.yield (W (h_ T (EV h)))) #[] #[]]++cap.toList) (h_ T (EV h)++[.loop (GD (T m) m c)]) r j/\
   fe j (W (h_ T (EV h)))=O f/\f.state≠.busy/\h_ T (EV k)=j.set (W (h_ T (EV h))) (.loop { f with state:=.exhausted })/\K f.pending k=O w:=by
 unfold mH at d;split at d
 next F first cap=>
  split at d
  next g=>
   rw[jN]at d;let⟨H,G,D,q,_,_,E,t,u⟩:=qh A d;have b:W (h_ T (EV h))=h.n:=by rw[jG,iI]
   split at u
   next o y p s e=>
    have B:=lW (T:=T) e;rw[jV,lG]at t;have z:∀(l:y≠.busy),(G8 q h.n (.lp o .exhausted p s) λk=>K p k)=O w->∃x a i r j f k,(Value.func (.func g) first cap) = .func (.func x) a i/\kw C x (a.toList++[.func (.yield (W (h_ T (EV h)))) #[] #[]]++i.toList) (h_ T (EV h)++[.loop (GD (T m) m c)]) r j/\
      fe j (W (h_ T (EV h)))=O f/\f.state≠.busy/\h_ T (EV k)=j.set (W (h_ T (EV h))) (.loop { f with state:=.exhausted })/\K f.pending k=O w:=by
     intro l d;rw[jA]at d;refine⟨g,first,cap,gL (ao D),h_ T (EV q),{ GD (T o) o s with state:=y,pending:=p },q.put h.n (.lp o .exhausted p s),rfl,?_,?_,l,?_,d⟩
     .rw[b];exact t
     .rw[b];exact B
     .rw[jF,lH,b];rfl
    grind
   .cases u
  .cases d
 .cases d
def xD{id:Nat}:∀ {ks:List (Nat×RT)},(List.rec Q (λp _ f=>match Nat.beq p.1 id with|true=>p.2|false=>f) ks:RT)=O w->
  ∃d x,O (Code.exit id)=O (Code.exit d)/\(d,x)∈ks/\x=O w
 | [],h=>by cases h
 |p::ks,h=>by
  have h:(match Nat.beq p.1 id with|true=>p.2|false=>(List.rec Q (λp _ f=>match Nat.beq p.1 id with|true=>p.2|false=>f) ks:RT))=O w:=h;split at h
  next e=>exact⟨id,p.2,rfl,by rw[←Fs e];grind,h⟩
  .obtain⟨d,x,a,b,c⟩:=xD h
   simp_all
def R4{e:GO}{k d:TN}{a b:Int}{K:Int->RT}(h:rm e k a d b K=O w):∃n,NS e k a d b n/\K n=O w:=by
 unfold rm at h;split at h
 next c=>
  have c:¬b<0:=by have:=P2.1 c;omega
  split at h
  .rw[lS]at h;exact⟨_,λP t w=>by simp[binOp,Op.shift,c],h⟩
  .rw[lS]at h;exact⟨_,λP t w=>by simp[binOp,Op.shift,c],h⟩
  .cases h
 .cases h
def b8{C:p_}{Sg:Td}{T:Tv}{call:gk}(B:Gb C Sg T call):te (BA Sg T call) C Sg T (λb=>b=O w) (λh=>h_ T (EV h)) where
 fail:=by intro h;cases h
 cond:=by
  intro b x y h;cases b
  .exact .inr ⟨rfl,h⟩
  .exact .inl ⟨rfl,h⟩
 C5:=λH k a b K h=>f0 h
 IX:=λH k a G b K h=>R4 h
 cmp:=λH a b K h=>xf h
 eqs:=λl K h=>eV h
 conv:=λk a K h=>Ps h
 I4:=by intro t a b K h;cases t<;>exact h
 km:=by
  intro Z o K h;cases o with
  |none=>cases h
  |some x=>exact⟨x,rfl,h⟩
 qa:=by
  intro v K h;have h:chkB v K=O w:=h;unfold chkB at h;split at h
  next e=>rw[AH]at e;exact⟨e,h⟩
  .cases h
 qs:=by
  intro q K h
  match q,h with
  | .i n::r,h=>exact⟨n,r,rfl,h⟩
 GM:=by
  intro q K h
  match q,h with
  | .b n::r,h=>exact⟨n,r,rfl,h⟩
 D3:=by
  intro q K h
  match q,h with
  | .v n::r,h=>exact⟨n,r,rfl,h⟩
 C3:=by
  intro q K h
  match q,h with
  | [],h=>exact⟨rfl,h⟩
 ua:=by
  intro k q K h
  match q,h with
  | .int G n::r,h=>
   have h:(match dc k G with|true=>K n r|false=>Q)=O w:=h;split at h
   next e=>rw[dS e];grind
   .cases h
 F5:=by
  intro q K h
  match q,h with
  | .bool n::r,h=>exact⟨n,r,rfl,h⟩
 C7:=by
  intro q K h
  match q,h with
  |n::r,h=>exact⟨n,r,rfl,h⟩
 wb:=by
  intro q K h
  match q,h with
  | [],h=>exact⟨rfl,h⟩
 oo:=by
  intro f h K d;have d:d' T f h K=O w:=d;unfold d' at d;rw[←qJ];cases f with
  |ld n p=>exact ldB_ok d
  |lg C n p=>exact lgB_ok d
  |fn f=>
   simp only at d;rw[pK]at d;split at d
   next x e=>exact⟨x,e,d⟩
   .cases d
 heap:=by intro f h K d;have d:PF T f h K=O w:=d;let⟨z,P,A,L,M,N⟩:=Y6 d;exact⟨z,P,A,by rw[←qJ,jG];exact L,by rw[M];exact mU T z (EV h),N⟩
 new:=by intro o h K d;have d:newB o h K=O w:=d;unfold newB at d;let⟨x,R,S⟩:=md (o:=o) (k:=λo=>oY h o λA=>K h.n A);rw[S,jN]at d;exact⟨h.push x,by rw[jV,R];exact lG T (EV h) _,by rw[jG,iI];exact d⟩
 call:=λg q h K d=>Ai B d
 D':=λv E Y h K d=>SS B d
 join:=λb m h=>h
 loop:=by intro F q h d;refine⟨λn=>Nat.rec (motive:=λ_=>TG->C8->RT) (λ_ _=>Q) (λ_ V q h=>F V q h) n,λq h=>d_,λn q h=>rfl,1000000,d⟩
 Gr:=λs v I h K d=>mS B d
 F4:=by
  intro D kn kr ks h;cases D with
  |none=>exact .inl ⟨rfl,h⟩
  |some c=>
   cases c<;>first|exact .inr (.inl ⟨rfl,h⟩)|skip
   case exit id=>exact .inr (.inr (xD h))
   all_goals cases h
 LX:=by
  intro l h K d;have d:lp1B l h K=O w:=d;unfold lp1B at d;split at d
  next s X D u e=>
   split at d
   .rw[jA]at d;exact⟨_,_,lW e,rfl,by rw[jF];exact lH T (EV h) l _,d⟩
   .cases d
  .cases d
 I1:=by
  intro l j h K d;have d:lp2B l j h K=O w:=d;unfold lp2B at d;split at d
  next s X D u e=>
   cases j with
   |none=>have d:G8 h l (.lp s .ready Q u) K=O w:=d;rw[jA]at d;exact⟨_,h.put l (.lp s .ready Q u),lW e,(congrArg (h_ T) (jF h l (.lp s .ready Q u))).trans (lH T (EV h) l (.lp s .ready Q u)),d⟩
   |some c=>have d:G8 h l (.lp s .done (O c) u) K=O w:=d;rw[jA]at d;exact⟨_,h.put l (.lp s .done (O c) u),lW e,(congrArg (h_ T) (jF h l (.lp s .done (O c) u))).trans (lH T (EV h) l (.lp s .done (O c) u)),d⟩
  .cases d
end
end Sx
namespace Sx
def ma(v:FO):Bool:=match v with
 | EQ (O a)=>a.spot==O 1
 | DW (O a) _ _=>a.spot==O 1
 |v=>scalar v
section
variable [El]
def VA [Gc]{mu:m_}{p:Pl}{x y:Option Obj}{o:wa}(b:∀a,x=O a->y=O a)(h:G6 mu p x o):G6 mu p y o:=by
 cases o with
 |cells t j rw=>let⟨d,f,l,c,e,k,m,n⟩:=h;exact⟨d,f,l,c,e,k,b _ m,n⟩
 |map q g=>let⟨i,d,f⟩:=h;exact⟨i,b _ d,f⟩
 |loop r=>let⟨L,d,f⟩:=h;exact⟨L,b _ d,f⟩
 |R6 s pos=>exact b _ h
 |dead=>trivial
def ef [Gc]{la:t0}{mu a:m_}{vs cs:Tn}(e:vs.all flat=J)(h:A1 la mu vs cs):A1 la a vs cs:=by refine⟨h.1,λi x y c f=>?_⟩;have d:=h.2 i x y c f;have b:flat x=J:=D7.1 e x (A9 c);rw[uw b d];exact .of_flat b
def gflVR [Gc]{la d:t0}{mu e:m_}{v c:TV}(a:ma v=J)(h:VR la mu v c):VR d e v c:=by
 cases h with
 |A_ c=>cases a
 |V9 h=>cases a
 |scalar h=>exact .scalar h
 |agg _ _=>cases a
 |tuple _ _ _=>cases a
 |func _ _ _ _ _=>cases a
 |yield _=>cases a
 |GF _=>cases a
 |FT _=>cases a
 |F1=>exact .F1
 |DX _ _ _ _=>simp[ma,le]at a
 |C_ _=>simp[ma,le]at a
 |EF f b=>exact .EF f b
 |D5 b=>exact .D5 b
 |map _=>cases a
def uE [Gc]{mu a:m_}{vs:Tn}{c:Tl}{o:Nat}(f:vs.all ma=J)(h:cF mu vs c o):cF a vs c o:=by intro i v b;let⟨g,d,e⟩:=h i v b;exact⟨g,d,gflVR (D7.1 f v (A9 b)) e⟩
def Ni{mu:m_}{b:Nat}:¬Mo mu [] b:=by rintro⟨id,o,p,h,_⟩;simp at h
def Y0{C:p_}(N:∀g vs,C.G g=O vs->vs.all ma=J){f:TT}{args:Tn}{r:TV}{H':Tu}(h:eR C f args [] r H')(P:args.all flat=J)(E:flat r=J)(H:Tu):eR C f args H r H:=by
 intro _ A S w d D l k M;have y:WR C w.heap.size (λ_=>Q) [] w:=by refine⟨λid o h=>by simp at h,λi j X Y Z pj h=>by simp at h,λi o p h=>by simp at h,λi o p h=>by simp at h,λ_ _=>rfl,λg vs t=>?_⟩;let⟨u,n,c,e,B,q,s⟩:=k.Gd g vs t;exact⟨a_,n,c,e,B,q,uE (N g vs t) s⟩
 let⟨v,T,F,I,V,a,K,L⟩:=h _ w.heap.size (λ_=>Q) w d (B7 _) (ef P l) y M;have m:∀(b:Nat) x,w.heap[b]?=O x->F.heap[b]?=O x:=by
  intro b x R;have z:b<w.heap.size:=by grind
  rw[a.ke b z Ni];exact R
 refine⟨v,S,F,?_,?_,?_,K,L⟩
 .rw[uw E I];exact .of_flat E
 .refine⟨λid o u n=>?_,k.inj,k.own,k.ro,k.Mw,λg vs t=>?_⟩
  .obtain⟨p,q,s⟩:=k.obj id o u n;exact⟨p,q,VA (m p.b) s⟩
  .obtain⟨u,n,c,e,B,q,s⟩:=k.Gd g vs t
   simp_all
 .exact⟨B7 _,λ_ _=>rfl,a.size,λb D _=>a.ke b D Ni,λb h=>.inr h,a.os,a.tape,a.output,a.dr⟩
end
section
variable [El] [E_]
end
end Sx
namespace Sx
def kQ(F:TC)(H a:Tu):Prop:=∀r∈F,∀x,H[r]?=O x->x.alive=J->a[r]?=O x
structure EX where
 set:Option (Nat×wa)
 push:Option (wa×(Nat->Value))
 v:Value
def EX.put(e:EX)(H:Tu):Tu:=match e.set with
 |O p=>H.set p.1 p.2
 |Q=>H
def EX.heap(e:EX)(H:Tu):Tu:=match e.push with
 |O p=>e.put H++[p.1]
 |Q=>e.put H
def EX.val(e:EX)(n:Nat):FO:=match e.push with
 |O p=>p.2 n
 |Q=>e.v
def Im(b:Prop)(F DJ:TC)(f:Tu->Option (List wa×FO))(H:Tu):Prop:=
 ∀H' v,f H=O (H',v)->∃e:EX,H'=e.heap H/\v=e.val (W H)/\(∀p,e.set=O p->p.1∈DJ/\∃x,H[p.1]?=O x/\x.alive=J)/\(∀p,e.push=O p->b/\Fp p.2/\p.1.alive=J)/\
  ∀a,kQ F H a->f a=O (e.heap a,e.val (W a))
def LocG(F:TC)(f:Tu->Tk)(H:Tu):Prop:=∀v,f H=O v->∀a,kQ F H a->f a=O v
def gX{F:TC}{H a:Tu}(h:kQ F H a){r:Nat}(c:r∈F){vs:Tn}{e:Nat}{b:Bool}(d:H[r]?=O (.cells vs e b)):a[r]?=O (.cells vs e b):=h r c _ d rfl
def iR{F:TC}{H d:Tu}(h:kQ F H d){r:Nat}(f:r∈F){b:Tj}{c:Nat}(a:Ft H r=O (b,c)):H[r]?=O (.map b c)/\Ft d r=O (b,c):=by
 unfold Ft at a;split at a
 next e=>cases a;exact⟨e,by unfold Ft;rw[h r f _ e rfl]⟩
 .cases a
def yk{C:p_}{H f:Tu}{vd:Nat}{x:TV}{p:List FO×Nat}(c:ep C H vd x=O p){F:TC}(j:∀r∈E' x,r∈F)(h:kQ F H f):ep C f vd x=O p:=by
 unfold ep at c ⊢;split at c
 .exact c
 next a d i=>
  split at c
  .simp_all
  next l=>
   split at c
   next g=>
    simp only[l,if_false,g,if_true];split at c
    next m e b j_=>
     have k:a.block∈E' (DW (O a) d i):=by simp[E',g,le]
     rw[gX h (j _ k) j_];exact c
    .cases c
   .cases c
 .exact c
 .cases c
def yR{b:Prop}{F DJ:TC}{H:Tu}(c:b)(x:wa)(mk:Nat->TV)(g:x.alive=J)(f:Fp mk):Im b F DJ (λH=>O (H++[x],mk (W H))) H:=by intro d v h;cases h;exact⟨⟨Q,O (x,mk),undef⟩,rfl,rfl,λp a=>(by cases a),λp a=>jw,λe _=>rfl⟩
def uP{d:Prop}{F DJ:TC}{f:Tu->Option (List wa×FO)}{H:Tu}{v:TV}(h:f H=O (H,v))(c:∀a,kQ F H a->f a=O (a,v)) :
  ∃e:EX,H=e.heap H/\v=e.val (W H)/\(∀p,e.set=O p->p.1∈DJ/\∃x,H[p.1]?=O x/\x.alive=J)/\(∀p,e.push=O p->d/\Fp p.2/\p.1.alive=J)/\∀a,kQ F H a->f a=O (e.heap a,e.val (W a)):=
 ⟨⟨Q,Q,v⟩,rfl,rfl,λp b=>(by cases b),λp b=>(by cases b),c⟩
def uO{c:Prop}{F DJ:TC}{f:Tu->Option (List wa×FO)}{H:Tu}{x:wa}{mk:Nat->TV}(g:c)(i:x.alive=J)(h:Fp mk)(d:∀a,kQ F H a->f a=O (a++[x],mk (W a))) :
  ∃e:EX,H++[x]=e.heap H/\mk (W H)=e.val (W H)/\(∀p,e.set=O p->p.1∈DJ/\∃x,H[p.1]?=O x/\x.alive=J)/\(∀p,e.push=O p->c/\Fp p.2/\p.1.alive=J)/\∀a,kQ F H a->f a=O (e.heap a,e.val (W a)):=
 ⟨⟨Q,O (x,mk),undef⟩,rfl,rfl,λp b=>(by cases b),λp b=>jw,d⟩
def uQ{d:Prop}{F DJ:TC}{f:Tu->Option (List wa×FO)}{H:Tu}{i:Nat}{x y:wa}{v:TV}(h:i∈DJ)(j:H[i]?=O y)(g:y.alive=J)(c:∀a,kQ F H a->f a=O (a.set i x,v)) :
  ∃e:EX,H.set i x=e.heap H/\v=e.val (W H)/\(∀p,e.set=O p->p.1∈DJ/\∃x,H[p.1]?=O x/\x.alive=J)/\(∀p,e.push=O p->d/\Fp p.2/\p.1.alive=J)/\∀a,kQ F H a->f a=O (e.heap a,e.val (W a)):=
 ⟨⟨O (i,x),Q,v⟩,rfl,rfl,λp b=>jw,λp b=>(by cases b),c⟩
def CP{S:Prop}{C:p_}{t:TS}{s x:FO}{H:Tu}{F DJ:TC}(m:S)(L:∀r∈E' s,r∈F/\r∈DJ)(Z:∀r∈E' x,r∈F):Im S F DJ (gH C t s x) H:=by
 intro H' v c;unfold gH at c;split at c
 case h_2=>cases c
 rename_i P Y
 split at c
 .cases c
 rename_i b V
 split at c
 .cases c
 rename_i M
 split at c
 .cases c
 rename_i hz
 split at c
 .cases c
 rename_i j n D
 have g:∀f,kQ F H f->gH C t s x f=(match (motive:=FO->Option (List wa×FO)) s with
   | DW Q 0 0=>
    if n=0 then O (f,DW Q 0 0)
    else if aY n b.bytes then O (f++[.cells j b.size J],DW (O ⟨W f,0,le b.size⟩) n 0)else Q
   | DW (O a) d B=>
    if a.spot≠le b.size then Q else
    match f[a.block]? with
    |some (.cells A e rw)=>
     if e≠b.size then Q else
     match cut A a.off (d*b.size)with
     |none=>Q
     |some l=>
      match B with
      |0=>
       if n=0 then O (f,DW (O a) d 0)
       else if rw&&aY (d+n) b.bytes then
        O (f.set a.block .dead++[EJ (l++j) b.size J],DW (O ⟨W f,0,le b.size⟩) (d+n) 0)
       else Q
      |cap+1=>
       if d+n<=cap then
        if rw then(v_ A (a.off+d*b.size) j).map λz=>(f.set a.block (.cells z e J),DW (O a) (d+n) (cap+1))
        else if n=0 then O (f,DW (O a) d (cap+1))else Q
       else if aY (d+n) b.bytes then
        O (f++[EJ (l++j) b.size J],DW (O ⟨W f,0,le b.size⟩) (d+n) 0)
       else Q
    |_=>Q
   |_=>Q):=by
  intro f i;unfold gH;simp only[Y,V,M,if_false,hz,yk D Z i];rfl
 split at c
 .split at c
  next u=>cases c;exact uP (by rw[g H λ_ _ _ h _=>h];simp only[u,if_true]) λf i=>k_
  next u=>
   split at c
   next o=>cases c;exact uO (mk:=λk=>DW (O ⟨k,0,le b.size⟩) n 0) m rfl (.slice _ _ _) λf i=>k_
   .cases c
 next a d B=>
  split at c
  .cases c
  rename_i q
  have G:a.block∈E' (DW (O a) d B):=by simp only[ne_eq,Classical.not_not]at q;simp[E',q,le]
  split at c
  case h_2=>cases c
  rename_i A e N j_
  split at c
  .cases c
  rename_i T
  split at c
  .cases c
  rename_i l w
  have y:∀ {f},kQ F H f->f[a.block]?=O (.cells A e N):=λi=>gX i (L _ G).1 j_;split at c
  .split at c
   next u=>cases c;exact uP (by rw[g H λ_ _ _ h _=>h];simp_all) λf i=>k_
   next u=>
    split at c
    next o=>cases c;refine⟨⟨O (a.block,.dead),O (EJ (l++j) b.size J,λk=>DW (O ⟨k,0,le b.size⟩) (d+n) 0),undef⟩,rfl,rfl,λp I=>by cases I;exact⟨(L _ G).2,_,j_,rfl⟩,λp I=>by cases I;exact⟨m,.slice _ _ _,rfl⟩,λf i=>?_⟩;rw[g f i];simp only[q,y i,T,w,u,o,if_true,if_false];rfl
    .cases c
  .split at c
   next cap E=>
    split at c
    next K=>let⟨z,R,X⟩:=FD.1 c;cases X;exact uQ (L _ G).2 j_ rfl λf i=>k_
    next K=>
     split at c
     next u=>cases c;exact uP (by rw[g H λ_ _ _ h _=>h];simp_all) λf i=>k_
     .cases c
   next cap E=>
    split at c
    next o=>cases c;exact uO (mk:=λk=>DW (O ⟨k,0,le b.size⟩) (d+n) 0) m rfl (.slice _ _ _) λf i=>k_
    .cases c
 .cases c
def ZH{b:Prop}{C:p_}{t:TS}{d x:TV}{H:Tu}{F DJ:TC}(e:∀r∈E' d,r∈F/\r∈DJ)(f:∀r∈E' x,r∈F):Im b F DJ (Ly C t d x) H:=by intro c v a;cases a
def Vs{b:Prop}{C:p_}{t:TS}{x:TV}{H:Tu}{F DJ:TC}(d:∀r∈E' x,r∈F/\r∈DJ):Im b F DJ (wc C t x) H:=by intro c v a;cases a
def Vu{g:Prop}{C:p_}{t:TS}{id off:Nat}{x:TV}{H:Tu}{F DJ:TC}(h1:id∈F)(b:id∈DJ):Im g F DJ (kY C t id off x) H:=by
 intro i v a;unfold kY at a;split at a
 next k e j_=>let⟨h,f,d⟩:=FD.1 a;cases d;refine uQ b j_ rfl λj c=>?_;unfold kY;simp only[gX c h1 j_,f,G9]
 .cases a
def sO{s:Prop}{C:p_}{t:TS}{m k x:TV}{H:Tu}{F DJ:TC}(q:∀r∈E' m,r∈F/\r∈DJ):Im s F DJ (cL C t m k x) H:=by
 intro u v a;unfold cL at a;split at a
 case h_2=>cases a
 rename_i z y id l
 split at a
 .cases a
 rename_i d
 split at a
 .cases a
 rename_i w c g
 let⟨e,n⟩:=q id (by simp[E']);have j:=(iR (λ_ _ _ h _=>h:kQ F H H) e g).1;split at a
 .cases a
 next b=>cases a;refine uQ n j rfl λo f=>?_;unfold cL;simp only[l,d,(iR f e g).2,b];rfl
 next i b=>
  split at a
  next p=>cases a;refine uQ n j rfl λo f=>?_;unfold cL;simp only[l,d,(iR f e g).2,b,p];rfl
  .cases a
def Vt{b:Prop}{C:p_}{t:TS}{m k:TV}{H:Tu}{F DJ:TC}(d:∀r∈E' m,r∈F/\r∈DJ):Im b F DJ (jt C t m k) H:=by intro c v a;cases a
def CS{b:Prop}{m s x:TV}{H:Tu}{F DJ:TC}(d:∀r∈E' m,r∈F/\r∈DJ):Im b F DJ (fT m s x) H:=by intro c v a;cases a
def CQ{b:Prop}{C:p_}{t:TS}{m k:TV}{H:Tu}{F DJ:TC}(d:∀r∈E' m,r∈F/\r∈DJ):Im b F DJ (qu C t m k) H:=by intro c v a;cases a
def ZI{f:Prop}{C:p_}{t:TS}{l c:TV}{H:Tu}{F DJ:TC}(d:f):Im f F DJ (dN C t l c) H:=by
 intro j v a;unfold dN at a;split at a
 case h_2=>cases a
 rename_i i g e n o r
 split at a
 case h_2=>cases a
 rename_i b q
 split at a
 .cases a
 rename_i h
 split at a
 case h_2=>cases a
 rename_i z s
 split at a
 next p=>
  cases a;refine uO (mk:=λk=>DW (O ⟨k,0,le b.size⟩) i.toNat (g.toNat+1)) d rfl (.slice _ _ _) λm _=>?_;unfold dN
  simp_all
 .cases a
def CT{C:p_}{t:TS}{m k:TV}{ok:Bool}{H:Tu}{F:TC}(g:∀r∈E' m,r∈F):LocG F (dV C t m k ok) H:=by
 intro v a h e;unfold dV at a;unfold dV;split at a
 case h_2=>cases a
 rename_i o j l
 split at a
 .cases a
 rename_i b
 simp only[b];split at a
 .cases a
 rename_i z n
 split at a
 .exact a
 next id=>
  have d:=g id (by simp[E']);split at a
  .cases a
  rename_i i c f
  simp only[(iR e d f).2];exact a
 .cases a
def gv{C:p_}{t:TS}{a:Addr}{d c e:Tk}{H:Tu}{F:TC}(f:∀r∈E' (EQ (O a)),r∈F):LocG F (mM C t a d c e) H:=by intro v b;cases b
end Sx
end Go.Am
end

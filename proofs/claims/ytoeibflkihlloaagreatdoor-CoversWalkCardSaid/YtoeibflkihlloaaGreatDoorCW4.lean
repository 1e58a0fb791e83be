/-
  PART 4 OF THE PROOF (no conditions).
-/
import Derived.Test.YtoeibflkihlloaaGreatDoorCW3
import Derived.Laws.Entries
import Derived.Laws.StructEq
set_option linter.unusedSectionVars false
set_option linter.unusedSimpArgs false
set_option linter.unusedVariables false
set_option linter.constructorNameAsVariable false
set_option linter.defProp false
noncomputable section
namespace Go.Am
section
variable {P:TE}
def aO{α β:Type}(s:Sem α)(f:α->Sem β):pev P (s >>= f)=(pev P s).bind λa=>pev P (f a):=by
 show pev P (s.bind f)=_
 induction s with
 |pure a=>rfl
 |program k ih=>exact ih P
 |_=>rfl
def fi{α:Type}(a:α):pev P (pure a:Sem α)=some a:=rfl
def kG:pev P program=some P:=rfl
def bk{t:TK}{d:TypeDesc}(h:P.underlying t=some d):pev P (underlying t)=some d:=by
 unfold underlying
 rw[aO,kG]
 simp only[qak,h]
 rfl
def pA{d:Nat}{t:TK}{k k':TH}{a b:Int}(h:P.underlying t=some (.int k')):pev P (Op.equalIn (d+1) t (.int k a) (.int k b))=some (a==b):=by
 simp only[Op.equalIn,aO,bk h,qak,if_true,fi]
def nr{d:Nat}{t:TK}{a b:Bool}(h:P.underlying t=some .bool):pev P (Op.equalIn (d+1) t (.bool a) (.bool b))=some (a==b):=by
 simp only[Op.equalIn,aO,bk h,qak,fi]
def wi{t:TK}{ag:Bool}(h:aggT P t=some ag):pev P (isAgg t)=some ag:=by
 unfold isAgg
 unfold aggT at h
 split at h
 next fs e=>cases h;rw[aO,bk e];rfl
 next fs e=>cases h;rw[aO,bk e];rfl
 next d h1 h2 e=>
  cases h
  rw[aO,bk e]
  simp only[qak]
  rfl
 ·cases h
def ju{t:TK}{d:TypeDesc}(h:P.underlying t=some d):pev P (sizeOf t)=some (P.cellsOf t):=by
 unfold sizeOf typeInfo
 have hi:∃i,P.info? t=some i:=by
  unfold Program.underlying at h
  cases hi:P.info? t with
  |none=>simp[hi]at h
  |some i=>exact⟨i,rfl⟩
 obtain⟨i,hi⟩:=hi
 simp only[aO,kG,qak,hi]
 simp[pev,Program.cellsOf,hi]
 rfl
def kF{t:TK}{ag:Bool}(h:aggT P t=some ag){cs:Tl}{off:Nat}{ds:Tl}(hc:cut cs off (if ag then P.cellsOf t else 1)=some ds) :
  ∃v,pev P (part t ⟨cs⟩ off)=some v/\mkV ag ds v:=by
 have hu:∃d,P.underlying t=some d:=by
  unfold aggT at h
  cases hh:P.underlying t with
  |none=>rw[hh]at h;cases h
  |some d=>exact⟨d,rfl⟩
 obtain⟨d,hu⟩:=hu
 unfold part
 rw[aO,wi h]
 simp only[qak]
 unfold cut at hc
 cases ag with
 |true=>
  simp only[if_true]at hc ⊢
  split at hc
  next hle=>
   cases hc
   refine⟨.agg ⟨(cs.drop off).take (P.cellsOf t)⟩,?_,.inl ⟨rfl,rfl⟩⟩
   rw[aO,ju hu]
   simp only[qak,fi,qas,Value.agg.injEq]
   apply qa6.1
   rw[qcc]
   simp[List.extract]
  ·cases hc
 |false=>
  simp only[qam,if_false]at hc ⊢
  split at hc
  next hle=>
   cases hc
   have hlt:off<cs.length:=by omega
   refine⟨cs[off],?_,.inr ⟨rfl,by rw[qaY hlt];rfl⟩⟩
   have:(⟨cs⟩ : Array Value)[off]?=some cs[off]:=by simp[hlt]
   rw[this]
   rfl
  ·cases hc
def eqSL(a b:List SL):Bool:=cp ((a.map SL.lf).zip (b.map SL.lf))
def sz(a b:List (Lf×Lf)):cp (a++b)=(cp a&&cp b):=by simp[cp]
def mJ{a b c d:List SL}(h:a.length=b.length):eqSL (a++c) (b++d)=(eqSL a b&&eqSL c d):=by
 unfold eqSL
 rw[qbL,qbL,List.zip_append (by simpa using h),sz]
def flatV(ag:Bool)(cs:List SL)(v:Value):Prop:=mkV ag (cs.map SL.val) v
def EqD(P:TE)(d:Nat)(t:TK)(ks:TG):Prop:=
 ∃ag,aggT P t=some ag/\(if ag then P.cellsOf t else 1)=ks.length/\∀(a b:List SL) (x y:Value),aT a ks=true->aT b ks=true->flatV ag a x->flatV ag b y->pev P (Op.equalIn d t x y)=some (eqSL a b)
def fC{cs:List SL}{ka kb:TG}(h:aT cs (ka++kb)=true):∃a b,cs=a++b/\aT a ka=true/\aT b kb=true:=by
 induction ka generalizing cs with
 |nil=>exact⟨[],cs,rfl,rfl,h⟩
 |cons k ka ih=>
  cases cs with
  |nil=>cases h
  |cons c cs=>
   simp only[qa2,aT,qaa]at h
   obtain⟨a,b,rfl,h1,h2⟩:=ih h.2
   exact⟨c :: a,b,rfl,by simp[aT,h.1,h1],h2⟩
def qm{pre mid post:List SL}{n off:Nat}(ho:off=pre.length)(hn:n=mid.length):cut ((pre++mid++post).map SL.val) off n=some (mid.map SL.val):=by
 subst ho;subst hn
 unfold cut
 rw[qdy (by simp)]
 congr 1
 rw[qbL,qbL,qaP,qcn,qcU]
 simp
def pv_ite{α:Type}{c:Prop} [Decidable c](a b:Sem α):pev P (if c then a else b)=if c then pev P a else pev P b:=by split<;>rfl
def nz{d:Nat}{F:TK->Option (TG)}(hF:∀t ks,F t=some ks->EqD P d t ks):∀(fs:List Field) (off:Nat) (ks:TG),kX F fs off=some ks->
  ∀(pa a pb b:List SL),pa.length=off->pb.length=off->aT a ks=true->aT b ks=true->
   pev P (Op.eqFields d ⟨(pa++a).map SL.val⟩ ⟨(pb++b).map SL.val⟩ fs)=some (eqSL a b)
 | [],off,ks,h,pa,a,pb,b,_,_,ha,hb=>by
  cases h
  cases a with
  |cons _ _=>cases ha
  |nil=>cases b with
   |cons _ _=>cases hb
   |nil=>rfl
 |f :: fs,off,ks,h,pa,a,pb,b,la,lb,ha,hb=>by
  simp only[kX]at h
  split at h
  next k1 hn ho hk=>
   have hn:¬f.name = "_":=of_decide_eq_false hn
   have ho:=qad ho
   obtain⟨k2,hr,rfl⟩:=qac.1 h
   obtain⟨ag,h1,h2,h3⟩:=hF _ _ hk
   obtain⟨a1,a2,rfl,ha1,ha2⟩:=fC ha
   obtain⟨b1,b2,rfl,hb1,hb2⟩:=fC hb
   have la1:=bJ ha1
   have lb1:=bJ hb1
   obtain⟨x,hx1,hx2⟩:=kF h1 (cs:=(pa++(a1++a2)).map SL.val) (off:=f.offset) (ds:=a1.map SL.val) (by rw[←qaP];exact qm (by omega) (by omega))
   obtain⟨y,hy1,hy2⟩:=kF h1 (cs:=(pb++(b1++b2)).map SL.val) (off:=f.offset) (ds:=b1.map SL.val) (by rw[←qaP];exact qm (by omega) (by omega))
   have he:=h3 a1 b1 x y ha1 hb1 hx2 hy2
   have ih:=nz hF fs (off+k1.length) k2 hr (pa++a1) a2 (pb++b1) b2 (by simp;omega) (by simp;omega) ha2 hb2
   rw[qaP,qaP]at ih
   simp only[Op.eqFields,ne_eq,hn,not_false_eq_true,if_true]
   rw[aO,hx1]
   simp only[qak]
   rw[aO,hy1]
   simp only[qak]
   rw[aO,he]
   simp only[qak]
   rw[mJ (by omega)]
   cases eqSL a1 b1 with
   |true=>simpa using ih
   |false=>rfl
  ·cases h
def ft(d:Nat)(t:TK)(fs:Array Field)(xs ys:Tj)(ht:P.underlying t=some (.struct fs))(hp:P.stoodInHeld t=false) :
  pev P (Op.equalIn (d+1) t (.agg xs) (.agg ys))=pev P (Op.eqFields d xs ys fs.toList):=by
 simp only[Op.equalIn,aO,bk ht,qak,kG,hp,qam,if_false]
 rw[←Array.forIn_toList]
 generalize fs.toList=fs
 clear ht
 induction fs with
 |nil=>simp only[List.forIn_nil,Op.eqFields];rfl
 |cons f fs ih=>
  simp only[qdr,Op.eqFields,aO,pv_ite]
  split
  ·cases h1:pev P (part f.type xs f.offset)with
   |none=>simp
   |some a=>
    cases h2:pev P (part f.type ys f.offset)with
    |none=>simp[h1,h2]
    |some b=>
     cases h3:pev P (Op.equalIn d f.type a b)with
     |none=>simp[h1,h2,h3]
     |some r=>
      cases r
      ·simp[h1,h2,h3,fi]
      ·simpa[h1,h2,h3,fi]using ih
  ·simpa[fi]using ih
def dZ(d n:Nat)(e:TK)(xs ys:Tj):TA->Sem Bool
 | []=>pure true
 |i :: is=>do
  let a ←part e xs (i*n)
  let b ←part e ys (i*n)
  let r ←Op.equalIn d e a b
  if (!r)=true then pure false else dZ d n e xs ys is
def gc(d:Nat)(t e:TK)(n:Nat)(xs ys:Tj)(ht:P.underlying t=some (.array n e))(he:∃k,P.underlying e=some k) :
  pev P (Op.equalIn (d+1) t (.agg xs) (.agg ys))=pev P (dZ d (P.cellsOf e) e xs ys (List.range n)):=by
 obtain⟨k,he⟩:=he
 simp only[Op.equalIn,aO,bk ht,qak,ju he]
 rw[Std.Legacy.Range.forIn_eq_forIn_range']
 simp only[Std.Legacy.Range.size,Nat.sub_zero,qcs,Nat.div_one]
 rw[qce]
 generalize List.range' 0 n=is
 clear ht
 induction is with
 |nil=>simp only[List.forIn_nil,dZ];rfl
 |cons i is ih=>
  simp only[qdr,dZ,aO,pv_ite]
  cases h1:pev P (part e xs (i*P.cellsOf e))with
  |none=>simp
  |some a=>
   cases h2:pev P (part e ys (i*P.cellsOf e))with
   |none=>simp
   |some b=>
    cases h3:pev P (Op.equalIn d e a b)with
    |none=>simp[h3]
    |some r=>
     cases r
     ·simp[h3,fi]
     ·simpa[h3,fi]using ih
def pC{d:Nat}{e:TK}{ke:TG}(hE:EqD P d e ke)(hlen:ke.length=P.cellsOf e):∀(n i:Nat) (pa a pb b:List SL),pa.length=i*P.cellsOf e->pb.length=i*P.cellsOf e->
  aT a (List.replicate n ke).flatten=true->aT b (List.replicate n ke).flatten=true->
   pev P (dZ d (P.cellsOf e) e ⟨(pa++a).map SL.val⟩ ⟨(pb++b).map SL.val⟩ (List.range' i n))=some (eqSL a b)
 |0,i,pa,a,pb,b,_,_,ha,hb=>by
  cases a with
  |cons _ _=>cases ha
  |nil=>cases b with
   |cons _ _=>cases hb
   |nil=>rfl
 |n+1,i,pa,a,pb,b,la,lb,ha,hb=>by
  rw[qcl,qcf]at ha hb
  obtain⟨ag,h1,h2,h3⟩:=hE
  obtain⟨a1,a2,rfl,ha1,ha2⟩:=fC ha
  obtain⟨b1,b2,rfl,hb1,hb2⟩:=fC hb
  have la1:=bJ ha1
  have lb1:=bJ hb1
  obtain⟨x,hx1,hx2⟩:=kF h1 (cs:=(pa++(a1++a2)).map SL.val) (off:=i*P.cellsOf e) (ds:=a1.map SL.val) (by rw[←qaP];exact qm la.symm (by omega))
  obtain⟨y,hy1,hy2⟩:=kF h1 (cs:=(pb++(b1++b2)).map SL.val) (off:=i*P.cellsOf e) (ds:=b1.map SL.val) (by rw[←qaP];exact qm lb.symm (by omega))
  have he:=h3 a1 b1 x y ha1 hb1 hx2 hy2
  have ih:=pC ⟨ag,h1,h2,h3⟩ hlen n (i+1) (pa++a1) a2 (pb++b1) b2 (by simp[qbF];omega) (by simp[qbF];omega) ha2 hb2
  rw[qaP,qaP]at ih
  simp only[qdj,dZ]
  rw[aO,hx1]
  simp only[qak]
  rw[aO,hy1]
  simp only[qak]
  rw[aO,he]
  simp only[qak]
  rw[mJ (by omega)]
  cases eqSL a1 b1 with
  |true=>simpa using ih
  |false=>rfl
def eq_leaf{k:LK}(hk:k≠.v){a b:List SL}(ha:aT a [k]=true)(hb:aT b [k]=true):∃x y,a=[x]/\b=[y]/\x.is k=true/\y.is k=true:=by
 cases a with
 |nil=>cases ha
 |cons x as0=>cases as0 with
  |cons _ _=>simp[aT]at ha
  |nil=>cases b with
   |nil=>cases hb
   |cons y bs=>cases bs with
    |cons _ _=>simp[aT]at hb
    |nil=>simp only[aT,qdu]at ha hb;exact⟨x,y,rfl,rfl,ha,hb⟩
def lR:∀(d:Nat) (t:TK) (ks:TG),flatK P d t=some ks->EqD P d t ks
 |0,t,ks,h=>by cases h
 |d+1,t,ks,h=>by
  simp only[flatK]at h
  split at h
  next k e=>
   cases h
   refine⟨false,by simp[aggT,e],by simp,λa b x y ha hb hx hy=>?_⟩
   obtain⟨u,v,rfl,rfl,hu,hv⟩:=eq_leaf (by simp) ha hb
   rcases hx with⟨h0,_⟩|⟨_,hx⟩
   ·cases h0
   rcases hy with⟨h0,_⟩|⟨_,hy⟩
   ·cases h0
   simp only[qau,qbs,qay,and_true]at hx hy
   subst hx;subst hy
   cases u<;>simp only[SL.is,qam]at hu
   cases v<;>simp only[SL.is,qam]at hv
   have e1:=dw hu
   have e2:=dw hv
   subst e1;subst e2
   simp only[SL.val]
   rw[pA e]
   simp[eqSL,cp,SL.lf,gA]
  next e=>
   cases h
   refine⟨false,by simp[aggT,e],by simp,λa b x y ha hb hx hy=>?_⟩
   obtain⟨u,v,rfl,rfl,hu,hv⟩:=eq_leaf (by simp) ha hb
   rcases hx with⟨h0,_⟩|⟨_,hx⟩
   ·cases h0
   rcases hy with⟨h0,_⟩|⟨_,hy⟩
   ·cases h0
   simp only[qau,qbs,qay,and_true]at hx hy
   subst hx;subst hy
   cases u<;>simp only[SL.is,qam]at hu<;>cases v<;>simp only[SL.is,qam]at hv<;>
   ·simp only[SL.val]
    rw[nr e]
    simp[eqSL,cp,SL.lf,gA]
  next fs e=>
   split at h
   next k1 hs hf=>
    split at h
    next hl=>
     cases h
     have hl:=qad hl
     refine⟨true,by simp[aggT,e],by simp[hl],λa b x y ha hb hx hy=>?_⟩
     rcases hx with⟨_,rfl⟩|⟨h0,_⟩
     ·rcases hy with⟨_,rfl⟩|⟨h0,_⟩
      ·rw[ft d t fs _ _ e hs]
       exact nz (lR d) fs.toList 0 _ hf [] a [] b rfl rfl ha hb
      ·cases h0
     ·cases h0
    ·cases h
   ·cases h
  next n el e=>
   split at h
   next ke hk=>
    split at h
    next hl=>
     simp only[qaa]at hl
     have hl1:=qad hl.1
     have hl2:=qad hl.2
     cases h
     refine⟨true,by simp[aggT,e],by simp only[if_true];exact hl2.symm,λa b x y ha hb hx hy=>?_⟩
     rcases hx with⟨_,rfl⟩|⟨h0,_⟩
     ·rcases hy with⟨_,rfl⟩|⟨h0,_⟩
      ·have hE:=lR d el ke hk
       have hu:∃k,P.underlying el=some k:=by
        obtain⟨ag,h1,_⟩:=hE
        unfold aggT at h1
        cases hh:P.underlying el with
        |none=>rw[hh]at h1;cases h1
        |some k=>exact⟨k,rfl⟩
       rw[gc d t el n _ _ e hu,qce]
       exact pC hE hl1 n 0 [] a [] b (by simp) (by simp) ha hb
      ·cases h0
     ·cases h0
    ·cases h
   ·cases h
  ·cases h
end
section
variable {P:TE}
def eqB_iff{a b:Bool}:eqB a b=(a==b):=by cases a<;>cases b<;>rfl
def ug{a b:Int}:eqZ a b=(a==b):=by
 rw[qbJ,beq_iff_eq]
 cases a<;>cases b<;>simp only[eqZ]
 ·rw[Nat.beq_eq];exact⟨λh=>by rw[h],λh=>qca h⟩
 ·exact⟨λh=>(by cases h),λh=>(by cases h)⟩
 ·exact⟨λh=>(by cases h),λh=>(by cases h)⟩
 ·rw[Nat.beq_eq];exact⟨λh=>by rw[h],λh=>Int.negSucc.inj h⟩
def lO:∀ {ks:TG} {xs ys:Tl} {r:Bool},iJ ks xs ys=some r->∃a b:List SL,a.map SL.val=xs/\b.map SL.val=ys/\aT a ks=true/\aT b ks=true/\eqSL a b=r
 | [],[],[],r,h=>by cases h;exact⟨[],[],rfl,rfl,rfl,rfl,rfl⟩
 | .i k :: ks,.int a x :: xs,.int b y :: ys,r,h=>by
  simp only[iJ]at h
  split at h
  next r' e1 e2 e3=>
   obtain⟨as0',bs,h1,h2,h3,h4,h5⟩:=lO e3
   refine⟨.i a x :: as0',.i b y :: bs,by simp[SL.val,h1],by simp[SL.val,h2],by simp[aT,SL.is,e1,h3],by simp[aT,SL.is,e2,h4],?_⟩
   have he:eqSL (.i a x :: as0') (.i b y :: bs)=((x==y)&&eqSL as0' bs):=by simp[eqSL,cp,gA,SL.lf]
   rw[he,h5,←ug]
   split at h
   next e=>cases h;rw[e];rfl
   next e=>cases h;rw[e];rfl
  ·cases h
 | .b :: ks,.bool x :: xs,.bool y :: ys,r,h=>by
  simp only[iJ]at h
  split at h
  next r' e3=>
   obtain⟨as0',bs,h1,h2,h3,h4,h5⟩:=lO e3
   refine⟨.b x :: as0',.b y :: bs,by simp[SL.val,h1],by simp[SL.val,h2],by simp[aT,SL.is,h3],by simp[aT,SL.is,h4],?_⟩
   have he:eqSL (.b x :: as0') (.b y :: bs)=((x==y)&&eqSL as0' bs):=by simp[eqSL,cp,gA,SL.lf]
   rw[he,h5,←eqB_iff]
   split at h
   next e=>cases h;rw[e];rfl
   next e=>cases h;rw[e];rfl
  ·cases h
def gC:∀ {ks:TG} {xs ys:Tl} {r:Bool},iJ ks xs ys=some r->xs.all scalar=true
 | [],[],[],r,h=>rfl
 | .i k :: ks,.int a x :: xs,.int b y :: ys,r,h=>by
  simp only[iJ]at h
  split at h
  next r' e1 e2 e3=>
   simp only[qbU,qaa]
   exact⟨rfl,gC e3⟩
  ·cases h
 | .b :: ks,.bool x :: xs,.bool y :: ys,r,h=>by
  simp only[iJ]at h
  split at h
  next r' e3=>
   simp only[qbU,qaa]
   exact⟨rfl,gC e3⟩
  ·cases h
def fastK_len:∀ {ks:TG} {xs ys:Tl} {r:Bool},iJ ks xs ys=some r->xs.length=ks.length:=by
 intro ks xs ys r h
 obtain⟨a,b,h1,h2,h3,h4,h5⟩:=lO h
 rw[←h1,qaF]
 exact bJ h3
def jR:∀ {ks:TG} {xs:Tl} {r:Bool},iJ ks xs xs=some r->r=true
 | [],[],r,h=>by cases h;rfl
 | .i k :: ks,.int a x :: xs,r,h=>by
  simp only[iJ]at h
  split at h
  next r' e1 e2 e3=>
   have:eqZ x x=true:=by rw[ug];simp
   rw[this]at h
   simp only[qas]at h
   rw[←h];exact jR e3
  ·cases h
 | .b :: ks,.bool x :: xs,r,h=>by
  simp only[iJ]at h
  split at h
  next r' e3=>
   have:eqB x x=true:=by cases x<;>rfl
   rw[this]at h
   simp only[qas]at h
   rw[←h];exact jR e3
  ·cases h
def rq{α:Type}{g:α->PUnit->Sem (ForInStep PUnit)}:∀(l:List α),(∀x∈l,pev P (g x PUnit.unit)=some (.yield PUnit.unit))->pev P (forIn l PUnit.unit g)=some PUnit.unit
 | [],_=>rfl
 |x :: l,h=>by
  rw[qdr,aO,h x qaB]
  exact rq l λy hy=>h y (qan _ hy)
def ChkD(P:TE)(d:Nat)(t:TK)(ks:TG):Prop:=∃ag,aggT P t=some ag/\(if ag then P.cellsOf t else 1)=ks.length/\∀(b:Bool) (m:Nat) (cs:Tl) (v:Value),d<=m->cs.length=ks.length->mkV ag cs v->pev P (Instr.checkKey b m t v)=some ()
def sH{F:TK->Option (TG)}:∀(fs:List Field) (off:Nat) (ks:TG),kX F fs off=some ks->∀f∈fs,∃k1,F f.type=some k1/\f.offset+k1.length<=off+ks.length
 | [],off,ks,h,f,hf=>by cases hf
 |f0 :: fs,off,ks,h,f,hf=>by
  simp only[kX]at h
  split at h
  next k1 hn ho hk=>
   have ho:=qad ho
   obtain⟨k2,hr,rfl⟩:=qac.1 h
   rcases qal.1 hf with rfl|hf
   ·exact⟨k1,hk,by rw[qaC];omega⟩
   ·obtain⟨k3,a,b⟩:=sH fs _ k2 hr f hf
    exact⟨k3,a,by rw[qaC];omega⟩
  ·cases h
def chk_ok:∀(d:Nat) (t:TK) (ks:TG),flatK P d t=some ks->ChkD P d t ks
 |0,t,ks,h=>by cases h
 |d+1,t,ks,h=>by
  simp only[flatK]at h
  split at h
  next k e=>
   cases h
   refine⟨false,by simp[aggT,e],by simp,λb m cs v hm _ _=>?_⟩
   obtain⟨m,rfl⟩ : ∃m',m=m'+1:=⟨m - 1,by omega⟩
   unfold Instr.checkKey
   rw[aO,bk e]
   rfl
  next e=>
   cases h
   refine⟨false,by simp[aggT,e],by simp,λb m cs v hm _ _=>?_⟩
   obtain⟨m,rfl⟩ : ∃m',m=m'+1:=⟨m - 1,by omega⟩
   unfold Instr.checkKey
   rw[aO,bk e]
   rfl
  next fs e=>
   split at h
   next k1 hs hf=>
    split at h
    next hl=>
     cases h
     have hl:=qad hl
     refine⟨true,by simp[aggT,e],by simp[hl],λb m cs v hm hcl hv=>?_⟩
     obtain⟨m,rfl⟩ : ∃m',m=m'+1:=⟨m - 1,by omega⟩
     rcases hv with⟨_,rfl⟩|⟨h0,_⟩
     case inr=>cases h0
     unfold Instr.checkKey
     rw[aO,bk e]
     simp only[qak]
     rw[←Array.forIn_toList]
     have:=rq (P:=P) (g:=λf _=>if f.name ≠ "_" then(do Instr.checkKey b m f.type (←part f.type ⟨cs⟩ f.offset);pure (ForInStep.yield PUnit.unit))else pure (ForInStep.yield PUnit.unit)) fs.toList (λf hf'=>by
      obtain⟨k2,hk,ho⟩:=sH fs.toList 0 _ hf f hf'
      rw[pv_ite]
      split
      ·obtain⟨ag,a1,a2,a3⟩:=chk_ok d f.type k2 hk
       have hc:cut cs f.offset (if ag then P.cellsOf f.type else 1)=some ((cs.drop f.offset).take k2.length):=by
        unfold cut
        rw[a2,qdy (by omega)]
       obtain⟨x,hx,hmk⟩:=kF a1 hc
       rw[aO]
       rw[hx]
       simp only[qak]
       rw[aO,a3 b m _ x (by omega) (by simp;omega) hmk]
       rfl
      ·rfl)
     rw[aO,this]
     rfl
    ·cases h
   ·cases h
  next n el e=>
   split at h
   next ke hk=>
    split at h
    next hl=>
     simp only[qaa]at hl
     have hl1:=qad hl.1
     have hl2:=qad hl.2
     cases h
     refine⟨true,by simp[aggT,e],by simp only[if_true];exact hl2.symm,λb m cs v hm hcl hv=>?_⟩
     obtain⟨m,rfl⟩ : ∃m',m=m'+1:=⟨m - 1,by omega⟩
     rcases hv with⟨_,rfl⟩|⟨h0,_⟩
     case inr=>cases h0
     obtain⟨ag,a1,a2,a3⟩:=chk_ok d el ke hk
     have hu:∃k,P.underlying el=some k:=by
      unfold aggT at a1
      cases hh:P.underlying el with
      |none=>rw[hh]at a1;cases a1
      |some k=>exact⟨k,rfl⟩
     obtain⟨kel,hu⟩:=hu
     unfold Instr.checkKey
     rw[aO,bk e]
     simp only[qak]
     rw[Std.Legacy.Range.forIn_eq_forIn_range']
     simp only[Std.Legacy.Range.size,Nat.sub_zero,qcs,Nat.div_one]
     have hcl':cs.length=n*ke.length:=by rw[hcl,List.length_flatten];simp
     have:=rq (P:=P) (g:=λi _=>(do Instr.checkKey b m el (←part el ⟨cs⟩ (i*(←sizeOf el)));pure (ForInStep.yield PUnit.unit))) (List.range' 0 n) (λi hi=>by
      have hi:i<n:=by simpa using hi
      have hle:i*P.cellsOf el+ke.length<=cs.length:=by
       rw[hcl',←hl1]
       have:=qbl ke.length (Nat.succ_le_of_lt hi)
       rw[Nat.succ_mul]at this
       exact this
      have hc:cut cs (i*P.cellsOf el) (if ag then P.cellsOf el else 1)=some ((cs.drop (i*P.cellsOf el)).take ke.length):=by
       unfold cut
       rw[a2,qdy hle]
      obtain⟨x,hx,hmk⟩:=kF a1 hc
      rw[aO,ju hu]
      simp only[qak]
      rw[aO,hx]
      simp only[qak]
      rw[aO,a3 b m _ x (by omega) (by simp;omega) hmk]
      rfl)
     rw[aO,this]
     rfl
    ·cases h
   ·cases h
  ·cases h
def qO{kt:TK}{k:Value}(h:keyF P kt k=true):eN P kt k=true:=by
 unfold keyF at h
 split at h
 next cs=>
  split at h
  next ha=>
   split at h
   next ks' h2=>
    split at h
    next r e2=>
     have hl:=fastK_len e2
     have hr:=jR e2
     subst hr
     obtain⟨ag,g1,g2,g3⟩:=lR 10000 kt ks' h2
     have hag:ag=true:=by
      rw[ha]at g1;exact(qae g1).symm
     subst hag
     obtain⟨a,c,q1,q2,q3,q4,q5⟩:=lO e2
     have heq:=g3 a c (.agg cs) (.agg cs) q3 q4 (.inl ⟨rfl,by rw[q1]⟩) (.inl ⟨rfl,by rw[q2]⟩)
     rw[q5]at heq
     have heq':pev P (Op.equal kt (.agg cs) (.agg cs))=some true:=heq
     obtain⟨ag',c1,_,c3⟩:=chk_ok 10000 kt ks' h2
     have hag':ag'=true:=by
      rw[ha]at c1;exact(qae c1).symm
     subst hag'
     unfold eN
     rw[c3 true 10000 cs.toList (.agg cs) (qaf _) hl (.inl ⟨rfl,rfl⟩),c3 false 10000 cs.toList (.agg cs) (qaf _) hl (.inl ⟨rfl,rfl⟩),heq']
     have:eM (.agg cs)=true:=gC e2
     rw[this];rfl
    ·exact h
   ·exact h
  ·exact h
 ·exact h
def headV(ag:Bool)(xs:Tl)(x:Value):Prop:=(ag=true/\x = .agg ⟨xs⟩)∨(ag=false/\∃tl,xs=x :: tl)
def DifD(P:TE)(d:Nat)(t:TK)(ks:TG):Prop:=
 ∃ag,aggT P t=some ag/\(if ag then P.cellsOf t else 1)=ks.length/\∀(xs ys:Tl) (x y:Value) (r:Bool),difK ks xs ys=some r->headV ag xs x->headV ag ys y->pev P (Op.equalIn d t x y)=some r
def jP:∀ {k1 k2:TG} {xs ys:Tl} {r:Bool},difK (k1++k2) xs ys=some r->
  ∃r1,difK k1 (xs.take k1.length) (ys.take k1.length)=some r1/\(r1=false->r=false)/\(r1=true->difK k2 (xs.drop k1.length) (ys.drop k1.length)=some r)
 | [],k2,xs,ys,r,h=>by
  refine⟨true,by simp only[difK],(λq=>Bool.noConfusion q),λ_=>?_⟩
  simpa using h
 | .i k :: k1,k2,xs,ys,r,h=>by
  cases xs with
  |nil=>simp[difK]at h
  |cons x xs=>cases ys with
   |nil=>cases x<;>simp[difK]at h
   |cons y ys=>
    cases x<;>first|(simp[difK]at h;done)|skip
    cases y<;>first|(simp[difK]at h;done)|skip
    simp only[qa2,difK]at h
    simp only[qaG,qa7,qbK,difK]
    split at h
    next e1 e2=>
     split at h
     next e3=>
      exact jP h
     next e3=>
      cases h
      exact⟨false,rfl,λ_=>rfl,λq=>Bool.noConfusion q⟩
    ·cases h
 | .b :: k1,k2,xs,ys,r,h=>by
  cases xs with
  |nil=>simp[difK]at h
  |cons x xs=>cases ys with
   |nil=>cases x<;>simp[difK]at h
   |cons y ys=>
    cases x<;>first|(simp[difK]at h;done)|skip
    cases y<;>first|(simp[difK]at h;done)|skip
    simp only[qa2,difK]at h
    simp only[qaG,qa7,qbK,difK]
    split at h
    next e3=>
     exact jP h
    next e3=>
     cases h
     exact⟨false,rfl,λ_=>rfl,λq=>Bool.noConfusion q⟩
 | .v :: k1,k2,xs,ys,r,h=>by simp[difK]at h
def difK_ne{k:LK}{ks:TG}{xs ys:Tl}{r:Bool}(h:difK (k :: ks) xs ys=some r):∃x tl y tl',xs=x :: tl/\ys=y :: tl':=by
 cases xs with
 |nil=>cases k<;>simp[difK]at h
 |cons x xs=>cases ys with
  |nil=>cases k<;>cases x<;>simp[difK]at h
  |cons y ys=>exact⟨x,xs,y,ys,rfl,rfl⟩
def pv_head{t:TK}{ag:Bool}(h:aggT P t=some ag){cs:Tl}{off n:Nat}(hn:(if ag then P.cellsOf t else 1)=n)(hne:ag=false->∃x tl,(cs.drop off).take n=x :: tl) :
  ∃v,pev P (part t ⟨cs⟩ off)=some v/\headV ag ((cs.drop off).take n) v:=by
 have hu:∃d,P.underlying t=some d:=by
  unfold aggT at h
  cases hh:P.underlying t with
  |none=>rw[hh]at h;cases h
  |some d=>exact⟨d,rfl⟩
 obtain⟨d,hu⟩:=hu
 unfold part
 rw[aO,wi h]
 simp only[qak]
 cases ag with
 |true=>
  simp only[if_true]at hn ⊢
  subst hn
  refine⟨.agg ⟨(cs.drop off).take (P.cellsOf t)⟩,?_,.inl ⟨rfl,rfl⟩⟩
  rw[aO,ju hu]
  simp only[qak,fi,qas,Value.agg.injEq]
  apply qa6.1
  rw[qcc]
  simp[List.extract]
 |false=>
  obtain⟨x,tl,hx⟩:=hne rfl
  simp only[qam,if_false]at hn ⊢
  subst hn
  refine⟨x,?_,.inr ⟨rfl,tl,hx⟩⟩
  have h1:(cs.drop off)[0]?=some x:=by
   have:((cs.drop off).take 1)[0]?=some x:=by rw[hx];rfl
   rwa [qaT,qdy (by omega)]at this
  rw[qaU,qcb]at h1
  have:(⟨cs⟩ : Array Value)[off]?=some x:=by simpa using h1
  rw[this]
  rfl
def vg{d:Nat}{t:TK}{k1 k2:TG}(hD:DifD P d t k1){xs ys:Tl}{off:Nat}{r:Bool}(h:difK (k1++k2) (xs.drop off) (ys.drop off)=some r)(s:Bool->Sem Bool){r':Bool}
  (hs:difK k2 (xs.drop (off+k1.length)) (ys.drop (off+k1.length))=some r->pev P (s true)=some r) (hf:pev P (s false)=some false) (hr:r'=r) :
  (pev P (part t ⟨xs⟩ off)).bind (λa=>(pev P (part t ⟨ys⟩ off)).bind λb=>(pev P (Op.equalIn d t a b)).bind λq=>pev P (s q))=some r':=by
 subst hr
 obtain⟨ag,h1,h2,h3⟩:=hD
 obtain⟨r1,e1,e2,e3⟩:=jP h
 have hne:ag=false->(∃x tl,(xs.drop off).take k1.length=x :: tl)/\∃x tl,(ys.drop off).take k1.length=x :: tl:=by
  intro hag
  subst hag
  simp only[qam,if_false]at h2
  cases k1 with
  |nil=>cases h2
  |cons k ks=>
   obtain⟨x,tl,y,tl',q1,q2⟩:=difK_ne e1
   exact⟨⟨x,tl,q1⟩,⟨y,tl',q2⟩⟩
 obtain⟨x,x1,x2⟩:=pv_head h1 (cs:=xs) (off:=off) h2 λh=>(hne h).1
 obtain⟨y,y1,y2⟩:=pv_head h1 (cs:=ys) (off:=off) h2 λh=>(hne h).2
 rw[x1]
 simp only[qak]
 rw[y1]
 simp only[qak]
 rw[h3 _ _ x y r1 e1 x2 y2]
 simp only[qak]
 cases r1 with
 |true=>
  refine hs ?_
  have:=e3 rfl
  rwa [qbS,qbS]at this
 |false=>rw[e2 rfl];exact hf
def lm{d:Nat}{F:TK->Option (TG)}(hF:∀t ks,F t=some ks->DifD P d t ks):∀(fs:List Field) (off:Nat) (ks:TG),kX F fs off=some ks->
  ∀(xs ys:Tl) (r:Bool),difK ks (xs.drop off) (ys.drop off)=some r->pev P (Op.eqFields d ⟨xs⟩ ⟨ys⟩ fs)=some r
 | [],off,ks,h,xs,ys,r,hd=>by
  cases h
  simp only[difK,qas]at hd
  subst hd
  rfl
 |f :: fs,off,ks,h,xs,ys,r,hd=>by
  simp only[kX]at h
  split at h
  next k1 hn ho hk=>
   have hn:¬f.name = "_":=of_decide_eq_false hn
   have ho:=qad ho
   obtain⟨k2,hr,rfl⟩:=qac.1 h
   simp only[Op.eqFields,ne_eq,hn,not_false_eq_true,if_true,aO]
   rw[ho]
   exact vg (hF _ _ hk) hd (λq=>if (!q)=true then pure false else Op.eqFields d ⟨xs⟩ ⟨ys⟩ fs) (λh=>by simpa using lm hF fs _ k2 hr xs ys r h) rfl rfl
  ·cases h
def nu{d:Nat}{e:TK}{ke:TG}(hE:DifD P d e ke)(hlen:ke.length=P.cellsOf e):∀(n i:Nat) (xs ys:Tl) (r:Bool),
  difK (List.replicate n ke).flatten (xs.drop (i*P.cellsOf e)) (ys.drop (i*P.cellsOf e))=some r->pev P (dZ d (P.cellsOf e) e ⟨xs⟩ ⟨ys⟩ (List.range' i n))=some r
 |0,i,xs,ys,r,hd=>by
  simp only[List.replicate_zero,List.flatten_nil,difK,qas]at hd
  subst hd
  rfl
 |n+1,i,xs,ys,r,hd=>by
  rw[qcl,qcf]at hd
  simp only[qdj,dZ,aO]
  refine vg hE hd (λq=>if (!q)=true then pure false else dZ d (P.cellsOf e) e ⟨xs⟩ ⟨ys⟩ (List.range' (i+1) n)) (λh=>?_) rfl rfl
  have:=nu hE hlen n (i+1) xs ys r (by rw[qbF,qb9,←hlen];rwa [←hlen]at h)
  simpa using this
def mP:∀(d:Nat) (t:TK) (ks:TG),flatK P d t=some ks->DifD P d t ks
 |0,t,ks,h=>by cases h
 |d+1,t,ks,h=>by
  simp only[flatK]at h
  split at h
  next k e=>
   cases h
   refine⟨false,by simp[aggT,e],by simp,λxs ys x y r hd hx hy=>?_⟩
   rcases hx with⟨h0,_⟩|⟨_,tx,rfl⟩
   ·cases h0
   rcases hy with⟨h0,_⟩|⟨_,ty,rfl⟩
   ·cases h0
   cases x<;>first|(simp[difK]at hd;done)|skip
   cases y<;>first|(simp[difK]at hd;done)|skip
   simp only[difK]at hd
   split at hd
   next e1 e2=>
    have e1:=dw e1
    have e2:=dw e2
    subst e1;subst e2
    rw[pA e,←ug]
    split at hd
    next e3=>rw[e3];exact hd
    next e3=>rw[e3];exact hd
   ·cases hd
  next e=>
   cases h
   refine⟨false,by simp[aggT,e],by simp,λxs ys x y r hd hx hy=>?_⟩
   rcases hx with⟨h0,_⟩|⟨_,tx,rfl⟩
   ·cases h0
   rcases hy with⟨h0,_⟩|⟨_,ty,rfl⟩
   ·cases h0
   cases x<;>first|(simp[difK]at hd;done)|skip
   cases y<;>first|(simp[difK]at hd;done)|skip
   simp only[difK]at hd
   rw[nr e,←eqB_iff]
   split at hd
   next e3=>rw[e3];exact hd
   next e3=>rw[e3];exact hd
  next fs e=>
   split at h
   next k1 hs hf=>
    split at h
    next hl=>
     cases h
     have hl:=qad hl
     refine⟨true,by simp[aggT,e],by simp[hl],λxs ys x y r hd hx hy=>?_⟩
     rcases hx with⟨_,rfl⟩|⟨h0,_⟩
     ·rcases hy with⟨_,rfl⟩|⟨h0,_⟩
      ·rw[ft d t fs _ _ e hs]
       exact lm (mP d) fs.toList 0 _ hf xs ys r hd
      ·cases h0
     ·cases h0
    ·cases h
   ·cases h
  next n el e=>
   split at h
   next ke hk=>
    split at h
    next hl=>
     simp only[qaa]at hl
     have hl1:=qad hl.1
     have hl2:=qad hl.2
     cases h
     refine⟨true,by simp[aggT,e],by simp only[if_true];exact hl2.symm,λxs ys x y r hd hx hy=>?_⟩
     rcases hx with⟨_,rfl⟩|⟨h0,_⟩
     ·rcases hy with⟨_,rfl⟩|⟨h0,_⟩
      ·have hE:=mP d el ke hk
       have hu:∃k,P.underlying el=some k:=by
        obtain⟨ag,h1,_⟩:=hE
        unfold aggT at h1
        cases hh:P.underlying el with
        |none=>rw[hh]at h1;cases h1
        |some k=>exact⟨k,rfl⟩
       rw[gc d t el n _ _ e hu,qce]
       exact nu hE hl1 n 0 xs ys r (by simpa using hd)
      ·cases h0
     ·cases h0
    ·cases h
   ·cases h
  ·cases h
def sE{kt:TK}{ks:TG}{cs:Tj}(hE:∀(xs ys:Tl) (x y:Value) (r:Bool),difK ks xs ys=some r->headV true xs x->headV true ys y->pev P (Op.equalIn 10000 kt x y)=some r) :
  ∀(es:Th) (i:Nat) (r:Tp),il ks cs.toList es i=some r->∃q,pev P (Instr.findAsking kt (.agg cs) (es.map bh) i)=some q/\q.map (·.1)=r
 | [],i,r,h=>by cases h;exact⟨none,rfl,rfl⟩
 |e :: es,i,r,h=>by
  simp only[il]at h
  split at h
  next ds hd=>
   have hq:∀b,difK ks cs.toList ds.toList=some b->pev P (Op.equal kt (.agg cs) (bh e).key)=some b:=by
    intro b hb
    have:=hE cs.toList ds.toList (.agg cs) (.agg ds) b hb (.inl ⟨rfl,rfl⟩) (.inl ⟨rfl,rfl⟩)
    show pev P (Op.equalIn 10000 kt (.agg cs) e.key)=some b
    rw[hd];exact this
   have hs:pev P (Instr.findAsking kt (.agg cs) ((e :: es).map bh) i)=(pev P (Op.equal kt (.agg cs) (bh e).key)).bind λb=>pev P (if b then pure (some (i,(bh e).val))else Instr.findAsking kt (.agg cs) (es.map bh) (i+1)):=by
    show pev P (Op.equal kt (.agg cs) (bh e).key >>= λb=>if b then pure (some (i,(bh e).val))else Instr.findAsking kt (.agg cs) (es.map bh) (i+1))=_
    rw[aO]
   split at h
   next hb=>
    cases h
    refine⟨some (i,(bh e).val),?_,rfl⟩
    rw[hs,hq true hb];rfl
   next hb=>
    obtain⟨q,h1,h2⟩:=sE hE es (i+1) r h
    refine⟨q,?_,h2⟩
    rw[hs,hq false hb]
    simp only[qak,qam,if_false]
    exact h1
   ·cases h
  ·cases h
def lP(kt:TK)(k:Value)(es:Th):ob P kt k es=jg P kt k es:=by
 unfold ob
 split
 next cs=>
  simp only[lQ]
  split
  next ks ha hf=>
   split
   next r hq=>
    obtain⟨ag,g1,g2,g3⟩:=mP 10000 kt ks hf
    rw[ha]at g1
    cases g1
    obtain⟨q,h1,h2⟩:=sE (P:=P) (kt:=kt) g3 es 0 r hq
    have hd:∃d,P.underlying kt=some d/\∀x,Instr.sameNow d (.agg cs) x=none:=by
     unfold aggT at ha
     split at ha
     next fs e=>exact⟨_,e,λx=>by simp[Instr.sameNow]⟩
     next n e' e=>exact⟨_,e,λx=>by simp[Instr.sameNow]⟩
     ·cases ha
     ·cases ha
    obtain⟨d,hd,hn⟩:=hd
    unfold jg Instr.findKey
    rw[aO,bk hd]
    simp only[qak]
    cases es with
    |nil=>
     cases hq
     rfl
    |cons e l=>
     have:Instr.findNow d (.agg cs) ((e :: l).map bh) 0=none:=by
      simp only[qau]
      unfold Instr.findNow
      rw[hn]
     rw[this]
     simp only
     rw[h1]
     simp[h2]
   ·rfl
  ·rfl
 ·rfl
end
section
variable [Val] [Kno] {R HT:Type} {A:Alg R HT} {X:Ctxt} {Sg:Tc} {holds:R->Prop} {abs:HT->Ts}
variable {ev:Env} {σ:St} {h:HT} {o:Oper} {K:KN R HT}
def SL.nv:SL->Prop
 | .v _=>False
 |_=>True
def SL.nv_scalar{l:SL}(h:l.nv):scalar l.val=true:=by cases l<;>first|rfl|exact h.elim
def SL.nv_den{l:SL}(h:l.nv):den1 l.val=l.val:=by cases l<;>first|rfl|exact h.elim
def qX{x:S0}(h:∀l∈x.cells,l.nv):plain x.val=true/\den x.val=x.val:=by
 cases x with
 |leaf l=>
  have hl:=h l (by simp[S0.cells])
  cases l<;>first|exact⟨rfl,rfl⟩|exact hl.elim
 |agg cs=>
  refine⟨?_,?_⟩
  ·simp only[S0.val,plain,qag,qaM]
   rintro _ ⟨l,hl,rfl⟩
   simp[iz,SL.nv_scalar (h l hl)]
  ·simp only[S0.val,den,Value.agg.injEq]
   apply qa6.1
   rw[qbw,qcC]
   refine qbD λl hl=>?_
   exact SL.nv_den (h l hl)
def pV:∀ {cs:List SL} {ks:TG},aT cs ks=true->pW ks=true->∀l∈cs,l.nv
 | [],[],_,_,l,hl=>by cases hl
 |c :: cs,k :: ks,h1,h2,l,hl=>by
  simp only[aT,qaa]at h1
  simp only[pW,qbU,qaa]at h2
  rcases qal.1 hl with rfl|hl
  ·cases l<;>first|trivial|(cases k<;>first|(simp at h2;done)|(simp[SL.is]at h1;done))
  ·exact pV h1.2 h2.2 l hl
 | [],_ :: _,h,_,_,_=>by cases h
 |_ :: _,[],h,_,_,_=>by cases h
def fE{op:BinOp}{t yt:TK}{x y:TF}{a b u:Value}(ho:o.op = .binOp op t x y yt)(hx:oval σ.tmps x=a)(hy:oval σ.tmps y=b)(pa:plain a=true/\den a=a)(pb:plain b=true/\den b=b)
  (pu:plain u=true/\den u=u) (hg:∀w,(eqGuard op t x y a b).run X.C.P w = .ok () w) (hr:∀w,(binOp op t a b).run X.C.P w = .ok u w):iB X.C σ.tmps o u:=by
 refine⟨by rw[ho];rfl,?_,pu.1,λw=>?_⟩
 ·rw[ho];simp[Op.operands,hx,hy,pa.1,pb.1]
 ·simp only[execOp,ho,hx,hy,pa.2,pb.2,Sem.run_bind,hg w,Result.andThen_ok,hr w,Sem.run_pure,pu.2]
def mR{op:BinOp}{t:TK}{x y:TF}{k k':TH}{a b:Int}{P:TE}(w:World):(eqGuard op t x y (.int k a) (.int k' b)).run P w = .ok () w:=by
 unfold eqGuard
 split<;>rfl
def oN{op:BinOp}{t:TK}{x y:TF}{a b:Bool}{P:TE}(w:World):(eqGuard op t x y (.bool a) (.bool b)).run P w = .ok () w:=by
 unfold eqGuard
 split<;>rfl
def sJ{op:BinOp}{t:TK}{x y:TF}{a b:ByteArray}{P:TE}(w:World):(eqGuard op t x y (.string a) (.string b)).run P w = .ok () w:=by
 unfold eqGuard
 split<;>rfl
def str_beq(a b:ByteArray):(a.toList==b.toList)=eqBs a.data.toList b.data.toList:=by
 rw[qbJ,vn,beq_iff_eq,ByteArray.toList_eq,ByteArray.toList_eq]
def nO{x y:Value}{t:Bool}(h:strEq x y=some t):∃a b,x = .string a/\y = .string b/\t=eqBs a.data.toList b.data.toList:=by
 unfold strEq at h
 split at h
 ·split at h
  ·cases h;exact⟨_,_,rfl,rfl,rfl⟩
  ·cases h
 ·cases h
def cmp_run{P:TE}{op:BinOp}{k:TH}{a b:Int}{t:Bool}(h:oC op a b=some t)(hs:isShift op=false)(ty:TK)(w:World):(binOp op ty (.int k a) (.int k b)).run P w = .ok (.bool t) w:=by
 cases op<;>simp only[oC,reduceCtorEq,qas]at h<;>subst h<;>simp[binOp,Op.intCmp]
def au{l:SL}(h:l.good):(S0.leaf l).good:=λm hm=>by
 simp only[S0.cells,qap]at hm
 subst hm;exact h
def bin_ok(hA:AlgOk A X.C Sg X.T holds abs)(hR:Rp ev σ)(ha:abs h=σ.heap){op:BinOp}{t yt:TK}{x y:TF}{a b:S0}(ho:o.op = .binOp op t x y yt)
  (hx:sval0 ev x=some a) (hy:sval0 ev y=some b) (hk:holds (binE A X o.dst op t a b ev h K)):Done X holds abs o σ K:=by
 obtain⟨h1,ga⟩:=hR.sval0 hx
 obtain⟨h2,gb⟩:=hR.sval0 hy
 unfold binE at hk
 split at hk
 next k n k' m=>
  simp only[S0.val,SL.val]at h1 h2
  have pi:∀(k:TH) (n:Int),plain (.int k n)=true/\den (.int k n) = .int k n:=λ_ _=>⟨rfl,rfl⟩
  split at hk
  ·obtain⟨r,hr,hk1⟩:=hA.shf _ _ _ _ _ _ hk
   exact cm hR ha (s:=.st (.leaf (.i k r))) (au trivial) (fE ho h1 h2 (pi _ _) (pi _ _) (pi _ _) (λw=>mR w) (λw=>hr _ _ w)) hk1
  next hs hk' hc=>
   have e:=dw hk'
   subst e
   obtain⟨r,hr,hk1⟩:=hA.cmp _ _ _ _ hk
   exact cm hR ha (s:=.st (.leaf (.b r))) (au trivial) (fE ho h1 h2 (pi _ _) (pi _ _) ⟨rfl,rfl⟩ (λw=>mR w) (λw=>cmp_run hr hs _ w)) hk1
  next hs hk' hc=>
   have e:=dw hk'
   subst e
   obtain⟨r,hr,hk1⟩:=hA.ari _ _ _ _ _ hk
   exact cm hR ha (s:=.st (.leaf (.i k r))) (au trivial) (fE ho h1 h2 (pi _ _) (pi _ _) (pi _ _) (λw=>mR w) (λw=>hr _ _ w)) hk1
  ·exact absurd hk hA.fail
 next cs es=>
  split at hk
  next ks hf hgt hga=>
   split at hk
   next hc=>
    simp only[qaa]at hc
    obtain⟨⟨hc1,hc2⟩,hc3⟩:=hc
    have hp1:=qX (x:=.agg cs) (pV hc1 hc3)
    have hp2:=qX (x:=.agg es) (pV hc2 hc3)
    obtain⟨ag,g1,g2,g3⟩:=lR 10000 t ks hf
    have hgd:∀w,(eqGuard op t x y (S0.val (.agg cs)) (S0.val (.agg es))).run X.C.P w = .ok () w:=λw=>run_eqGuard_agg w op t x y _ _ hgt
    have hag:ag=true:=by
     rw[hga]at g1;exact(qae g1).symm
    subst hag
    have heq:=g3 cs es _ _ hc1 hc2 (.inl ⟨rfl,rfl⟩) (.inl ⟨rfl,rfl⟩)
    split at hk
    ·have hk1:=hA.eqs _ _ hk
     refine cm hR ha (s:=.st (.leaf (.b _))) (au trivial) (fE ho h1 h2 hp1 hp2 ⟨rfl,rfl⟩ hgd λw=>?_) hk1
     rw[S0.val,S0.val,run_eql_struct,fS heq]
     rfl
    ·have hk1:=hA.eqs _ _ hk
     refine cm hR ha (s:=.st (.leaf (.b _))) (au trivial) (fE ho h1 h2 hp1 hp2 ⟨rfl,rfl⟩ hgd λw=>?_) hk1
     rw[S0.val,S0.val,run_neq_struct,fS heq]
     rfl
    ·exact absurd hk hA.fail
   ·exact absurd hk hA.fail
  ·exact absurd hk hA.fail
 next u v=>
  simp only[S0.val,SL.val]at h1 h2
  split at hk
  next hu=>
   split at hk
   ·obtain⟨t',hn,hk1⟩:=hA.opt _ _ hk
    obtain⟨c,d,rfl,rfl,rfl⟩:=nO hn
    refine cm hR ha (s:=.st (.leaf (.b _))) (au trivial) (fE ho h1 h2 ⟨rfl,rfl⟩ ⟨rfl,rfl⟩ ⟨rfl,rfl⟩ (λw=>sJ w) λw=>?_) hk1
    simp only[binOp,Op.stringOp,str_beq]
    rfl
   ·obtain⟨t',hn,hk1⟩:=hA.opt _ _ hk
    obtain⟨c,d,rfl,rfl,rfl⟩:=nO hn
    refine cm hR ha (s:=.st (.leaf (.b _))) (au trivial) (fE ho h1 h2 ⟨rfl,rfl⟩ ⟨rfl,rfl⟩ ⟨rfl,rfl⟩ (λw=>sJ w) λw=>?_) hk1
    simp only[binOp,Op.stringOp,str_beq]
    rfl
   ·exact absurd hk hA.fail
  ·split at hk
   ·obtain⟨t',hn,hk1⟩:=hA.opt _ _ hk
    obtain⟨hn,hok⟩:=tj ‹X.C.P.underlying t=some _› hn
    refine aB hR ha (s:=.st (.leaf (.b t'))) (au trivial) ?_ hk1
    simp only[aj,ho,h1,h2,hn,hok,if_true];rfl
   ·obtain⟨t',hn,hk1⟩:=hA.opt _ _ hk
    obtain⟨hn,hok⟩:=tj ‹X.C.P.underlying t=some _› hn
    refine aB hR ha (s:=.st (.leaf (.b (!t')))) (au trivial) ?_ hk1
    simp only[aj,ho,h1,h2,hn,hok,if_true];rfl
   ·exact absurd hk hA.fail
  ·exact absurd hk hA.fail
 next u v _ _=>
  split at hk
  next hb hu=>
   simp only[qaa]at hb
   have hval:∀ {l:SL},l.is .b=true->∃c,l.val = .bool c/\l.lf = .b c:=by
    intro l hl
    cases l<;>simp only[SL.is,qam]at hl<;>exact⟨_,rfl,rfl⟩
   obtain⟨c,c1,c2⟩:=hval hb.1
   obtain⟨d,d1,d2⟩:=hval hb.2
   simp only[S0.val]at h1 h2
   rw[c1]at h1
   rw[d1]at h2
   have hq:∀w,(Op.equal t (.bool c) (.bool d)).run X.C.P w = .ok (c==d) w:=λw=>run_equal_bool w t c d hu
   split at hk
   ·have hk1:=hA.eqs _ _ hk
    rw[c2,d2]at hk1
    refine cm hR ha (s:=.st (.leaf (.b _))) (au trivial) (fE ho h1 h2 ⟨rfl,rfl⟩ ⟨rfl,rfl⟩ ⟨rfl,rfl⟩ (λw=>oN w) λw=>?_) hk1
    simp only[binOp,Sem.run_bind,hq w,Result.andThen_ok,Sem.run_pure]
    simp[SV.val,S0.val,SL.val,cp,gA]
   ·have hk1:=hA.eqs _ _ hk
    rw[c2,d2]at hk1
    refine cm hR ha (s:=.st (.leaf (.b _))) (au trivial) (fE ho h1 h2 ⟨rfl,rfl⟩ ⟨rfl,rfl⟩ ⟨rfl,rfl⟩ (λw=>oN w) λw=>?_) hk1
    simp only[binOp,Sem.run_bind,hq w,Result.andThen_ok,Sem.run_pure]
    simp[SV.val,S0.val,SL.val,cp,gA]
   ·exact absurd hk hA.fail
  ·exact absurd hk hA.fail
 ·exact absurd hk hA.fail
def un_ok(hA:AlgOk A X.C Sg X.T holds abs)(hR:Rp ev σ)(ha:abs h=σ.heap){op:UnOp}{t:TK}{x:TF}(ho:o.op = .unOp op t x)
  (hk:holds (match (generalizing:=false) op,sval ev x with
  | .not,.st (.leaf (.b t))=>setD o.dst (.st (.leaf (.b (!t)))) ev h K
  | .not,.st (.leaf (.l t))=>setD o.dst (.st (.leaf (.l (!t)))) ev h K
  | .neg,.st (.leaf (.i k n))=>A.ari .sub k 0 n λn=>setD o.dst (.st (.leaf (.i k n))) ev h K
  |_,_=>A.fail)):Done X holds abs o σ K:=by
 have hsym:∀ {a u:Value},oval σ.tmps x=a->(plain a=true/\den a=a)->(plain u=true/\den u=u)->(∀w,(Op.unary op a).run X.C.P w = .ok u w)->iB X.C σ.tmps o u:=by
  intro a u hx pa pu hr
  refine⟨by rw[ho];rfl,by rw[ho];simp[Op.operands,hx,pa.1],pu.1,λw=>?_⟩
  simp only[execOp,ho,hx,pa.2,Sem.run_bind,hr w,Result.andThen_ok,Sem.run_pure,pu.2]
 split at hk
 next t' e=>
  obtain⟨h1,_⟩:=hR.sval e (by simp)
  refine cm hR ha (s:=.st (.leaf (.b (!t')))) (au trivial) (hsym h1 ⟨rfl,rfl⟩ ⟨rfl,rfl⟩ λw=>?_) hk
  simp[SV.val,S0.val,SL.val,Op.unary]
 next t' e=>
  obtain⟨h1,_⟩:=hR.sval e (by simp)
  refine cm hR ha (s:=.st (.leaf (.l (!t')))) (au trivial) (hsym h1 ⟨rfl,rfl⟩ ⟨rfl,rfl⟩ λw=>?_) hk
  simp[SV.val,S0.val,SL.val,Op.unary]
 next k n e=>
  obtain⟨h1,_⟩:=hR.sval e (by simp)
  obtain⟨r,hr,hk1⟩:=hA.ari _ _ _ _ _ hk
  refine cm hR ha (s:=.st (.leaf (.i k r))) (au trivial) (hsym h1 ⟨rfl,rfl⟩ ⟨rfl,rfl⟩ λw=>?_) hk1
  have:=hr X.C.P t w
  simp[SV.val,S0.val,SL.val,Op.unary,binOp,Op.intArith]at this ⊢
  exact this
 ·exact absurd hk hA.fail
def conv_ok(hA:AlgOk A X.C Sg X.T holds abs)(hR:Rp ev σ)(ha:abs h=σ.heap){sT dT:TK}{x:TF}(ho:o.op = .convert sT dT x)
  (hk:holds (match X.C.P.underlying sT,X.C.P.underlying dT,sval ev x with
  |some (.int _),some (.int k),.st (.leaf (.i _ n))=>A.conv k n λn=>setD o.dst (.st (.leaf (.i k n))) ev h K
  |_,_,_=>A.fail)):Done X holds abs o σ K:=by
 split at hk
 next ks k k' n hs hu e=>
  obtain⟨h1,_⟩:=hR.sval e (by simp)
  have hk1:=hA.conv _ _ _ hk
  simp only[SV.val,S0.val,SL.val]at h1
  refine cm hR ha (s:=.st (.leaf (.i k _))) (au trivial) ⟨by rw[ho];rfl,by rw[ho];simp[Op.operands,h1];rfl,rfl,λw=>?_⟩ hk1
  simp only[execOp,ho,h1]
  simp[den,den1,convert,run_underlying hs,run_underlying hu,Conv.intToInt,SV.val,S0.val,SL.val]
 ·exact absurd hk hA.fail
end
namespace Sx
section
variable [Val] [Kno] {R HT:Type} {A:Alg R HT} {X:Ctxt} {Sg:Tc} {holds:R->Prop} {abs:HT->Ts}
variable {ev:Env} {σ:St} {h:HT} {o:Oper} {K:KN R HT}
def nk:∀(ix:List (Int×Nat)) (base:Nat) (p:Int×Nat),offX base (ix++[p])=offX base ix+p.1.toNat*p.2
 | [],_,_=>rfl
 |q :: l,base,p=>nk l (base+q.1.toNat*q.2) p
def jr:∀(ix:List (Int×Nat)) (base n:Nat),offX (base+n) ix=offX base ix+n
 | [],_,_=>rfl
 |q :: l,base,n=>by
  simp only[offX]
  rw[show base+n+q.1.toNat*q.2=base+q.1.toNat*q.2+n by omega]
  exact jr l _ n
def uy(hA:AlgOk A X.C Sg X.T holds abs)(hR:Rp ev σ)(ha:abs h=σ.heap){x:TF}(ho:o.op = .nilCheck x)
  (hk:holds (match sval ev x with
  | .st (.leaf (.v p))=>A.opt (nilP p) λq=>A.chk q (setD o.dst (.st (.leaf (.v q))) ev h K)
  | .lad s off=>setD o.dst (.lad s off) ev h K
  | .gad s off=>setD o.dst (.gad s off) ev h K
  |_=>A.fail)):Done X holds abs o σ K:=by
 split at hk
 next p e=>
  obtain⟨h1,_⟩:=hR.sval e (by simp)
  simp only[SV.val,S0.val,SL.val]at h1
  obtain⟨q,hq,hk1⟩:=hA.opt _ _ hk
  obtain⟨hg,hk2⟩:=hA.chk _ _ hk1
  refine aB hR ha (s:=.st (.leaf (.v q))) (au hg) ?_ hk2
  simp only[aj,ho,h1]
  unfold nilP at hq
  split at hq<;>cases hq<;>rfl
 next s off e=>
  obtain⟨h1,_⟩:=hR.sval e (by simp)
  exact aB hR ha (s:=.lad s off) trivial (by simp only[aj,ho,h1,SV.val]) hk
 next s off e=>
  obtain⟨h1,_⟩:=hR.sval e (by simp)
  exact aB hR ha (s:=.gad s off) trivial (by simp only[aj,ho,h1,SV.val]) hk
 ·exact absurd hk hA.fail
def sC(hA:AlgOk A X.C Sg X.T holds abs)(hR:Rp ev σ)(ha:abs h=σ.heap){t:TK}{x:TF}{f:Nat}(ho:o.op = .fieldAddr t x f)
  (hk:holds (jS A X o.dst t x f ev h K)):Done X holds abs o σ K:=by
 unfold jS at hk
 split at hk
 next fs hu=>
  split at hk
  next fd hf=>
   have heff:∀ {b off:Nat} {sp:Tp},Nat.beq (X.C.P.cellsOf fd.type) 0=false->oval σ.tmps x = .pointer (some ⟨b,off,sp⟩)->
     aj X.C X.pts (oval σ.tmps) o=some (.val (.pointer (some ⟨b,off+fd.offset,sp⟩))):=by
    intro b off sp hz hx
    have hz:¬X.C.P.cellsOf fd.type=0:=λe=>by rw[e]at hz;cases hz
    simp only[aj,ho,hx,fm,hu,hf,qdz hz,qaz]
   split at hk
   next s off hz e=>
    obtain⟨h1,_⟩:=hR.sval e (by simp)
    exact aB hR ha (s:=.lad s (off+fd.offset)) trivial (heff hz h1) hk
   next s off hz e=>
    obtain⟨h1,_⟩:=hR.sval e (by simp)
    exact aB hR ha (s:=.gad s (off+fd.offset)) trivial (heff hz h1) hk
   next s base ix hz e=>
    obtain⟨h1,_⟩:=hR.sval e (by simp)
    refine aB hR ha (s:=.ldx s (base+fd.offset) ix) trivial ?_ hk
    rw[heff hz h1,SV.val,jr]
   next s base ix hz e=>
    obtain⟨h1,_⟩:=hR.sval e (by simp)
    refine aB hR ha (s:=.gdx s (base+fd.offset) ix) trivial ?_ hk
    rw[heff hz h1,SV.val,jr]
   next p hz e=>
    obtain⟨h1,_⟩:=hR.sval e (by simp)
    simp only[SV.val,S0.val,SL.val]at h1
    obtain⟨q,hq,hk1⟩:=hA.opt _ _ hk
    obtain⟨hg,hk2⟩:=hA.chk _ _ hk1
    refine aB hR ha (s:=.st (.leaf (.v q))) (au hg) ?_ hk2
    unfold fdP at hq
    split at hq
    next a=>
     cases hq
     exact heff hz h1
    ·cases hq
   ·exact absurd hk hA.fail
  ·exact absurd hk hA.fail
 ·exact absurd hk hA.fail
def jc{i:TF}{n:Nat}(h:constI i=some n):intOf (oval σ.tmps i)=some (n:Int):=by
 unfold constI at h
 split at h
 ·cases h
  simp[oval,flat,eM,scalar,Am.intOf]
 ·cases h
def sM{len:Nat}{j:Int}{u:Unit}(h:inB len j=some u):0<=j/\j<(len:Int):=by
 rw[inB_eq]at h
 split at h
 ·assumption
 ·cases h
def idS_ok{esz:Nat}{x q:Value}{i:Int}(h:idS esz x i=some q) :
  ∃a len cx,x = .slice (some a) len cx/\(0<=i/\i<(len:Int))/\q = .pointer (some ⟨a.block,a.off+i.toNat*esz,if a.spot=some 1 then some 1 else none⟩):=by
 rw[sL]at h
 split at h
 next a len cx=>
  split at h
  next hb=>cases h;exact⟨a,len,cx,rfl,hb,rfl⟩
  ·cases h
 ·cases h
def sN(hA:AlgOk A X.C Sg X.T holds abs)(hR:Rp ev σ)(ha:abs h=σ.heap){t:TK}{x i:TF}(ho:o.op = .indexAddr t x i)
  (hk:holds (jZ A X o.dst t x i ev h K)):Done X holds abs o σ K:=by
 unfold jZ at hk
 split at hk
 next len e hu=>
  have heff:∀ {b off:Nat} {sp:Tp} {j:Int},Nat.beq (X.C.P.cellsOf e) 0=false->oval σ.tmps x = .pointer (some ⟨b,off,sp⟩)->intOf (oval σ.tmps i)=some j->0<=j->j<(len:Int)->
    aj X.C X.pts (oval σ.tmps) o=some (.val (.pointer (some ⟨b,off+j.toNat*X.C.P.cellsOf e,sp⟩))):=by
   intro b off sp j hz hx hi h0 h1
   have hz:¬X.C.P.cellsOf e=0:=λe=>by rw[e]at hz;cases hz
   simp only[aj,ho,hx,eu,hi,hu,qdz hz,qdy (And.intro h0 h1),qaz]
  have hint:∀ {k:TH} {j:Int},sval ev i = .st (.leaf (.i k j))->intOf (oval σ.tmps i)=some j:=by
   intro k j hs
   obtain⟨h1,_⟩:=hR.sval hs (by simp)
   rw[h1];rfl
  simp only at hk
  split at hk
  next s off n hz e1 hc=>
   obtain⟨h1,_⟩:=hR.sval e1 (by simp)
   split at hk
   next hlt=>
    have hlt:n<len:=by simpa[qbc]using hlt
    refine aB hR ha (s:=.lad s (off+n*X.C.P.cellsOf e)) trivial ?_ hk
    rw[heff hz h1 (jc hc) (by omega) (by omega)];simp[SV.val]
   ·exact absurd hk hA.fail
  next s off n hz e1 hc=>
   obtain⟨h1,_⟩:=hR.sval e1 (by simp)
   split at hk
   next hlt=>
    have hlt:n<len:=by simpa[qbc]using hlt
    refine aB hR ha (s:=.gad s (off+n*X.C.P.cellsOf e)) trivial ?_ hk
    rw[heff hz h1 (jc hc) (by omega) (by omega)];simp[SV.val]
   ·exact absurd hk hA.fail
  next s base ix n hz e1 hc=>
   obtain⟨h1,_⟩:=hR.sval e1 (by simp)
   split at hk
   next hlt=>
    have hlt:n<len:=by simpa[qbc]using hlt
    refine aB hR ha (s:=.ldx s (base+n*X.C.P.cellsOf e) ix) trivial ?_ hk
    rw[heff hz h1 (jc hc) (by omega) (by omega)];simp[SV.val,jr]
   ·exact absurd hk hA.fail
  next s base ix n hz e1 hc=>
   obtain⟨h1,_⟩:=hR.sval e1 (by simp)
   split at hk
   next hlt=>
    have hlt:n<len:=by simpa[qbc]using hlt
    refine aB hR ha (s:=.gdx s (base+n*X.C.P.cellsOf e) ix) trivial ?_ hk
    rw[heff hz h1 (jc hc) (by omega) (by omega)];simp[SV.val,jr]
   ·exact absurd hk hA.fail
  next s off k j hz e1 e2 _=>
   obtain⟨h1,_⟩:=hR.sval e1 (by simp)
   obtain⟨u,hu2,hk1⟩:=hA.opt _ _ hk
   obtain⟨b1,b2⟩:=sM hu2
   exact aB hR ha (s:=.ldx s off [(j,X.C.P.cellsOf e)]) trivial (by rw[heff hz h1 (hint e2) b1 b2];rfl) hk1
  next s off k j hz e1 e2 _=>
   obtain⟨h1,_⟩:=hR.sval e1 (by simp)
   obtain⟨u,hu2,hk1⟩:=hA.opt _ _ hk
   obtain⟨b1,b2⟩:=sM hu2
   exact aB hR ha (s:=.gdx s off [(j,X.C.P.cellsOf e)]) trivial (by rw[heff hz h1 (hint e2) b1 b2];rfl) hk1
  next s base ix k j hz e1 e2 _=>
   obtain⟨h1,_⟩:=hR.sval e1 (by simp)
   obtain⟨u,hu2,hk1⟩:=hA.opt _ _ hk
   obtain⟨b1,b2⟩:=sM hu2
   exact aB hR ha (s:=.ldx s base (ix++[(j,X.C.P.cellsOf e)])) trivial (by rw[heff hz h1 (hint e2) b1 b2,SV.val,nk]) hk1
  next s base ix k j hz e1 e2 _=>
   obtain⟨h1,_⟩:=hR.sval e1 (by simp)
   obtain⟨u,hu2,hk1⟩:=hA.opt _ _ hk
   obtain⟨b1,b2⟩:=sM hu2
   exact aB hR ha (s:=.gdx s base (ix++[(j,X.C.P.cellsOf e)])) trivial (by rw[heff hz h1 (hint e2) b1 b2,SV.val,nk]) hk1
  next p k j hz e1 e2=>
   obtain⟨h1,_⟩:=hR.sval e1 (by simp)
   simp only[SV.val,S0.val,SL.val]at h1
   obtain⟨q,hq,hk1⟩:=hA.opt _ _ hk
   obtain⟨hg,hk2⟩:=hA.chk _ _ hk1
   unfold idP at hq
   split at hq
   next a=>
    split at hq
    next hb=>
     cases hq
     exact aB hR ha (s:=.st (.leaf (.v _))) (au hg) (heff hz h1 (hint e2) hb.1 hb.2) hk2
    ·cases hq
   ·cases hq
  ·exact absurd hk hA.fail
 next e hu=>
  simp only at hk
  split at hk
  next p k j hz e1 e2=>
   obtain⟨h1,_⟩:=hR.sval e1 (by simp)
   obtain⟨h2,_⟩:=hR.sval e2 (by simp)
   simp only[SV.val,S0.val,SL.val]at h1 h2
   obtain⟨q,hq,hk1⟩:=hA.opt _ _ hk
   have hz:¬X.C.P.cellsOf e=0:=λe=>by rw[e]at hz;cases hz
   obtain⟨a,len,cx,rfl,hb,rfl⟩:=idS_ok hq
   refine aB hR ha (s:=.st (.leaf (.v _))) (au ?_) ?_ hk1
   ·show aW _=true
    by_cases hs:a.spot=some 1<;>simp[hs,aW,noLoc,bj,bB,bu,aS,aJ]
   ·simp only[aj,ho,h1,h2,eu,Am.intOf,hu,qdz hz,qdy hb,qaz];rfl
  ·exact absurd hk hA.fail
 ·exact absurd hk hA.fail
def vU{C:Cfg}{t:TK}{ag:Bool}{cs ds:List SL}{off:Nat}{x:S0}(hag:aggT C.P t=some ag)(hc:cutS cs off (if ag then C.P.cellsOf t else 1)=some ds)(hx:mkS0 ag ds=some x) :
  uF C t ⟨cs.map SL.val⟩ off=some x.val/\x.cells=ds:=by
 obtain⟨h1,h2⟩:=nc hx
 refine⟨?_,h1⟩
 unfold cutS at hc
 unfold aggT at hag
 unfold uF
 split at hag
 next fs e=>
  cases hag
  simp only[if_true]at hc
  split at hc
  next hle=>
   cases hc
   rcases h2 with⟨_,h2⟩|⟨h0,_⟩
   ·rw[e]
    simp only[h2,qas,Value.agg.injEq]
    apply qa6.1
    rw[qcc]
    simp[List.extract,qcj,qcx]
   ·cases h0
  ·cases hc
 next n el e=>
  cases hag
  simp only[if_true]at hc
  split at hc
  next hle=>
   cases hc
   rcases h2 with⟨_,h2⟩|⟨h0,_⟩
   ·rw[e]
    simp only[h2,qas,Value.agg.injEq]
    apply qa6.1
    rw[qcc]
    simp[List.extract,qcj,qcx]
   ·cases h0
  ·cases hc
 next d h3 h4 e=>
  cases hag
  simp only[qam,if_false]at hc
  split at hc
  next hle=>
   cases hc
   rcases h2 with⟨h0,_⟩|⟨_,h2⟩
   ·cases h0
   ·rw[e]
    have hlt:off<cs.length:=by omega
    rw[qaY hlt]at h2
    simp only[qa7,qbB,qau,qbs,qay,and_true]at h2
    rw[←h2]
    have hlt':off<(⟨cs.map SL.val⟩ : Array Value).size:=by simpa using hlt
    have hget:(⟨cs.map SL.val⟩ : Array Value)[off]?=some cs[off].val:=by
     rw[qbo hlt']
     simp
    rw[hget]
    split
    next fs e2=>exact absurd (qae e2) (h3 _)
    next a b e2=>exact absurd (qae e2) (h4 _ _)
    ·rfl
    next e2=>cases e2
  ·cases hc
 ·cases hag
def field_ok(hA:AlgOk A X.C Sg X.T holds abs)(hR:Rp ev σ)(ha:abs h=σ.heap){t:TK}{x:TF}{f:Nat}(ho:o.op = .field t x f)
  (hk:holds (match X.C.P.underlying t,sval ev x with
  |some (.struct fs),.st (.agg cs)=>match fs[f]? with
   |some fd=>match (aggT X.C.P fd.type).bind (λag=>(cutS cs fd.offset (if ag then X.C.P.cellsOf fd.type else 1)).bind (mkS0 ag))with
    |some x=>setD o.dst (.st x) ev h K
    |none=>A.fail
   |none=>A.fail
  |_,_=>A.fail)):Done X holds abs o σ K:=by
 split at hk
 next fs cs hu e=>
  obtain⟨h1,g1⟩:=hR.sval e (by simp)
  split at hk
  next fd hf=>
   split at hk
   next x' hx=>
    obtain⟨ag,hag,hx⟩:=qar.1 hx
    obtain⟨ds,hc,hx⟩:=qar.1 hx
    obtain⟨h2,h3⟩:=vU hag hc hx
    refine aB hR ha (s:=.st x') (λl hl=>?_) ?_ hk
    ·rw[h3]at hl
     exact g1 l ((mz hc).2 l hl)
    ·simp only[aj,ho,h1,SV.val,S0.val,sB,hu,hf,qak,h2,qaz]
   ·exact absurd hk hA.fail
  ·exact absurd hk hA.fail
 ·exact absurd hk hA.fail
def xb(hA:AlgOk A X.C Sg X.T holds abs)(hR:Rp ev σ)(ha:abs h=σ.heap){t:TF}{i:Nat}(ho:o.op = .extract t i)
  (hk:holds (match sval ev t with
  | .tup xs=>match xs[i]? with
   |some x=>setD o.dst (.st x) ev h K
   |none=>A.fail
  |_=>A.fail)):Done X holds abs o σ K:=by
 split at hk
 next xs e=>
  obtain⟨h1,g1,g2⟩:=hR.sval e (by simp)
  split at hk
  next x hx=>
   refine aB hR ha (s:=.st x) (g1 x (qab hx)) ?_ hk
   simp only[aj,ho,h1,SV.val]
   rw[qdz (by simp;omega)]
   have:(⟨xs.map S0.val⟩ : Array Value)[i]?=some x.val:=by simp[hx]
   rw[this];rfl
  ·exact absurd hk hA.fail
 ·exact absurd hk hA.fail
def uw(hA:AlgOk A X.C Sg X.T holds abs)(hR:Rp ev σ)(ha:abs h=σ.heap){fn:Fn}{first cap:Array Operand}(ho:o.op = .makeFunc fn first cap)
  (hk:holds (match (generalizing:=false) fn,svals ev first.toList,svals ev cap.toList with
  | .func g,some a,some b=>A.chk (.func (.func g) ⟨ah a⟩ ⟨ah b⟩) (setD o.dst (.st (.leaf (.v (.func (.func g) ⟨ah a⟩ ⟨ah b⟩)))) ev h K)
  |_,_,_=>A.fail)):Done X holds abs o σ K:=by
 split at hk
 next g a b _ e1 e2=>
  obtain⟨h1,_⟩:=hR.svals e1
  obtain⟨h2,_⟩:=hR.svals e2
  obtain⟨hg,hk1⟩:=hA.chk _ _ hk
  refine aB hR ha (s:=.st (.leaf (.v _))) (au hg) ?_ hk1
  simp only[aj,ho,SV.val,S0.val,SL.val,qas,Eff.val.injEq,Value.func.injEq,true_and]
  refine⟨?_,?_⟩<;>apply qa6.1<;>simp[h1,h2]
 ·exact absurd hk hA.fail
def kA(hR:Rp ev σ){r:Tg}{x:Tq}(h:optI ev r=some x):(r=none/\x=none)∨∃y k n,r=some y/\oval σ.tmps y = .int k n/\x=some n:=by
 unfold optI at h
 split at h
 ·cases h;exact .inl ⟨rfl,rfl⟩
 next y=>
  split at h
  next k n e=>
   cases h
   obtain⟨h1,_⟩:=hR.sval e (by simp)
   exact .inr ⟨y,k,n,rfl,h1,rfl⟩
  ·cases h
def bU(hR:Rp ev σ){r:Tg}{x:Tq}(h:optI ev r=some x):dd (r.map (oval σ.tmps))=some x:=by
 rcases kA hR h with⟨rfl,rfl⟩|⟨y,k,n,rfl,h1,rfl⟩
 ·rfl
 ·simp[h1,dd]
def kq(hA:AlgOk A X.C Sg X.T holds abs)(hR:Rp ev σ)(ha:abs h=σ.heap){t:TK}{r:Tg}(ho:o.op = .makeMap t r)
  (hk:holds (match mT X.C t (r.map λ_=>.int .i64 0),optI ev r with
  |true,some _=>A.new (.map [] 0) h λn h=>setD o.dst (.st (.leaf (.v (.map (some n))))) ev h K
  |_,_=>A.fail)):Done X holds abs o σ K:=by
 split at hk
 next x hh e=>
  obtain⟨h',e1,hk1⟩:=hA.new _ _ _ hk
  rw[ha]at e1 hk1
  refine cY hR e1 (s:=.st (.leaf (.v (.map (some σ.heap.length))))) (au rfl) (f:=λH=>some (H++[.map [] 0],.map (some H.length))) ?_ rfl hk1
  have:mT X.C t (r.map (oval σ.tmps))=true:=by
   rcases kA hR e with⟨rfl,rfl⟩|⟨y,k,n,rfl,h1,rfl⟩
   ·rfl
   ·simp only[qaz,mT,h1]at hh ⊢
    exact hh
  simp only[aj,ho,this,if_true]
 ·exact absurd hk hA.fail
def wB(n esz a b:Nat):aW (.slice (some ⟨n,0,tag esz⟩) a b)=true:=by
 simp[aW,noLoc,bj,bB,bu,aS,aJ,tag]
def ta(hA:AlgOk A X.C Sg X.T holds abs)(hR:Rp ev σ)(ha:abs h=σ.heap){t:TK}{l c:TF}(ho:o.op = .makeSlice t l c)
  (hk:holds (match X.C.P.underlying t,sval ev l,sval ev c with
  |some (.slice e),.st (.leaf (.i _ l)),.st (.leaf (.i _ c))=>match X.C.P.info? e with
   |some info=>match Nat.beq info.size 0||Nat.blt 4096 info.bytes,(iZ info).bind s0Of with
    |false,some z=>A.opt (mkOk l c) λ_=>
      A.new (.cells (bm (z.cells.map SL.val) c.toNat) info.size true) h λn h=>setD o.dst (.st (.leaf (.v (.slice (some ⟨n,0,tag info.size⟩) l.toNat (c.toNat+1))))) ev h K
    |_,_=>A.fail
   |none=>A.fail
  |_,_,_=>A.fail)):Done X holds abs o σ K:=by
 split at hk
 next e k1 l' k2 c' hu e1 e2=>
  obtain⟨h1,_⟩:=hR.sval e1 (by simp)
  obtain⟨h2,_⟩:=hR.sval e2 (by simp)
  split at hk
  next info hi=>
   split at hk
   next z hz hz0=>
    obtain⟨zv,hz1,hz2⟩:=qar.1 hz0
    obtain⟨z1,z2,_⟩:=rz hz2
    obtain⟨u,hm,hk1⟩:=hA.opt _ _ hk
    obtain⟨h',n1,hk2⟩:=hA.new _ _ _ hk1
    rw[ha]at n1 hk2
    unfold mkOk at hm
    split at hm
    next hmm=>
     simp only[qb5]at hz
     have hs0:¬info.size=0:=λe=>by rw[e]at hz;cases hz.1
     have hby:info.bytes<=4096:=by
      have:=hz.2
      rw[←qbp,qbc]at this
      omega
     refine cY hR n1 (s:=.st (.leaf (.v _))) (au (wB _ _ _ _)) (f:=dm X.C t (.int k1 l') (.int k2 c')) ?_ ?_ hk2
     ·simp only[aj,ho,h1,h2];rfl
     ·simp only[dm,Am.intOf,hu,hi,qdz hs0,hz1]
      rw[qdy ⟨hmm.1,hmm.2.1,hmm.2.2,hby⟩,←z1,S0.cells_val z2]
      rfl
    ·cases hm
   ·exact absurd hk hA.fail
  ·exact absurd hk hA.fail
 ·exact absurd hk hA.fail
def qe(hA:AlgOk A X.C Sg X.T holds abs)(hR:Rp ev σ)(ha:abs h=σ.heap){t:TK}{n:Nat}{ps:Array (Nat×Operand)}(ho:o.op = .buildSlice t n ps)
  (hk:holds (match X.C.P.underlying t,svals ev (ps.toList.map (·.2))with
  |some (.slice e),some xs=>match X.C.P.info? e with
   |some info=>match Nat.beq info.size 0||Nat.blt 16777216 (n*info.size),(iZ info).bind s0Of with
    |false,some z=>match qC (λi=>some (i*info.size,info.size)) (List.replicate n z.cells).flatten ((ps.toList.map (·.1)).zip xs)with
     |some cs=>A.new (.cells (cs.map SL.val) info.size true) h λm h=>setD o.dst (.st (.leaf (.v (.slice (some ⟨m,0,tag info.size⟩) n (n+1))))) ev h K
     |none=>A.fail
    |_,_=>A.fail
   |none=>A.fail
  |_,_=>A.fail)):Done X holds abs o σ K:=by
 split at hk
 next e xs hu e1=>
  split at hk
  next info hi=>
   split at hk
   next z hz hz0=>
    obtain⟨zv,hz1,hz2⟩:=qar.1 hz0
    obtain⟨z1,z2,_⟩:=rz hz2
    split at hk
    next cs hf=>
     obtain⟨h',n1,hk1⟩:=hA.new _ _ _ hk
     rw[ha]at n1 hk1
     obtain⟨hv,hg⟩:=hR.svals e1
     have hzg:∀c∈(List.replicate n z.cells).flatten,c.good:=by
      intro c hc
      obtain⟨l,hl,hc⟩:=List.mem_flatten.1 hc
      rw[List.mem_replicate]at hl
      rw[hl.2]at hc
      exact z2 c hc
     have hfill:=qD _ _ _ _ (rP (is:=ps.toList.map (·.1)) hg) hf
     simp only[qb5]at hz
     obtain⟨ha1,ha3⟩:=hz
     have ha1:¬info.size=0:=λe=>by rw[e]at ha1;cases ha1
     have ha3:¬n*info.size > 16777216:=by rw[←qbp,qbc]at ha3;omega
     refine cY hR n1 (s:=.st (.leaf (.v _))) (au (wB _ _ _ _))
      (f:=λH=>some (H++[.cells (cs.map SL.val) info.size true],.slice (some ⟨H.length,0,tag info.size⟩) n (n+1))) ?_ rfl hk1
     have hall:(ps.toList.all λp=>(oval σ.tmps p.2).cells.toList.all aX)=true:=by
      rw[qag]
      intro p hp
      have hm:oval σ.tmps p.2∈ah xs:=by
       rw[←hv]
       exact qaM.2 ⟨p.2,qaM.2 ⟨p,hp,rfl⟩,rfl⟩
      simp only[ah,qaM]at hm
      obtain⟨x,hx,e⟩:=hm
      rw[←e]
      exact S0.cells_ok (hg x hx)
     have hflat:(bm zv.cells.toList n).toArray=⟨((List.replicate n z.cells).flatten).map SL.val⟩:=by
      rw[←z1,S0.cells_val z2]
      simp[bm,List.map_flatten]
     simp only[aj,ho,hall,if_true,eA,hu,hi]
     rw[qdz ha1,qdz ha3]
     simp only[hz1]
     rw[pQ hv,hflat,hfill]
     rfl
    ·exact absurd hk hA.fail
   ·exact absurd hk hA.fail
  ·exact absurd hk hA.fail
 ·exact absurd hk hA.fail
end
end Sx
namespace Sx
section
variable [Val] [Kno] {R HT:Type} {A:Alg R HT} {X:Ctxt} {Sg:Tc} {holds:R->Prop} {abs:HT->Ts}
variable {ev:Env} {σ:St} {h:HT} {o:Oper} {K:KN R HT}
def cutS_len{cs ds:List SL}{off n:Nat}(h:cutS cs off n=some ds):ds.length=n:=by
 unfold cutS at h
 split at h
 next hle=>cases h;simp;omega
 ·cases h
def mk_any{ag:Bool}{ds:List SL}{n:Nat}(hl:ds.length=(if ag then n else 1)):∃x,mkS0 ag ds=some x:=by
 cases ag with
 |true=>exact⟨_,rfl⟩
 |false=>
  simp only[qam,if_false]at hl
  match ds,hl with
  | [d],_=>exact⟨_,rfl⟩
def index_ok(hA:AlgOk A X.C Sg X.T holds abs)(hR:Rp ev σ)(ha:abs h=σ.heap){t:TK}{x i:TF}{hs:TI}(ho:o.op = .index t x i)
  (hk:holds (match X.C.P.underlying t,sval ev x,sval ev i with
  |some (.array len e),.st (.agg cs),.st (.leaf (.i _ j))=>match aggT X.C.P e with
   |some ag=>match eqB ag (iU (lB hs))&&rT cs (skKs (lB hs)) 0 [(j,X.C.P.cellsOf e)]&&Nat.beq (if ag then X.C.P.cellsOf e else 1) (skKs (lB hs)).length with
    |false=>A.fail
    |true=>A.opt (inB len j) λ_=>A.opt (rj (cs.map SL.lf) 0 [(j,X.C.P.cellsOf e)] (if ag then X.C.P.cellsOf e else 1)) λls=>setL A o.dst (lB hs) ls ev h K
   |none=>A.fail
  |some .string,.st (.leaf (.v (.string s))),.st (.leaf (.i _ j))=>A.opt (strAt s j) λb=>setD o.dst (.st (.leaf (.i .u8 b))) ev h K
  |_,_,_=>A.fail)):Done X holds abs o σ K:=by
 split at hk
 next len e cs k j hu e1 e2=>
  obtain⟨h1,g1⟩:=hR.sval e1 (by simp)
  obtain⟨h2,_⟩:=hR.sval e2 (by simp)
  split at hk
  next ag hag=>
   split at hk
   ·exact absurd hk hA.fail
   next hc=>
    simp only[qaa]at hc
    obtain⟨⟨c1,c2⟩,c3⟩:=hc
    have c1:=eqB_eq c1
    have c3:=qad c3
    obtain⟨u,hb,hk1⟩:=hA.opt _ _ hk
    obtain⟨b1,b2⟩:=sM hb
    obtain⟨ls,hp,hk2⟩:=hA.opt _ _ hk1
    obtain⟨ds,hd,rfl⟩:=vV hp
    have hlen:ds.length=(if ag then X.C.P.cellsOf e else 1):=cutS_len hd
    obtain⟨y,hy⟩:=mk_any hlen
    obtain⟨p1,p2⟩:=vU hag hd hy
    obtain⟨m1,m2⟩:=nc hy
    rw[c3]at hd
    rw[c1]at m2
    obtain⟨z,hz1,hz2,hk3⟩:=setL_ok hA (lD c2 hd) (λc hc=>g1 c ((mz hd).2 c hc)) m2 hk2
    refine aB hR ha (s:=.st z) hz2 ?_ hk3
    have hi:kY X.C t (.agg ⟨cs.map SL.val⟩) (.int k j)=some y.val:=by
     have:offX 0 [(j,X.C.P.cellsOf e)]=j.toNat*X.C.P.cellsOf e:=by simp[offX]
     rw[this]at p1
     simp only[kY,Am.intOf,hu,qdy (And.intro b1 b2)]
     exact p1
    have h1:oval σ.tmps x = .agg ⟨cs.map SL.val⟩:=h1
    have h2:oval σ.tmps i = .int k j:=h2
    simp only[aj,ho,h1,h2,hi,qaz]
    rw[←hz1];rfl
  ·exact absurd hk hA.fail
 next s k j hu e1 e2=>
  obtain⟨h1,g1⟩:=hR.sval e1 (by simp)
  obtain⟨h2,_⟩:=hR.sval e2 (by simp)
  obtain⟨b,hb,hk1⟩:=hA.opt _ _ hk
  obtain⟨q1,q2⟩:=strAt_ok hb
  have h1:oval σ.tmps x = .string s:=h1
  have h2:oval σ.tmps i = .int k j:=h2
  refine aB hR ha (s:=.st (.leaf (.i .u8 b))) (λl hl=>?_) ?_ hk1
  ·simp only[S0.cells,qap]at hl
   subst hl;trivial
  ·have hi:kY X.C t (.string s) (.int k j)=some (.int .u8 b):=by
    simp only[kY,Am.intOf,hu,qdy q1]
    exact q2
   simp only[aj,ho,h1,h2,hi,qaz]
   rfl
 ·exact absurd hk hA.fail
def tV{P:TE}{lo hi mx:Ti}(h1:∀v,lo=some v->∃k,v = .int k 0)(h2:∀v,hi=some v->∃k,v = .int k 0)(h3:∀v,mx=some v->∃k,v = .int k 0)(h4:mx=none∨hi.isSome=true)(w:World) :
  (Instr.sliceBounds true 0 0 lo hi mx).run P w = .ok (0,0,0) w:=by
 have hb:∀(k:TH) (c:BoundsCode),(Instr.sliceBound (.int k 0) 0 c).run P w = .ok 0 w:=λk c=>by
  simp[Instr.sliceBound,asIntOf]
 unfold Instr.sliceBounds
 cases mx with
 |none=>
  cases hi with
  |none=>
   cases lo with
   |none=>simp
   |some l=>obtain⟨k,rfl⟩:=h1 _ rfl;simp[hb]
  |some u=>
   obtain⟨k,rfl⟩:=h2 _ rfl
   cases lo with
   |none=>simp[hb]
   |some l=>obtain⟨k,rfl⟩:=h1 _ rfl;simp[hb]
 |some m=>
  obtain⟨k,rfl⟩:=h3 _ rfl
  cases hi with
  |none=>rcases h4 with h|h<;>simp at h
  |some u=>
   obtain⟨k,rfl⟩:=h2 _ rfl
   cases lo with
   |none=>simp[hb]
   |some l=>obtain⟨k,rfl⟩:=h1 _ rfl;simp[hb]
def sliceE_ok(hA:AlgOk A X.C Sg X.T holds abs)(hR:Rp ev σ)(ha:abs h=σ.heap){t:TK}{x:TF}{lo hi mx:Tg}(ho:o.op = .slice t x lo hi mx)
  (hk:holds (match X.C.P.underlying t,sval ev x,optI ev lo,optI ev hi,optI ev mx with
  |some (.slice e),.st (.leaf (.v x)),some lo,some hi,some mx=>match Nat.beq (X.C.P.cellsOf e) 0 with
   |true=>A.fail
   |false=>A.opt (slS (X.C.P.cellsOf e) x lo hi mx) λq=>A.chk q (setD o.dst (.st (.leaf (.v q))) ev h K)
  |some (.array _ e),.gad g off,some lo,some hi,some mx=>match Nat.beq (X.C.P.cellsOf e) 0 with
   |true=>A.fail
   |false=>A.opt (cM X.C t ⟨g,off,some 1⟩ (lo.map (.int .i64)) (hi.map (.int .i64)) (mx.map (.int .i64)) []) λq=>A.chk q (setD o.dst (.st (.leaf (.v q))) ev h K)
  |some (.array n e),.st (.leaf (.v p)),some lo,some hi,some mx=>match Nat.beq (X.C.P.cellsOf e) 0 with
   |true=>A.fail
   |false=>A.peek (.fn (slAG n (X.C.P.cellsOf e) p lo hi mx)) h λcs=>setC A o.dst (.leaf .v) cs ev h K
  |_,_,_,_,_=>A.fail)):Done X holds abs o σ K:=by
 split at hk
 next e v lo' hi' mx' hu e1 e2 e3 e4=>
  obtain⟨h1,_⟩:=hR.sval e1 (by simp)
  simp only[SV.val,S0.val,SL.val]at h1
  split at hk
  ·exact absurd hk hA.fail
  next hz=>
   have hz:¬X.C.P.cellsOf e=0:=λe=>by rw[e]at hz;cases hz
   obtain⟨q,hq,hk1⟩:=hA.opt _ _ hk
   obtain⟨hg,hk2⟩:=hA.chk _ _ hk1
   have b2:=bU hR e2
   have b3:=bU hR e3
   have b4:=bU hR e4
   unfold slS at hq
   split at hq
   next a len cx=>
    split at hq
    ·cases hq
    next hsp=>
     split at hq
     next hb=>
      cases hq
      refine aB hR ha (s:=.st (.leaf (.v _))) (au hg) ?_ hk2
      simp only[aj,ho,h1,wu,b2,b3,b4,hu,qdz hz,qdz hsp,qdy hb,nm]
      rfl
     ·cases hq
   ·split at hq
    next hb=>
     cases hq
     have hint:∀ {r:Tg} {x:Tq},optI ev r=some x->x.getD 0=0->∀v,r.map (oval σ.tmps)=some v->∃k,v = .int k 0:=by
      intro r x hx h0 v hv
      rcases kA hR hx with⟨rfl,rfl⟩|⟨y,k,n,rfl,h1,rfl⟩
      ·cases hv
      ·simp only[qaz,qas,h1]at hv
       simp at h0
       subst h0
       exact⟨k,hv.symm⟩
     have hplain:∀ {r:Tg} {x:Tq},optI ev r=some x->∀y,r=some y->plain (oval σ.tmps y)=true/\den (oval σ.tmps y)=oval σ.tmps y:=by
      intro r x hx y hy
      rcases kA hR hx with⟨rfl,rfl⟩|⟨y',k,n,rfl,h1,rfl⟩
      ·cases hy
      ·cases hy;rw[h1];exact⟨rfl,rfl⟩
     have hden:∀ {r:Tg} {x:Tq},optI ev r=some x->r.map (λy=>den (oval σ.tmps y))=r.map (oval σ.tmps):=by
      intro r x hx
      cases r with
      |none=>rfl
      |some y=>simp[(hplain hx y rfl).2]
     refine cm hR ha (s:=.st (.leaf (.v (.slice none 0 0)))) (au rfl) ⟨by rw[ho];rfl,?_,rfl,λw=>?_⟩ hk2
     ·rw[ho]
      simp only[Op.operands,qbP,qdp,qaa]
      refine⟨⟨⟨by simp[h1];rfl,?_⟩,?_⟩,?_⟩
      ·cases lo with
       |none=>rfl
       |some y=>simp[(hplain e2 y rfl).1]
      ·cases hi with
       |none=>rfl
       |some y=>simp[(hplain e3 y rfl).1]
      ·cases mx with
       |none=>rfl
       |some y=>simp[(hplain e4 y rfl).1]
     ·have hm:mx.map (oval σ.tmps)=none∨(hi.map (oval σ.tmps)).isSome=true:=by
       rcases hb.2.2.2 with hm|hm
       ·left
        rcases kA hR e4 with⟨rfl,rfl⟩|⟨y',k,n,rfl,h1,rfl⟩
        ·rfl
        ·cases hm
       ·right
        rcases kA hR e3 with⟨rfl,rfl⟩|⟨y',k,n,rfl,h1,rfl⟩
        ·cases hm
        ·rfl
      have hbd:=tV (P:=X.C.P) (hint e2 hb.1) (hint e3 hb.2.1) (hint e4 hb.2.2.1) hm w
      have hsz:∃i,X.C.P.info? e=some i:=by
       unfold Program.cellsOf at hz
       cases hi:X.C.P.info? e with
       |none=>rw[hi]at hz;exact absurd rfl hz
       |some i=>exact⟨i,rfl⟩
      obtain⟨i,hi⟩:=hsz
      have hd0:den (.slice none 0 0) = .slice none 0 0:=rfl
      simp only[execOp,ho,h1,hden e2,hden e3,hden e4,hd0,Instr.sliceAt,Instr.slice,Sem.run_bind,run_underlying hu,Result.andThen_ok,hbd,bg hi,Sem.run_pure]
      simp only[SV.val,S0.val,SL.val,hd0]
      simp
    ·cases hq
   ·cases hq
 next n e g off lo' hi' mx' hu e1 e2 e3 e4=>
  obtain⟨h1,_⟩:=hR.sval e1 (by simp)
  simp only[SV.val]at h1
  split at hk
  ·exact absurd hk hA.fail
  ·obtain⟨q,hq,hk1⟩:=hA.opt _ _ hk
   obtain⟨hg,hk2⟩:=hA.chk _ _ hk1
   refine aB hR ha (s:=.st (.leaf (.v q))) (au hg) ?_ hk2
   have hb:∀ {r:Tg} {x:Tq},optI ev r=some x->dd (r.map (oval σ.tmps))=dd (x.map (.int .i64)):=by
    intro r x hx
    rw[bU hR hx]
    cases x<;>rfl
   have:cM X.C t ⟨g,off,some 1⟩ (lo.map (oval σ.tmps)) (hi.map (oval σ.tmps)) (mx.map (oval σ.tmps)) []=some q:=by
    rw[←hq]
    unfold cM ez
    rw[hb e2,hb e3,hb e4]
   simp only[aj,ho,h1,if_true,this,qaz];rfl
 next n e p lo' hi' mx' hu e1 e2 e3 e4=>
  obtain⟨h1,hgd⟩:=hR.sval e1 (by simp)
  clear hgd e1
  simp only[SV.val,S0.val,SL.val]at h1
  split at hk
  ·exact absurd hk hA.fail
  next hz=>
   have hz:¬X.C.P.cellsOf e=0:=λe=>by rw[e]at hz;cases hz
   obtain⟨cs,hl,hk1⟩:=hA.peek _ _ _ hk
   simp only[Pk.run]at hl
   rw[ha]at hl
   have hb:∀ {r:Tg} {x:Tq},optI ev r=some x->dd (r.map (oval σ.tmps))=dd (x.map (.int .i64)):=by
    intro r x hx
    rw[bU hR hx]
    cases x<;>rfl
   unfold slAG at hl
   split at hl
   next a=>
    split at hl
    next hsp=>
     split at hl
     next l hh m vs e' rw' hab hblk=>
      split at hl
      next hc=>
       simp only[qaa]at hc
       have he':=qad hc.1
       have hle:=qcv hc.2
       subst he'
       simp only[dq,qas]at hl
       subst hl
       obtain⟨x,r,r1,r2,r3,hk2⟩:=nQ hA hk1
       obtain⟨hr,hk3⟩:=hA.uc0 _ _ hk2
       rw[hr,qa4]at r1
       have hx:x.val = .slice (some ⟨a.block,a.off+l*X.C.P.cellsOf e,tag (X.C.P.cellsOf e)⟩) (hh - l) (m - l+1):=by
        cases x with
        |agg _=>cases r2
        |leaf w=>simpa[S0.cells,S0.val]using r1.symm
       refine gy hR ha (s:=.st x) r3 (f:=cM X.C t a (lo.map (oval σ.tmps)) (hi.map (oval σ.tmps)) (mx.map (oval σ.tmps))) ?_ ?_ hk3
       ·simp only[aj,ho,h1]
        rw[qdz (by rw[hsp];simp)]
       ·have hab':ez n (lo.map (oval σ.tmps)) (hi.map (oval σ.tmps)) (mx.map (oval σ.tmps))=some (l,hh,m):=by
         rw[←hab]
         unfold ez
         rw[hb e2,hb e3,hb e4]
        have hblk':σ.heap[a.block]?=some (.cells vs (X.C.P.cellsOf e) rw'):=hblk
        unfold cM
        simp only[hu,qdz hz,hab']
        rw[qdz (by rw[hsp];simp),qdy hsp,hblk']
        simp only
        rw[qdy (by simpa using hle)]
        show _=some x.val
        rw[hx]
      ·cases hl
     ·cases hl
    ·cases hl
   ·cases hl
 ·exact absurd hk hA.fail
def ml{ag:Bool}{v:Value}{cs:Tl}(h:fj ag v=some cs):mkV ag cs v:=by
 unfold fj at h
 split at h
 ·cases h;exact .inl ⟨rfl,rfl⟩
 ·cases h
 ·cases h
 ·cases h;exact .inr ⟨rfl,rfl⟩
def mZ(H:Ts)(id:Nat):mapG (λi=>H[i]?) id=hmap H id:=rfl
def luG_ok{C:Cfg}{t kt et:TK}{ag ok:Bool}{z m k:Value}{H:Ts}{cs:Tl}(hu:C.P.underlying t=some (.map kt et))(hz:dB C.P et=some z)
  (hl:luG C kt ag z m k ok (λi=>H[i]?)=some cs):∃v b cs0,fj ag v=some cs0/\cs=cs0++(if ok then [.bool b]else [])/\cE C t m k ok H=some (if ok then .tuple #[v,.bool b]else v):=by
 unfold luG at hl
 simp only[lP]at hl
 unfold cE
 rw[hu]
 simp only
 split at hl
 ·cases hl
 next hko=>
  have hko:¬(!eN C.P kt k)=true:=by
   have:=qO (P:=C.P) (kt:=kt) (k:=k) (by simpa using hko)
   simpa using this
  rw[qdz hko]
  simp only[hz]
  split at hl
  ·obtain⟨cs0,h1,h2⟩:=qac.1 hl
   exact⟨z,false,cs0,h1,h2.symm,rfl⟩
  next id=>
   rw[mZ]at hl
   split at hl
   ·cases hl
   next es c hm=>
    simp only[hm]
    split at hl
    ·cases hl
    next hf=>
     rw[hf]
     obtain⟨cs0,h1,h2⟩:=qac.1 hl
     exact⟨z,false,cs0,h1,h2.symm,rfl⟩
    next i hf=>
     rw[hf]
     simp only
     obtain⟨cs0,h1,h2⟩:=qac.1 hl
     obtain⟨v,h3,h4⟩:=qar.1 h1
     exact⟨v,true,cs0,h4,h2.symm,by rw[h3];rfl⟩
  ·cases hl
def xn{C:Cfg}{pts:TA}{ρ:Tf}{t:TK}{m k:TF}{ok:Bool}(ho:o.op = .lookup t m k ok)(H:Ts){v:Value}(hv:cE C t (ρ m) (ρ k) ok H=some v) :
  aj C pts ρ o=some (.val v)∨∃f,aj C pts ρ o=some (.hget f)/\f H=some v:=by
 simp only[aj,ho]
 split
 next hm=>
  left
  rw[hm]at hv
  have:cE C t (.map none) (ρ k) ok []=cE C t (.map none) (ρ k) ok H:=rfl
  rw[this,hv];rfl
 ·right
  exact⟨_,rfl,hv⟩
def so(hR:Rp ev σ)(ha:abs h=σ.heap){s:SV}(hs:s.gd){t:TK}{m k:TF}{ok:Bool}(ho:o.op = .lookup t m k ok)
  (hv:cE X.C t (oval σ.tmps m) (oval σ.tmps k) ok σ.heap=some s.val) (hk:holds (setD o.dst s ev h K)):Done X holds abs o σ K:=by
 rcases xn (pts:=X.pts) ho σ.heap hv with h1|⟨f,h1,h2⟩
 ·exact aB hR ha hs h1 hk
 ·exact gy hR ha hs h1 h2 hk
def look_ok(hA:AlgOk A X.C Sg X.T holds abs)(hR:Rp ev σ)(ha:abs h=σ.heap){t:TK}{m k:TF}{ok:Bool}{hs:TI}(ho:o.op = .lookup t m k ok)
  (hk:holds (match X.C.P.underlying t,sval ev m,sval0 ev k with
  |some (.map kt et),.st (.leaf (.v m)),some k=>match dB X.C.P et with
   |some z=>match (generalizing:=false) hs,ok with
    | [sk],false=>A.peek (.fn (luG X.C kt (iU sk) z m k.val false)) h λcs=>ucS A sk cs λx r=>A.uc0 r (setD o.dst (.st x) ev h K)
    | [sk,.leaf .b],true=>A.peek (.fn (luG X.C kt (iU sk) z m k.val true)) h λcs=>ucS A sk cs λx r=>A.ucB r λt r=>A.uc0 r (setD o.dst (.tup [x,.leaf (.b t)]) ev h K)
    |_,_=>A.fail
   |none=>A.fail
  |_,_,_=>A.fail)):Done X holds abs o σ K:=by
 split at hk
 next kt et mv kv hu e1 e2=>
  obtain⟨h1,_⟩:=hR.sval e1 (by simp)
  obtain⟨h2,_⟩:=hR.sval0 e2
  simp only[SV.val,S0.val,SL.val]at h1
  split at hk
  next z hz=>
   split at hk
   next sk=>
    obtain⟨cs,hl,hk1⟩:=hA.peek _ _ _ hk
    simp only[Pk.run]at hl
    rw[ha]at hl
    obtain⟨v,b,cs0,q1,q2,q3⟩:=luG_ok hu hz hl
    obtain⟨x,r,r1,r2,r3,hk2⟩:=nQ hA hk1
    obtain⟨hr,hk3⟩:=hA.uc0 _ _ hk2
    rw[hr,qa4]at r1
    simp only[qam,if_false,qa4]at q2 q3
    have hv:=ml q1
    rw[←q2,r1]at hv
    refine so hR ha (s:=.st x) r3 ho ?_ hk3
    rw[h1,h2,q3,←oV r2 hv];rfl
   next sk=>
    obtain⟨cs,hl,hk1⟩:=hA.peek _ _ _ hk
    simp only[Pk.run]at hl
    rw[ha]at hl
    obtain⟨v,b,cs0,q1,q2,q3⟩:=luG_ok hu hz hl
    obtain⟨x,r,r1,r2,r3,hk2⟩:=nQ hA hk1
    obtain⟨t',r',r4,hk3⟩:=hA.ucB _ _ hk2
    obtain⟨hr,hk4⟩:=hA.uc0 _ _ hk3
    simp only[if_true]at q2 q3
    rw[r4,hr,q2]at r1
    obtain⟨w1,w2⟩:=List.append_inj' r1 rfl
    simp only[qay,Value.bool.injEq,and_true]at w2
    have hv:=ml q1
    rw[w1]at hv
    refine so hR ha (s:=.tup [x,.leaf (.b t')]) ⟨λy hy=>?_,qaf 2⟩ ho ?_ hk4
    ·simp only[qal,qbq,or_false]at hy
     rcases hy with rfl|rfl
     ·exact r3
     ·exact au trivial
    ·rw[h1,h2,q3,←oV r2 hv,w2];rfl
   ·exact absurd hk hA.fail
  ·exact absurd hk hA.fail
 ·exact absurd hk hA.fail
def muG_ok{C:Cfg}{t kt et:TK}{m k v:Value}{H:Ts}{n:Nat}{acts:List Act1}{cs:Tl}(hu:C.P.underlying t=some (.map kt et))(hv1:noLoc v=true)(hv2:aJ v=false)
  (hl:muG C kt m k v (λi=>H[i]?) n=some (acts,cs)):cu C t m k v H=some (fY H acts,undef):=by
 unfold muG at hl
 simp only[lP]at hl
 unfold cu
 split at hl
 next id=>
  rw[hu]
  simp only
  split at hl
  ·cases hl
  next hko=>
   have hko:eN C.P kt k=true:=qO (by simpa using hko)
   rw[qdz (by simp[hko,hv1,hv2])]
   rw[mZ]at hl
   split at hl
   ·cases hl
   next es c hm=>
    simp only[hm]
    split at hl
    ·cases hl
    next hf=>
     rw[hf]
     cases hl;rfl
    next i hf=>
     rw[hf]
     simp only
     split at hl
     next hb=>
      rw[qdy hb]
      cases hl;rfl
     ·cases hl
 ·cases hl
def vG(hA:AlgOk A X.C Sg X.T holds abs)(hR:Rp ev σ)(ha:abs h=σ.heap){t:TK}{m k v:TF}(ho:o.op = .mapUpdate t m k v∨o.op = .insert t m k v)
  (hk:holds (match X.C.P.underlying t,sval ev m,sval0 ev k,sval0 ev v with
  |some (.map kt _),.st (.leaf (.v m)),some k,some v=>A.heap (.fn (muG X.C kt m k.val v.val)) h λ_ h=>setD o.dst .un ev h K
  |_,_,_,_=>A.fail)):Done X holds abs o σ K:=by
 split at hk
 next kt et mv kv vv hu e1 e2 e3=>
  obtain⟨h1,_⟩:=hR.sval e1 (by simp)
  obtain⟨h2,_⟩:=hR.sval0 e2
  obtain⟨h3,g3⟩:=hR.sval0 e3
  simp only[SV.val,S0.val,SL.val]at h1
  obtain⟨acts,cs,h',q1,q2,hk1⟩:=hA.heap _ _ _ hk
  simp only[Hp.run]at q1
  rw[ha]at q1 q2
  refine cY hR q2 (s:=.un) trivial (f:=cu X.C t mv kv.val vv.val) ?_ (muG_ok hu (S0.noLoc g3) (S0.not_tuple g3) q1) hk1
  rcases ho with ho|ho<;>simp only[aj,ho,h1,h2,h3]
 ·exact absurd hk hA.fail
def meG_ok{C:Cfg}{t kt et:TK}{ag:Bool}{z m k:Value}{H:Ts}{n:Nat}{acts:List Act1}{cs:Tl}(hu:C.P.underlying t=some (.map kt et))(hz:dB C.P et=some z)
  (hl:meG C kt ag z m k (λi=>H[i]?) n=some (acts,cs)):∃v cs0 c,fj ag v=some cs0/\cs=cs0++[.int .i64 c]/\cr C t m k H=some (fY H acts,.tuple #[v,.int .i64 c]):=by
 unfold meG at hl
 simp only[lP]at hl
 unfold cr
 split at hl
 next id=>
  rw[hu]
  simp only
  split at hl
  ·cases hl
  next hko=>
   have hko:¬(!eN C.P kt k)=true:=by
    have:=qO (P:=C.P) (kt:=kt) (k:=k) (by simpa using hko)
    simpa using this
   rw[qdz hko]
   rw[mZ]at hl
   split at hl
   ·cases hl
   next es c hm=>
    simp only[hm]
    split at hl
    ·cases hl
    next hf=>
     rw[hf]
     simp only[hz]
     obtain⟨cs0,h1,h2⟩:=qac.1 hl
     cases h2
     exact⟨z,cs0,_,h1,rfl,rfl⟩
    next i hf=>
     rw[hf]
     simp only
     split at hl
     ·cases hl
     next e he=>
      rw[he]
      simp only
      split at hl
      next hb=>
       rw[qdy hb]
       obtain⟨cs0,h1,h2⟩:=qac.1 hl
       cases h2
       exact⟨e.val,cs0,_,h1,rfl,rfl⟩
      ·cases hl
 ·cases hl
def mapEn_ok(hA:AlgOk A X.C Sg X.T holds abs)(hR:Rp ev σ)(ha:abs h=σ.heap){t:TK}{m k:TF}{hs:TI}(ho:o.op = .mapEntry t m k)
  (hk:holds (match X.C.P.underlying t,sval ev m,sval0 ev k with
  |some (.map kt et),.st (.leaf (.v m)),some k=>match dB X.C.P et with
   |some z=>match hs with
    | [sk,.leaf (.i .i64)]=>A.heap (.fn (meG X.C kt (iU sk) z m k.val)) h λcs h=>ucS A sk cs λx r=>A.ucI .i64 r λn r=>A.uc0 r (setD o.dst (.tup [x,.leaf (.i .i64 n)]) ev h K)
    |_=>A.fail
   |none=>A.fail
  |_,_,_=>A.fail)):Done X holds abs o σ K:=by
 split at hk
 next kt et mv kv hu e1 e2=>
  obtain⟨h1,_⟩:=hR.sval e1 (by simp)
  obtain⟨h2,_⟩:=hR.sval0 e2
  simp only[SV.val,S0.val,SL.val]at h1
  split at hk
  next z hz=>
   split at hk
   next sk=>
    obtain⟨acts,cs,h',q1,q2,hk1⟩:=hA.heap _ _ _ hk
    simp only[Hp.run]at q1
    rw[ha]at q1 q2
    obtain⟨v,cs0,c,w1,w2,w3⟩:=meG_ok hu hz q1
    obtain⟨x,r,r1,r2,r3,hk2⟩:=nQ hA hk1
    obtain⟨n,r',r4,hk3⟩:=hA.ucI _ _ _ hk2
    obtain⟨hr,hk4⟩:=hA.uc0 _ _ hk3
    rw[r4,hr,w2]at r1
    obtain⟨u1,u2⟩:=List.append_inj' r1 rfl
    simp only[qay,Value.int.injEq,true_and,and_true]at u2
    have hv:=ml w1
    rw[u1]at hv
    refine cY hR q2 (s:=.tup [x,.leaf (.i .i64 n)]) ⟨λy hy=>?_,qaf 2⟩ (f:=cr X.C t mv kv.val) ?_ ?_ hk4
    ·simp only[qal,qbq,or_false]at hy
     rcases hy with rfl|rfl
     ·exact r3
     ·exact au trivial
    ·simp only[aj,ho,h1,h2]
    ·rw[w3,←oV r2 hv,u2];rfl
   ·exact absurd hk hA.fail
  ·exact absurd hk hA.fail
 ·exact absurd hk hA.fail
def esG_ok{m v:Value}{b:Int}{k:TH}{H:Ts}{n:Nat}{acts:List Act1}{cs:Tl}(hv1:noLoc v=true)(hv2:aJ v=false)
  (hl:esG m b v (λi=>H[i]?) n=some (acts,cs)):cD m (.int k b) v H=some (fY H acts,undef):=by
 unfold esG at hl
 unfold cD
 split at hl
 next id=>
  simp only[Am.intOf]
  rw[qdz (by simp[hv1,hv2])]
  rw[mZ]at hl
  split at hl
  ·cases hl
  next es c hm=>
   simp only[hm]
   split at hl
   next i hf=>
    rw[hf]
    cases hl;rfl
   ·cases hl
 ·cases hl
def entSt_ok(hA:AlgOk A X.C Sg X.T holds abs)(hR:Rp ev σ)(ha:abs h=σ.heap){t:TK}{m s v:TF}(ho:o.op = .entryStore t m s v)
  (hk:holds (match sval ev m,sval ev s,sval0 ev v with
  | .st (.leaf (.v m)),.st (.leaf (.i _ b)),some v=>A.heap (.fn (esG m b v.val)) h λ_ h=>setD o.dst .un ev h K
  |_,_,_=>A.fail)):Done X holds abs o σ K:=by
 split at hk
 next mv k b vv e1 e2 e3=>
  obtain⟨h1,_⟩:=hR.sval e1 (by simp)
  obtain⟨h2,_⟩:=hR.sval e2 (by simp)
  obtain⟨h3,g3⟩:=hR.sval0 e3
  simp only[SV.val,S0.val,SL.val]at h1 h2
  obtain⟨acts,cs,h',q1,q2,hk1⟩:=hA.heap _ _ _ hk
  simp only[Hp.run]at q1
  rw[ha]at q1 q2
  refine cY hR q2 (s:=.un) trivial (f:=cD mv (.int k b) vv.val) ?_ (esG_ok (S0.noLoc g3) (S0.not_tuple g3) q1) hk1
  simp only[aj,ho,h1,h2,h3]
 ·exact absurd hk hA.fail
def deG_ok{C:Cfg}{t kt et:TK}{m k:Value}{H:Ts}{n:Nat}{acts:List Act1}{cs:Tl}(hu:C.P.underlying t=some (.map kt et))
  (hl:deG C kt m k (λi=>H[i]?) n=some (acts,cs)):dE C t m k H=some (fY H acts,undef):=by
 unfold deG at hl
 simp only[lP]at hl
 unfold dE
 rw[hu]
 simp only
 split at hl
 ·cases hl
 next hko=>
  have hko:¬(!eN C.P kt k)=true:=by
   have:=qO (P:=C.P) (kt:=kt) (k:=k) (by simpa using hko)
   simpa using this
  rw[qdz hko]
  split at hl
  ·cases hl;rfl
  next id=>
   rw[mZ]at hl
   split at hl
   ·cases hl
   next es c hm=>
    simp only[hm]
    split at hl
    ·cases hl
    next hf=>
     rw[hf];cases hl;rfl
    next i hf=>
     rw[hf];cases hl;rfl
  ·cases hl
end
end Sx
namespace Sx
section
variable [Val] [Kno] {R HT:Type} {A:Alg R HT} {X:Ctxt} {Sg:Tc} {holds:R->Prop} {abs:HT->Ts}
variable {ev:Env} {σ:St} {h:HT} {o:Oper} {K:KN R HT}
def slG_at(C:Cfg)(esz:Nat)(H:Ts)(x:Value):slG C esz (λi=>H[i]?) x=cK C H esz x:=rfl
def apG_ok{C:Cfg}{t e:TK}{info:TypeInfo}{s x:Value}{H:Ts}{acts:List Act1}{cs:Tl}(hu:C.P.underlying t=some (.slice e))(hi:C.P.info? e=some info)(h0:¬info.size=0)
  (hz:(iZ info).isNone=false) (hl:apG C info.size info.bytes s x (λi=>H[i]?) H.length=some (acts,cs)):∃v,cs=[v]/\fe C t s x H=some (fY H acts,v):=by
 unfold apG at hl
 unfold fe
 simp only[hu,hi,qdz h0,hz,qam,if_false]
 rw[slG_at]at hl
 split at hl
 ·cases hl
 next new n hc=>
  simp only[hc]
  split at hl
  ·split at hl
   next hn=>
    simp only[qdy hn]
    cases hl
    exact⟨_,rfl,rfl⟩
   next hn=>
    simp only[qdz hn]
    split at hl
    next hs=>
     simp only[qdy hs]
     cases hl
     exact⟨_,rfl,rfl⟩
    ·cases hl
  next a len cx=>
   split at hl
   ·cases hl
   next hsp=>
    simp only[qdz hsp]
    split at hl
    next vs e' rw' hg=>
     simp only[hg]
     split at hl
     ·cases hl
     next he=>
      simp only[qdz he]
      split at hl
      ·cases hl
      next old hcut=>
       simp only[hcut]
       split at hl
       ·split at hl
        next hn=>
         simp only[qdy hn]
         cases hl
         exact⟨_,rfl,rfl⟩
        next hn=>
         simp only[qdz hn]
         split at hl
         next hb=>
          simp only[qdy hb]
          cases hl
          refine⟨_,rfl,?_⟩
          simp[fY,Act1.on]
         ·cases hl
       next cap=>
        split at hl
        next hle=>
         simp only[qdy hle]
         split at hl
         next hrw=>
          simp only[qdy hrw]
          obtain⟨vs',q1,q2⟩:=qac.1 hl
          cases q2
          exact⟨_,rfl,by simp only[q1];rfl⟩
         next hrw=>
          simp only[qdz hrw]
          split at hl
          next hn=>
           simp only[qdy hn]
           cases hl
           exact⟨_,rfl,rfl⟩
          ·cases hl
        next hle=>
         simp only[qdz hle]
         split at hl
         next hb=>
          simp only[qdy hb]
          cases hl
          exact⟨_,rfl,rfl⟩
         ·cases hl
    ·cases hl
  ·cases hl
def cpG_ok{C:Cfg}{t e:TK}{d x:Value}{H:Ts}{n:Nat}{acts:List Act1}{cs:Tl}(hu:C.P.underlying t=some (.slice e))(h0:¬C.P.cellsOf e=0)
  (hl:cpG C (C.P.cellsOf e) d x (λi=>H[i]?) n=some (acts,cs)):∃v,cs=[v]/\mr C t d x H=some (fY H acts,v):=by
 unfold cpG at hl
 unfold mr
 rw[hu]
 split at hl
 ·simp only[qdz h0]
  rw[slG_at]at hl
  obtain⟨y,q1,q2⟩:=qac.1 hl
  cases q2
  exact⟨_,rfl,by simp only[q1];rfl⟩
 next a dlen cx=>
  simp only[qdz h0]
  split at hl
  ·cases hl
  next hsp=>
   simp only[qdz hsp]
   rw[slG_at]at hl
   split at hl
   next new m vs e' hc hg=>
    simp only[hc,hg]
    split at hl
    ·cases hl
    next he=>
     simp only[qdz he]
     obtain⟨y,q1,q2⟩:=qac.1 hl
     cases q2
     exact⟨_,rfl,by simp only[q1];rfl⟩
   ·cases hl
 ·cases hl
def clG_ok{C:Cfg}{t e:TK}{x:Value}{z:S0}{H:Ts}{n:Nat}{acts:List Act1}{cs:Tl}(hu:C.P.underlying t=some (.slice e))(h0:¬C.P.cellsOf e=0)(hz:uW C.P e=some z)
  (hl:clG (C.P.cellsOf e) (z.cells.map SL.val) x (λi=>H[i]?) n=some (acts,cs)):gt C t x H=some (fY H acts,undef):=by
 obtain⟨zv,z1,z2,z3⟩:=rM hz
 have hzc:z.cells.map SL.val=zv.cells.toList:=by rw[←z2,S0.cells_val z3]
 unfold clG at hl
 unfold gt
 rw[hu]
 split at hl
 ·cases hl;rfl
 next a m cx=>
  simp only[qdz h0]
  split at hl
  ·cases hl
  next hsp=>
   simp only[qdz hsp]
   split at hl
   next vs e' hg=>
    simp only[hg,z1]
    split at hl
    ·cases hl
    next he=>
     simp only[qdz he]
     rw[hzc]at hl
     obtain⟨y,q1,q2⟩:=qac.1 hl
     cases q2
     simp only[q1];rfl
   ·cases hl
 ·cases hl
def rC(hA:AlgOk A X.C Sg X.T holds abs){dst:Tn}{sk:SK}(hs:iU sk=false){v:Value}(hk:holds (setC A dst sk [v] ev h K)):∃x:S0,x.val=v/\x.good/\holds (setD dst (.st x) ev h K):=
 kL hA (.inr ⟨hs,rfl⟩) hk
def wP(hA:AlgOk A X.C Sg X.T holds abs)(hR:Rp ev σ)(ha:abs h=σ.heap){c:Call}{b:Builtin}{xs:List S0}{sk:SK}(ho:o.op = .call c)(hb:c.callee = .builtin b)(hx:svals ev c.args.toList=some xs)
  (hk:holds (lG A X o.dst sk b xs c.argTypes ev h K)):Done X holds abs o σ K:=by
 obtain⟨hv,hg⟩:=hR.svals hx
 have heff:aj X.C X.pts (oval σ.tmps) o=ba X.C (oval σ.tmps) b (ah xs) c.argTypes o:=by
  simp only[aj,ho,fF,hb,hv]
 have hargs:∀ys:List S0,(∀y∈ys,∀l∈y.cells,l.nv)->ys=xs->c.args.toList.all (λx=>plain (oval σ.tmps x))=true/\c.args.map (λx=>den (oval σ.tmps x))=⟨ah xs⟩:=by
  intro ys hy e
  subst e
  have h1:∀v∈c.args.toList.map (oval σ.tmps),plain v=true/\den v=v:=by
   rw[hv]
   intro v hm
   simp only[ah,qaM]at hm
   obtain⟨y,hm,rfl⟩:=hm
   exact qX (hy y hm)
  refine⟨?_,?_⟩
  ·rw[qag]
   intro x hx
   exact(h1 _ (qaM.2 ⟨x,hx,rfl⟩)).1
  ·apply qa6.1
   rw[qbw,←hv]
   exact qbD λx hx=>(h1 _ (qaM.2 ⟨x,hx,rfl⟩)).2
 unfold lG at hk
 split at hk
 next s x t ht=>
  split at hk
  next e hu=>
   split at hk
   next info hi=>
    split at hk
    ·exact absurd hk hA.fail
    next hc=>
     simp only[qb5]at hc
     obtain⟨⟨⟨c1,c2⟩,c3⟩,c4⟩:=hc
     have c1:¬info.size=0:=λe=>by rw[e]at c1;cases c1
     obtain⟨acts,cs,h',q1,q2,hk1⟩:=hA.heap _ _ _ hk
     simp only[Hp.run]at q1
     rw[ha]at q1 q2
     obtain⟨v,rfl,q3⟩:=apG_ok hu hi c1 c2 q1
     obtain⟨y,rfl,g,hk2⟩:=rC hA rfl hk1
     refine cY hR q2 (s:=.st y) g (f:=fe X.C t s x) ?_ q3 hk2
     rw[heff]
     simp only[ba,ah,qau,qbs,S0.val,SL.val,ht]
     refine qdz λhcon=>?_
     have hcon:((c.argTypes[1]?.any λu=>(X.C.P.underlying u) matches some (.int _)|none)||c.argTypes[1]?.isNone)=true:=hcon
     rw[qbr]at hcon
     rcases hcon with hcon|hcon
     ·exact absurd (hcon.symm.trans c3) (by simp)
     ·exact absurd (hcon.symm.trans c4) (by simp)
   ·exact absurd hk hA.fail
  ·exact absurd hk hA.fail
 next x t ht=>
  split at hk
  next e x' hu=>
   obtain⟨n,hn,hk1⟩:=hA.opt _ _ hk
   unfold lenS at hn
   split at hn
   next a m cx=>
    cases hn
    refine aB hR ha (s:=.st (.leaf (.i .i64 _))) (au trivial) ?_ hk1
    rw[heff]
    simp only[ba,ah,qau,qbs,S0.val,SL.val,ht,hu];rfl
   ·cases hn
  next kt et x' hu=>
   obtain⟨cs,hl,hk1⟩:=hA.peek _ _ _ hk
   simp only[Pk.run]at hl
   rw[ha]at hl
   unfold lenM at hl
   split at hl
   next id=>
    split at hl
    next es ck hgt=>
     cases hl
     obtain⟨y,hy,g,hk2⟩:=rC hA rfl hk1
     refine gy hR ha (s:=.st y) g (f:=λH=>(hmap H id).map λp=>.int .i64 p.1.length) ?_ ?_ hk2
     ·rw[heff]
      simp only[ba,ah,qau,qbs,S0.val,SL.val,ht,hu]
     ·simp only[hmap,hgt,qaz,SV.val,hy]
    ·cases hl
   ·cases hl
  next n el hu=>
   refine aB hR ha (s:=.st (.leaf (.i .i64 _))) (au trivial) ?_ hk
   rw[heff]
   simp only[ba,ah,qau,qbs,ht,hu];rfl
  ·exact absurd hk hA.fail
 next x t ht=>
  split at hk
  next e x' hu=>
   obtain⟨n,hn,hk1⟩:=hA.opt _ _ hk
   unfold capS at hn
   split at hn
   ·cases hn
    refine aB hR ha (s:=.st (.leaf (.i .i64 _))) (au trivial) ?_ hk1
    rw[heff]
    simp only[ba,ah,qau,qbs,S0.val,SL.val,ht,hu];rfl
   ·cases hn
    refine aB hR ha (s:=.st (.leaf (.i .i64 _))) (au trivial) ?_ hk1
    rw[heff]
    simp only[ba,ah,qau,qbs,S0.val,SL.val,ht,hu];rfl
   ·cases hn
  next n el hu=>
   refine aB hR ha (s:=.st (.leaf (.i .i64 _))) (au trivial) ?_ hk
   rw[heff]
   simp only[ba,ah,qau,qbs,ht,hu];rfl
  ·exact absurd hk hA.fail
 next s x t ht=>
  split at hk
  next e hu=>
   split at hk
   ·exact absurd hk hA.fail
   next hz=>
    have hz:¬X.C.P.cellsOf e=0:=λe=>by rw[e]at hz;cases hz
    obtain⟨acts,cs,h',q1,q2,hk1⟩:=hA.heap _ _ _ hk
    simp only[Hp.run]at q1
    rw[ha]at q1 q2
    obtain⟨v,rfl,q3⟩:=cpG_ok hu hz q1
    obtain⟨y,rfl,g,hk2⟩:=rC hA rfl hk1
    refine cY hR q2 (s:=.st y) g (f:=mr X.C t s x) ?_ q3 hk2
    rw[heff]
    simp only[ba,ah,qau,qbs,S0.val,SL.val,ht]
  ·exact absurd hk hA.fail
 next m k t ht=>
  split at hk
  next kt et hu=>
   obtain⟨acts,cs,h',q1,q2,hk1⟩:=hA.heap _ _ _ hk
   simp only[Hp.run]at q1
   rw[ha]at q1 q2
   refine cY hR q2 (s:=.un) trivial (f:=dE X.C t m k.val) ?_ (deG_ok hu q1) hk1
   rw[heff]
   simp only[ba,ah,qau,qbs,S0.val,SL.val,ht]
  ·exact absurd hk hA.fail
 next s t ht=>
  split at hk
  next e hu=>
   split at hk
   next z hz0 hz=>
    have hz0:¬X.C.P.cellsOf e=0:=λe=>by rw[e]at hz0;cases hz0
    obtain⟨acts,cs,h',q1,q2,hk1⟩:=hA.heap _ _ _ hk
    simp only[Hp.run]at q1
    rw[ha]at q1 q2
    refine cY hR q2 (s:=.un) trivial (f:=gt X.C t s) ?_ (clG_ok hu hz0 hz q1) hk1
    rw[heff]
    simp only[ba,ah,qau,qbs,S0.val,SL.val,ht]
   ·exact absurd hk hA.fail
  ·exact absurd hk hA.fail
 next k a k' b'=>
  split at hk
  next hkk=>
   have hkk:=dw hkk
   subst hkk
   obtain⟨t,h1,hk1⟩:=hA.cmp _ _ _ _ hk
   have hk2:=hA.sel _ _ _ _ hk1
   simp only[oC,qas]at h1
   subst h1
   obtain⟨p1,p2⟩:=hargs _ (λy hy l hl=>by
    simp only[qal,qbq,or_false]at hy
    rcases hy with rfl|rfl<;>(simp only[S0.cells,qap]at hl;subst hl;trivial)) rfl
   refine cm hR ha (s:=.st (.leaf (.i k _))) (au trivial) ⟨by rw[ho];rfl,?_,rfl,λw=>?_⟩ hk2
   ·rw[ho];simp only[Op.operands,Call.operands,hb];simpa using p1
   ·simp only[execOp,ho,resolve,hb,Sem.run_bind,p2]
    simp only[Sem.run_pure,Result.andThen_ok,invoke,builtin,ah,qau,qbs,S0.val,SL.val,Sem.run_bind]
    rw[show(⟨[Value.int k a,Value.int k b']⟩ : Array Value) = #[Value.int k a,Value.int k b']from rfl,run_min_int2]
    simp[SV.val,S0.val,SL.val,den,den1]
  ·exact absurd hk hA.fail
 next k a k' b'=>
  split at hk
  next hkk=>
   have hkk:=dw hkk
   subst hkk
   obtain⟨t,h1,hk1⟩:=hA.cmp _ _ _ _ hk
   have hk2:=hA.sel _ _ _ _ hk1
   simp only[oC,qas]at h1
   subst h1
   obtain⟨p1,p2⟩:=hargs _ (λy hy l hl=>by
    simp only[qal,qbq,or_false]at hy
    rcases hy with rfl|rfl<;>(simp only[S0.cells,qap]at hl;subst hl;trivial)) rfl
   refine cm hR ha (s:=.st (.leaf (.i k _))) (au trivial) ⟨by rw[ho];rfl,?_,rfl,λw=>?_⟩ hk2
   ·rw[ho];simp only[Op.operands,Call.operands,hb];simpa using p1
   ·simp only[execOp,ho,resolve,hb,Sem.run_bind,p2]
    simp only[Sem.run_pure,Result.andThen_ok,invoke,builtin,ah,qau,qbs,S0.val,SL.val,Sem.run_bind]
    rw[show(⟨[Value.int k a,Value.int k b']⟩ : Array Value) = #[Value.int k a,Value.int k b']from rfl,run_max_int2]
    simp[SV.val,S0.val,SL.val,den,den1]
  ·exact absurd hk hA.fail
 ·exact absurd hk hA.fail
end
end Sx
namespace Sx
section
variable [Val] [Kno] {R HT:Type} {A:Alg R HT} {X:Ctxt} {Sg:Tc} {holds:R->Prop} {abs:HT->Ts}
variable {ev:Env} {σ:St} {h:HT} {o:Oper} {K:KN R HT}
def lfsOf_one(x:S0):cg [x]=x.cells.map SL.lf:=by simp[cg]
def uM(hA:AlgOk A X.C Sg X.T holds abs)(hR:Rp ev σ){sks:TI}{rs:TD}{ys:List S0}(hy:Told sks rs ys){H':Ts}(ha:abs h=H')
  (hst:StepO X.C X.pts o σ (({ σ with heap:=H' }:St).put o.dst (fq (ah ys)))) (hk:holds (setR A o.dst sks rs ev h K)):Done X holds abs o σ K:=by
 obtain⟨y1,rfl,y3⟩:=hy
 unfold setR at hk
 split at hk
 next sk=>
  obtain⟨x,r,e1,e2,hk1⟩:=unS_ok hA hk
  obtain⟨hr,hk2⟩:=hA.un0 _ _ hk1
  rw[hr,qa4]at e1
  match ys,y1 with
  | [y],y1=>
   simp only[ca,qdu]at y1
   rw[lfsOf_one]at e1
   obtain⟨v1,v2⟩:=S0.is_val y1 e2 e1
   refine du hR H' ha (s:=.st x) (v2 (y3 y (by simp))) ?_ hk2
   rw[show(SV.st x).val=fq (ah [y])from by simp[SV.val,ah,fq,v1]]
   exact hst
  | [],y1=>cases y1
  |_ :: _ :: _,y1=>simp[ca]at y1
 ·obtain⟨hr,hk1⟩:=hA.un0 _ _ hk
  match ys,y1 with
  | [],_=>exact du hR H' ha (s:=.un) trivial hst hk1
  |_ :: _,y1=>cases y1
 next h1 h2=>
  obtain⟨xs,r,e1,e2,hk1⟩:=nR hA hk
  obtain⟨hr,hk2⟩:=hA.un0 _ _ hk1
  rw[hr,qa4]at e1
  obtain⟨v1,v2⟩:=cH y1 e2 e1
  have hlen:2<=xs.length:=by
   match xs,e2 with
   | [],e2=>cases sks with
    |nil=>exact absurd rfl h2
    |cons _ _=>cases e2
   | [x],e2=>cases sks with
    |nil=>exact absurd rfl h2
    |cons a l=>cases l with
     |nil=>exact absurd rfl (h1 _)
     |cons _ _=>simp[ca]at e2
   |_ :: _ :: _,_=>simp
  refine du hR H' ha (s:=.tup xs) ⟨v2 y3,hlen⟩ ?_ hk2
  have:(SV.tup xs).val=fq (ah ys):=by
   rw[v1]
   match xs,hlen with
   |a :: b :: l,_=>rfl
  rw[this]
  exact hst
def all_noLoc{xs:List S0}(hg:∀x∈xs,x.good):(ah xs).all noLoc=true:=by
 simp only[ah,qag,qaM]
 rintro _ ⟨x,hx,rfl⟩
 exact S0.noLoc (hg x hx)
def call_ok(hA:AlgOk A X.C Sg X.T holds abs)(hR:Rp ev σ)(ha:abs h=σ.heap){c:Call}{hs:TI}(ho:o.op = .call c)
  (hk:holds (match svals ev c.args.toList with
  |some xs=>match c.callee with
   | .builtin b=>lG A X o.dst (lB hs) b xs c.argTypes ev h K
   | .value f=>match sval ev f with
    | .st (.leaf (.v v))=>match f with
     | .func g=>match Sg g with
      |some sg=>match ca xs sg.ps with
       |true=>A.call g (cg xs) h λrs h=>setR A o.dst sg.rs rs ev h K
       |false=>A.fail
      |none=>A.fail
     |_=>A.callv v (ah xs) hs h λrs h=>setR A o.dst hs rs ev h K
    |_=>A.fail
   |_=>A.fail
  |none=>A.fail)):Done X holds abs o σ K:=by
 split at hk
 next xs hx=>
  obtain⟨hv,hg⟩:=hR.svals hx
  have hnl:=all_noLoc hg
  split at hk
  next b hb=>
   exact wP hA hR ha ho hb hx hk
  next f hc=>
   split at hk
   next v hf=>
    obtain⟨h1,g1⟩:=hR.sval hf (by simp)
    simp only[SV.val,S0.val,SL.val]at h1
    have gv:aW v=true:=g1 (.v v) (by simp[S0.cells])
    have heff:∀ {g:TM} {first cap:Tj},v = .func (.func g) first cap->aj X.C X.pts (oval σ.tmps) o=some (.call g (first.toList++ah xs++cap.toList)):=by
     intro g first cap e
     subst e
     simp only[aj,ho,fF,hc,hv,hnl,h1,(dP.1 gv).1,qaE,qam,if_false,if_true]
    split at hk
    next g=>
     have e:v = .func (.func g) #[] #[]:=by
      have:=h1
      simp only[oval]at this
      exact this.symm
     split at hk
     next sg hsg=>
      split at hk
      next hps=>
       obtain⟨rs,h',⟨sg',xs',ys,c1,⟨c2,c3,c4⟩,c5,c6⟩,hk1⟩:=hA.call _ _ _ _ hk
       rw[hsg]at c1
       cases c1
       obtain⟨v1,_⟩:=cH hps c2 c3.symm
       rw[ha]at c6
       refine uM hA hR c5 rfl (.inl ⟨_,heff e,fq (ah ys),abs h',?_,rfl⟩) hk1
       rw[v1]
       show ip X.C g _ _ _ _
       simpa using c6
      ·exact absurd hk hA.fail
     ·exact absurd hk hA.fail
    ·obtain⟨rs,h',⟨ys,c1,c2⟩,hk1⟩:=hA.callv _ _ _ _ _ hk
     rw[ha]at c2
     rcases c2 with⟨g,first,cap,e,c2⟩|⟨l,e,c2⟩
     ·exact uM hA hR c1 rfl (.inl ⟨_,heff e,fq (ah ys),abs h',c2,rfl⟩) hk1
     ·have heff2:aj X.C X.pts (oval σ.tmps) o=some (.yield l (ah xs)):=by
       subst e
       simp only[aj,ho,fF,hc,hv,hnl,h1,qaE,qam,if_false]
       rfl
      exact uM hA hR c1 rfl (.inl ⟨_,heff2,fq (ah ys),abs h',c2,rfl⟩) hk1
   ·exact absurd hk hA.fail
  ·exact absurd hk hA.fail
 ·exact absurd hk hA.fail
def opE_ok(hA:AlgOk A X.C Sg X.T holds abs)(hR:Rp ev σ)(ha:abs h=σ.heap){hs:TI}(hk:holds (opE A X Sg o hs ev h K)):Done X holds abs o σ K:=by
 unfold opE at hk
 split at hk
 next x ho=>
  split at hk
  ·exact absurd hk hA.fail
  next hn=>exact move_ok hR ha (.inl ho) rfl (λe=>hn e) hk
 next x ho=>
  split at hk
  ·exact absurd hk hA.fail
  next hn=>exact move_ok hR ha (.inr ho) rfl (λe=>hn e) hk
 next c a b ho=>exact pick_ok hA hR ha ho hk
 next t ho=>
  split at hk
  next x hx=>
   obtain⟨z,h1,h2,h3⟩:=rM hx
   exact newV_ok hA hR ha h3 (by simp only[aj,ho,h1,qak,h2]) (.inr ho) hk
  ·exact absurd hk hA.fail
 next t y ho=>
  split at hk
  next x hx=>
   obtain⟨h1,h2⟩:=hR.sval hx (by simp)
   exact newV_ok hA hR ha h2 (by simp only[aj,ho,h1];rfl) (.inl ⟨y,ho⟩) hk
  ·exact absurd hk hA.fail
 next t ps ho=>exact build_ok hA hR ha ho hk
 next t n ps ho=>exact qe hA hR ha ho hk
 next t a ho=>
  split at hk
  next agg hag=>
   split at hk
   next hb=>exact load_ok hA hR ha ho hag (eqB_eq hb) hk
   ·exact absurd hk hA.fail
  ·exact absurd hk hA.fail
 next t a y ho=>
  split at hk
  next x hx=>exact store_ok hA hR ha ho hx hk
  ·exact absurd hk hA.fail
 next x ho=>exact uy hA hR ha ho hk
 next op t x y yt ho=>
  split at hk
  next a b e1 e2=>exact bin_ok hA hR ha ho e1 e2 hk
  ·exact absurd hk hA.fail
 next op t x ho=>exact un_ok hA hR ha ho hk
 next sT dT x ho=>exact conv_ok hA hR ha ho hk
 next fn first cap ho=>exact uw hA hR ha ho hk
 next t r ho=>exact kq hA hR ha ho hk
 next t l c ho=>exact ta hA hR ha ho hk
 next t x lo hi mx ho=>exact sliceE_ok hA hR ha ho hk
 next t x f ho=>exact sC hA hR ha ho hk
 next t x i ho=>exact sN hA hR ha ho hk
 next t x f ho=>exact field_ok hA hR ha ho hk
 next t x i ho=>exact index_ok hA hR ha ho hk
 next t m k ok ho=>exact look_ok hA hR ha ho hk
 next t m k v ho=>exact vG hA hR ha (.inl ho) hk
 next t m k v ho=>exact vG hA hR ha (.inr ho) hk
 next t m k ho=>exact mapEn_ok hA hR ha ho hk
 next t m s v ho=>exact entSt_ok hA hR ha ho hk
 next t i ho=>exact xb hA hR ha ho hk
 next c ho=>exact call_ok hA hR ha ho hk
 ·exact absurd hk hA.fail
def DoneI(X:Ctxt)(holds:R->Prop)(abs:HT->Ts)(ops:Tm)(i:Nat)(o:Oper)(σ:St)(K:KN R HT):Prop:=
 ∃σ' ev' h',ai X.C (uB X.C) X.pts ops i σ σ'/\Rp ev' σ'/\abs h'=σ'.heap/\Fr o.dst.toList (tq X.pts o).toList (iP X.pts o).toList σ σ'/\holds (K ev' h')
def rp_guard(hR:Rp ev σ){d:Nat}{t:Bool}(hd:ev.tm.getD d .no = .st (.leaf (.b t))):Rp ⟨ev.tm.set d (.st (.leaf (.l t))),ev.lc⟩ σ:=by
 obtain⟨h1,_⟩:=hR.at hd (by simp)
 refine⟨by simp[hR.len],λi x hx=>?_,hR.llen,hR.row⟩
 simp only[qa0]at hx
 split at hx
 next hi=>
  subst hi
  split at hx
  ·cases hx;exact⟨h1,au trivial⟩
  ·cases hx
 ·exact hR.val i x hx
def opG_ok(hA:AlgOk A X.C Sg X.T holds abs)(hR:Rp ev σ)(ha:abs h=σ.heap){ops:Tm}{i:Nat}{hs:TI}(hi:ops[i]?=some o)(hk:holds (opG A X Sg ops o hs ev h K)):DoneI X holds abs ops i o σ K:=by
 have wanted:∀ {ev:Env},Rp ev σ->cj ops σ.tmps o=some true->holds (opE A X Sg o hs ev h K)->DoneI X holds abs ops i o σ K:=by
  intro ev hR hw hk
  obtain⟨σ',ev',h',q1,q2,q3,q4,q5⟩:=opE_ok hA hR ha hk
  exact⟨σ',ev',h',by unfold ai;simp only[hi,hw];exact q1,q2,q3,q4,q5⟩
 have unwanted:∀ {ev:Env},Rp ev σ->cj ops σ.tmps o=some false->holds (setD o.dst .un ev h K)->DoneI X holds abs ops i o σ K:=by
  intro ev hR hw hk
  obtain⟨ev',h1,h2⟩:=uL hR (s:=.un) trivial hk
  refine⟨σ.put o.dst undef,ev',h,by unfold ai;simp only[hi,hw],h1,?_,.put _ _ _ _,h2⟩
  rw[ha];cases o.dst<;>rfl
 unfold opG at hk
 split at hk
 next hg=>
  exact wanted hR (by simp only[cj,hg]) hk
 next j want hg=>
  split at hk
  next d hd=>
   split at hk
   next b hb=>
    obtain⟨h1,_⟩:=hR.at hb (by simp)
    have hw:cj ops σ.tmps o=some (b==want):=by
     simp only[cj,hg,hd,qak,h1];rfl
    split at hk
    next e=>exact wanted hR (by rw[hw,e]) hk
    next e=>exact unwanted hR (by rw[hw,e]) hk
   next hb=>
    obtain⟨h1,_⟩:=hR.at hb (by simp)
    have hw:cj ops σ.tmps o=some false:=by
     simp only[cj,hg,hd,qak,h1];rfl
    exact unwanted hR hw hk
   next t hb=>
    obtain⟨h1,_⟩:=hR.at hb (by simp)
    have hw:cj ops σ.tmps o=some (t==want):=by
     simp only[cj,hg,hd,qak,h1];rfl
    have hR':=rp_guard hR hb
    split at hk
    ·rcases hA.cond _ _ _ hk with⟨ht,hk1⟩|⟨ht,hk1⟩
     ·rw[setK_eq]at hk1
      subst ht
      exact wanted hR' hw hk1
     ·rw[setK_eq]at hk1
      subst ht
      exact unwanted hR' hw hk1
    ·rcases hA.cond _ _ _ hk with⟨ht,hk1⟩|⟨ht,hk1⟩
     ·rw[setK_eq]at hk1
      subst ht
      exact unwanted hR' hw hk1
     ·rw[setK_eq]at hk1
      subst ht
      exact wanted hR' hw hk1
   ·exact absurd hk hA.fail
  ·exact absurd hk hA.fail
def wsOf(l:Tv):TA:=l.filterMap (·.dst)
def ksOf(pts:TA)(l:Tv):TA:=l.filterMap (tq pts)
def rsOf(pts:TA)(l:Tv):TA:=l.filterMap (iP pts)
def cT{f:Oper->Tp}{o:Oper}{l:Tv}(ho:o∈l):∀i∈(f o).toList,i∈l.filterMap f:=by
 intro i hi
 rw[qbA]
 exact⟨o,ho,by simpa using hi⟩
def lY(hA:AlgOk A X.C Sg X.T holds abs){ops:Tm}:∀(l:Tv) (i:Nat) (hs:List (TI)) (ev:Env) (h:HT) (σ:St),l <+: ops.toList.drop i->Rp ev σ->abs h=σ.heap->holds (opsE A X Sg ops l hs ev h K)->
  ∃σ' ev' h',bn X.C (uB X.C) X.pts ops (List.range' i l.length) σ σ'/\Rp ev' σ'/\abs h'=σ'.heap/\Fr (wsOf l) (ksOf X.pts l) (rsOf X.pts l) σ σ'/\holds (K ev' h')
 | [],i,hs,ev,h,σ,_,hR,ha,hk=>⟨σ,ev,h,rfl,hR,ha,.refl _ _ _ _,hk⟩
 |o :: l,i,hs,ev,h,σ,hl,hR,ha,hk=>by
  have hi:ops[i]?=some o:=by
   obtain⟨t,hl⟩:=hl
   have:(ops.toList.drop i)[0]?=some o:=by rw[←hl];rfl
   simpa using this
  obtain⟨σ₁,ev₁,h₁,q1,q2,q3,q4,q5⟩:=opG_ok (K:=λev h=>opsE A X Sg ops l hs.tail ev h K) hA hR ha hi hk
  have hl':l <+: ops.toList.drop (i+1):=by
   obtain⟨t,hl⟩:=hl
   exact⟨t,by rw[←qbS,←hl];rfl⟩
  obtain⟨σ',ev',h',p1,p2,p3,p4,p5⟩:=lY hA l (i+1) hs.tail ev₁ h₁ σ₁ hl' q2 q3 q5
  refine⟨σ',ev',h',⟨σ₁,q1,p1⟩,p2,p3,?_,p5⟩
  have f1:Fr (wsOf (o :: l)) (ksOf X.pts (o :: l)) (rsOf X.pts (o :: l)) σ σ₁:=q4.mono (cT (by simp)) (cT (by simp)) (cT (by simp))
  have sub:∀(f:Oper->Tp) (i:Nat),i∈l.filterMap f->i∈(o :: l).filterMap f:=by
   intro f i hi
   rw[qbA]at hi ⊢
   obtain⟨x,hx,e⟩:=hi
   exact⟨x,by simp[hx],e⟩
  exact f1.trans (p4.mono (sub _) (sub _) (sub _))
def opsE_ok(hA:AlgOk A X.C Sg X.T holds abs){ops:Tm}(l:Tv)(i:Nat)(hs:List (TI))(ev:Env)(h:HT)(σ:St)(hl:ops.toList.drop i=l)(hR:Rp ev σ)(ha:abs h=σ.heap)(hk:holds (opsE A X Sg ops l hs ev h K)) :
  ∃σ' ev' h',bn X.C (uB X.C) X.pts ops (List.range' i l.length) σ σ'/\Rp ev' σ'/\abs h'=σ'.heap/\Fr (wsOf l) (ksOf X.pts l) (rsOf X.pts l) σ σ'/\holds (K ev' h'):=
 lY hA l i hs ev h σ (hl▸List.prefix_refl _) hR ha hk
end
end Sx
namespace Sx
section
variable [Val] [Kno] {R HT:Type} {A:Alg R HT} {X:Ctxt} {Sg:Tc} {holds:R->Prop} {abs:HT->Ts}
def clrT_eq(ws ks:TA):∀(l:List SV) (i:Nat) (K:List SV->R),∃l',clrT ws ks l i K=K l'/\l'.length=l.length/\
  ∀(j:Nat) s,l'[j]?=some s->s = .no∨(l[j]?=some s/\¬ws.contains (i+j)=true/\s.inRows ks=false)
 | [],i,K=>⟨[],rfl,rfl,λj s h=>by simp at h⟩
 |x :: l,i,K=>by
  obtain⟨l',h1,h2,h3⟩:=clrT_eq ws ks l (i+1) λl=>match ws.contains i||x.inRows ks with
   |true=>K (.no :: l)
   |false=>K (x :: l)
  have hr:∀(j:Nat) s,l'[j]?=some s->s = .no∨((x :: l)[j+1]?=some s/\¬ws.contains (i+(j+1))=true/\s.inRows ks=false):=by
   intro j s hs
   have:=h3 j s hs
   rw[show i+1+j=i+(j+1)by omega]at this
   simpa using this
  have h1':clrT ws ks (x :: l) i K=(match ws.contains i||x.inRows ks with
   |true=>K (.no :: l')
   |false=>K (x :: l')):=h1
  cases hc:ws.contains i||x.inRows ks with
  |true=>
   refine⟨.no :: l',by rw[h1',hc],by simp[h2],λj s hs=>?_⟩
   cases j with
   |zero=>simp at hs;exact .inl hs.symm
   |succ j=>exact hr j s (by simpa using hs)
  |false=>
   simp only[qb5]at hc
   refine⟨x :: l',by rw[h1'];simp only[hc,Bool.or_self],by simp[h2],λj s hs=>?_⟩
   cases j with
   |zero=>
    simp at hs
    subst hs
    exact .inr ⟨rfl,by rw[qcb,hc.1];exact Bool.false_ne_true,hc.2⟩
   |succ j=>exact hr j s (by simpa using hs)
def ry(r r0:LR):Prop:=r = .unk∨(∃n,r = .any n/\(r0 = .any n∨∃cs,r0 = .row cs/\cs.length=n))
def clrR_eq(ws ks:TA)(nw:LR):∀(l:List LR) (i:Nat) (K:List LR->R),∃l',clrR ws ks nw l i K=K l'/\l'.length=l.length/\
  ∀(j:Nat) r,l'[j]?=some r->(ks.contains (i+j)=true/\r=nw)∨(ks.contains (i+j)=false/\ws.contains (i+j)=true/\∃r0,l[j]?=some r0/\ry r r0)∨
   (ks.contains (i+j)=false/\ws.contains (i+j)=false/\l[j]?=some r)
 | [],i,K=>⟨[],rfl,rfl,λj s h=>by simp at h⟩
 |x :: l,i,K=>by
  obtain⟨l',h1,h2,h3⟩:=clrR_eq ws ks nw l (i+1) λl=>match ks.contains i,ws.contains i with
   |true,_=>K (nw :: l)
   |false,true=>(match x with
    | .row cs=>qF cs.length λn=>K (.any n :: l)
    | .any n=>K (.any n :: l)
    |_=>K (.unk :: l))
   |false,false=>K (x :: l)
  have hr:∀(j:Nat) r,l'[j]?=some r->(ks.contains (i+(j+1))=true/\r=nw)∨(ks.contains (i+(j+1))=false/\ws.contains (i+(j+1))=true/\∃r0,(x :: l)[j+1]?=some r0/\ry r r0)∨
   (ks.contains (i+(j+1))=false/\ws.contains (i+(j+1))=false/\(x :: l)[j+1]?=some r):=by
   intro j s hs
   have:=h3 j s hs
   rw[show i+1+j=i+(j+1)by omega]at this
   simpa using this
  have fin:∀y:LR,clrR ws ks nw (x :: l) i K=K (y :: l')->((ks.contains i=true/\y=nw)∨(ks.contains i=false/\ws.contains i=true/\ry y x)∨(ks.contains i=false/\ws.contains i=false/\y=x))->
    ∃l',clrR ws ks nw (x :: l) i K=K l'/\l'.length=(x :: l).length/\∀(j:Nat) r,l'[j]?=some r->(ks.contains (i+j)=true/\r=nw)∨(ks.contains (i+j)=false/\ws.contains (i+j)=true/\∃r0,(x :: l)[j]?=some r0/\ry r r0)∨
     (ks.contains (i+j)=false/\ws.contains (i+j)=false/\(x :: l)[j]?=some r):=by
   intro y hy hc
   refine⟨y :: l',hy,by simp[h2],λj r hs=>?_⟩
   cases j with
   |zero=>
    simp at hs
    subst hs
    rcases hc with hc|⟨a,b,c⟩|⟨a,b,c⟩
    ·exact .inl hc
    ·exact .inr (.inl ⟨a,b,x,rfl,c⟩)
    ·exact .inr (.inr ⟨a,b,by rw[c];rfl⟩)
   |succ j=>exact hr j r (by simpa using hs)
  cases hk:ks.contains i with
  |true=>exact fin nw (by show _=_;refine h1.trans ?_;simp only[hk]) (.inl ⟨hk,rfl⟩)
  |false=>
   cases hw:ws.contains i with
   |false=>exact fin x (by refine h1.trans ?_;simp only[hk,hw]) (.inr (.inr ⟨hk,hw,rfl⟩))
   |true=>
    cases x with
    |row cs=>exact fin (.any cs.length) (by refine h1.trans ?_;simp only[hk,hw,uk]) (.inr (.inl ⟨hk,hw,.inr ⟨_,rfl,.inr ⟨cs,rfl,rfl⟩⟩⟩))
    |any n=>exact fin (.any n) (by refine h1.trans ?_;simp only[hk,hw]) (.inr (.inl ⟨hk,hw,.inr ⟨_,rfl,.inl rfl⟩⟩))
    |unk=>exact fin .unk (by refine h1.trans ?_;simp only[hk,hw]) (.inr (.inl ⟨hk,hw,.inl rfl⟩))
    |nil=>exact fin .unk (by refine h1.trans ?_;simp only[hk,hw]) (.inr (.inl ⟨hk,hw,.inl rfl⟩))
def upT_ok{C:Cfg}{T:Tt}(hA:AlgOk A C Sg T holds abs):∀(lv:List (Nat×SK)) (xs:List S0) (tm:List SV) (K:List SV->R),holds (upT A lv xs tm K)->ca xs (lv.map (·.2))=true->
  ∃tm',holds (K tm')/\tm'.length=tm.length/\∀(j:Nat) s,tm'[j]?=some s->tm[j]?=some s∨∃sk x,(j,sk)∈lv/\s = .st x/\((j,sk),x)∈lv.zip xs
 | [],xs,tm,K,hk,_=>⟨tm,hk,rfl,λj s hs=>.inl hs⟩
 |p :: lv,[],tm,K,hk,h=>by cases h
 |p :: lv,x :: xs,tm,K,hk,h=>by
  simp only[qau,ca,qaa]at h
  have hk':holds (setK (.st x) tm p.1 λtm=>upT A lv xs tm K):=hk
  rw[setK_eq]at hk'
  obtain⟨tm',h1,h2,h3⟩:=upT_ok hA lv xs _ K hk' h.2
  refine⟨tm',h1,by rw[h2];simp,λj s hs=>?_⟩
  rcases h3 j s hs with h4|⟨sk,y,h4,h5,h6⟩
  ·simp only[qa0]at h4
   split at h4
   next hj=>
    split at h4
    ·cases h4
     subst hj
     exact .inr ⟨p.2,x,by simp,rfl,by simp⟩
    ·cases h4
   ·exact .inl h4
  ·exact .inr ⟨sk,y,by simp[h4],h5,by simp[h6]⟩
def upR_ok{C:Cfg}{T:Tt}(hA:AlgOk A C Sg T holds abs):∀(lv:List (Nat×List LK)) (ls:TD) (lc:List LR) (K:List LR->TD->R),holds (upR A lv ls lc K)->
  ∃(lc':List LR) (r:TD) (css:List (List SL)),holds (K lc' r)/\ls=(css.map (·.map SL.lf)).flatten++r/\css.length=lv.length/\(∀(i:Nat) p cs,lv[i]?=some p->css[i]?=some cs->aT cs p.2=true)/\lc'.length=lc.length/\
   ∀(j:Nat) s,lc'[j]?=some s->lc[j]?=some s∨∃(i:Nat) (ks:TG) (cs:List SL),lv[i]?=some (j,ks)/\css[i]?=some cs/\s = .row cs
 | [],ls,lc,K,hk=>⟨lc,ls,[],hk,rfl,rfl,λ_ _ _ h=>by simp at h,rfl,λj s hs=>.inl hs⟩
 |p :: lv,ls,lc,K,hk=>by
  have hk':holds (unL A p.2 ls λcs r=>setK (.row cs) lc p.1 λlc=>upR A lv r lc K):=hk
  obtain⟨cs,r,e1,e2,hk1⟩:=pO hA hk'
  rw[setK_eq]at hk1
  obtain⟨lc',r',css,h1,h2,h3,h4,h5,h6⟩:=upR_ok hA lv r _ K hk1
  refine⟨lc',r',cs :: css,h1,by rw[e1,h2];simp,by simp[h3],λi q ds hq hd=>?_,by rw[h5];simp,λj s hs=>?_⟩
  ·cases i with
   |zero=>simp at hq hd;subst hq;subst hd;exact e2
   |succ i=>exact h4 i q ds (by simpa using hq) (by simpa using hd)
  ·rcases h6 j s hs with h7|⟨i,ks,ds,h7,h8,h9⟩
   ·simp only[qa0]at h7
    split at h7
    next hj=>
     split at h7
     ·cases h7
      subst hj
      exact .inr ⟨0,p.2,cs,rfl,rfl,rfl⟩
     ·cases h7
    ·exact .inl h7
   ·exact .inr ⟨i+1,ks,ds,by simpa using h7,by simpa using h8,h9⟩
def pkT_ok{ev:Env}{σ:St}(hR:Rp ev σ):∀ {lv:List (Nat×SK)} {ls:TD},pkT ev.tm lv=some ls->
  ∃xs,cg xs=ls/\ca xs (lv.map (·.2))=true/\(∀x∈xs,x.good)/\∀p∈lv.zip xs,σ.tmps[p.1.1]?=some p.2.val
 | [],ls,h=>by cases h;exact⟨[],rfl,rfl,by simp,by simp⟩
 |(t,sk) :: lv,ls,h=>by
  simp only[pkT]at h
  split at h
  next x ls' hx hl=>
   split at h
   next his=>
    cases h
    obtain⟨xs,h1,h2,h3,h4⟩:=pkT_ok hR hl
    obtain⟨g1,g2⟩:=hR.at hx (by simp)
    refine⟨x :: xs,by simp[cg,h1],by simp[ca,his,h2],qbv.2 ⟨g2,h3⟩,λp hp=>?_⟩
    simp only[qcH,qal]at hp
    rcases hp with rfl|hp
    ·exact g1
    ·exact h4 p hp
   ·cases h
  ·cases h
def pkR_ok{ev:Env}{σ:St}(hR:Rp ev σ):∀ {lv:List (Nat×List LK)} {ls:TD},pkR ev.lc lv=some ls->
  ∃css:List (List SL),(css.map (·.map SL.lf)).flatten=ls/\css.length=lv.length/\(∀(i:Nat) p cs,lv[i]?=some p->css[i]?=some cs->aT cs p.2=true/\(∀c∈cs,c.good)/\σ.loc[p.1]?=some (some (cs.map SL.val)))
 | [],ls,h=>by cases h;exact⟨[],rfl,rfl,λ_ _ _ h=>by simp at h⟩
 |(s,ks) :: lv,ls,h=>by
  simp only[pkR]at h
  split at h
  next cs ls' hx hl=>
   split at h
   next his=>
    cases h
    obtain⟨css,h1,h2,h3⟩:=pkR_ok hR hl
    have hr:rx ev s=some cs:=by unfold rx;rw[hx]
    obtain⟨g1,g2,_⟩:=jA hR hr
    refine⟨cs :: css,by simp[h1],by simp[h2],λi p ds hp hd=>?_⟩
    cases i with
    |zero=>simp at hp hd;subst hp;subst hd;exact⟨his,g2,g1⟩
    |succ i=>exact h3 i p ds (by simpa using hp) (by simpa using hd)
   ·cases h
  ·cases h
def css_eq:∀ {lv:List (Nat×List LK)} {a b:List (List SL)} {r:TD},a.length=lv.length->b.length=lv.length->
  (∀(i:Nat) p cs,lv[i]?=some p->a[i]?=some cs->aT cs p.2=true)->(∀(i:Nat) p cs,lv[i]?=some p->b[i]?=some cs->aT cs p.2=true)->
  (a.map (·.map SL.lf)).flatten=(b.map (·.map SL.lf)).flatten++r->r=[]/\∀(i:Nat) x y,a[i]?=some x->b[i]?=some y->x.map SL.lf=y.map SL.lf
 | [],a,b,r,la,lb,_,_,h=>by
  have la:a=[]:=by simpa using la
  have lb:b=[]:=by simpa using lb
  subst la;subst lb
  simp at h
  exact⟨h,λi x y hx=>by simp at hx⟩
 |p :: lv,a,b,r,la,lb,ha,hb,h=>by
  cases a with
  |nil=>simp at la
  |cons x a=>cases b with
   |nil=>simp at lb
   |cons y b=>
    simp only[qau,qcf,qaP]at h
    have h1:=bJ (ha 0 p x rfl rfl)
    have h2:=bJ (hb 0 p y rfl rfl)
    obtain⟨e1,e2⟩:=qdq h (by simp[h1,h2])
    obtain⟨f1,f2⟩:=css_eq (lv:=lv) (by simpa using la) (by simpa using lb) (λi q cs hq hc=>ha (i+1) q cs (by simpa using hq) (by simpa using hc))
     (λi q cs hq hc=>hb (i+1) q cs (by simpa using hq) (by simpa using hc)) e2
    refine⟨f1,λi u v hu hv=>?_⟩
    cases i with
    |zero=>simp at hu hv;subst hu;subst hv;exact e1
    |succ i=>exact f2 i u v (by simpa using hu) (by simpa using hv)
def xp{α β:Type}{l:List α}{m:List β}{p:α×β}(h:p∈l.zip m):∃i:Nat,l[i]?=some p.1/\m[i]?=some p.2:=by
 obtain⟨i,hi⟩:=qaW h
 rw[qdb]at hi
 exact⟨i,hi⟩
def oQ:∀ {a b:List S0} {sks:TI},ca a sks=true->ca b sks=true->(cg a).length=(cg b).length
 | [],[],[],_,_=>rfl
 |x :: a,y :: b,k :: sks,ha,hb=>by
  simp only[ca,qaa]at ha hb
  obtain⟨n,n1,n2⟩:=S0.is_len ha.1
  simp only[cg,qaC,qaF,n1,n2 y hb.1,oQ ha.2 hb.2]
 | [],_ :: _,[],_,hb=>by cases hb
 | [],_,_ :: _,ha,_=>by cases ha
 |_ :: _,_,[],ha,_=>by cases ha
 |_ :: _,[],_ :: _,_,hb=>by cases hb
structure Like(ks:TA)(nw:LR)(σ' τ:St):Prop where
 tlen:τ.tmps.length=σ'.tmps.length
 llen:τ.loc.length=σ'.loc.length
 tm:∀(i:Nat) v,σ'.tmps[i]?=some v->noLoc v=true->τ.tmps[i]?=some v
 tp:∀(i s off:Nat),σ'.tmps[i]?=some (.pointer (some ⟨s,off,some 0⟩))->s∉ks->τ.tmps[i]?=some (.pointer (some ⟨s,off,some 0⟩))
 row:∀(s:Nat) x,σ'.loc[s]?=some x->s∉ks->τ.loc[s]?=some x
 new:∀s,s∈ks->s<τ.loc.length->nw.ok τ.loc s
def Like.refl(ks:TA)(σ:St):Like ks .unk σ σ:=⟨rfl,rfl,λ_ _ h _=>h,λ_ _ _ h _=>h,λ_ _ h _=>h,λ_ _ _=>trivial⟩
def reE_ok{C:Cfg}{T:Tt}(hA:AlgOk A C Sg T holds abs){pts:TA}{c:Code}{nw:LR}{lv:Live}{ev ev':Env}{σ σ' τ:St}{ls:TD}{K:Env->R}
  (hR:Rp ev σ) (hR':Rp ev' σ') (hF:Fr (wrT c) (aP pts c) (wrR pts c) σ σ') (hp:pk ev' lv=some ls) (hτ:Like (aP pts c) nw σ' τ)
  (hlive:τ=σ'∨∀p∈lv.rows,p.1∉aP pts c) (hk:holds (reE A pts c nw lv ev ls K)):∃ev1,Rp ev1 τ/\holds (K ev1):=by
 unfold reE at hk
 obtain⟨tm1,h1,h2,h3⟩:=clrT_eq (wrT c) (aP pts c) ev.tm 0 λtm=>clrR (wrR pts c) (aP pts c) nw ev.lc 0 λlc=>
  unSs A (lv.tm.map (·.2)) ls λxs r=>upT A lv.tm xs tm λtm=>upR A lv.rows r lc λlc r=>A.un0 r (K ⟨tm,lc⟩)
 rw[h1]at hk
 obtain⟨lc1,g1,g2,g3⟩:=clrR_eq (wrR pts c) (aP pts c) nw ev.lc 0 λlc=>
  unSs A (lv.tm.map (·.2)) ls λxs r=>upT A lv.tm xs tm1 λtm=>upR A lv.rows r lc λlc r=>A.un0 r (K ⟨tm,lc⟩)
 rw[g1]at hk
 obtain⟨xs,r,e1,e2,hk1⟩:=nR hA hk
 obtain⟨tm2,hk2,u1,u2⟩:=upT_ok hA _ _ _ _ hk1 e2
 obtain⟨lc2,r2,css,hk3,v1,v2,v3,v4,v5⟩:=upR_ok hA _ _ _ _ hk2
 obtain⟨hr2,hk4⟩:=hA.un0 _ _ hk3
 subst hr2
 rw[qa4]at v1
 unfold pk at hp
 split at hp
 next la lb hpa hpb=>
  cases hp
  obtain⟨ys,y1,y2,y3,y4⟩:=pkT_ok hR' hpa
  obtain⟨dss,d1,d2,d3⟩:=pkR_ok hR' hpb
  rw[←y1,←d1]at e1
  obtain⟨s1,s2⟩:=qdq e1 (oQ y2 e2)
  obtain⟨w1,w2⟩:=cH y2 e2 s1
  have hgood:=w2 y3
  obtain⟨_,z2⟩:=css_eq (r:=[]) d2 v2 (λi p cs a b=>(d3 i p cs a b).1) v3 (by rw[s2,v1,qa4])
  refine⟨⟨tm2,lc2⟩,⟨?_,λi s hs=>?_,?_,λi s hs=>?_⟩,hk4⟩
  ·show tm2.length=_
   rw[u1,h2,hR.len,hτ.tlen,hF.tlen]
  ·rcases u2 i s hs with hs1|⟨sk,x,a1,rfl,a3⟩
   ·rcases h3 i s hs1 with rfl|⟨b1,b2,b3⟩
    ·trivial
    ·have hok:=hR.val i s b1
     rw[qaL]at b2
     have b2:i∉wrT c:=by simpa using b2
     have keepN:∀v,σ.tmps[i]?=some v->noLoc v=true->τ.tmps[i]?=some v:=λv hv hn=>hτ.tm i v (hF.tm i v hv b2 hn) hn
     have keepP:∀s off,σ.tmps[i]?=some (.pointer (some ⟨s,off,some 0⟩))->s∉aP pts c->τ.tmps[i]?=some (.pointer (some ⟨s,off,some 0⟩)):=λs off hv hn=>
      hτ.tp i s off (hF.tp i s off hv b2 hn) hn
     cases s with
     |no=>trivial
     |st x=>exact⟨keepN _ hok.1 (S0.noLoc hok.2),hok.2⟩
     |tup xs=>simp[SV.inRows]at b3
     |un=>exact⟨keepN _ hok.1 rfl,trivial⟩
     |gad g off=>exact⟨keepN _ hok.1 rfl,trivial⟩
     |gdx g base ix=>exact⟨keepN _ hok.1 rfl,trivial⟩
     |lad s off=>exact⟨keepP s off hok.1 (by simpa[SV.inRows]using b3),trivial⟩
     |ldx s base ix=>exact⟨keepP s _ hok.1 (by simpa[SV.inRows]using b3),trivial⟩
   ·obtain⟨k,q1,q2⟩:=xp a3
    simp only at q1 q2
    have hx:(ah xs)[k]?=some x.val:=by simp[ah,q2]
    rw[←w1]at hx
    simp only[ah,qax,qac]at hx
    obtain⟨y,hy1,hy2⟩:=hx
    have hm:((i,sk),y)∈lv.tm.zip ys:=by
     apply qab (i:=k)
     rw[qdb]
     exact⟨q1,hy1⟩
    have hv:=y4 _ hm
    simp only at hv
    rw[hy2]at hv
    have gx:=hgood x (qab q2)
    exact⟨hτ.tm i _ hv (S0.noLoc gx),gx⟩
  ·show lc2.length=_
   rw[v4,g2,hR.llen,hτ.llen,hF.llen]
  ·rcases v5 i s hs with hs1|⟨k,ks,cs,a1,a2,rfl⟩
   ·rcases g3 i s hs1 with⟨b1,rfl⟩|⟨b1,b2,r0,b3,b4⟩|⟨b1,b2,b3⟩
    ·rw[qaL]at b1
     refine hτ.new i (by simpa using b1) ?_
     rw[hτ.llen,hF.llen,←hR.llen,←g2]
     exact(qaN.1 hs1).1
    ·rw[qaL]at b1
     have hnk:i∉aP pts c:=by simpa using b1
     have h0:=hR.row i r0 b3
     rcases b4 with rfl|⟨n,rfl,b4⟩
     ·trivial
     ·have:∃vs,σ.loc[i]?=some (some vs)/\vs.length=n:=by
       rcases b4 with rfl|⟨cs,rfl,hl⟩
       ·exact h0
       ·exact⟨_,h0.1,by simpa using hl⟩
      obtain⟨vs,c1,c2⟩:=this
      obtain⟨vs',c3,c4⟩:=hF.rlen i vs c1 hnk
      exact⟨vs',hτ.row i _ c3 hnk,c4.trans c2⟩
    ·rw[qaL]at b1 b2
     have hnk:i∉aP pts c:=by simpa using b1
     have hnw:i∉wrR pts c:=by simpa using b2
     have h0:=hR.row i s b3
     have keep:∀x,σ.loc[i]?=some x->τ.loc[i]?=some x:=λx hx=>hτ.row i x (hF.row i x hx hnw) hnk
     cases s with
     |unk=>trivial
     |nil=>exact keep _ h0
     |any n=>obtain⟨vs,c1,c2⟩:=h0;exact⟨vs,keep _ c1,c2⟩
     |row cs=>exact⟨keep _ h0.1,h0.2⟩
   ·have hd:∃ds,dss[k]?=some ds:=by
     have:k<dss.length:=by rw[d2];exact(qaN.1 a1).1
     exact⟨dss[k],by simp[this]⟩
    obtain⟨ds,hd⟩:=hd
    obtain⟨f1,f2,f3⟩:=d3 k _ ds a1 hd
    have f4:=v3 k _ cs a1 a2
    obtain⟨m1,m2⟩:=gi f1 f4 (z2 k ds cs hd a2)
    simp only at f3
    rw[m1]at f3
    refine⟨?_,m2 f2⟩
    rcases hlive with rfl|hlive
    ·exact f3
    ·exact hτ.row i _ f3 (hlive (i,ks) (qab a1))
 ·cases hp
end
end Sx
namespace Sx
section
variable [Val] [Kno] {R HT:Type} {A:Alg R HT} {X:Ctxt} {Sg:Tc} {holds:R->Prop} {abs:HT->Ts}
def er(X:Ctxt)(c:AC):Code:=c.erase λκ t=>eY (X.T κ) t
def Out(X:Ctxt)(holds:R->Prop)(abs:HT->Ts)(c:Code)(σ:St)(kn:KN R HT)(kx:Exit->KN R HT):Prop:=
 ∃e σ' ev' h',uEx X.C X.pts c σ e σ'/\Rp ev' σ'/\abs h'=σ'.heap/\Fr (wrT c) (aP X.pts c) (wrR X.pts c) σ σ'/\((e = .normal/\holds (kn ev' h'))∨(e≠.normal/\holds (kx e ev' h')))
def qN(hA:AlgOk A X.C Sg X.T holds abs){c:Code}{j:Option Live}{ev:Env}{σ:St}{kn:KN R HT}{main:KN R HT->R}{kx:Exit->KN R HT}{c':Code}
  (hw:wrT c'=wrT c) (hb:aP X.pts c'=aP X.pts c) (hr:wrR X.pts c'=wrR X.pts c)
  (hR:Rp ev σ) (hm:∀kn,holds (main kn)->Out X holds abs c' σ kn kx) (hk:holds (sP A X.pts c j ev kn main)):Out X holds abs c' σ kn kx:=by
 unfold sP at hk
 cases j with
 |none=>exact hm kn hk
 |some lv=>
  obtain⟨e,σ',ev',h',h1,h2,h3,h4,h5⟩:=hm _ (hA.join _ _ hk)
  rcases h5 with⟨rfl,h5⟩|h5
  ·simp only at h5
   split at h5
   next ls hp=>
    rw[hw,hb,hr]at h4
    obtain⟨ev1,g1,g2⟩:=reE_ok hA hR h2 h4 hp (.refl _ _) (.inl rfl) h5
    exact⟨.normal,σ',ev1,h',h1,g1,h3,by rw[hw,hb,hr];exact h4,.inl ⟨rfl,g2⟩⟩
   ·exact absurd h5 hA.fail
  ·exact⟨e,σ',ev',h',h1,h2,h3,h4,.inr h5⟩
def box_sub(pts:TA):∀c:Code,∀s∈aP pts c,s∈wrR pts c:=by
 intro c
 induction c with
 |region id ops draw=>
  intro s hs
  simp only[aP,qbA]at hs
  simp only[wrR,qbA]
  obtain⟨o,ho,hs⟩:=hs
  refine⟨o,ho,?_⟩
  unfold iP
  split at hs
  next e1 e2=>
   simp only[e1,e2]
   exact hs
  next e1 e2=>
   simp only[e1,e2]
   exact hs
  ·cases hs
 |seq a b iha ihb=>intro s hs;simp only[aP,wrR,qao]at hs ⊢;exact hs.imp (iha s) (ihb s)
 |cond c a b iha ihb=>intro s hs;simp only[aP,wrR,qao]at hs ⊢;exact hs.imp (iha s) (ihb s)
 |block id b ih=>exact ih
 |loop b ih=>exact ih
 |scope b ih=>exact ih
 |rangeFunc f ps a b iha ihb=>intro s hs;simp only[aP,wrR,qao]at hs ⊢;exact hs.imp (iha s) (ihb s)
 |_=>intro s hs;cases hs
def sn{keys:TA}{v:Value}(h:noLoc v=true):ir keys v=v:=by
 unfold ir
 split
 next a=>
  split
  next hc=>
   simp only[qaa,qdv]at hc
   simp[noLoc,bj,bB,bu,hc.1]at h
  ·rfl
 ·rw[qdy h]
def sj{keys:TA}{s off:Nat}(h:s∉keys):ir keys (.pointer (some ⟨s,off,some 0⟩)) = .pointer (some ⟨s,off,some 0⟩):=by
 unfold ir
 simp[h]
def gU{σ:St}{keys:TA}{i:Nat}{v:Value}(hv:σ.tmps[i]?=some v)(hc:ir keys v=v):(σ.clear keys).tmps[i]?=some v:=by
 unfold St.clear
 split
 ·exact hv
 ·simp[hv,hc]
def mo{σ:St}{keys:TA}{s:Nat}{x:Option (Tl)}(hs:σ.loc[s]?=some x)(hn:s∉keys):(σ.clear keys).loc[s]?=some x:=by
 unfold St.clear
 split
 ·exact hs
 ·simp only
  rw[eB,qaL,qdz (by simpa using hn)]
  exact hs
def clear_new{σ:St}{keys:TA}{s:Nat}(hs:s∈keys)(hl:s<σ.loc.length):(σ.clear keys).loc[s]?=some none:=by
 unfold St.clear
 split
 next e=>rw[e]at hs;cases hs
 ·simp only
  rw[eB,qaL,qdy (by simpa using hs)]
  simp[hl]
def oB{σ:St}{keys:TA}:(σ.clear keys).tmps.length=σ.tmps.length:=by unfold St.clear;split<;>simp
def iq(keys:TA):∀(l:List (Option (Tl))) (i:Nat),(gu keys l i).length=l.length
 | [],_=>rfl
 |_ :: l,i=>by simp[gu,iq keys l]
def jO{σ:St}{keys:TA}:(σ.clear keys).loc.length=σ.loc.length:=by unfold St.clear;split<;>simp[iq]
def wT{σ:St}{keys:TA}:(σ.clear keys).heap=σ.heap:=by unfold St.clear;split<;>rfl
def wU(σ:St)(keys:TA):Like keys .nil σ (σ.clear keys):=
 ⟨oB,jO,λ_ _ h hn=>gU h (sn hn),λ_ _ _ h hn=>gU h (sj hn),λ_ _ h hn=>mo h hn,λ_ h hl=>clear_new h (by rw[jO]at hl;exact hl)⟩
def clear_fr{σ:St}{ws keys rs:TA}(hsub:∀s∈keys,s∈rs):Fr ws keys rs σ (σ.clear keys):=
 ⟨oB,jO,λ_ _ h _ hn=>gU h (sn hn),λ_ _ _ h _ hn=>gU h (sj hn),λs _ h hn=>mo h λhk=>hn (hsub s hk),
  λs vs h hn=>⟨vs,mo h hn,rfl⟩⟩
def oy{ev:Env}{σ:St}(hR:Rp ev σ):∀ {caps:List (Nat×SK)} {vs:Tl},mj ev.tm caps=some vs->∀(nt:Nat) (tm:Tl),
  (∀(i:Nat) x,tm[i]?=some x->x=poison∨(σ.tmps[i]?=some x/\noLoc x=true))->∀(i:Nat) x,(nX nt caps vs tm)[i]?=some x->x=poison∨(σ.tmps[i]?=some x/\noLoc x=true)
 | [],vs,h,nt,tm,ht=>by cases h;exact ht
 |(t,sk) :: caps,vs,h,nt,tm,ht=>by
  simp only[mj]at h
  split at h
  next x vs' hx hl=>
   split at h
   ·cases h
    obtain⟨g1,g2⟩:=hR.at hx (by simp)
    refine oy hR hl nt _ λi y hy=>?_
    simp only[qa0]at hy
    split at hy
    next hi=>
     subst hi
     split at hy
     ·cases hy;exact .inr ⟨g1,S0.noLoc g2⟩
     ·cases hy
    ·exact ht i y hy
   ·cases h
  ·cases h
def kS:∀(nt:Nat) (caps:List (Nat×SK)) (vs tm:Tl),(nX nt caps vs tm).length=tm.length
 |_,[],_,_=>rfl
 |_,_ :: _,[],_=>rfl
 |nt,(t,_) :: caps,v :: vs,tm=>by simp[nX,kS nt caps vs]
def ui(hA:AlgOk A X.C Sg X.T holds abs){dr:Dr}
  (hdr:Sx.DrOk X.C dr) :
  ∀(c:AC) (ev:Env) (h:HT) (σ:St) (kn:KN R HT) (kx:Exit->KN R HT),Rp ev σ->abs h=σ.heap->holds (exec A X Sg dr c ev h kn kx)->Out X holds abs (er X c) σ kn kx:=by
 intro c
 induction c with
 |skip=>intro ev h σ kn kx hR ha hk;exact⟨.normal,σ,ev,h,.skip,hR,ha,.refl _ _ _ _,.inl ⟨rfl,hk⟩⟩
 |ret=>intro ev h σ kn kx hR ha hk;exact⟨.ret,σ,ev,h,.ret,hR,ha,.refl _ _ _ _,.inr ⟨by simp,hk⟩⟩
 |exit id=>intro ev h σ kn kx hR ha hk;exact⟨.exit id,σ,ev,h,.exit,hR,ha,.refl _ _ _ _,.inr ⟨by simp,hk⟩⟩
 |label l=>intro ev h σ kn kx hR ha hk;exact⟨.normal,σ,ev,h,.label,hR,ha,.refl _ _ _ _,.inl ⟨rfl,hk⟩⟩
 |seq a b iha ihb=>
  intro ev h σ kn kx hR ha hk
  obtain⟨e,σ₁,ev₁,h₁,q1,q2,q3,q4,q5⟩:=iha ev h σ _ _ hR ha hk
  have m1:Fr (wrT (er X (.seq a b))) (aP X.pts (er X (.seq a b))) (wrR X.pts (er X (.seq a b))) σ σ₁:=
   q4.mono (λi hi=>qaH _ hi) (λi hi=>qaH _ hi) (λi hi=>qaH _ hi)
  rcases q5 with⟨rfl,q5⟩|⟨q5,q6⟩
  ·obtain⟨e',σ',ev',h',p1,p2,p3,p4,p5⟩:=ihb ev₁ h₁ σ₁ kn kx q2 q3 q5
   exact⟨e',σ',ev',h',.seq q1 p1,p2,p3,m1.trans (p4.mono (λi hi=>qaK _ hi) (λi hi=>qaK _ hi) (λi hi=>qaK _ hi)),p5⟩
  ·exact⟨e,σ₁,ev₁,h₁,.seqX q1 q5,q2,q3,m1,.inr ⟨q5,q6⟩⟩
 |scope b ih=>
  intro ev h σ kn kx hR ha hk
  obtain⟨e,σ₁,ev₁,h₁,q1,q⟩:=ih ev h σ kn kx hR ha hk
  exact⟨e,σ₁,ev₁,h₁,.scope q1,q⟩
 |region id ops draw hs j=>
  intro ev h σ kn kx hR ha hk
  have hk':holds (match drX dr draw X.pts ops with
   |none=>A.fail
   |some ps=>sP A X.pts (.region id ops draw) j ev kn λkn=>Sx.regE A X Sg ops hs ps ev h kn):=hk
  split at hk'
  ·exact absurd hk' hA.fail
  next ps hd=>
   refine qN hA (c:=.region id ops draw) rfl rfl rfl hR (λkn hk=>?_) hk'
   unfold Sx.regE at hk
   cases hsp:Sx.splOf ps with
   |none=>
    rw[hsp]at hk
    simp only at hk
    obtain⟨σ',ev',h',p1,p2,p3,p4,p5⟩:=opsE_ok hA ops.toList 0 hs ev h σ rfl hR ha hk
    obtain⟨p5,p6⟩:=Sx.sepK_ok hA p2 p5
    have p1:bn X.C (uB X.C) X.pts ops (List.range ops.size) σ σ':=by
     rw[qce];simpa using p1
    refine⟨.normal,σ',ev',h',?_,p2,p3,p4,.inl ⟨rfl,p6⟩⟩
    cases draw with
    |false=>exact .region p1
    |true=>
     have hq:=hdr _ _ _ hd
     rw[hsp]at hq
     exact .draw (λn hn=>hq n _ _ hn p5) p1
   |some q=>
    rw[hsp]at hk
    simp only at hk
    obtain⟨σ₁,ev₁,h₁,p1,p2,p3,p4,p5⟩:=lY hA (ops.toList.take (q.2+1)) 0 hs ev h σ (by rw[qa1];exact List.take_prefix _ _) hR ha hk
    unfold Sx.reK at p5
    split at p5
    next o ho=>
     split at p5
     next d hod=>
      obtain⟨σ₂,ev₂,h₂,q1,q2,q3,_,q5⟩:=opG_ok hA p2 p3 ho p5
      simp only at q5
      split at q5
      next x y hx hy=>
       obtain⟨u,e1,e2⟩:=hA.opt _ _ q5
       have e1:=Sx.eqFn_ok e1
       subst e1
       have sm:Sx.SameAt ops q.1 σ₁ σ₂:=⟨o,d,x,ho,hod,Sx.entF_ok p2 hx,Sx.entF_ok q2 hy⟩
       obtain⟨σ',ev',h',r1,r2,r3,r4,r5⟩:=lY hA (ops.toList.drop (q.2+1)) (q.2+1) _ ev₁ h₁ σ₁ (List.prefix_refl _) p2 p3 e2
       refine⟨.normal,σ',ev',h',?_,r2,r3,?_,.inl ⟨rfl,r5⟩⟩
       ·cases draw with
        |false=>cases hd;cases hsp
        |true=>
         have hq:=hdr _ _ _ hd
         rw[hsp]at hq
         exact .drawS (λn h1 h2 h3=>hq n _ _ _ _ h1 h2 sm h3) p1 q1 r1
       ·refine(p4.mono (λi hi=>?_) (λi hi=>?_) (λi hi=>?_)).trans (r4.mono (λi hi=>?_) (λi hi=>?_) (λi hi=>?_))
        all_goals
         replace hi:=qbA.1 hi
         obtain⟨o,ho,e⟩:=hi
         exact qbA.2 ⟨o,(by first|exact qbd ho|exact qbO ho),e⟩
      ·exact absurd q5 hA.fail
     ·exact absurd p5 hA.fail
    ·exact absurd p5 hA.fail
 |cond c a b j iha ihb=>
  intro ev h σ kn kx hR ha hk
  have hk':holds (match sval ev c with
   | .st (.leaf (.l true))=>exec A X Sg dr a ev h kn kx
   | .st (.leaf (.l false))=>exec A X Sg dr b ev h kn kx
   | .st (.leaf (.b t))=>sP A X.pts (er X (.cond c a b j)) j ev kn λkn=>A.cond t (exec A X Sg dr a ev h kn kx) (exec A X Sg dr b ev h kn kx)
   |_=>A.fail):=hk
  have ga:∀ {kn},oval σ.tmps c = .bool true->holds (exec A X Sg dr a ev h kn kx)->Out X holds abs (er X (.cond c a b j)) σ kn kx:=by
   intro kn hc hk
   obtain⟨e,σ₁,ev₁,h₁,q1,q2,q3,q4,q5⟩:=iha ev h σ kn kx hR ha hk
   exact⟨e,σ₁,ev₁,h₁,.cond hc q1,q2,q3,q4.mono (λi hi=>qaH _ hi) (λi hi=>qaH _ hi) (λi hi=>qaH _ hi),q5⟩
  have gb:∀ {kn},oval σ.tmps c = .bool false->holds (exec A X Sg dr b ev h kn kx)->Out X holds abs (er X (.cond c a b j)) σ kn kx:=by
   intro kn hc hk
   obtain⟨e,σ₁,ev₁,h₁,q1,q2,q3,q4,q5⟩:=ihb ev h σ kn kx hR ha hk
   exact⟨e,σ₁,ev₁,h₁,.cond hc (show uEx X.C X.pts (if false=true then er X a else er X b) σ e σ₁ by rw[qdz (by simp)];exact q1),q2,q3,q4.mono (λi hi=>qaK _ hi) (λi hi=>qaK _ hi) (λi hi=>qaK _ hi),q5⟩
  split at hk'
  next e=>exact ga (hR.sval e (by simp)).1 hk'
  next e=>exact gb (hR.sval e (by simp)).1 hk'
  next t e=>
   have h1:=(hR.sval e (by simp)).1
   refine qN hA (c:=er X (.cond c a b j)) rfl rfl rfl hR (λkn hk=>?_) hk'
   rcases hA.cond _ _ _ hk with⟨ht,hk1⟩|⟨ht,hk1⟩
   ·exact ga (by rw[h1,ht];rfl) hk1
   ·exact gb (by rw[h1,ht];rfl) hk1
  ·exact absurd hk' hA.fail
 |block id b j ih=>
  intro ev h σ kn kx hR ha hk
  refine qN hA (c:=er X b) rfl rfl rfl hR (λkn hk=>?_) (show holds (sP A X.pts (er X b) j ev kn λkn=>exec A X Sg dr b ev h kn λe=>match sA e id with
   |true=>kn
   |false=>kx e)from hk)
  obtain⟨e,σ₁,ev₁,h₁,q1,q2,q3,q4,q5⟩:=ih ev h σ _ _ hR ha hk
  refine⟨iI id e,σ₁,ev₁,h₁,.block q1,q2,q3,q4,?_⟩
  rcases q5 with⟨rfl,q5⟩|⟨q5,q6⟩
  ·exact .inl ⟨rfl,q5⟩
  ·cases e with
   |normal=>exact absurd rfl q5
   |exit i=>
    by_cases hi:i=id
    ·subst hi
     left
     simp only[iI,if_true,true_and]
     simpa[sA]using q6
    ·right
     simp only[iI,qdz hi]
     refine⟨by simp,?_⟩
     have:Nat.beq i id=false:=by
      rw[←qbp];intro h;exact hi (qad h)
     simpa[sA,this]using q6
   |_=>exact .inr ⟨by simp[iI],by simpa[sA,iI]using q6⟩
 |loop b lv ih=>
  intro ev h σ kn kx hR ha hk
  have hk':holds (match pk ev lv with
   |none=>A.fail
   |some ls=>match lv.rows.all λp=>!(aP X.pts (er X b)).contains p.1 with
    |false=>A.fail
    |true=>A.loop (λself ls h=>reE A X.pts (er X b) .nil lv ev ls λev=>exec A X Sg dr b ev h (λev h=>match pk ev lv with
     |some ls=>self ls h
     |none=>A.fail) kx) ls h):=hk
  split at hk'
  ·exact absurd hk' hA.fail
  next ls0 hp0=>
   split at hk'
   ·exact absurd hk' hA.fail
   next hlv=>
    have hlive:∀p∈lv.rows,p.1∉aP X.pts (er X b):=by
     intro p hp
     have:=qag.1 hlv p hp
     simpa using this
    obtain⟨it,i0,i1,n,hn⟩:=hA.loop _ _ _ hk'
    have main:∀(n:Nat) (ls:TD) (h:HT) (τ:St) (evτ:Env),Rp evτ τ->Fr (wrT (er X b)) (aP X.pts (er X b)) (wrR X.pts (er X b)) σ τ->pk evτ lv=some ls->abs h=τ.heap->holds (it n ls h)->
      ∃e σ' ev' h',uEx X.C X.pts (.loop (er X b)) τ e σ'/\e≠.normal/\Rp ev' σ'/\abs h'=σ'.heap/\Fr (wrT (er X b)) (aP X.pts (er X b)) (wrR X.pts (er X b)) σ σ'/\holds (kx e ev' h'):=by
     intro n
     induction n with
     |zero=>intro ls h τ evτ _ _ _ _ hh;exact absurd hh (i0 _ _)
     |succ n ihn=>
      intro ls h τ evτ hRτ hF hp haτ hh
      rw[i1]at hh
      obtain⟨ev1,g1,g2⟩:=reE_ok hA hR hRτ hF hp (wU τ _) (.inr hlive) hh
      obtain⟨e,σ₁,ev₁,h₁,q1,q2,q3,q4,q5⟩:=ih ev1 h (τ.clear (aP X.pts (er X b))) _ _ g1 (by rw[wT];exact haτ) g2
      have hF1:Fr (wrT (er X b)) (aP X.pts (er X b)) (wrR X.pts (er X b)) σ σ₁:=(hF.trans (clear_fr (box_sub _ _))).trans q4
      rcases q5 with⟨rfl,q5⟩|⟨q5,q6⟩
      ·simp only at q5
       split at q5
       next ls1 hp1=>
        obtain⟨e',σ',ev',h',p1,p2,p3,p4,p5,p6⟩:=ihn ls1 h₁ σ₁ ev₁ q2 hF1 hp1 q3 q5
        exact⟨e',σ',ev',h',.loop q1 p1,p2,p3,p4,p5,p6⟩
       ·exact absurd q5 hA.fail
      ·exact⟨e,σ₁,ev₁,h₁,.loopX q1 q5,q5,q2,q3,hF1,q6⟩
    obtain⟨e',σ',ev',h',p1,p2,p3,p4,p5,p6⟩:=main n ls0 h σ ev hR (.refl _ _ _ _) hp0 ha hn
    exact⟨e',σ',ev',h',p1,p3,p4,p5,.inr ⟨p2,p6⟩⟩
 |rangeFunc f κ ids=>
  intro ev h σ kn kx hR ha hk
  have hk':holds (match (generalizing:=false) f,sval ev f,X.pts with
   | .tmp _,.st (.leaf (.v v)),_ :: _=>match Nat.beq ev.tm.length (X.T κ).nt,mj ev.tm (X.T κ).caps with
    |true,some vs=>A.rfun κ v vs h λpd h=>A.pend pd (kn ev h) (kx .ret ev h) (ids.map λid=>(id,kx (.exit id) ev h))
    |_,_=>A.fail
   |_,_,_=>A.fail):=hk
  clear hk
  cases f with
  |tmp t=>
   cases hpts:X.pts with
   |nil=>rw[hpts]at hk';split at hk'<;>first|exact absurd hk' hA.fail|(rename_i e;cases e)
   |cons p0 pr=>
    rw[hpts]at hk'
    split at hk'
    next t2 v hd tl e0 e e1=>
     split at hk'
     next vs hnt hcv=>
      have hnt:=qad hnt
      obtain⟨h1,g1⟩:=hR.sval e (by simp)
      have gv:aW v=true:=g1 (.v v) (by simp[S0.cells])
      obtain⟨g,first,cap,r,H1,lp,h2,r1,r2,r3,r4,r5,r6⟩:=hA.rfun _ _ _ _ _ hk'
      subst r1
      rw[ha]at r2 r3 r5
      have hsnap:uY σ.tmps (lpOf (X.T κ) κ vs).tmps:=by
       refine⟨by simp only[lpOf,kS,qcT];rw[←hnt,hR.len],oy hR hcv _ _ λi x hx=>?_⟩
       rw[qa3]at hx
       split at hx
       ·cases hx;exact .inl rfl
       ·cases hx
      have hpend:=hA.pend _ _ _ _ r6
      have hex:∀ {e:Exit},vq lp.pending=some e->uEx X.C X.pts (er X (.rangeFunc (.tmp t) κ ids)) σ e { σ with heap:=H1.set σ.heap.length (.loop { lp with state:=.exhausted }) }:=by
       intro e he
       have hne:X.pts≠[]:=by rw[hpts];simp
       refine uEx.rangeFunc (r:=r) (φ:=κ) (tm:=(lpOf (X.T κ) κ vs).tmps) hne hsnap h1 (dP.1 gv).1 ?_ r3 r4 he
       simpa[lpOf]using r2
      have hR':Rp ev { σ with heap:=H1.set σ.heap.length (.loop { lp with state:=.exhausted }) }:=hR.heap _
      rcases hpend with⟨p1,p2⟩|⟨p1,p2⟩|⟨id,x,p1,p2,p3⟩
      ·exact⟨.normal,_,ev,h2,hex (by rw[p1];rfl),hR',r5,(Fr.refl _ _ _ _).heap _,.inl ⟨rfl,p2⟩⟩
      ·exact⟨.ret,_,ev,h2,hex (by rw[p1];rfl),hR',r5,(Fr.refl _ _ _ _).heap _,.inr ⟨by simp,p2⟩⟩
      ·obtain⟨id',hid,he⟩:=qaM.1 p2
       cases he
       exact⟨.exit id,_,ev,h2,hex (by rw[p1];rfl),hR',r5,(Fr.refl _ _ _ _).heap _,.inr ⟨by simp,p3⟩⟩
     ·exact absurd hk' hA.fail
    ·exact absurd hk' hA.fail
  |_=>exact absurd hk' hA.fail
end
end Sx
namespace Sx
section
variable [Val] [Kno] {R HT:Type} {A:Alg R HT} {X:Ctxt} {Sg:Tc} {holds:R->Prop} {abs:HT->Ts}
def dj(ls:TD):Prop:=∀l∈ls,match l with
 | .v x=>aW x=true
 |_=>True
def xh{xs:List S0}(h:dj (cg xs)):∀x∈xs,x.good:=by
 intro x hx l hl
 have hm:l.lf∈cg xs:=by
  induction xs with
  |nil=>cases hx
  |cons y ys ih=>
   simp only[cg,qao,qaM]
   rcases qal.1 hx with rfl|hx
   ·exact .inl ⟨l,hl,rfl⟩
   ·exact .inr (ih (λl hl=>h l (by simp only[cg,qao];exact .inr hl)) hx)
 have:=h _ hm
 cases l<;>first|trivial|exact this
def oU:∀ {xs:List S0},(∀x∈xs,x.good)->dj (cg xs)
 | [],_,l,hl=>by cases hl
 |x :: xs,h,l,hl=>by
  simp only[cg,qao,qaM]at hl
  rcases hl with⟨c,hc,rfl⟩|hl
  ·have:=h x (by simp) c hc
   cases c<;>first|trivial|exact this
  ·exact oU (λy hy=>h y (by simp[hy])) l hl
def gr{C:Cfg}{T:Tt}(hA:AlgOk A C Sg T holds abs):∀ {cs:List SL} {K:R},holds (chkAll A cs K)->(∀c∈cs,bB c.val=true)/\holds K
 | [],K,h=>⟨by simp,h⟩
 |c :: cs,K,h=>by
  cases c with
  |v x=>
   have h':holds (A.opt (chk2 x) λ_=>chkAll A cs K):=h
   obtain⟨u,hu,h1⟩:=hA.opt _ _ h'
   obtain⟨h2,h3⟩:=gr hA h1
   refine⟨qbv.2 ⟨?_,h2⟩,h3⟩
   unfold chk2 at hu
   split at hu
   ·assumption
   ·cases hu
  |i k n=>obtain⟨h2,h3⟩:=gr (cs:=cs) (K:=K) hA h;exact⟨qbv.2 ⟨rfl,h2⟩,h3⟩
  |b t=>obtain⟨h2,h3⟩:=gr (cs:=cs) (K:=K) hA h;exact⟨qbv.2 ⟨rfl,h2⟩,h3⟩
  |l t=>obtain⟨h2,h3⟩:=gr (cs:=cs) (K:=K) hA h;exact⟨qbv.2 ⟨rfl,h2⟩,h3⟩
def chkRes_ok{C:Cfg}{T:Tt}(hA:AlgOk A C Sg T holds abs){many:Bool}{x:S0}{K:R}(hx:x.good)(h:holds (fZ A many x K)):(many=true->bj x.val=true)/\holds K:=by
 unfold fZ at h
 split at h
 next cs=>
  obtain⟨h1,h2⟩:=gr hA h
  refine⟨λ_=>?_,h2⟩
  simp only[S0.val,bj,qag,qaM]
  rintro _ ⟨c,hc,rfl⟩
  exact h1 c hc
 next hne=>
  refine⟨λhm=>?_,h⟩
  cases x with
  |agg cs=>exact absurd rfl (hne cs hm)
  |leaf l=>exact(dP.1 (SL.val_good (hx l (by simp[S0.cells])))).2.1
def resE_ok(hA:AlgOk A X.C Sg X.T holds abs){ev:Env}{σ:St}{h:HT}(hR:Rp ev σ)(ha:abs h=σ.heap){many:Bool}:∀(rvs:List ResultVar) (sks:TI) (acc:TD) (K:TD->HT->R),holds (resE A X many ev h rvs sks acc K)->
  ∃ys,ca ys sks=true/\(∀y∈ys,y.good)/\(many=true->∀y∈ys,bj y.val=true)/\ys.length=rvs.length/\cR X.C σ rvs=some (ah ys)/\holds (K (acc++cg ys) h)
 | [],sks,acc,K,hk=>by
  cases sks with
  |nil=>
   have hk':holds (K acc h):=hk
   exact⟨[],rfl,by simp,by simp,rfl,rfl,by rw[cg,qa4];exact hk'⟩
  |cons _ _=>exact absurd hk hA.fail
 |rv :: rvs,sks,acc,K,hk=>by
  cases sks with
  |nil=>exact absurd hk hA.fail
  |cons sk sks=>
   have fin:∀x:S0,x.is sk=true->x.good->eJ X.C σ rv=some x.val->holds (fZ A many x (resE A X many ev h rvs sks (acc++x.cells.map SL.lf) K))->
     ∃ys,ca ys (sk :: sks)=true/\(∀y∈ys,y.good)/\(many=true->∀y∈ys,bj y.val=true)/\ys.length=(rv :: rvs).length/\cR X.C σ (rv :: rvs)=some (ah ys)/\holds (K (acc++cg ys) h):=by
    intro x hx hg hres hk
    obtain⟨h1,h2⟩:=chkRes_ok hA hg hk
    obtain⟨ys,a1,a2,a3,a4,a5,a6⟩:=resE_ok hA hR ha rvs sks _ K h2
    refine⟨x :: ys,by simp[ca,hx,a1],qbv.2 ⟨hg,a2⟩,λhm=>qbv.2 ⟨h1 hm,a3 hm⟩,by simp[a4],?_,by simpa[cg]using a6⟩
    simp only[cR,hres,a5];rfl
   cases rv with
   |tmp t=>
    have hk':holds (match ev.tm.getD t .no with
     | .st x=>match x.is sk with
      |true=>fZ A many x (resE A X many ev h rvs sks (acc++x.cells.map SL.lf) K)
      |false=>A.fail
     |_=>A.fail):=hk
    split at hk'
    next x hx=>
     obtain⟨g1,g2⟩:=hR.at hx (by simp)
     split at hk'
     next his=>
      exact fin x his g2 (by simp[eJ,List.getD_eq_getElem?_getD,g1];rfl) hk'
     ·exact absurd hk' hA.fail
    ·exact absurd hk' hA.fail
   |cell a t=>
    have hk':holds (match (generalizing:=false) aggT X.C.P t with
     |some agg=>
      let n:=if agg then X.C.P.cellsOf t else 1
      match (generalizing:=false) ev.tm.getD a .no with
      | .lad s off=>match (rx ev s).bind (λcs=>(cutS cs off n).bind (mkS0 agg))with
       |some x=>match x.is sk with
        |true=>fZ A many x (resE A X many ev h rvs sks (acc++x.cells.map SL.lf) K)
        |false=>A.fail
       |none=>A.fail
      | .st (.leaf (.v p))=>match (generalizing:=false) agg,sk with
       |true,.agg _=>A.peek (.ld n p) h λcs=>ucS A sk cs λx r=>A.uc0 r (fZ A many x (resE A X many ev h rvs sks (acc++x.cells.map SL.lf) K))
       |false,.leaf _=>A.peek (.ld n p) h λcs=>ucS A sk cs λx r=>A.uc0 r (fZ A many x (resE A X many ev h rvs sks (acc++x.cells.map SL.lf) K))
       |_,_=>A.fail
      |_=>A.fail
     |none=>A.fail):=hk
    clear hk
    split at hk'
    next agg hag=>
     simp only at hk'
     split at hk'
     next s off hl=>
      obtain⟨g1,_⟩:=hR.at hl (by simp)
      split at hk'
      next x hx=>
       obtain⟨cs,hr,hx⟩:=qar.1 hx
       obtain⟨ds,hd,hx⟩:=qar.1 hx
       obtain⟨r1,r2,_⟩:=jA hR hr
       obtain⟨c1,c2⟩:=mz hd
       obtain⟨v,v1,v2⟩:=cQ hag c1
       obtain⟨m1,m2⟩:=nc hx
       split at hk'
       next his=>
        have hv:x.val=v:=by
         rcases m2 with⟨a1,a2⟩|⟨a1,a2⟩<;>rcases v2 with⟨b1,b2⟩|⟨b1,b2⟩
         ·rw[a2,b2]
         ·rw[a1]at b1;cases b1
         ·rw[a1]at b1;cases b1
         ·rw[a2]at b2;simpa using b2
        refine fin x his (λl hl=>?_) ?_ hk'
        ·rw[m1]at hl;exact r2 l (c2 l hl)
        ·simp only[eJ,List.getD_eq_getElem?_getD,g1,qa9,SV.val,r1,v1,hv]
       ·exact absurd hk' hA.fail
      ·exact absurd hk' hA.fail
     next p hl=>
      obtain⟨g1,_⟩:=hR.at hl (by simp)
      have common:agg=iU sk->holds (A.peek (.ld (if agg then X.C.P.cellsOf t else 1) p) h λcs=>ucS A sk cs λx r=>A.uc0 r (fZ A many x (resE A X many ev h rvs sks (acc++x.cells.map SL.lf) K)))->
        ∃ys,ca ys (sk :: sks)=true/\(∀y∈ys,y.good)/\(many=true->∀y∈ys,bj y.val=true)/\ys.length=(ResultVar.cell a t :: rvs).length/\cR X.C σ (.cell a t :: rvs)=some (ah ys)/\holds (K (acc++cg ys) h):=by
       intro hsk hk
       obtain⟨cs,h2,hk1⟩:=hA.peek _ _ _ hk
       simp only[Pk.run]at h2
       rw[ha]at h2
       obtain⟨id,off,vs,rfl,h3,h4⟩:=ldP_ok h2
       rw[sc]at h3
       obtain⟨v,h5,h6⟩:=cQ hag h4
       rw[hsk]at h6
       obtain⟨x,r,q1,q2,q3,hk2⟩:=nQ hA hk1
       obtain⟨hr,hk3⟩:=hA.uc0 _ _ hk2
       rw[hr,qa4]at q1
       rw[q1]at h6
       refine fin x q2 q3 ?_ hk3
       rw[oV q2 h6]
       simp only[eJ,List.getD_eq_getElem?_getD,g1,qa9,SV.val,S0.val,SL.val,h3,qak,h5]
      split at hk'
      ·exact common rfl hk'
      ·exact common rfl hk'
      ·exact absurd hk' hA.fail
     ·exact absurd hk' hA.fail
    ·exact absurd hk' hA.fail
structure FnIs(X:Ctxt)(Sg:Tc)(f:TM)(fn:Fn1):Prop where
 is:∃g,X.C.P.funcs[f]?=some g/\g.body=some (er X fn.code)/\((g.name == "runtime.NumGoroutine")||X.C.opq f)=false/\g.ntmps=fn.nt/\g.results.toList=fn.rvs
 pts:X.pts=X.C.pts f
 sg:Sg f=some fn.sg
def uE{ys:List S0}(hg:∀y∈ys,y.good)(hm:1<ys.length->∀y∈ys,bj y.val=true):noLoc (fq (ah ys))=true:=by
 match ys with
 | []=>rfl
 | [y]=>exact S0.noLoc (hg y (by simp))
 |a :: b :: l=>
  have h:=hm (by simp)
  have e:fq (ah (a :: b :: l)) = .tuple (ah (a :: b :: l)).toArray:=rfl
  rw[e]
  simp only[Am.noLoc,qag]
  intro v hv
  simp only[ah,qaM]at hv
  obtain⟨y,hy,rfl⟩:=hv
  exact h y hy
def kR:∀ {a:List S0} {sks:TI},ca a sks=true->a.length=sks.length
 | [],[],_=>rfl
 |x :: a,k :: sks,h=>by
  simp only[ca,qaa]at h
  simp[kR h.2]
 | [],_ :: _,h=>by cases h
 |_ :: _,[],h=>by cases h
def start_rp{xs:List S0}(hg:∀x∈xs,x.good)(nt:Nat)(H:Ts) :
  Rp ⟨xs.map .st++List.replicate (nt - xs.length) .no,List.replicate nt .nil⟩ { tmps:=ah xs++List.replicate (nt - (ah xs).length) undef,loc:=List.replicate nt none,heap:=H }:=by
 refine⟨by simp[ah],λi s hs=>?_,by simp,λi r hr=>?_⟩
 ·rw[qcX]at hs
  split at hs
  next hi=>
   simp only[qaF]at hi
   simp only[qax,qac]at hs
   obtain⟨x,hx,rfl⟩:=hs
   refine⟨?_,hg x (qab hx)⟩
   rw[qah (by simpa[ah]using hi)]
   simp[ah,hx,SV.val]
  ·rw[qa3]at hs
   split at hs
   ·cases hs;trivial
   ·cases hs
 ·simp only[qa3]at hr
  split at hr
  ·rename_i hi;cases hr
   simp[LR.ok,hi]
  ·cases hr
def qA(hA:AlgOk A X.C Sg X.T holds abs){dr:Dr}
  (hdr:Sx.DrOk X.C dr)
  {f:TM} {fn:Fn1} (hf:FnIs X Sg f fn) {ls:TD} {h:HT} {K:TD->HT->R} (hls:dj ls) (hk:holds (av A X Sg dr fn ls h K)) :
  ∃rs h',aK X.C Sg f ls (abs h) rs (abs h')/\dj rs/\holds (K rs h'):=by
 obtain⟨g,f1,f2,f3,f4,f5⟩:=hf.is
 obtain⟨xs,r,e1,e2,hk1⟩:=nR hA hk
 obtain⟨hr,hk2⟩:=hA.un0 _ _ hk1
 rw[hr,qa4]at e1
 subst e1
 have hg:=xh hls
 have hR:=start_rp hg fn.nt (abs h)
 obtain⟨e,σ',ev',h',q1,q2,q3,_,q5⟩:=ui hA hdr fn.code _ h _ _ _ hR rfl hk2
 have main:(e = .normal∨e = .ret)->holds (resE A X (Nat.blt 1 fn.rvs.length) ev' h' fn.rvs fn.sg.rs [] K)->∃rs h',aK X.C Sg f (cg xs) (abs h) rs (abs h')/\dj rs/\holds (K rs h'):=by
  intro he hk
  obtain⟨ys,a1,a2,a3,a4,a5,a6⟩:=resE_ok hA q2 q3 fn.rvs fn.sg.rs [] K hk
  rw[qaS]at a6
  refine⟨cg ys,h',⟨fn.sg,xs,ys,hf.sg,⟨e2,rfl,hg⟩,⟨a1,rfl,a2⟩,?_⟩,oU a2,a6⟩
  rw[q3]
  refine ip.intro f1 f2 f3 ?_ he (by rw[f5];exact a5) (uE a2 λhl=>a3 (by rw[qbc];omega))
  rw[hf.pts]at q1
  simpa[kU,f4]using q1
 rcases q5 with⟨rfl,q5⟩|⟨q5,q6⟩
 ·exact main (.inl rfl) q5
 ·cases e with
  |ret=>exact main (.inr rfl) q6
  |_=>exact absurd q6 hA.fail
def mi:∀(caps:List (Nat×SK)) (xs:List S0) (tm:List SV) (tmps:Tl),tm.length=tmps.length->(∀x∈xs,x.good)->(∀(i:Nat) s,tm[i]?=some s->s.ok tmps i)->
  (eR 0 caps xs tm).length=tm.length/\∀(i:Nat) s,(eR 0 caps xs tm)[i]?=some s->s.ok (cJ (caps.map (·.1)) (ah xs) tmps) i
 | [],xs,tm,tmps,_,_,h=>⟨by simp[eR],by simpa[eR,cJ]using h⟩
 |(t,sk) :: caps,[],tm,tmps,_,_,h=>⟨by simp[eR],by simpa[eR,cJ,ah]using h⟩
 |(t,sk) :: caps,x :: xs,tm,tmps,hl,hg,h=>by
  have:=mi caps xs (tm.set t (.st x)) (tmps.set t x.val) (by simp[hl]) (λy hy=>hg y (by simp[hy])) (λi s hs=>?_)
  ·simpa[eR,cJ,ah]using this
  ·simp only[qa0]at hs
   split at hs
   next hi=>
    subst hi
    split at hs
    next hlt=>
     cases hs
     exact⟨by rw[qaJ (by omega)];rfl,hg x (by simp)⟩
    ·cases hs
   next hi=>
    have:=h i s hs
    cases s<;>first|trivial|exact⟨by rw[qaA hi];exact this.1,this.2⟩
def gm(nt nt':Nat):∀(caps:List (Nat×SK)) (xs:List S0) (tm:List SV),eR nt caps xs tm=eR nt' caps xs tm
 | [],_,_=>rfl
 |_ :: _,[],_=>rfl
 |(t,_) :: caps,x :: xs,tm=>gm nt nt' caps xs _
def kT(nt:Nat):∀(caps:List (Nat×SK)) (vs tm:Tl),nX nt caps vs tm=cJ (caps.map (·.1)) vs tm
 | [],_,_=>by simp[nX,cJ]
 |_ :: _,[],_=>by simp[nX,cJ]
 |(t,_) :: caps,v :: vs,tm=>by simp only[nX,qau,cJ];exact kT nt caps vs _
def oY{T T':Nat->Tmp->Code}:∀ {c:AC},noRF c=true->c.erase T=c.erase T':=by
 intro c
 induction c with
 |seq a b iha ihb=>intro h;simp only[noRF,qaa]at h;simp only[AC.erase,iha h.1,ihb h.2]
 |scope b ih=>intro h;simp only[AC.erase,ih h]
 |cond c a b j iha ihb=>intro h;simp only[noRF,qaa]at h;simp only[AC.erase,iha h.1,ihb h.2]
 |block id b j ih=>intro h;simp only[AC.erase,ih h]
 |loop b lv ih=>intro h;simp only[AC.erase,ih h]
 |rangeFunc f κ ids=>intro h;cases h
 |_=>intro _;rfl
def sR:∀ {caps:List (Nat×SK)} {xs:List S0},qP caps=true->ca xs (caps.map (·.2))=true->lK xs=ah xs
 | [],[],_,_=>rfl
 |p :: caps,x :: xs,h1,h2=>by
  simp only[qP,qbU,qaa]at h1
  simp only[qau,ca,qaa]at h2
  have ih:=sR (caps:=caps) h1.2 h2.2
  obtain⟨t,sk⟩:=p
  cases sk with
  |agg ks=>cases h1.1
  |leaf k=>
   cases x with
   |agg _=>cases h2.1
   |leaf l=>
    simp only[lK,qbI,ah,qau]at ih ⊢
    rw[ih];rfl
 | [],_ :: _,_,h=>by cases h
 |_ :: _,[],_,h=>by cases h
def execY_ok(hA:AlgOk A X.C Sg X.T holds abs){dr:Dr}
  (hdr:Sx.DrOk X.C dr)
  {st:Site} {vs:Tl} {l:Nat} {ls:TD} {h:HT} {K:TD->HT->R} {lp:ALoop} {ys:List S0} (h1:ed (abs h) l=some lp) (h2:lp.tmps=nX st.nt st.caps vs (List.replicate st.nt poison))
  (h3:lp.params=st.params.map (·.1)) (h4:lp.assign=st.assign.erase oZ) (h5:lp.body=st.body.erase oZ) (hy:Told (st.params.map (·.2)) ls ys)
  (hk:holds (xa A X Sg dr st vs l ls h K)):∃b h',jH X.C l (ah ys) (abs h) (.bool b) (abs h')/\holds (K [.b b] h'):=by
 unfold xa at hk
 split at hk
 ·exact absurd hk hA.fail
 next hc=>
  simp only[qaa]at hc
  obtain⟨⟨c1,c2⟩,c3⟩:=hc
  obtain⟨xs,r,e1,e2,e3,hk1⟩:=ucSs_ok hA hk
  obtain⟨hr,hk2⟩:=hA.uc0 _ _ hk1
  rw[hr,qa4,sR c1 e2]at e1
  subst e1
  obtain⟨zs,r',d1,d2,hk3⟩:=nR hA hk2
  obtain⟨hr',hk4⟩:=hA.un0 _ _ hk3
  rw[hr',qa4]at d1
  obtain⟨y1,y2,y3⟩:=hy
  obtain⟨w1,w2⟩:=cH y1 d2 (y2.trans d1)
  have hzg:=w2 y3
  let X':Ctxt:={ X with pts:=[] }
  let σ₀:St:={ tmps:=cJ lp.params (ah ys) lp.tmps,loc:=[],heap:=abs h }
  have hR:Rp ⟨eR st.nt st.params zs (eR st.nt st.caps xs (List.replicate st.nt .no)),[]⟩ σ₀:=by
   have a1:=mi st.caps xs (List.replicate st.nt .no) (List.replicate st.nt poison) (by simp) e3 (λi s hs=>by
    rw[qa3]at hs;split at hs
    ·cases hs;trivial
    ·cases hs)
   have plen:∀(ts:List Tmp) (vs tm:Tl),(cJ ts vs tm).length=tm.length:=by
    intro ts
    induction ts with
    |nil=>intro vs tm;simp[cJ]
    |cons t ts ih=>intro vs tm;cases vs with
     |nil=>simp[cJ]
     |cons v vs=>simp[cJ,ih]
   have a2:=mi st.params zs _ _ (by rw[a1.1,plen];simp) hzg a1.2
   have etm:σ₀.tmps=cJ (st.params.map (·.1)) (ah zs) (cJ (st.caps.map (·.1)) (ah xs) (List.replicate st.nt poison)):=by
    show cJ lp.params (ah ys) lp.tmps=_
    rw[h3,h2,kT,w1]
   refine⟨?_,λi s hs=>?_,rfl,λi r hr=>by simp at hr⟩
   ·rw[etm,plen,plen,gm st.nt 0,gm st.nt 0,a2.1,a1.1];simp
   ·rw[gm st.nt 0,gm st.nt 0]at hs
    rw[etm]
    exact a2.2 i s hs
  obtain⟨e,σ₁,ev₁,h₁,q1,q2,q3,_,q5⟩:=ui (X:=X') hA hdr st.assign _ h σ₀ _ _ hR rfl hk4
  rcases q5 with⟨rfl,q5⟩|⟨_,q5⟩
  ·obtain⟨lp₁,h₂,p1,p2,p3,q6⟩:=hA.lp1 _ _ _ q5
   rw[q3]at p1 p3
   obtain⟨e,σ₂,ev₂,h₃,s1,s2,s3,_,s5⟩:=ui (X:=X') hA hdr st.body ev₁ h₂ { σ₁ with heap:=σ₁.heap.set l (.loop { lp₁ with state:=.busy }) } _ _ (q2.heap _) p3 q6
   have u1:uEx X.C [] lp.assign { tmps:=cJ lp.params (ah ys) lp.tmps,loc:=[],heap:=abs h } .normal σ₁:=by
    rw[h4,oY (T':=λκ t=>eY (X.T κ) t) c2];exact q1
   have u2:uEx X.C [] lp.body { σ₁ with heap:=σ₁.heap.set l (.loop { lp₁ with state:=.busy }) } e σ₂:=by
    rw[h5,oY (T':=λκ t=>eY (X.T κ) t) c3];exact s1
   have hlen:(ah ys).length=lp.params.length:=by
    rw[h3]
    have:=kR y1
    simpa[ah]using this
   have fin:∀(j:Tk) (b:Bool),jumpOf e=some j->b=j.isNone->holds (A.lp2 l j h₃ λh=>K [.b b] h)->∃b h',jH X.C l (ah ys) (abs h) (.bool b) (abs h')/\holds (K [.b b] h'):=by
    intro j b hj hb hk
    obtain⟨lp₂,h₄,z1,z2,z3⟩:=hA.lp2 _ _ _ _ hk
    rw[s3]at z1 z2
    refine⟨b,h₄,?_,z3⟩
    rw[z2,hb]
    exact jH.intro h1 hlen u1 p1 p2 u2 hj z1
   rcases s5 with⟨rfl,s5⟩|⟨s5,s6⟩
   ·exact fin none true rfl rfl s5
   ·cases e with
    |ret=>exact fin (some .ret) false rfl rfl s6
    |exit id=>exact fin (some (.exit id)) false rfl rfl s6
    |_=>exact absurd s6 hA.fail
  ·exact absurd q5 hA.fail
end
end Sx
namespace Sx
section
variable {P:TE}
def ba_refl(a:ByteArray):(a==a)=true:=by
 cases a with|mk d=>show(d==d)=true;simp
def ba_eq{a b:ByteArray}(h:(a==b)=true):a=b:=by
 cases a with|mk d=>cases b with|mk e=>have h:(d==e)=true:=h;simp at h;rw[h]
def tH{d:TypeDesc}{k x:Value}{b:Bool}(h:Instr.sameNow d k x=some b):Instr.sameNow d k k=some true:=by
 unfold Instr.sameNow at h
 split at h
 ·simp[Instr.sameNow]
 ·simp[Instr.sameNow,ba_refl]
 ·simp[Instr.sameNow]
 ·cases h
def pc{d:TypeDesc}{k:Value}:∀(l l':Th) (i:Nat),Instr.findNow d k l i=some none->Instr.findNow d k (l++l') i=Instr.findNow d k l' (i+l.length)
 | [],l',i,h=>rfl
 |e :: l,l',i,h=>by
  unfold Instr.findNow at h
  split at h
  ·cases h
  next e1=>
   show(match Instr.sameNow d k e.key with|some true=>some (some (i,e.val))|some false=>Instr.findNow d k (l++l') (i+1)|none=>none)=_
   rw[e1]
   simp only
   rw[pc l l' (i+1) h,qaG]
   congr 1;omega
  ·cases h
def vL{d:TypeDesc}{k:Value}:∀(l l':Th) (i:Nat),Instr.findNow d k l i=none->Instr.findNow d k (l++l') i=none
 | [],l',i,h=>by cases h
 |e :: l,l',i,h=>by
  unfold Instr.findNow at h
  show(match Instr.sameNow d k e.key with|some true=>some (some (i,e.val))|some false=>Instr.findNow d k (l++l') (i+1)|none=>none)=none
  split at h
  ·cases h
  next e1=>rw[e1];exact vL l l' (i+1) h
  next e1=>rw[e1]
def ox{kt:TK}{k:Value}:∀(l l':Th) (i:Nat),pev P (Instr.findAsking kt k l i)=some none->pev P (Instr.findAsking kt k (l++l') i)=pev P (Instr.findAsking kt k l' (i+l.length))
 | [],l',i,h=>rfl
 |e :: l,l',i,h=>by
  unfold Instr.findAsking at h
  rw[aO]at h
  show pev P (Op.equal kt k e.key >>= λb=>if b then pure (some (i,e.val))else Instr.findAsking kt k (l++l') (i+1))=_
  rw[aO]
  cases hq:pev P (Op.equal kt k e.key)with
  |none=>rw[hq]at h;cases h
  |some b=>
   rw[hq]at h
   simp only[qak]at h ⊢
   cases b with
   |true=>cases h
   |false=>
    simp only[qam,if_false]at h ⊢
    rw[ox l l' (i+1) h,qaG]
    congr 2;omega
def ask_one{kt:TK}{k v:Value}{b i:Nat}(h:pev P (Op.equal kt k k)=some true):pev P (Instr.findAsking kt k [⟨k,v,b⟩] i)=some (some (i,v)):=by
 show pev P (Op.equal kt k k >>= λb=>if b then pure (some (i,v))else Instr.findAsking kt k [] (i+1))=_
 rw[aO,h]
 rfl
def xe{kt:TK}{k:Value}{es:Th}{e:MapEntry}(he:e.key=k)(hs:pev P (Op.equal kt k k)=some true)(h:jg P kt k es=some none):jg P kt k (es++[e])=some (some es.length):=by
 unfold jg at h ⊢
 obtain⟨r,h1,h2⟩:=qac.1 h
 have hr:r=none:=by cases r with|none=>rfl|some p=>cases h2
 subst hr
 unfold Instr.findKey at h1 ⊢
 rw[aO]at h1 ⊢
 cases hd:pev P (underlying kt)with
 |none=>rw[hd]at h1;cases h1
 |some d=>
  rw[hd]at h1
  simp only[qak]at h1 ⊢
  rw[qbL]
  have hb:[e].map bh=[⟨k,undef,0⟩]:=by simp[bh,he]
  rw[hb]
  cases hn:Instr.findNow d k (es.map bh) 0 with
  |some r=>
   rw[hn]at h1
   simp only[fi,qas]at h1
   subst h1
   rw[pc _ _ _ hn,qaL,qaF]
   cases hq:Instr.sameNow d k k with
   |some b=>
    have:=tH hq
    have e1:Instr.findNow d k [⟨k,undef,0⟩] es.length=some (some (es.length,undef)):=by
     unfold Instr.findNow
     rw[this]
    rw[e1]
    rfl
   |none=>
    have e1:Instr.findNow d k [⟨k,undef,0⟩] es.length=none:=by
     unfold Instr.findNow
     rw[hq]
    rw[e1]
    simp only
    cases es with
    |nil=>rw[qbs,qaS,ask_one hs];rfl
    |cons a l=>
     exfalso
     simp only[qau]at hn
     unfold Instr.findNow at hn
     split at hn
     ·cases hn
     next e2=>
      rw[tH e2]at hq
      cases hq
     ·cases hn
  |none=>
   rw[hn]at h1
   simp only at h1
   rw[vL _ _ _ hn]
   simp only
   rw[ox _ _ _ h1,qaL,qaF,ask_one hs]
   rfl
def mf{x y:Value}{n:Nat}(hy:scalar y=true)(h:Instr.sameBits n x y=true):x=y:=by
 cases y<;>simp only[scalar,qam]at hy<;>cases x<;>cases n<;>first|(simp_all [Instr.sameBits];done)|(rw[ba_eq (show _=true from h)])
def rY{n:Nat}:∀ {l m:Tl},l.length=m.length->m.all scalar=true->((l.zip m).all λp=>Instr.sameBits n p.1 p.2)=true->l=m
 | [],[],_,_,_=>rfl
 |a :: l,b :: m,hl,hm,h=>by
  simp only[qbU,qaa]at hm
  simp only[qcH,qbU,qaa]at h
  rw[mf hm.1 h.1,rY (by simpa using hl) hm.2 h.2]
 | [],_ :: _,hl,_,_=>by cases hl
 |_ :: _,[],hl,_,_=>by cases hl
def bits_flat{x y:Value}(hy:eM y=true)(h:Instr.sameBits 10000 x y=true):x=y:=by
 cases y with
 |agg b=>
  cases x with
  |agg a=>
   have h:(a.size==b.size&&(a.toList.zip b.toList).all λ(x,y)=>Instr.sameBits 9999 x y)=true:=h
   simp only[qaa,beq_iff_eq]at h
   congr 1
   exact qa6.1 (rY (n:=9999) (by simpa using h.1) hy h.2)
  |_=>cases h
 |_=>exact mf hy h
def ng{α:Type}{f:α->α}:∀(l:List α) (i:Nat) (a:α),l[i]?=some a->f a=a->l.modify i f=l
 | [],i,a,h,_=>by cases h
 |x :: l,0,a,h,hf=>by
  simp only[qaR,qas]at h
  subst h
  simp[List.modify,hf]
 |x :: l,i+1,a,h,hf=>by
  simp only[qbf]at h
  have:=ng l i a h hf
  simp[List.modify_succ_cons,this]
def set_same{α:Type}:∀(l:List α) (i:Nat) (a:α),l[i]?=some a->l.set i a=l
 | [],i,a,h=>by cases h
 |x :: l,0,a,h=>by simp at h;simp[h]
 |x :: l,i+1,a,h=>by simp[set_same l i a (by simpa using h)]
def sY{C:Cfg}{t:TK}{m k v r:Value}{H H':Ts}(h:cr C t m k H=some (H',r))(hl:cE C t m k false H=some v):cE C t m k false H'=some v:=by
 unfold cr at h
 split at h
 next kt et id hu=>
  split at h
  ·cases h
  next hko=>
   have hko:eN C.P kt k=true:=by simpa using hko
   have hko':=hko
   simp only[eN,qaa]at hko'
   have hs:pev C.P (Op.equal kt k k)=some true:=by
    have:=hko'.2
    cases hq:pev C.P (Op.equal kt k k)with
    |none=>rw[hq]at this;cases this
    |some b=>rw[hq]at this;simp at this;rw[this]
   split at h
   ·cases h
   next es c hm=>
    have hid:H[id]?=some (.map es c):=by
     unfold hmap at hm
     split at hm
     next e=>cases hm;exact e
     ·cases hm
    have hlt:id<H.length:=by
     rcases qaO id H.length with h|h
     ·exact h
     ·rw[qaj h]at hid;cases hid
    split at h
    ·cases h
    next hf=>
     split at h
     ·cases h
     next z hz=>
      cases h
      unfold cE at hl ⊢
      rw[hu]at hl ⊢
      simp only[hko,qaE,qam,if_false,hz,hm,hf]at hl ⊢
      have hm':hmap (H.set id (.map (es++[{ key:=k,val:=z,born:=c }]) (c+1))) id=some (es++[{ key:=k,val:=z,born:=c }],c+1):=by
       unfold hmap
       rw[qaJ hlt]
      rw[hm']
      simp only
      rw[xe (e:={ key:=k,val:=z,born:=c }) rfl hs hf]
      simp only[dW,qaq (qaf _),qbC,qaR,qaz]
      exact hl
    next i hf=>
     split at h
     ·cases h
     next e he=>
      split at h
      next hb=>
       cases h
       have hk:e.key=k:=bits_flat hko'.1.1.1 hb
       have:es.modify i (λe=>{ e with key:=k })=es:=ng es i e he (by rw[←hk])
       rw[this,set_same H id _ hid]
       exact hl
      ·cases h
 ·cases h
end
end Sx
namespace Sx
inductive MC where
 |no
 |row (s:Nat) (w:Bool)
 |hr
 |hw
 |neu (f:TM)
abbrev _root_.Tb:=FuncId->Option Nat
def az(N:Tb)(pts:TA)(o:Oper):Option MC:=
 match o.op with
 | .move _ | .assign _ | .pick _ _ _ | .build _ _ | .nilCheck _ | .unOp _ _ _ | .convert _ _ _ | .fieldAddr _ _ _ | .field _ _ _ | .indexAddr _ _ _ | .index _ _ _ | .extract _ _=>some .no
 | .binOp _ _ _ _ _=>some .no
 | .makeFunc _ _ _=>some .no
 | .load _ a=>match lz pts a with
  |0=>some .hr
  |1=>some .no
  |s+2=>some (.row s false)
 | .store _ a _=>match lz pts a with
  |0=>some .hw
  |1=>none
  |s+2=>some (.row s true)
 | .alloc _ | .box _ _=>match o.dst with
  |some d=>if pts.getD d 0=d+2 then some (.row d true)else some .hw
  |none=>none
 | .buildSlice _ _ _ | .makeMap _ _ | .makeSlice _ _ _ | .mapUpdate _ _ _ _ | .mapEntry _ _ _ | .entryStore _ _ _ _ | .insert _ _ _ _=>some .hw
 | .lookup _ _ _ _ | .slice _ _ _ _ _=>some .hr
 | .call c=>match c.callee with
  | .builtin b=>match b with
   | .append | .copy | .delete | .clear=>some .hw
   | .len=>some .hr
   | .cap | .min | .max=>some .no
   |_=>none
  | .value f=>match f with
   | .func g=>some (if N g=some (2*c.args.size)then .neu g else if N g=some (2*c.args.size+1)then .hr else .hw)
   |_=>some .hw
  |_=>none
 |_=>none
def bz(ops:Tm)(o:Oper):TA:=
 (o.op.operands.toList.filterMap λx=>match x with
  | .tmp t=>some t
  |_=>none) ++
 match o.guard with
 |some (j,_)=>((ops[j]?).bind (·.dst)).toList
 |none=>[]
section
variable [Val]
def execOp_congr{ρ ρ':Tf}{o:Oper}(N:Tb)(pts:TA)(hm:az N pts o≠none)(h:∀x∈o.op.operands.toList,ρ x=ρ' x):execOp ρ o=execOp ρ' o:=by
 obtain⟨dst,op,ty,pos,after,guard⟩:=o
 have arr:∀ {xs:Array Operand},(∀x∈xs.toList,ρ x=ρ' x)->xs.map ρ=xs.map ρ':=by
  intro xs hx
  apply qa6.1
  rw[qbw,qbw]
  exact qbD hx
 have prt:∀ {xs:Array (Nat×Operand)},(∀x∈xs.toList.map (·.2),ρ x=ρ' x)->(xs.map λ(i,x)=>(i,ρ x))=(xs.map λ(i,x)=>(i,ρ' x)):=by
  intro xs hx
  apply qa6.1
  rw[qbw,qbw]
  refine qbD λp hp=>?_
  show(p.1,ρ p.2)=(p.1,ρ' p.2)
  rw[hx p.2 (qaM.2 ⟨p,hp,rfl⟩)]
 have opt:∀ {r:Tg},(∀x∈r.toArray.toList,ρ x=ρ' x)->r.map ρ=r.map ρ':=by
  intro r hx
  cases r with
  |none=>rfl
  |some y=>simp[hx y (by simp)]
 cases op<;>simp only[az,ne_eq,not_true_eq_false,not_false_eq_true,reduceCtorEq]at hm<;>simp only[Op.operands]at h
 case move x=>simp only[execOp,h x (by simp)]
 case assign x=>simp only[execOp,h x (by simp)]
 case pick c a b=>simp only[execOp,h c (by simp),h a (by simp),h b (by simp)]
 case alloc t=>rfl
 case box t x=>simp only[execOp,h x (by simp)]
 case build t ps=>simp only[execOp,prt (by simpa using h)]
 case buildSlice t n ps=>simp only[execOp,prt (by simpa using h)]
 case load t a=>simp only[execOp,h a (by simp)]
 case store t a x=>simp only[execOp,h a (by simp),h x (by simp)]
 case nilCheck x=>simp only[execOp,h x (by simp)]
 case binOp op t x y yt=>simp only[execOp,h x (by simp),h y (by simp)]
 case unOp op t x=>simp only[execOp,h x (by simp)]
 case convert s d x=>simp only[execOp,h x (by simp)]
 case makeFunc fn a b=>simp only[execOp,arr (λx hx=>h x (by simp;exact .inl (by simpa using hx))),arr (λx hx=>h x (by simp;exact .inr (by simpa using hx)))]
 case makeMap t r=>simp only[execOp,opt h]
 case makeSlice t a b=>simp only[execOp,h a (by simp),h b (by simp)]
 case slice t x a b c=>
  simp only[qbP,qao]at h
  simp only[execOp,h x (by simp),opt (λy hy=>h y (.inl (.inl (.inr hy)))),opt (λy hy=>h y (.inl (.inr hy))),opt (λy hy=>h y (.inr hy))]
 case fieldAddr t x f=>simp only[execOp,h x (by simp)]
 case field t x f=>simp only[execOp,h x (by simp)]
 case indexAddr t x i=>simp only[execOp,h x (by simp),h i (by simp)]
 case index t x i=>simp only[execOp,h x (by simp),h i (by simp)]
 case lookup t x i ok=>simp only[execOp,h x (by simp),h i (by simp)]
 case mapUpdate t m k v=>simp only[execOp,h m (by simp),h k (by simp),h v (by simp)]
 case insert t m k v=>simp only[execOp,h m (by simp),h k (by simp),h v (by simp)]
 case mapEntry t m k=>simp only[execOp,h m (by simp),h k (by simp)]
 case entryStore t m s v=>simp only[execOp,h m (by simp),h s (by simp),h v (by simp)]
 case extract t i=>simp only[execOp,h t (by simp)]
 case call c=>
  have hres:resolve ρ c ty=resolve ρ' c ty:=by
   unfold resolve
   simp only[Call.operands,qbP,qao]at h
   rw[arr (λx hx=>h x (.inr hx))]
   cases hc:c.callee with
   |builtin b=>rfl
   |value f=>simp only[hc]at h ⊢;rw[h f (.inl (by simp))]
   |invoke r m=>simp only[hc]at h ⊢;rw[h r (.inl (by simp))]
  simp only[execOp,hres]
def iH{C:Cfg}{ρ ρ':Tf}{o:Oper}(N:Tb)(pts:TA)(hm:az N pts o≠none)(h:∀x∈o.op.operands.toList,ρ x=ρ' x):aj C pts ρ o=aj C pts ρ' o:=by
 have hx:=execOp_congr N pts hm h
 have hall:∀(f:Value->Bool),(o.op.operands.toList.all λx=>f (ρ x))=(o.op.operands.toList.all λx=>f (ρ' x)):=by
  intro f
  rw[qbJ,qag,qag]
  exact⟨λg x hx=>by rw[←h x hx];exact g x hx,λg x hx=>by rw[h x hx];exact g x hx⟩
 have hp:cz C ρ o=cz C ρ' o:=by
  unfold cz
  rw[hall flat,hx]
 have opt:∀ {r:Tg},(∀x∈r.toArray.toList,ρ x=ρ' x)->r.map ρ=r.map ρ':=by
  intro r hx
  cases r with
  |none=>rfl
  |some y=>simp[hx y (by simp)]
 have prt:∀ {xs:Array (Nat×Operand)},(∀x∈xs.toList.map (·.2),ρ x=ρ' x)->(xs.toList.map λp=>(p.1,ρ p.2))=(xs.toList.map λp=>(p.1,ρ' p.2)):=by
  intro xs hx
  refine qbD λp hp=>?_
  rw[hx p.2 (qaM.2 ⟨p,hp,rfl⟩)]
 have pal:∀(f:Value->Bool) {xs:Array (Nat×Operand)},(∀x∈xs.toList.map (·.2),ρ x=ρ' x)->(xs.toList.all λp=>f (ρ p.2))=(xs.toList.all λp=>f (ρ' p.2)):=by
  intro f xs hx
  rw[qbJ,qag,qag]
  have hh:∀p∈xs.toList,ρ p.2=ρ' p.2:=λp hp=>hx p.2 (qaM.2 ⟨p,hp,rfl⟩)
  exact⟨λg p hp=>by rw[←hh p hp];exact g p hp,λg p hp=>by rw[hh p hp];exact g p hp⟩
 obtain⟨dst,op,ty,pos,after,guard⟩:=o
 cases op<;>simp only[az,ne_eq,not_true_eq_false,not_false_eq_true,reduceCtorEq]at hm<;>simp only[Op.operands]at h
 case move x=>simp only[aj,h x (by simp)]
 case assign x=>simp only[aj,h x (by simp)]
 case pick c a b=>simp only[aj,h c (by simp),h a (by simp),h b (by simp)]
 case alloc t=>rfl
 case box t x=>simp only[aj,h x (by simp)]
 case build t ps=>simp only[aj,prt (by simpa using h),pal (λv=>!aJ v) (by simpa using h)]
 case buildSlice t n ps=>simp only[aj,prt (by simpa using h),pal (λv=>v.cells.toList.all aX) (by simpa using h)]
 case load t a=>simp only[aj,h a (by simp)]
 case store t a x=>simp only[aj,h a (by simp),h x (by simp)]
 case nilCheck x=>simp only[aj,h x (by simp)]
 case binOp op t x y yt=>simp only[aj,h x (by simp),h y (by simp),hp]
 case unOp op t x=>simp only[aj,hp]
 case convert s d x=>simp only[aj,hp]
 case makeFunc fn a b=>
  have e1:a.map ρ=a.map ρ':=qa6.1 (by rw[qbw,qbw];exact qbD λx hx=>h x (by simp;exact .inl (by simpa using hx)))
  have e2:b.map ρ=b.map ρ':=qa6.1 (by rw[qbw,qbw];exact qbD λx hx=>h x (by simp;exact .inr (by simpa using hx)))
  simp only[aj,e1,e2]
 case makeMap t r=>simp only[aj,opt h]
 case makeSlice t a b=>simp only[aj,h a (by simp),h b (by simp)]
 case slice t x a b c=>
  simp only[qbP,qao]at h
  simp only[aj,h x (by simp),opt (λy hy=>h y (.inl (.inl (.inr hy)))),opt (λy hy=>h y (.inl (.inr hy))),opt (λy hy=>h y (.inr hy)),hp]
 case fieldAddr t x f=>simp only[aj,h x (by simp)]
 case field t x f=>simp only[aj,h x (by simp)]
 case indexAddr t x i=>simp only[aj,h x (by simp),h i (by simp)]
 case index t x i=>simp only[aj,h x (by simp),h i (by simp)]
 case lookup t x i ok=>simp only[aj,h x (by simp),h i (by simp)]
 case mapUpdate t m k v=>simp only[aj,h m (by simp),h k (by simp),h v (by simp)]
 case insert t m k v=>simp only[aj,h m (by simp),h k (by simp),h v (by simp)]
 case mapEntry t m k=>simp only[aj,h m (by simp),h k (by simp)]
 case entryStore t m s v=>simp only[aj,h m (by simp),h s (by simp),h v (by simp)]
 case extract t i=>simp only[aj,h t (by simp)]
 case call c=>
  simp only[Call.operands,qbP,qao]at h
  have e1:c.args.toList.map ρ=c.args.toList.map ρ':=qbD λx hx=>h x (.inr hx)
  have e2:∀b,ba C ρ b (c.args.toList.map ρ) c.argTypes ⟨dst,.call c,ty,pos,after,guard⟩=ba C ρ' b (c.args.toList.map ρ') c.argTypes ⟨dst,.call c,ty,pos,after,guard⟩:=by
   intro b
   unfold ba
   rw[e1,hp]
  simp only[aj,fF]
  cases hc:c.callee with
  |builtin b=>exact e2 b
  |value f=>simp only[hc]at h ⊢;rw[e1,h f (.inl (by simp))]
  |invoke r m=>rfl
structure Ef where
 v:Value
 rw:Option (Nat×Option (Tl))
 hp:Option (Ts)
def Ef.on(e:Ef)(dst:Tn)(σ:St):St:=
 ({ tmps:=σ.tmps,loc:=(match e.rw with|some p=>σ.loc.set p.1 p.2|none=>σ.loc),heap:=e.hp.getD σ.heap }:St).put dst e.v
def Sees(N:Tb)(pts:TA)(ops:Tm)(o:Oper)(σ τ:St):Prop:=
 (∀t∈bz ops o,τ.tmps[t]?=σ.tmps[t]?)/\match az N pts o with
 |some (.row s _)=>τ.loc[s]?=σ.loc[s]?
 |some .hr=>τ.heap=σ.heap
 |some .hw=>τ.heap=σ.heap
 |_=>True
def NeuB(N:Tb)(B:Below):Prop:=(∀f args H r H',N f=some (2*args.length)->B.call f args H r H'->H'=H/\∀H2,B.call f args H2 r H2)/\
 ∀f args H r H',N f=some (2*args.length+1)->B.call f args H r H'->H'=H
def tS(m:Option MC)(e:Ef):Prop:=
 (∀p,e.rw=some p->m=some (.row p.1 true))/\(e.hp≠none->m=some .hw)
def kB{σ τ:St}{x:TF}(h:∀t,x = .tmp t->τ.tmps[t]?=σ.tmps[t]?):oval τ.tmps x=oval σ.tmps x:=by
 cases x with
 |tmp t=>simp[oval,List.getD_eq_getElem?_getD,h t rfl]
 |_=>rfl
def wn{N:Tb}{pts:TA}{ops:Tm}{o:Oper}{σ τ:St}(h:Sees N pts ops o σ τ):∀x∈o.op.operands.toList,oval τ.tmps x=oval σ.tmps x:=by
 intro x hx
 refine kB λt ht=>h.1 t ?_
 subst ht
 simp only[bz,qao,qbA]
 exact .inl ⟨.tmp t,hx,rfl⟩
def lw{N:Tb}{pts:TA}{ops:Tm}{o:Oper}{σ τ:St}(h:Sees N pts ops o σ τ):cj ops τ.tmps o=cj ops σ.tmps o:=by
 unfold cj
 split
 ·rfl
 next j want hg=>
  cases hd:(ops[j]?).bind (·.dst)with
  |none=>rfl
  |some d=>
   simp only[qak]
   rw[h.1 d (by simp[bz,hg,hd])]
def Fits(N:Tb)(m:Option MC):Eff->Prop
 | .val _=>True
 | .lnew s _=>m=some (.row s true)
 | .lget s _=>m=some (.row s false)
 | .lset s _=>m=some (.row s true)
 | .hget _=>m=some .hr
 | .hop _=>m=some .hw
 | .call f args=>(m=some (.neu f)/\N f=some (2*args.length))∨(m=some .hr/\N f=some (2*args.length+1))∨m=some .hw
 | .yield _ _=>m=some .hw
def ea{N:Tb}{m:Option MC}{x:Ti}{e:Eff}(h:x.map Eff.val=some e):Fits N m e:=by
 obtain⟨v,_,rfl⟩:=qac.1 h
 trivial
def dN{C:Cfg}{ρ:Tf}{o:Oper}{N:Tb}{m:Option MC}{e:Eff}(h:cz C ρ o=some e):Fits N m e:=by
 unfold cz at h
 split at h
 ·split at h
  ·split at h
   ·cases h;trivial
   ·cases h
  ·cases h
 ·cases h
def fits_or{N:Tb}{m:Option MC}{a:Ti}{b:Option Eff}{e:Eff}(hb:b=some e->Fits N m e)(h:nm a b=some e):Fits N m e:=by
 unfold nm at h
 split at h
 ·cases h;trivial
 ·exact hb h
def mO{C:Cfg}{N:Tb}{pts:TA}{o:Oper}{t:TK}{v:Value}{e:Eff}(ho:(∃y,o.op = .box t y)∨o.op = .alloc t)(h:cw C pts o.dst t v=some e):Fits N (az N pts o) e:=by
 unfold cw at h
 split at h
 ·cases h
 ·split at h
  ·cases h
  next d hd=>
   split at h
   ·cases h
   ·split at h
    next hp=>
     cases h
     rcases ho with⟨y,ho⟩|ho<;>(simp only[Fits,az,ho,hd];rw[qdy hp])
    next hp=>
     cases h
     rcases ho with⟨y,ho⟩|ho<;>(simp only[Fits,az,ho,hd];rw[qdz hp])
def gG{C:Cfg}{N:Tb}{pts:TA}{ρ:Tf}{o:Oper}{e:Eff}(hρ:∀g,ρ (.func g) = .func (.func g) #[] #[])(hm:az N pts o≠none)(he:aj C pts ρ o=some e):Fits N (az N pts o) e:=by
 unfold aj at he
 split at he
 ·cases he;trivial
 ·cases he;trivial
 ·split at he
  ·cases he;trivial
  ·cases he
 next t ho=>
  obtain⟨z,_,he⟩:=qar.1 he
  exact mO (.inr ho) he
 next t x ho=>
  exact mO (.inl ⟨x,ho⟩) he
 ·split at he
  ·exact ea he
  ·cases he
 next t n ps ho=>
  split at he
  ·obtain⟨r,_,rfl⟩:=qac.1 he
   simp only[Fits,az,ho]
  ·cases he
 next t a ho=>
  unfold dG at he
  split at he
  next hk=>
   split at he
   ·cases he
    simp only[Fits,az,ho,hk]
   ·obtain⟨p,_,rfl⟩:=qac.1 he
    simp only[Fits,az,ho,hk]
  ·obtain⟨p,_,he⟩:=qar.1 he
   exact ea he
  next s hk=>
   obtain⟨p,_,rfl⟩:=qac.1 he
   simp only[Fits,az,ho,hk]
 next t a x ho=>
  unfold em at he
  split at he
  ·cases he
  ·split at he
   next hk=>
    obtain⟨p,_,rfl⟩:=qac.1 he
    simp only[Fits,az,ho,hk]
   ·cases he
   next s hk=>
    obtain⟨p,_,rfl⟩:=qac.1 he
    simp only[Fits,az,ho,hk]
 ·split at he<;>cases he<;>trivial
 ·split at he
  ·split at he
   ·split at he
    ·cases he;trivial
    ·cases he
   ·exact dN he
  ·split at he
   ·split at he
    ·cases he;trivial
    ·cases he
   ·exact dN he
  ·exact dN he
 ·split at he
  ·cases he
  ·cases he;trivial
 next t r ho=>
  split at he
  ·cases he;simp only[Fits,az,ho]
  ·cases he
 next t l c ho=>
  cases he;simp only[Fits,az,ho]
 next t x lo hi mx ho=>
  split at he
  ·split at he
   ·exact ea he
   ·cases he;simp only[Fits,az,ho]
  ·exact fits_or dN he
 ·exact ea he
 ·exact ea he
 ·exact ea he
 ·exact ea he
 next t m k ok ho=>
  split at he
  ·exact ea he
  ·cases he;simp only[Fits,az,ho]
 next t m k v ho=>
  cases he;simp only[Fits,az,ho]
 next t m k v ho=>
  cases he;simp only[Fits,az,ho]
 next t m k ho=>
  cases he;simp only[Fits,az,ho]
 next t m s v ho=>
  cases he;simp only[Fits,az,ho]
 ·split at he
  ·split at he
   ·cases he
   ·exact ea he
  ·cases he
 next c ho=>
  unfold fF at he
  simp only at he
  cases hc:c.callee with
  |invoke r m=>simp only[hc]at he;cases he
  |builtin b=>
   simp only[hc]at he
   unfold ba at he
   split at he
   ·split at he
    ·cases he
    ·cases he;simp only[Fits,az,ho,hc]
   ·split at he
    ·cases he;trivial
    ·cases he;simp only[Fits,az,ho,hc]
    ·cases he;trivial
    ·exact dN he
   ·split at he
    ·cases he;trivial
    ·cases he;trivial
    ·cases he;trivial
    ·cases he
   ·cases he;simp only[Fits,az,ho,hc]
   ·cases he;simp only[Fits,az,ho,hc]
   ·cases he;simp only[Fits,az,ho,hc]
   ·exact dN he
  |value f=>
   simp only[hc]at he
   split at he
   ·cases he
   ·split at he
    next g first cap hf=>
     split at he
     ·cases he
      cases f with
      |func g'=>
       rw[hρ]at hf
       cases hf
       simp only[az,ho,hc,Fits]
       by_cases hN:N g=some (2*c.args.size)
       ·rw[qdy hN];exact .inl ⟨rfl,by rw[hN];simp⟩
       ·rw[qdz hN]
        by_cases hN2:N g=some (2*c.args.size+1)
        ·rw[qdy hN2];exact .inr (.inl ⟨rfl,by rw[hN2];simp⟩)
        ·rw[qdz hN2];exact .inr (.inr rfl)
      |_=>simp only[Fits,az,ho,hc,or_true]
     ·cases he
    next l first cap hf=>
     split at he
     ·cases he
      cases f with
      |func g'=>rw[hρ]at hf;cases hf
      |_=>simp only[Fits,az,ho,hc]
     ·cases he
    ·cases he
 ·exact dN he
 ·exact dN he
 ·cases he
def fO{C:Cfg}{B:Below}{N:Tb}(hN:NeuB N B){pts:TA}{ops:Tm}{i:Nat}{o:Oper}(hi:ops[i]?=some o)(hm:az N pts o≠none){σ σ':St}(hs:ai C B pts ops i σ σ') :
  ∃e:Ef,σ'=e.on o.dst σ/\tS (az N pts o) e/\∀τ,Sees N pts ops o σ τ->ai C B pts ops i τ (e.on o.dst τ):=by
 unfold ai at hs
 simp only[hi]at hs
 have val:∀v:Value,σ'=σ.put o.dst v->(∀τ,Sees N pts ops o σ τ->ai C B pts ops i τ (τ.put o.dst v))->
   ∃e:Ef,σ'=e.on o.dst σ/\tS (az N pts o) e/\∀τ,Sees N pts ops o σ τ->ai C B pts ops i τ (e.on o.dst τ):=by
  intro v hv h
  exact⟨⟨v,none,none⟩,hv,⟨λp hp=>(by cases hp),λh=>absurd rfl h⟩,h⟩
 split at hs
 ·exact hs.elim
 next hw=>
  refine val undef hs λτ hτ=>?_
  unfold ai
  simp only[hi,lw hτ,hw]
 next hw=>
  have step:∀ {τ τ':St},Sees N pts ops o σ τ->((∃e,aj C pts (oval τ.tmps) o=some e/\jd B e o.dst τ τ')∨(∃v,iB C τ.tmps o v/\τ'=τ.put o.dst v))->ai C B pts ops i τ τ':=by
   intro τ τ' hτ h
   unfold ai
   simp only[hi,lw hτ,hw]
   exact h
  rcases hs with⟨e,he,hr⟩|⟨v,hv,rfl⟩
  ·have heτ:∀τ,Sees N pts ops o σ τ->aj C pts (oval τ.tmps) o=some e:=λτ hτ=>by
    rw[iH N pts hm (wn hτ)];exact he
   cases e with
   |val v=>
    obtain⟨p,hp,rfl⟩:=hr
    cases hp
    exact val v rfl λτ hτ=>step hτ (.inl ⟨_,heτ τ hτ,_,rfl,rfl⟩)
   |lnew s vs=>
    obtain⟨p,hp,rfl⟩:=hr
    simp only[aQ]at hp
    split at hp
    next hloc=>
     cases hp
     have hclass:az N pts o=some (.row s true):=gG (λ_=>rfl) hm he
     refine⟨⟨.pointer (some ⟨s,0,some 0⟩),some (s,some vs),none⟩,rfl,⟨λp hp=>by cases hp;exact hclass,λh=>absurd rfl h⟩,λτ hτ=>step hτ (.inl ⟨_,heτ τ hτ,({ τ with loc:=τ.loc.set s (some vs) },.pointer (some ⟨s,0,some 0⟩)),?_,rfl⟩)⟩
     have:=hτ.2
     rw[hclass]at this
     simp only[aQ,this,hloc]
    ·cases hp
   |lget s f=>
    obtain⟨p,hp,rfl⟩:=hr
    simp only[aQ]at hp
    split at hp
    next vs hloc=>
     obtain⟨v,hv,rfl⟩:=qac.1 hp
     have hclass:az N pts o=some (.row s false):=gG (λ_=>rfl) hm he
     refine val v rfl λτ hτ=>step hτ (.inl ⟨_,heτ τ hτ,(τ,v),?_,rfl⟩)
     have:=hτ.2
     rw[hclass]at this
     simp only[aQ,this,hloc,hv,qaz]
    ·cases hp
   |lset s f=>
    obtain⟨p,hp,rfl⟩:=hr
    simp only[aQ]at hp
    split at hp
    next vs hloc=>
     obtain⟨vs',hv,rfl⟩:=qac.1 hp
     have hclass:az N pts o=some (.row s true):=gG (λ_=>rfl) hm he
     refine⟨⟨undef,some (s,some vs'),none⟩,rfl,⟨λp hp=>by cases hp;exact hclass,λh=>absurd rfl h⟩,λτ hτ=>step hτ (.inl ⟨_,heτ τ hτ,({ τ with loc:=τ.loc.set s (some vs') },undef),?_,rfl⟩)⟩
     have:=hτ.2
     rw[hclass]at this
     simp only[aQ,this,hloc,hv,qaz]
    ·cases hp
   |hget f=>
    obtain⟨p,hp,rfl⟩:=hr
    simp only[aQ]at hp
    obtain⟨v,hv,rfl⟩:=qac.1 hp
    have hclass:az N pts o=some .hr:=gG (λ_=>rfl) hm he
    refine val v rfl λτ hτ=>step hτ (.inl ⟨_,heτ τ hτ,(τ,v),?_,rfl⟩)
    have:=hτ.2
    rw[hclass]at this
    simp only[aQ,this,hv,qaz]
   |hop f=>
    obtain⟨p,hp,rfl⟩:=hr
    simp only[aQ]at hp
    obtain⟨q,hv,rfl⟩:=qac.1 hp
    have hclass:az N pts o=some .hw:=gG (λ_=>rfl) hm he
    refine⟨⟨q.2,none,some q.1⟩,rfl,⟨λp hp=>(by cases hp),λ_=>hclass⟩,λτ hτ=>step hτ (.inl ⟨_,heτ τ hτ,({ τ with heap:=q.1 },q.2),?_,rfl⟩)⟩
    have:=hτ.2
    rw[hclass]at this
    simp only[aQ,this,hv,qaz]
   |call f args=>
    obtain⟨r,H,hc,rfl⟩:=hr
    have hclass:(az N pts o=some (.neu f)/\N f=some (2*args.length))∨(az N pts o=some .hr/\N f=some (2*args.length+1))∨az N pts o=some .hw:=gG (λ_=>rfl) hm he
    rcases hclass with⟨hclass,hf⟩|⟨hclass,hf⟩|hclass
    ·obtain⟨rfl,h2⟩:=hN.1 f args _ r H hf hc
     exact val r rfl λτ hτ=>step hτ (.inl ⟨_,heτ τ hτ,r,τ.heap,h2 τ.heap,rfl⟩)
    ·obtain rfl:=hN.2 f args _ r H hf hc
     refine val r rfl λτ hτ=>step hτ (.inl ⟨_,heτ τ hτ,r,τ.heap,?_,rfl⟩)
     have:=hτ.2
     rw[hclass]at this
     rw[this];exact hc
    ·refine⟨⟨r,none,some H⟩,rfl,⟨λp hp=>(by cases hp),λ_=>hclass⟩,λτ hτ=>step hτ (.inl ⟨_,heτ τ hτ,r,H,?_,rfl⟩)⟩
     have:=hτ.2
     rw[hclass]at this
     rw[this];exact hc
   |yield l args=>
    obtain⟨r,H,hc,rfl⟩:=hr
    have hclass:az N pts o=some .hw:=gG (λ_=>rfl) hm he
    refine⟨⟨r,none,some H⟩,rfl,⟨λp hp=>(by cases hp),λ_=>hclass⟩,λτ hτ=>step hτ (.inl ⟨_,heτ τ hτ,r,H,?_,rfl⟩)⟩
    have:=hτ.2
    rw[hclass]at this
    rw[this];exact hc
  ·refine val v rfl λτ hτ=>step hτ (.inr ⟨v,?_,rfl⟩)
   obtain⟨h1,h2,h3,h4⟩:=hv
   have hops:=wn hτ
   refine⟨h1,?_,h3,λw=>?_⟩
   ·rw[qag]at h2 ⊢
    intro x hx
    rw[hops x hx];exact h2 x hx
   ·rw[execOp_congr N pts hm (ρ':=λx=>den (oval σ.tmps x)) λx hx=>by rw[hops x hx]]
    exact h4 w
def MC.ok2:MC->MC->Bool
 | .no,_=>true
 |_,.no=>true
 | .row s w,.row s' w'=>!Nat.beq s s'||(!w && !w')
 | .row _ _,_=>true
 |_,.row _ _=>true
 | .neu _,_=>true
 |_,.neu _=>true
 | .hr,.hr=>true
 |_,_=>false
def bI(d:Tn)(l:TA):Bool:=match d with
 |some d=>!l.contains d
 |none=>true
def bK(a b:Tn):Bool:=match a,b with
 |some a,some b=>!Nat.beq a b
 |_,_=>true
def wW(N:Tb)(pts:TA)(ops:Tm)(a b:Oper):Bool:=
 match az N pts a,az N pts b with
 |some m,some n=>(m.ok2 n||fl a b)&&bI a.dst (bz ops b)&&bI b.dst (bz ops a)&&bK a.dst b.dst
 |_,_=>false
def kE{σ:St}{d:Tn}{v:Value}{t:Nat}(h:∀x,d=some x->x≠t):(σ.put d v).tmps[t]?=σ.tmps[t]?:=by
 cases d with
 |none=>rfl
 |some x=>simp only[St.put];rw[qaA (h x rfl)]
def rn{σ:St}{d:Tn}{v:Value}:(σ.put d v).loc=σ.loc:=by cases d<;>rfl
def eh{σ:St}{d:Tn}{v:Value}:(σ.put d v).heap=σ.heap:=by cases d<;>rfl
def rp{σ:St}{d:Tn}{v:Value}:(σ.put d v).tmps=(match d with|some d=>σ.tmps.set d v|none=>σ.tmps):=by cases d<;>rfl
def qZ{e:Ef}{d:Tn}{σ:St}:(e.on d σ).tmps=(match d with|some d=>σ.tmps.set d e.v|none=>σ.tmps):=by unfold Ef.on;rw[rp]
def on_loc{e:Ef}{d:Tn}{σ:St}:(e.on d σ).loc=(match e.rw with|some p=>σ.loc.set p.1 p.2|none=>σ.loc):=by unfold Ef.on;rw[rn]
def iO{e:Ef}{d:Tn}{σ:St}:(e.on d σ).heap=e.hp.getD σ.heap:=by unfold Ef.on;rw[eh]
def wH{N:Tb}{pts:TA}{ops:Tm}{a b:Oper}{m n:MC}(ha:az N pts a=some m)(hb:az N pts b=some n)(hok:m.ok2 n=true∨n.ok2 m=true)
  (hd:bI a.dst (bz ops b)=true) {e:Ef} (ht:tS (az N pts a) e) (σ:St):Sees N pts ops b σ (e.on a.dst σ):=by
 refine⟨λt hr=>?_,?_⟩
 ·unfold Ef.on
  refine kE λx hx he=>?_
  subst he
  rw[hx]at hd
  simp only[bI,qbY,qcd,decide_eq_false_iff_not]at hd
  exact hd hr
 ·rw[ha]at ht
  rw[hb]
  cases n with
  |no=>trivial
  |neu f=>trivial
  |row s w=>
   show(e.on a.dst σ).loc[s]?=_
   rw[on_loc]
   cases hrw:e.rw with
   |none=>rfl
   |some p=>
    have hm:=ht.1 p hrw
    cases hm
    have:p.1≠s:=by
     intro he
     subst he
     rcases hok with h|h<;>simp[MC.ok2]at h
    show(σ.loc.set p.1 p.2)[s]?=_
    rw[qaA this]
  |hr=>
   show(e.on a.dst σ).heap=_
   rw[iO]
   cases hh:e.hp with
   |none=>rfl
   |some H=>
    have hm:=ht.2 (by rw[hh];simp)
    cases hm
    rcases hok with h|h<;>cases h
  |hw=>
   show(e.on a.dst σ).heap=_
   rw[iO]
   cases hh:e.hp with
   |none=>rfl
   |some H=>
    have hm:=ht.2 (by rw[hh];simp)
    cases hm
    rcases hok with h|h<;>cases h
def set_comm{α:Type}(l:List α){i j:Nat}(a b:α)(h:i≠j):(l.set i a).set j b=(l.set j b).set i a:=List.set_comm _ _ h
def on_comm{N:Tb}{pts:TA}{a b:Oper}{m n:MC}(ha:az N pts a=some m)(hb:az N pts b=some n)(hok:m.ok2 n=true)(hd:bK a.dst b.dst=true){e f:Ef}
  (ht:tS (az N pts a) e) (hu:tS (az N pts b) f) (σ:St):f.on b.dst (e.on a.dst σ)=e.on a.dst (f.on b.dst σ):=by
 have h1:(f.on b.dst (e.on a.dst σ)).tmps=(e.on a.dst (f.on b.dst σ)).tmps:=by
  simp only[qZ]
  cases hx:a.dst with
  |none=>rfl
  |some x=>
   cases hy:b.dst with
   |none=>rfl
   |some y=>
    rw[hx,hy]at hd
    have:x≠y:=by
     intro he;subst he;simp[bK]at hd
    exact set_comm _ _ _ this
 have h2:(f.on b.dst (e.on a.dst σ)).loc=(e.on a.dst (f.on b.dst σ)).loc:=by
  simp only[on_loc]
  cases hx:e.rw with
  |none=>rfl
  |some p=>
   cases hy:f.rw with
   |none=>rfl
   |some q=>
    have e1:=ht.1 p hx
    have e2:=hu.1 q hy
    rw[ha]at e1
    rw[hb]at e2
    cases e1;cases e2
    have:p.1≠q.1:=by
     intro he
     rw[he]at hok
     simp[MC.ok2]at hok
    exact set_comm _ _ _ this
 have h3:(f.on b.dst (e.on a.dst σ)).heap=(e.on a.dst (f.on b.dst σ)).heap:=by
  simp only[iO]
  cases hx:e.hp with
  |none=>rfl
  |some p=>
   cases hy:f.hp with
   |none=>rfl
   |some q=>
    have e1:=ht.2 (by rw[hx];simp)
    have e2:=hu.2 (by rw[hy];simp)
    rw[ha]at e1
    rw[hb]at e2
    cases e1;cases e2
    cases hok
 generalize f.on b.dst (e.on a.dst σ)=x at *
 generalize e.on a.dst (f.on b.dst σ)=y at *
 cases x;cases y
 simp only at h1 h2 h3
 subst h1;subst h2;subst h3
 rfl
def pG{a b:TF}(h:rA a b=true):a=b/\∃t,a = .tmp t:=by
 cases a<;>cases b<;>simp only[rA,qam]at h
 exact⟨by rw[qad h],_,rfl⟩
def iY{ops:Tm}{o:Oper}{σ τ:St}(h:∀t∈bz ops o,τ.tmps[t]?=σ.tmps[t]?):cj ops τ.tmps o=cj ops σ.tmps o:=by
 unfold cj
 split
 ·rfl
 next j want hg=>
  cases hd:(ops[j]?).bind (·.dst)with
  |none=>rfl
  |some d=>
   simp only[qak]
   rw[h d (by simp[bz,hg,hd])]
def lZ{ops:Tm}{o:Oper}{σ τ:St}(h:∀t∈bz ops o,τ.tmps[t]?=σ.tmps[t]?):∀x∈o.op.operands.toList,oval τ.tmps x=oval σ.tmps x:=by
 intro x hx
 refine kB λt ht=>h t ?_
 subst ht
 simp only[bz,qao,qbA]
 exact .inl ⟨.tmp t,hx,rfl⟩
def sZ{C:Cfg}{B:Below}{N:Tb}{pts:TA}{ops:Tm}{i:Nat}{o:Oper}{t:TK}{m k:TF}(hi:ops[i]?=some o)(ho:o.op = .lookup t m k false){σ σ':St}(hs:ai C B pts ops i σ σ') :
  ∃v,σ'=σ.put o.dst v/\∀τ:St,(∀t∈bz ops o,τ.tmps[t]?=σ.tmps[t]?)->
   (∀u,cE C t (oval σ.tmps m) (oval σ.tmps k) false σ.heap=some u->cE C t (oval σ.tmps m) (oval σ.tmps k) false τ.heap=some u)->ai C B pts ops i τ (τ.put o.dst v):=by
 have hmem:az N pts o≠none:=by unfold az;rw[ho];simp
 unfold ai at hs
 simp only[hi]at hs
 split at hs
 ·exact hs.elim
 next hw=>
  refine⟨undef,hs,λτ hτ _=>?_⟩
  unfold ai
  simp only[hi,iY hτ,hw]
 next hw=>
  have step:∀ {τ τ':St},(∀t∈bz ops o,τ.tmps[t]?=σ.tmps[t]?)->((∃e,aj C pts (oval τ.tmps) o=some e/\jd B e o.dst τ τ')∨(∃v,iB C τ.tmps o v/\τ'=τ.put o.dst v))->ai C B pts ops i τ τ':=by
   intro τ τ' hτ h
   unfold ai
   simp only[hi,iY hτ,hw]
   exact h
  rcases hs with⟨e,he,hr⟩|⟨v,hv,rfl⟩
  ·have heτ:∀τ:St,(∀t∈bz ops o,τ.tmps[t]?=σ.tmps[t]?)->aj C pts (oval τ.tmps) o=some e:=λτ hτ=>by
    rw[iH N pts hmem (lZ hτ)];exact he
   have he':=he
   unfold aj at he'
   rw[ho]at he'
   simp only at he'
   split at he'
   ·obtain⟨v,hv,rfl⟩:=qac.1 he'
    obtain⟨p,hp,rfl⟩:=hr
    cases hp
    exact⟨v,rfl,λτ hτ _=>step hτ (.inl ⟨_,heτ τ hτ,_,rfl,rfl⟩)⟩
   ·cases he'
    obtain⟨p,hp,rfl⟩:=hr
    simp only[aQ]at hp
    obtain⟨v,hv,rfl⟩:=qac.1 hp
    refine⟨v,rfl,λτ hτ hl=>step hτ (.inl ⟨_,heτ τ hτ,(τ,v),?_,rfl⟩)⟩
    simp only[aQ,hl v hv,qaz]
  ·refine⟨v,rfl,λτ hτ _=>step hτ (.inr ⟨v,?_,rfl⟩)⟩
   obtain⟨h1,h2,h3,h4⟩:=hv
   have hops:=lZ hτ
   refine⟨h1,?_,h3,λw=>?_⟩
   ·rw[qag]at h2 ⊢
    intro x hx
    rw[hops x hx];exact h2 x hx
   ·rw[execOp_congr N pts hmem (ρ':=λx=>den (oval σ.tmps x)) λx hx=>by rw[hops x hx]]
    exact h4 w
def wZ{C:Cfg}{B:Below}{pts:TA}{ops:Tm}{i:Nat}{o:Oper}{t:TK}{m k:TF}(hi:ops[i]?=some o)(ho:o.op = .mapEntry t m k){σ σ':St}(hs:ai C B pts ops i σ σ') :
  σ'.heap=σ.heap∨∃r,cr C t (oval σ.tmps m) (oval σ.tmps k) σ.heap=some (σ'.heap,r):=by
 unfold ai at hs
 simp only[hi]at hs
 split at hs
 ·exact hs.elim
 ·subst hs;exact .inl eh
 ·rcases hs with⟨e,he,hr⟩|⟨v,hv,rfl⟩
  ·unfold aj at he
   rw[ho]at he
   simp only[qas]at he
   subst he
   obtain⟨p,hp,rfl⟩:=hr
   simp only[aQ]at hp
   obtain⟨q,hq,rfl⟩:=qac.1 hp
   refine .inr ⟨q.2,?_⟩
   rw[eh]
   exact hq
  ·exact .inl eh
def xH{C:Cfg}{B:Below}{N:Tb}(hN:NeuB N B){pts:TA}{ops:Tm}{i j:Nat}{a b:Oper}(hi:ops[i]?=some a)(hj:ops[j]?=some b)(hc:fl a b=true)
  (c2:bI a.dst (bz ops b)=true) (c3:bI b.dst (bz ops a)=true) (c4:bK a.dst b.dst=true) {σ σ₁ σ':St}
  (h1:ai C B pts ops i σ σ₁) (h2:ai C B pts ops j σ₁ σ'):∃τ,ai C B pts ops j σ τ/\ai C B pts ops i τ σ':=by
 unfold fl at hc
 split at hc
 next t m k ha=>
  split at hc
  next t' m' k' hb=>
   simp only[qaa]at hc
   obtain⟨⟨e1,e2⟩,e3⟩:=hc
   have e1:=qad e1
   obtain⟨e2,tm,rfl⟩:=pG e2
   obtain⟨e3,tk,rfl⟩:=pG e3
   subst e1 e2 e3
   obtain⟨v,rfl,la⟩:=sZ (N:=N) hi ha h1
   have hmb:az N pts b=some .hw:=by unfold az;rw[hb]
   obtain⟨f,rfl,tf,lf⟩:=fO hN hj (by rw[hmb];simp) h2
   have hfree:∀ {d:Tn} {l:TA},bI d l=true->∀t∈l,∀x,d=some x->x≠t:=by
    intro d l hd t ht x hx he
    subst hx he
    simp only[bI,qbY,qcd,decide_eq_false_iff_not]at hd
    exact hd ht
   have s1:Sees N pts ops b (σ.put a.dst v) σ:=by
    refine⟨λt ht=>(kE (hfree c2 t ht)).symm,?_⟩
    rw[hmb]
    exact eh.symm
   have hstep:=lf σ s1
   refine⟨f.on b.dst σ,hstep,?_⟩
   have hrd:∀t∈bz ops a,(f.on b.dst σ).tmps[t]?=σ.tmps[t]?:=by
    intro t ht
    unfold Ef.on
    rw[kE (hfree c3 t ht)]
   have hrow:f.rw=none:=by
    cases hr:f.rw with
    |none=>rfl
    |some p=>
     have:=tf.1 p hr
     rw[hmb]at this
     cases this
   have hfin:=la (f.on b.dst σ) hrd (λu hu=>by
    rcases wZ hj hb hstep with h|⟨r,h⟩
    ·rw[h];exact hu
    ·exact sY h hu)
   have hcomm:f.on b.dst (σ.put a.dst v)=(f.on b.dst σ).put a.dst v:=by
    unfold Ef.on
    rw[hrow]
    simp only
    cases hx:a.dst with
    |none=>rfl
    |some x=>
     cases hy:b.dst with
     |none=>rfl
     |some y=>
      rw[hx,hy]at c4
      have:x≠y:=by
       intro he;subst he;simp[bK]at c4
      simp only[St.put]
      rw[set_comm _ _ _ this]
   rw[hcomm]
   exact hfin
  ·cases hc
 ·cases hc
def swap_ok{C:Cfg}{B:Below}{N:Tb}(hN:NeuB N B){pts:TA}{ops:Tm}{i j:Nat}{a b:Oper}(hi:ops[i]?=some a)(hj:ops[j]?=some b)(hc:wW N pts ops a b=true){σ σ₁ σ':St}
  (h1:ai C B pts ops i σ σ₁) (h2:ai C B pts ops j σ₁ σ'):∃τ,ai C B pts ops j σ τ/\ai C B pts ops i τ σ':=by
 unfold wW at hc
 split at hc
 next m n hm hn=>
  simp only[qaa]at hc
  obtain⟨⟨⟨c1,c2⟩,c3⟩,c4⟩:=hc
  rw[qbr]at c1
  rcases c1 with c1|c1
  case inr=>exact xH hN hi hj c1 c2 c3 c4 h1 h2
  obtain⟨e,rfl,te,le⟩:=fO hN hi (by rw[hm];simp) h1
  obtain⟨f,rfl,tf,lf⟩:=fO hN hj (by rw[hn];simp) h2
  have s1:Sees N pts ops b (e.on a.dst σ) σ:=by
   have:=wH hm hn (.inl c1) c2 te σ
   refine⟨λt ht=>(this.1 t ht).symm,?_⟩
   have h:=this.2
   rw[hn]at h ⊢
   cases n<;>first|trivial|exact h.symm
  have s2:Sees N pts ops a σ (f.on b.dst σ):=wH hn hm (.inr c1) c3 tf σ
  refine⟨f.on b.dst σ,lf σ s1,?_⟩
  rw[on_comm hm hn c1 c4 te tf σ]
  exact le _ s2
 ·cases hc
end
end Sx
namespace Sx
section
variable [Val] {C:Cfg} {B:Below} {N:Tb} {pts:TA} {ops:Tm}
def oW{i:Nat}{post:TA}:∀(pre:TA),(∀k∈pre,∀σ σ₁ σ':St,ai C B pts ops k σ σ₁->ai C B pts ops i σ₁ σ'->∃τ,ai C B pts ops i σ τ/\ai C B pts ops k τ σ')->
  ∀σ σ':St,bn C B pts ops (pre++i :: post) σ σ'->bn C B pts ops (i :: (pre++post)) σ σ'
 | [],_,σ,σ',h=>h
 |k :: pre,hc,σ,σ',⟨σ₁,h1,h2⟩=>by
  obtain⟨σ₂,h3,h4⟩:=oW pre (λk hk=>hc k (by simp[hk])) σ₁ σ' h2
  obtain⟨τ,h5,h6⟩:=hc k (by simp) σ σ₁ σ₂ h1 h3
  exact⟨τ,h5,σ₂,h6,h4⟩
inductive Anc(ops:Tm)(k:Nat):Nat->Prop
 |edge {i:Nat} {o:Oper} {e:Edge} (ho:ops[i]?=some o) (he:e∈o.after.toList) (hb:Region.binds .any e=true) (hk:e.on=k):Anc ops k i
 |step {i:Nat} {o:Oper} {e:Edge} (ho:ops[i]?=some o) (he:e∈o.after.toList) (hb:Region.binds .any e=true) (h:Anc ops k e.on):Anc ops k i
def ancOf_ok{acc:TA}(hacc:∀(i k:Nat),(acc.getD i 0).testBit k=true->Anc ops k i){i:Nat}{o:Oper}(ho:ops[i]?=some o){k:Nat}(h:(ancOf acc o).testBit k=true):Anc ops k i:=by
 unfold ancOf at h
 have main:∀(l:List Edge) (m:Nat),(∀e∈l,e∈o.after.toList)->(m.testBit k=true->Anc ops k i)->
   (l.foldl (λm e=>match Region.binds .any e with
    |true=>Nat.lor (Nat.lor m (Nat.shiftLeft 1 e.on)) (acc.getD e.on 0)
    |false=>m) m).testBit k=true->Anc ops k i:=by
  intro l
  induction l with
  |nil=>intro m _ hm h;exact hm h
  |cons e l ih=>
   intro m hl hm h
   simp only[qct]at h
   refine ih _ (λe he=>hl e (by simp[he])) (λhb=>?_) h
   cases hbi:Region.binds .any e with
   |false=>simp only[hbi]at hb;exact hm hb
   |true=>
    simp only[hbi]at hb
    have hb':((m ||| (1 <<< e.on)) ||| acc.getD e.on 0).testBit k=true:=hb
    rw[Nat.testBit_or,Nat.testBit_or,qbr,qbr]at hb'
    rcases hb' with(hb'|hb')|hb'
    ·exact hm hb'
    ·rw[Nat.one_shiftLeft,Nat.testBit_two_pow]at hb'
     exact .edge ho (hl e (by simp)) hbi (by simpa using hb')
    ·exact .step ho (hl e (by simp)) hbi (hacc _ _ hb')
 exact main _ 0 (λ_ h=>h) (λh=>by simp at h) h
def pY:∀(l:Tv) (acc:TA),ops.toList.drop acc.length=l->(∀(i k:Nat),(acc.getD i 0).testBit k=true->Anc ops k i)->∀(i k:Nat),((ancs l acc).getD i 0).testBit k=true->Anc ops k i
 | [],acc,_,hacc=>hacc
 |o :: l,acc,hl,hacc=>by
  have ho:ops[acc.length]?=some o:=by
   have:(ops.toList.drop acc.length)[0]?=some o:=by rw[hl];rfl
   simpa using this
  refine pY l (acc++[ancOf acc o]) (by rw[qaC,←qbS,hl];rfl) λi k h=>?_
  rw[List.getD_eq_getElem?_getD,qcX]at h
  split at h
  ·exact hacc i k (by rw[List.getD_eq_getElem?_getD];exact h)
  next hge=>
   by_cases hi:i=acc.length
   ·subst hi
    simp at h
    exact ancOf_ok hacc ho h
   ·rw[qaj (by simp;omega)]at h
    simp at h
def fk:Tv->Nat->Bool
 | [],_=>true
 |o :: l,i=>(o.after.toList.all λe=>!Region.binds .any e||Nat.blt e.on i)&&fk l (i+1)
def qj(N:Tb)(pts:TA)(ops:Tm)(b:Oper)(m:Nat):Tv->Nat->Bool
 | [],_=>true
 |a :: l,k=>(Nat.testBit m k||wW N pts ops a b)&&qj N pts ops b m l (k+1)
def ri(N:Tb)(pts:TA)(ops:Tm)(ms:TA):Tv->Tv->Nat->Bool
 |_,[],_=>true
 |pre,b :: l,i=>qj N pts ops b (ms.getD i 0) pre 0&&ri N pts ops ms (pre++[b]) l (i+1)
def tB(N:Tb)(pts:TA)(ops:Tm):Bool:=
 fk ops.toList 0&&ri N pts ops (ancs ops.toList []) [] ops.toList 0
def eT:∀ {l:Tv} {i:Nat},fk l i=true->∀(j:Nat) o,l[j]?=some o->∀e∈o.after.toList,Region.binds .any e=true->e.on<i+j
 | [],i,_,j,o,h,_,_,_=>by simp at h
 |o :: l,i,h,j,p,hj,e,he,hb=>by
  simp only[fk,qaa,qag]at h
  cases j with
  |zero=>
   simp at hj
   subst hj
   have:=h.1 e he
   rw[hb]at this
   simpa[qbc]using this
  |succ j=>
   have:=eT h.2 j p (by simpa using hj) e he hb
   omega
def oD{b:Oper}{m:Nat}:∀ {l:Tv} {k:Nat},qj N pts ops b m l k=true->∀(j:Nat) a,l[j]?=some a->m.testBit (k+j)=true∨wW N pts ops a b=true
 | [],k,_,j,a,h=>by simp at h
 |a :: l,k,h,j,c,hj=>by
  simp only[qj,qaa,qbr]at h
  cases j with
  |zero=>simp at hj;subst hj;exact h.1
  |succ j=>
   have:=oD h.2 j c (by simpa using hj)
   rwa [show k+1+j=k+(j+1)by omega]at this
def py{ms:TA}:∀ {l pre:Tv} {i:Nat},pre.length=i->ri N pts ops ms pre l i=true->∀(j:Nat) b,l[j]?=some b->∀(k:Nat) a,k<i+j->(pre++l)[k]?=some a->(ms.getD (i+j) 0).testBit k=true∨wW N pts ops a b=true
 | [],pre,i,_,_,j,b,h,_,_,_,_=>by simp at h
 |b :: l,pre,i,hp,h,j,c,hj,k,a,hk,ha=>by
  simp only[ri,qaa]at h
  cases j with
  |zero=>
   simp at hj
   subst hj
   rw[qah (by omega)]at ha
   have:=oD h.1 k a ha
   simpa using this
  |succ j=>
   have:=py (pre:=pre++[b]) (i:=i+1) (by simp[hp]) h.2 j c (by simpa using hj) k a (by omega) (by simpa using ha)
   rwa [show i+1+j=i+(j+1)by omega]at this
def xv(h:tB N pts ops=true){i k:Nat}{a b:Oper}(hb:ops[i]?=some b)(ha:ops[k]?=some a)(hk:k<i):Anc ops k i∨wW N pts ops a b=true:=by
 simp only[tB,qaa]at h
 have:=py (pre:=[]) (i:=0) rfl h.2 i b (by simpa using hb) k a (by omega) (by simpa using ha)
 rw[qaL]at this
 exact this.imp (λh=>pY ops.toList [] rfl (λi k h=>by simp at h) i k h) id
def xu(h:tB N pts ops=true){i:Nat}{o:Oper}(ho:ops[i]?=some o){e:Edge}(he:e∈o.after.toList)(hb:Region.binds .any e=true):e.on<i:=by
 simp only[tB,qaa]at h
 have:=eT h.1 i o (by simpa using ho) e he hb
 omega
def unl(n:Nat)(listed:Array Bool):TA:=(List.range n).filter λi=>!listed.getD i true
def ou{listed:Array Bool}(hcl:∀(x:Nat) o,listed.getD x true=true->ops[x]?=some o->∀e∈o.after.toList,Region.binds .any e=true->listed.getD e.on false=true){k i:Nat}(h:Anc ops k i)
  (hr:∀o,ops[i]?=some o->∀e∈o.after.toList,Region.binds .any e=true->listed.getD e.on false=true):listed.getD k false=true:=by
 induction h with
 |edge ho he hb hk=>rw[←hk];exact hr _ ho _ he hb
 |step ho he hb h ih=>
  have h1:=hr _ ho _ he hb
  refine ih λo ho2 e he2 hb2=>hcl _ o ?_ ho2 e he2 hb2
  rename_i e0
  rw[qaw]at h1 ⊢
  cases hx:listed[e0.on]? with
  |none=>rfl
  |some b=>rw[hx]at h1;exact h1
abbrev _root_.Ty:=Nat->Bool
def gD{p:Ty}{i:Nat}:∀ {l:TA},l.Nodup->i∈l.filter p->∃pre post,l.filter p=pre++i :: post/\(l.filter λj=>p j&&j != i)=pre++post/\(∀k∈pre,k∈l.filter p/\k≠i)
 | [],_,h=>by simp at h
 |x :: l,hn,h=>by
  rw[qcg]at hn
  by_cases hx:x=i
  ·subst hx
   have hp:p x=true:=(qbk.1 h).2
   refine⟨[],l.filter p,by simp[hp],?_,by simp⟩
   simp only[qaS,qb3,hp,bne_self_eq_false,Bool.and_false,qam,if_false]
   refine qdd λj hj=>?_
   have:j≠x:=λe=>hn.1 (e▸hj)
   simp[this]
  ·have h':i∈l.filter p:=by
    rw[qbk]at h ⊢
    exact⟨(qal.1 h.1).resolve_left λe=>hx e.symm,h.2⟩
   obtain⟨pre,post,e1,e2,e3⟩:=gD hn.2 h'
   by_cases hp:p x=true
   ·refine⟨x :: pre,post,by simp[qb3,hp,e1],?_,λk hk=>?_⟩
    ·simp only[qb3,hp,qdf,qa2]
     rw[qdy (by simpa using hx),e2]
    ·rcases qal.1 hk with rfl|hk
     ·exact⟨by simp[qbk,hp],hx⟩
     ·obtain⟨q1,q2⟩:=e3 k hk
      rw[qbk]at q1 ⊢
      exact⟨⟨by simp[q1.1],q1.2⟩,q2⟩
   ·refine⟨pre,post,by simp[qb3,hp,e1],?_,λk hk=>?_⟩
    ·simp only[qb3,hp,Bool.false_and,qam,if_false]
     exact e2
    ·obtain⟨q1,q2⟩:=e3 k hk
     rw[qbk]at q1 ⊢
     exact⟨⟨by simp[q1.1],q1.2⟩,q2⟩
def kW{p:Ty}:∀ {n:Nat} {pre post:TA} {i:Nat},(List.range n).filter p=pre++i :: post->∀k∈pre,k<i:=by
 intro n pre post i h k hk
 have hs:((List.range n).filter p).Pairwise (· < ·):=qcW _ qcp
 rw[h,List.pairwise_append]at hs
 exact hs.2.2 k hk i (by simp)
def go_ok(hN:NeuB N B)(hreg:tB N pts ops=true):∀(fuel t:Nat) (listed:Array Bool),listed.size=ops.size->(unl ops.size listed).length=fuel->
  (∀(x:Nat) o,listed.getD x true=true->ops[x]?=some o->∀e∈o.after.toList,Region.binds .any e=true->listed.getD e.on false=true)->
  ∀σ σ':St,bn C B pts ops (unl ops.size listed) σ σ'->bn C B pts ops (Region.linearise.go .any ops fuel t listed []) σ σ'
 |0,t,listed,_,hl,_,σ,σ',h=>by
  have:unl ops.size listed=[]:=qbn.1 hl
  rw[this]at h
  simpa[Region.linearise.go]using h
 |fuel+1,t,listed,hsz,hl,hcl,σ,σ',h=>by
  simp only[Region.linearise.go]
  generalize hrs:((List.range ops.size).filter λi=>!listed.getD i true&&((ops[i]?).map (·.after.all λe=>!Region.binds .any e||listed.getD e.on false)).getD false)=rs
  have hready:∀i∈rs,i<ops.size/\listed.getD i true=false/\∀o,ops[i]?=some o->∀e∈o.after.toList,Region.binds .any e=true->listed.getD e.on false=true:=by
   intro i hi
   rw[←hrs,qbk,qaD]at hi
   obtain⟨h1,h2⟩:=hi
   simp only[qaa,qbY]at h2
   refine⟨h1,h2.1,λo ho e he hb=>?_⟩
   have h3:=h2.2
   rw[ho]at h3
   simp only[qaz,qa9]at h3
   rw[qcD]at h3
   have:=h3 e (by simpa using he)
   rw[hb]at this
   simpa using this
  have hne:rs≠[]:=by
   have hu:unl ops.size listed≠[]:=by intro e;rw[e]at hl;cases hl
   obtain⟨i0,tl,hu0⟩:=qc8 hu
   have hi0:i0∈unl ops.size listed:=by rw[hu0];simp
   have hi1:=hi0
   rw[unl,qbk,qaD]at hi1
   have hmem:i0∈rs:=by
    rw[←hrs,qbk,qaD]
    refine⟨hi1.1,?_⟩
    simp only[qaa]
    refine⟨hi1.2,?_⟩
    have ho:ops[i0]?=some ops[i0]:=by simp[hi1.1]
    rw[ho]
    simp only[qaz,qa9]
    rw[qcD]
    intro e he
    cases hb:Region.binds .any e with
    |false=>simp
    |true=>
     have hlt:=xu hreg ho (by simpa using he) hb
     simp only[qaE,qc1]
     by_cases hlis:listed.getD e.on true=true
     ·have hs:e.on<listed.size:=by omega
      rw[qaw]at hlis ⊢
      rw[qbo hs]at hlis ⊢
      exact hlis
     ·exfalso
      have hm:e.on∈unl ops.size listed:=by
       rw[unl,qbk,qaD]
       exact⟨by omega,by simpa using hlis⟩
      rw[hu0]at hm
      rcases qal.1 hm with hm|hm
      ·omega
      ·have hs:(unl ops.size listed).Pairwise (· < ·):=qcW _ qcp
       rw[hu0,qcG]at hs
       have:=hs.1 _ hm
       omega
   intro e;rw[e]at hmem;cases hmem
  have hlen:0<rs.length:=List.length_pos_iff.2 hne
  have hget:rs[t%rs.length]?=some (rs[t%rs.length]'(qbz _ hlen)):=qai (qbz _ hlen)
  rw[hget]
  simp only
  generalize hi:rs[t%rs.length]'(qbz _ hlen)=i
  have hmem:i∈rs:=by rw[←hi];exact qco _
  obtain⟨i1,i2,i3⟩:=hready i hmem
  rw[linearise_go_acc,List.reverse_singleton,List.singleton_append]
  have hiu:i∈(List.range ops.size).filter λj=>!listed.getD j true:=by
   rw[qbk,qaD];exact⟨i1,by simp[i2]⟩
  obtain⟨pre,post,e1,e2,e3⟩:=gD List.nodup_range hiu
  have hord:=kW e1
  have hnew:unl ops.size (listed.setIfInBounds i true)=pre++post:=by
   rw[←e2]
   unfold unl
   refine qdd λj hj=>?_
   rw[qaw,qaw,qbm]
   by_cases hji:i=j
   ·subst hji
    rw[qdy rfl,qdy (by omega)]
    simp
   ·rw[qdz hji]
    have:(j != i)=true:=by simpa using λe=>hji e.symm
    simp[this]
  have hmf:=oW (C:=C) (B:=B) (pts:=pts) (ops:=ops) (i:=i) (post:=post) pre (λk hk σ σ₁ σ' s1 s2=>by
   obtain⟨m1,m2⟩:=e3 k hk
   rw[qbk,qaD]at m1
   have ha:ops[k]?=some ops[k]:=by simp[m1.1]
   have hb:ops[i]?=some ops[i]:=by simp[i1]
   rcases xv hreg hb ha (hord k hk)with hanc|hcm
   ·exfalso
    have:=ou hcl hanc i3
    have m3:=m1.2
    rw[qaw]at this m3
    rw[qbo (by omega)]at this m3
    simp only[qa9]at this m3
    rw[this]at m3
    cases m3
   ·exact swap_ok hN ha hb hcm s1 s2) σ σ'
  obtain⟨σ₁,s1,s2⟩:=hmf (by rw[←e1];exact h)
  refine⟨σ₁,s1,go_ok hN hreg fuel _ _ (by simp[hsz]) ?_ ?_ σ₁ σ' (by rw[hnew];exact s2)⟩
  ·rw[hnew]
   have:(unl ops.size listed).length=(pre++post).length+1:=by
    show(List.filter _ _).length=_
    rw[e1];simp;omega
   omega
  ·intro x o hx ho e he hb
   have keep:∀y,listed.getD y false=true->(listed.setIfInBounds i true).getD y false=true:=by
    intro y hy
    rw[qaw]at hy ⊢
    rw[qbm]
    split
    next h1=>
     subst h1
     rw[qdy (by omega)];rfl
    ·exact hy
   by_cases hxi:x=i
   ·subst hxi;exact keep _ (i3 o ho e he hb)
   ·refine keep _ (hcl x o ?_ ho e he hb)
    rw[qaw,qbm,qdz (λe=>hxi e.symm)]at hx
    rw[qaw];exact hx
def any_ok(hN:NeuB N B)(hreg:tB N pts ops=true){σ σ':St}(h:bn C B pts ops (List.range ops.size) σ σ'):eQ C B pts ops σ σ':=by
 refine .inl λt=>?_
 have hz:unl ops.size (Array.replicate ops.size false)=List.range ops.size:=by
  unfold unl
  rw[qc3]
  intro i hi
  rw[qaD]at hi
  rw[qaw,qbQ,qdy hi]
  rfl
 refine go_ok hN hreg ops.size t (Array.replicate ops.size false) (by simp) (by rw[hz];simp) (λx o hx ho=>?_) σ σ' (by rw[hz];exact h)
 have hlt:x<ops.size:=(qat.1 ho).1
 rw[qaw,qbQ,qdy hlt]at hx
 cases hx
end
end Sx
namespace Sx
section
variable [Val] [Kno] {C:Cfg}
def Lo(v:Value):Prop:=match v with
 | .pointer (some p)=>p.spot=some 0
 |_=>True
def vZ{v:Value}(h:plain v=true):Lo v:=by
 cases v<;>try trivial
 rename_i a
 cases a<;>first|trivial|(simp[plain,iz,scalar,im]at h)
def clearV_lo{keys:TA}{v:Value}(h:Lo v):Lo (ir keys v):=by
 unfold ir
 repeat' split
 all_goals first|exact h|trivial
def LoS(as0:TA)(σ:St):Prop:=∀a∈as0,∀v,σ.tmps[a]?=some v->Lo v
def tg(N:Tb)(pts as0:TA)(o:Oper):Bool:=
 (match az N pts o with
 |some .no=>true
 |some (.row _ _)=>true
 |some (.neu _)=>true
 |_=>false) &&
 match o.dst with
 |some d=>!as0.contains d||(Nat.beq (pts.getD d 0) (d+2)&&match o.op with
  | .alloc _=>true
  | .box _ _=>true
  |_=>false)
 |none=>true
def neuC(N:Tb)(pts as0:TA):Code->Bool
 | .skip | .label _ | .ret | .exit _=>true
 | .seq a b=>neuC N pts as0 a&&neuC N pts as0 b
 | .cond _ a b=>neuC N pts as0 a&&neuC N pts as0 b
 | .block _ b=>neuC N pts as0 b
 | .loop b=>neuC N pts as0 b
 | .scope b=>neuC N pts as0 b
 | .region _ ops _=>ops.toList.all (tg N pts as0)
 |_=>false
def rdOp(N:Tb)(pts:TA)(o:Oper):Bool:=match az N pts o with
 |some .no=>true
 |some (.row _ _)=>true
 |some (.neu _)=>true
 |some .hr=>true
 |_=>false
def rdC(N:Tb)(pts:TA):Code->Bool
 | .skip | .label _ | .ret | .exit _=>true
 | .seq a b=>rdC N pts a&&rdC N pts b
 | .cond _ a b=>rdC N pts a&&rdC N pts b
 | .block _ b=>rdC N pts b
 | .loop b=>rdC N pts b
 | .scope b=>rdC N pts b
 | .region _ ops _=>ops.toList.all (rdOp N pts)
 |_=>false
def gn(l:List ResultVar):TA:=l.filterMap λr=>match r with
 | .cell a _=>some a
 | .tmp _=>none
def neuF(N:Tb)(C:Cfg)(f:TM)(n:Nat):Bool:=
 match C.P.funcs[f]? with
 |some fn=>match fn.body with
  |some b=>match Nat.beq (n%2) 0 with
   |true=>neuC N (C.pts f) (gn fn.results.toList) b&&(gn fn.results.toList).all λa=>Nat.ble (n / 2) a
   |false=>C.opq f||rdC N (C.pts f) b
  |none=>false
 |none=>false
def th{pts:TA}{d:Nat}{t:TK}{v:Value}{e:Eff}(hp:pts.getD d 0=d+2)(he:cw C pts (some d) t v=some e):∃s vs,e = .lnew s vs:=by
 unfold cw at he
 split at he
 ·cases he
 ·simp only at he
  split at he
  ·cases he
  ·exact⟨_,_,(qae he).symm⟩
def wh{as0:TA}{σ τ:St}{dst:Tn}{v:Value}(h:LoS as0 σ)(ht:τ.tmps=σ.tmps)(hv:(∀d,dst=some d->d∉as0)∨Lo v):LoS as0 (τ.put dst v):=by
 intro a ha x hx
 cases dst with
 |none=>exact h a ha x (by rw[←ht];exact hx)
 |some d=>
  simp only[St.put,qa0,ht]at hx
  split at hx
  next hd=>
   subst hd
   split at hx
   ·cases hx
    rcases hv with hv|hv
    ·exact absurd ha (hv _ rfl)
    ·exact hv
   ·cases hx
  ·exact h a ha x hx
def wz{N:Tb}{B:Below}(hN:NeuB N B){pts as0:TA}{ops:Tm}(hops:ops.toList.all (tg N pts as0)=true){i:Nat}{σ σ':St}(hl:LoS as0 σ)(h:ai C B pts ops i σ σ') :
  σ'.heap=σ.heap/\LoS as0 σ'/\∀H,ai C B pts ops i { σ with heap:=H } { σ' with heap:=H }:=by
 cases hi:ops[i]? with
 |none=>
  have:σ'=σ:=by simpa[ai,hi]using h
  subst this
  exact⟨rfl,hl,λH=>by simp[ai,hi]⟩
 |some o=>
  have ho:tg N pts as0 o=true:=qag.1 hops o (by
   have:=qcS hi
   simpa using this)
  unfold tg at ho
  rw[qaa]at ho
  obtain⟨o1,o2⟩:=ho
  have hm:az N pts o≠none:=by intro e;rw[e]at o1;cases o1
  obtain⟨e,rfl,te,le⟩:=fO hN hi hm h
  have hh:e.hp=none:=by
   cases he:e.hp with
   |none=>rfl
   |some x=>
    have:=te.2 (by rw[he];simp)
    rw[this]at o1;cases o1
  refine⟨by rw[iO,hh];rfl,?_,λH=>?_⟩
  ·by_cases hd:∀d,o.dst=some d->d∉as0
   ·unfold Ef.on
    exact wh hl rfl (.inl hd)
   · -- a local row is laid
    obtain⟨d,hd⟩:=Classical.not_forall.1 hd
    obtain⟨hdst,hd⟩:=Classical.not_imp.1 hd
    have hd:=Classical.not_not.1 hd
    rw[hdst]at o2
    simp only[qcd,hd,decide_true,qaE,qc1,qaa]at o2
    have hp:pts.getD d 0=d+2:=by simpa using o2.1
    unfold ai at h
    simp only[hi]at h
    split at h
    ·exact h.elim
    ·rw[h];exact wh hl rfl (.inr trivial)
    ·rcases h with⟨ef,h1,h2⟩|⟨v,h1,h2⟩
     ·have hef:∃s vs,ef = .lnew s vs:=by
       have o3:=o2.2
       obtain⟨dst,op,ty,pos,after,guard⟩:=o
       simp only at hdst o3
       subst hdst
       cases op<;>first|cases o3|skip
       ·simp only[aj]at h1
        obtain⟨z,_,hz⟩:=qar.1 h1
        exact th hp hz
       ·exact th hp h1
      obtain⟨s,vs,rfl⟩:=hef
      obtain⟨p,hp1,hp2⟩:=h2
      rw[hp2]
      simp only[aQ]at hp1
      split at hp1
      ·cases hp1
       exact wh hl rfl (.inr rfl)
      ·cases hp1
     ·rw[h2]
      exact wh hl rfl (.inr (vZ h1.2.2.1))
  ·have hs:Sees N pts ops o σ { σ with heap:=H }:=by
    refine⟨λt _=>rfl,?_⟩
    cases hmm:az N pts o with
    |none=>trivial
    |some m=>rw[hmm]at o1;cases m<;>first|trivial|cases o1|rfl
   have:=le _ hs
   have e2:e.on o.dst { σ with heap:=H } = { e.on o.dst σ with heap:=H }:=by
    unfold Ef.on
    rw[hh]
    cases o.dst<;>rfl
   rw[e2]at this
   exact this
def uC{N:Tb}{B:Below}(hN:NeuB N B){pts as0:TA}{ops:Tm}(hops:ops.toList.all (tg N pts as0)=true):∀(l:TA) {σ σ':St},LoS as0 σ->bn C B pts ops l σ σ'->
  σ'.heap=σ.heap/\LoS as0 σ'/\∀H,bn C B pts ops l { σ with heap:=H } { σ' with heap:=H }
 | [],σ,σ',hl,h=>by
  have:σ'=σ:=h
  subst this
  exact⟨rfl,hl,λH=>rfl⟩
 |i :: l,σ,σ',hl,⟨σ₁,h1,h2⟩=>by
  obtain⟨a1,a2,a3⟩:=wz hN hops hl h1
  obtain⟨b1,b2,b3⟩:=uC hN hops l a2 h2
  exact⟨b1.trans a1,b2,λH=>⟨_,a3 H,b3 H⟩⟩
def pD{as0:TA}{σ σ':St}(hl:LoS as0 σ)(h:fc σ σ'):LoS as0 σ':=by
 intro a ha v hv
 obtain⟨_,_,h3,h4⟩:=h
 have hlt:a<σ'.tmps.length:=(qaN.1 hv).1
 have hx:σ.tmps[a]?=some (σ.tmps[a]'(by omega)):=qai _
 rcases h4 a _ _ hx hv with e|⟨_,h5,_⟩
 ·rw[e];exact hl a ha _ hx
 ·exact vZ h5
def lq{σ σ':St}(h:fc σ σ')(H:Ts):fc { σ with heap:=H } { σ' with heap:=H }:=⟨h.1,rfl,h.2.2.1,h.2.2.2⟩
def vN{N:Tb}{B:Below}(hN:NeuB N B){pts as0:TA}{ops:Tm}(hops:ops.toList.all (tg N pts as0)=true):∀(l:TA) {σ σ':St},LoS as0 σ->eH C B pts ops l σ σ'->
  σ'.heap=σ.heap/\LoS as0 σ'/\∀H,eH C B pts ops l { σ with heap:=H } { σ' with heap:=H }
 | [],σ,σ',hl,h=>by
  have:σ'=σ:=h
  subst this
  exact⟨rfl,hl,λH=>rfl⟩
 |i :: l,σ,σ',hl,⟨σ₀,σ₁,h0,h1,h2⟩=>by
  obtain⟨a1,a2,a3⟩:=wz hN hops (pD hl h0) h1
  obtain⟨b1,b2,b3⟩:=vN hN hops l a2 h2
  exact⟨b1.trans (a1.trans h0.2.1),b2,λH=>⟨_,_,lq h0 H,a3 H,b3 H⟩⟩
def clear_lo{as0:TA}{σ:St}{keys:TA}(hl:LoS as0 σ):LoS as0 (σ.clear keys):=by
 unfold St.clear
 split
 ·exact hl
 ·intro a ha v hv
  simp only[qax,qac]at hv
  obtain⟨x,hx,rfl⟩:=hv
  exact clearV_lo (hl a ha x hx)
def clearHp(σ:St)(keys:TA)(H:Ts):St.clear { σ with heap:=H } keys = { σ.clear keys with heap:=H }:=by
 unfold St.clear
 split<;>rfl
def vf(σ:St)(keys:TA):(σ.clear keys).heap=σ.heap:=by
 unfold St.clear
 split<;>rfl
def xz{σ:St}{r:ResultVar}{as0:TA}(hl:LoS as0 σ)(ha:∀a∈gn [r],a∈as0)(H:Ts):eJ C { σ with heap:=H } r=eJ C σ r:=by
 cases r with
 |tmp t=>rfl
 |cell a t=>
  have hm:a∈as0:=ha a (by simp[gn])
  unfold eJ
  simp only
  cases hv:σ.tmps[a]? with
  |none=>simp[List.getD_eq_getElem?_getD,hv,undef]
  |some v=>
   have:=hl a hm v hv
   simp only[List.getD_eq_getElem?_getD,hv,qa9]
   cases v<;>try rfl
   rename_i p
   cases p with
   |none=>rfl
   |some p=>
    have hs:p.spot=some 0:=this
    simp only[hs]
def nD{σ:St}{as0:TA}(hl:LoS as0 σ)(H:Ts):∀(l:List ResultVar),(∀a∈gn l,a∈as0)->cR C { σ with heap:=H } l=cR C σ l
 | [],_=>rfl
 |r :: l,ha=>by
  have h1:=xz (C:=C) (r:=r) hl (λa h=>ha a (by cases r<;>simp[gn]at h ⊢;exact .inl h)) H
  have h2:=nD hl H l (λa h=>ha a (by cases r<;>simp[gn]at h ⊢<;>first|exact h|exact .inr h))
  simp only[cR,h1,h2]
def new_neu{N:Tb}{pts as0:TA}{o:Oper}(h:de pts o=true)(hn:tg N pts as0 o=true):False:=by
 have hm:az N pts o=some .hw:=by
  obtain⟨dst,op,ty,pos,after,guard⟩:=o
  cases op<;>simp only[de,qam]at h<;>first|rfl|skip
  ·cases dst with
   |none=>cases h
   |some d=>
    simp only[az]
    rw[qdz (λe=>by
     have h:(!Nat.beq (pts.getD d 0) (d+2))=true:=h
     rw[e,show Nat.beq (d+2) (d+2)=true from qcu _]at h;cases h)]
  ·cases dst with
   |none=>cases h
   |some d=>
    simp only[az]
    rw[qdz (λe=>by
     have h:(!Nat.beq (pts.getD d 0) (d+2))=true:=h
     rw[e,show Nat.beq (d+2) (d+2)=true from qcu _]at h;cases h)]
  next c=>
   simp only[az]
   split at h
   next hc=>rw[hc]
   ·cases h
 unfold tg at hn
 rw[hm]at hn
 cases hn
def step_rd{N:Tb}{B:Below}(hN:NeuB N B){pts:TA}{ops:Tm}(hops:ops.toList.all (rdOp N pts)=true){i:Nat}{σ σ':St}(h:ai C B pts ops i σ σ'):σ'.heap=σ.heap:=by
 cases hi:ops[i]? with
 |none=>
  have:σ'=σ:=by simpa[ai,hi]using h
  rw[this]
 |some o=>
  have ho:rdOp N pts o=true:=qag.1 hops o (by
   have:=qcS hi
   simpa using this)
  have hm:az N pts o≠none:=by intro e;unfold rdOp at ho;rw[e]at ho;cases ho
  obtain⟨e,rfl,te,_⟩:=fO hN hi hm h
  have hh:e.hp=none:=by
   cases he:e.hp with
   |none=>rfl
   |some x=>
    have:=te.2 (by rw[he];simp)
    unfold rdOp at ho
    rw[this]at ho;cases ho
  rw[iO,hh];rfl
def ops_rd{N:Tb}{B:Below}(hN:NeuB N B){pts:TA}{ops:Tm}(hops:ops.toList.all (rdOp N pts)=true):∀(l:TA) {σ σ':St},bn C B pts ops l σ σ'->σ'.heap=σ.heap
 | [],_,_,h=>by cases h;rfl
 |_ :: l,_,_,⟨_,h1,h2⟩=>(ops_rd hN hops l h2).trans (step_rd hN hops h1)
def opsR_rd{N:Tb}{B:Below}(hN:NeuB N B){pts:TA}{ops:Tm}(hops:ops.toList.all (rdOp N pts)=true):∀(l:TA) {σ σ':St},eH C B pts ops l σ σ'->σ'.heap=σ.heap
 | [],_,_,h=>by cases h;rfl
 |_ :: l,_,_,⟨_,_,h0,h1,h2⟩=>(opsR_rd hN hops l h2).trans ((step_rd hN hops h1).trans h0.2.1)
def new_rd{N:Tb}{pts:TA}{o:Oper}(h:de pts o=true)(hn:rdOp N pts o=true):False:=by
 have hm:az N pts o=some .hw:=by
  obtain⟨dst,op,ty,pos,after,guard⟩:=o
  cases op<;>simp only[de,qam]at h<;>first|rfl|skip
  ·cases dst with
   |none=>cases h
   |some d=>
    simp only[az]
    rw[qdz (λe=>by
     have h:(!Nat.beq (pts.getD d 0) (d+2))=true:=h
     rw[e,show Nat.beq (d+2) (d+2)=true from qcu _]at h;cases h)]
  ·cases dst with
   |none=>cases h
   |some d=>
    simp only[az]
    rw[qdz (λe=>by
     have h:(!Nat.beq (pts.getD d 0) (d+2))=true:=h
     rw[e,show Nat.beq (d+2) (d+2)=true from qcu _]at h;cases h)]
  next c=>
   simp only[az]
   split at h
   next hc=>rw[hc]
   ·cases h
 unfold rdOp at hn
 rw[hm]at hn
 cases hn
def vJ{N:Tb}(hN:∀f n,N f=some n->neuF N C f n=true)(hk:∀f args H r H',Kno.kh f args H r H'->N f=none∨(N f=some (2*args.length+1)/\H'=H)):∀n,(NeuB N (sm C n).toBelow/\∀pts c,rdC N pts c=true->∀σ e σ',(sm C n).ex pts c σ e σ'->σ'.heap=σ.heap)/\
  ∀pts as0 c,neuC N pts as0 c=true->∀σ e σ',LoS as0 σ->(sm C n).ex pts c σ e σ'->σ'.heap=σ.heap/\LoS as0 σ'/\∀H,(sm C n).ex pts c { σ with heap:=H } e { σ' with heap:=H }
 |0=>⟨⟨⟨λf args H r H' hf h=>(by
   rcases h with h|h
   ·exact⟨h.2,λH2=>.inl ⟨h.1,rfl⟩⟩
   ·have hf:N f=some (2*args.length):=hf
    rcases hk f args H r H' h with e|⟨e,_⟩
    ·rw[e]at hf;cases hf
    ·rw[e]at hf
     have:=qae hf
     omega),λf args H r H' hf h=>(by
   rcases h with h|h
   ·exact h.2
   ·have hf:N f=some (2*args.length+1):=hf
    rcases hk f args H r H' h with e|⟨_,e⟩
    ·rw[e]at hf;cases hf
    ·exact e)⟩,λ_ _ _ _ _ _ h=>absurd h id⟩,λ_ _ _ _ _ _ _ _ h=>absurd h id⟩
 |n+1=>by
  obtain⟨⟨ihc,ihr⟩,ihe⟩:=vJ hN hk n
  refine⟨⟨⟨λf args H r H' hf h=>?_,λf args H r H' hf h=>?_⟩,λpts c hc σ e σ' h=>?_⟩,λpts as0 c hc σ e σ' hl h=>?_⟩
  rotate_left
  ·rcases h with h|⟨fn,b,e,σ,vs,c1,c2,c3,c4,c5,c6,c7,c8,c9⟩
   ·rcases h with h|h
    ·exact h.2
    ·have hf:N f=some (2*args.length+1):=hf
     rcases hk f args H r H' h with e|⟨_,e⟩
     ·rw[e]at hf;cases hf
     ·exact e
   ·have hn:=hN f _ hf
    have c3':=(qb5.1 c3).2
    unfold neuF at hn
    have hodd:Nat.beq ((2*args.length+1)%2) 0=false:=by
     rw[show(2*args.length+1)%2=1 by omega];rfl
    simp only[c1,c2,hodd,c3',qc1]at hn
    exact c9.trans (ihr _ _ hn _ _ _ c4)
  ·have h:mK C (sm C n) pts c σ e σ':=h
   cases c with
   |skip=>obtain⟨rfl,rfl⟩:=h;rfl
   |label l=>obtain⟨rfl,rfl⟩:=h;rfl
   |ret=>obtain⟨rfl,rfl⟩:=h;rfl
   |exit id=>obtain⟨rfl,rfl⟩:=h;rfl
   |seq a b=>
    simp only[rdC,qaa]at hc
    obtain⟨e₁,σ₁,h1,h2⟩:=h
    have a1:=ihr _ _ hc.1 _ _ _ h1
    rcases h2 with⟨rfl,h2⟩|⟨h2,rfl,rfl⟩
    ·exact(ihr _ _ hc.2 _ _ _ h2).trans a1
    ·exact a1
   |cond x a b=>
    simp only[rdC,qaa]at hc
    obtain⟨t,h1,h2⟩:=h
    cases t with
    |true=>exact ihr _ _ hc.1 _ _ _ h2
    |false=>exact ihr _ _ hc.2 _ _ _ h2
   |block id b=>
    obtain⟨e₁,h1,rfl⟩:=h
    exact ihr pts b hc _ _ _ h1
   |scope b=>exact ihr pts b hc _ _ _ h
   |loop b=>
    obtain⟨e₁,σ₁,h1,h2⟩:=h
    have a1:=ihr pts b hc _ _ _ h1
    rw[vf]at a1
    rcases h2 with⟨rfl,h2⟩|⟨h2,rfl,rfl⟩
    ·exact(ihr pts (.loop b) hc _ _ _ h2).trans a1
    ·exact a1
   |region id ops draw=>
    obtain⟨rfl,hq⟩:=h
    cases draw with
    |true=>
     obtain⟨σ₀,h0,h1⟩ : ∃σ₀,fc σ σ₀/\eQ C (sm C n).toBelow pts ops σ₀ σ':=hq
     rcases h1 with h1|⟨sl,m,q1,_⟩
     ·exact(ops_rd ihc hc _ (h1 0)).trans h0.2.1
     ·exfalso
      obtain⟨o,o1,o2⟩:=List.any_eq_true.1 q1
      exact new_rd o2 (qag.1 hc o o1)
    |false=>
     have hq:eH C (sm C n).toBelow pts ops (List.range ops.size) σ σ':=hq
     exact opsR_rd ihc hc _ hq
   |_=>cases hc
  rotate_right
  ·rcases h with h|⟨fn,b,e,σ,vs,c1,c2,c3,c4,c5,c6,c7,c8,c9⟩
   ·rcases h with h|h
    ·exact⟨h.2,λH2=>.inl (.inl ⟨h.1,rfl⟩)⟩
    ·have hf:N f=some (2*args.length):=hf
     rcases hk f args H r H' h with e|⟨e,_⟩
     ·rw[e]at hf;cases hf
     ·rw[e]at hf
      have:=qae hf
      omega
   ·have hn:=hN f _ hf
    unfold neuF at hn
    have hev:Nat.beq (2*args.length%2) 0=true:=by
     rw[show 2*args.length%2=0 by omega];rfl
    simp only[c1,c2,hev,qaa,qag,show 2*args.length / 2=args.length by omega]at hn
    have hl:LoS (gn fn.results.toList) (kU fn args H):=by
     intro a ha v hv
     have hge:args.length<=a:=by simpa using hn.2 a ha
     simp only[kU]at hv
     rw[qaq hge,qa3]at hv
     split at hv
     ·cases hv;trivial
     ·cases hv
    obtain⟨d1,d2,d3⟩:=ihe _ _ _ hn.1 _ _ _ hl c4
    refine⟨c9.trans d1,λH2=>.inr ⟨fn,b,e,_,vs,c1,c2,c3,d3 H2,c5,?_,c7,c8,rfl⟩⟩
    rw[nD d2 H2 _ (λa h=>h)]
    exact c6
  ·have h:mK C (sm C n) pts c σ e σ':=h
   show _/\_/\∀H,mK C (sm C n) pts c { σ with heap:=H } e { σ' with heap:=H }
   cases c with
   |skip=>obtain⟨rfl,rfl⟩:=h;exact⟨rfl,hl,λH=>⟨rfl,rfl⟩⟩
   |label l=>obtain⟨rfl,rfl⟩:=h;exact⟨rfl,hl,λH=>⟨rfl,rfl⟩⟩
   |ret=>obtain⟨rfl,rfl⟩:=h;exact⟨rfl,hl,λH=>⟨rfl,rfl⟩⟩
   |exit id=>obtain⟨rfl,rfl⟩:=h;exact⟨rfl,hl,λH=>⟨rfl,rfl⟩⟩
   |seq a b=>
    simp only[neuC,qaa]at hc
    obtain⟨e₁,σ₁,h1,h2⟩:=h
    obtain⟨a1,a2,a3⟩:=ihe _ _ _ hc.1 _ _ _ hl h1
    rcases h2 with⟨rfl,h2⟩|⟨h2,rfl,rfl⟩
    ·obtain⟨b1,b2,b3⟩:=ihe _ _ _ hc.2 _ _ _ a2 h2
     exact⟨b1.trans a1,b2,λH=>⟨_,_,a3 H,.inl ⟨rfl,b3 H⟩⟩⟩
    ·exact⟨a1,a2,λH=>⟨_,_,a3 H,.inr ⟨h2,rfl,rfl⟩⟩⟩
   |cond x a b=>
    simp only[neuC,qaa]at hc
    obtain⟨t,h1,h2⟩:=h
    cases t with
    |true=>
     obtain⟨b1,b2,b3⟩:=ihe _ _ _ hc.1 _ _ _ hl h2
     exact⟨b1,b2,λH=>⟨true,h1,b3 H⟩⟩
    |false=>
     obtain⟨b1,b2,b3⟩:=ihe _ _ _ hc.2 _ _ _ hl h2
     exact⟨b1,b2,λH=>⟨false,h1,b3 H⟩⟩
   |block id b=>
    obtain⟨e₁,h1,rfl⟩:=h
    obtain⟨b1,b2,b3⟩:=ihe pts as0 b hc _ _ _ hl h1
    exact⟨b1,b2,λH=>⟨_,b3 H,rfl⟩⟩
   |scope b=>exact ihe pts as0 b hc _ _ _ hl h
   |loop b=>
    obtain⟨e₁,σ₁,h1,h2⟩:=h
    obtain⟨a1,a2,a3⟩:=ihe pts as0 b hc _ _ _ (clear_lo hl) h1
    rw[vf]at a1
    rcases h2 with⟨rfl,h2⟩|⟨h2,rfl,rfl⟩
    ·obtain⟨b1,b2,b3⟩:=ihe pts as0 (.loop b) hc _ _ _ a2 h2
     exact⟨b1.trans a1,b2,λH=>⟨_,_,by rw[clearHp];exact a3 H,.inl ⟨rfl,b3 H⟩⟩⟩
    ·exact⟨a1,a2,λH=>⟨_,_,by rw[clearHp];exact a3 H,.inr ⟨h2,rfl,rfl⟩⟩⟩
   |region id ops draw=>
    obtain⟨rfl,hq⟩:=h
    cases draw with
    |true=>
     obtain⟨σ₀,h0,h1⟩ : ∃σ₀,fc σ σ₀/\eQ C (sm C n).toBelow pts ops σ₀ σ':=hq
     have hl0:=pD hl h0
     rcases h1 with h1|⟨sl,m,q1,_⟩
     case inr=>
      exfalso
      obtain⟨o,o1,o2⟩:=List.any_eq_true.1 q1
      exact new_neu o2 (qag.1 hc o o1)
     obtain⟨a1,a2,_⟩:=uC ihc hc _ hl0 (h1 0)
     refine⟨a1.trans h0.2.1,a2,λH=>⟨rfl,⟨_,lq h0 H,.inl λt=>?_⟩⟩⟩
     exact(uC ihc hc _ hl0 (h1 t)).2.2 H
    |false=>
     have hq:eH C (sm C n).toBelow pts ops (List.range ops.size) σ σ':=hq
     obtain⟨a1,a2,a3⟩:=vN ihc hc _ hl hq
     exact⟨a1,a2,λH=>⟨rfl,a3 H⟩⟩
   |_=>cases hc
def dr_ok{N:Tb}(hN:∀f n,N f=some n->neuF N C f n=true)(hk:∀f args H r H',Kno.kh f args H r H'->N f=none∨(N f=some (2*args.length+1)/\H'=H))(pts:TA)(ops:Tm)(h:tB N pts ops=true)(n:Nat)(σ σ':St)(hx:bn C (sm C n).toBelow pts ops (List.range ops.size) σ σ') :
  eQ C (sm C n).toBelow pts ops σ σ':=any_ok (vJ hN hk n).1.1 h hx
end
end Sx
end Go.Am
end

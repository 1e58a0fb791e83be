import Derived.Test.YtohglkignnpogaaGreatDoorOR2
import Derived.Laws.Entries
import Derived.Laws.StructEq
set_option linter.all false
noncomputable section
open List(range replicate)
namespace Go.Am
section
variable [DB] {m7:TE}
def ri(k:TK)(x:Int):k.wrap (x%(2 ^ k.bits:Int))=k.wrap x:=by
 unfold IntKind.wrap
 simp_all
def zb{k:TK}(m n:Nat):tb .and k m n (k.wrap (Nat.land m n:Nat)):=by
 intro P t w;simp only[binOp,ne_eq,not_true_eq_false,if_false,Op.intBits];show Result.ok (Value.int k (k.wrap _)) w=_;rw[←ri k (Nat.land m n:Nat)]
 congr 3
 have b:∀x:Nat,(BitVec.ofInt k.bits (x:Int)).toNat=x%2 ^ k.bits:=λx=>by
  simp_all
 have a:(BitVec.ofInt k.bits (m:Int) &&& BitVec.ofInt k.bits (n:Int)).toNat=(m &&& n)%2 ^ k.bits:=by
  grind
 rw[a];simp
def zf{k:TK}(m n:Nat):tb .xor k m n (k.wrap (Nat.xor m n:Nat)):=by
 intro P t w;simp only[binOp,ne_eq,not_true_eq_false,if_false,Op.intBits];show Result.ok (Value.int k (k.wrap _)) w=_;rw[←ri k (Nat.xor m n:Nat)]
 congr 3
 have b:∀x:Nat,(BitVec.ofInt k.bits (x:Int)).toNat=x%2 ^ k.bits:=λx=>by
  simp_all
 have a:(BitVec.ofInt k.bits (m:Int) ^^^ BitVec.ofInt k.bits (n:Int)).toNat=(m ^^^ n)%2 ^ k.bits:=by
  grind
 rw[a];simp
def CH{k:TK}(m n:Nat):tb .or k m n (k.wrap (Nat.lor m n:Nat)):=by
 intro P t w;simp only[binOp,ne_eq,not_true_eq_false,if_false,Op.intBits];show Result.ok (Value.int k (k.wrap _)) w=_;rw[←ri k (Nat.lor m n:Nat)]
 congr 3
 have b:∀x:Nat,(BitVec.ofInt k.bits (x:Int)).toNat=x%2 ^ k.bits:=λx=>by
  simp_all
 have a:(BitVec.ofInt k.bits (m:Int) ||| BitVec.ofInt k.bits (n:Int)).toNat=(m ||| n)%2 ^ k.bits:=by
  grind
 rw[a];simp
end
section
variable {R:Type}
def fq{j7:Type}(x:j7):∀(l:List j7) (i:Nat) (k:List j7->R),Gn x l i k=k (l.set i x)
 | [],_,_=>rfl
 |_ :: _,0,_=>rfl
 |a :: l,i+1,k=>fq x l i λl=>k (a :: l)
def yl(n:Nat)(K:Nat->R):ug n K=K n:=by cases n<;>rfl
end
def SL.h_:SL->Prop
 | .v x=>aI x=true
 |_=>True
def S0.h_(x:S0):Prop:=∀l∈x.cells,l.h_
def SV.gd:SV->Prop
 | .st x=>x.h_
 | .K1 xs=>(∀x∈xs,x.h_)/\2<=xs.length
 | .no=>False
 |_=>True
def ff{x:TR}:aI x=true↔nc x=true/\aT x=true/\aP x=true/\aD x=false:=by
 unfold aI
 grind
def Cd{x:TR}(h:aI x=true):bg x=true:=by
 obtain⟨a,_,b,_⟩:=ff.1 h;simp[bg,a,b]
def ym{x:TR}(h:aI x=true):x.cells = #[x]:=fk (ff.1 h).2.2.1
def SL.E8{l:SL}(h:l.h_):aI l.val=true:=by
 cases l with
 |v x=>exact h
 |_=>rfl
def S0.Eo{x:S0}(h:x.h_):x.val.cells=⟨x.cells.map SL.val⟩:=by
 cases x with
 |leaf l=>exact ym (SL.E8 (h l (by simp[S0.cells])))
 |agg a=>rfl
def S0.nc{x:S0}(h:x.h_):nc x.val=true:=by
 cases x with
 |leaf l=>exact(ff.1 (SL.E8 (h l (by simp[S0.cells])))).1
 |agg b=>
  simp only[S0.val,Am.nc,A_,DJ];rintro _ ⟨l,a,rfl⟩;exact(ff.1 (SL.E8 (h l a))).2.1
def S0.E5{x:S0}(h:x.h_):aD x.val=false:=by
 cases x with
 |leaf l=>exact(ff.1 (SL.E8 (h l (by simp[S0.cells])))).2.2.2
 |agg a=>rfl
def S0.Hg{x:S0}(h:x.h_):x.val.cells.toList.all bg=true:=by
 rw[S0.Eo h];simp only[A_,DJ];rintro _ ⟨l,a,rfl⟩;exact Cd (SL.E8 (h l a))
def zg{v:TR}(h:scalar v=true):aI v=true:=by
 cases v<;>first|rfl|(simp[scalar]at h;done)|skip
 case pointer a=>cases a<;>first|rfl|simp[scalar]at h
 case slice a l c=>
  cases a with
  |none=>rfl
  |some a=>cases l<;>cases c<;>simp[scalar]at h
def vn(v:TR):(JB v).val=v:=by cases v<;>rfl
def qX{v:TR}(h:scalar v=true):(JB v).h_:=by
 cases v<;>first|trivial|exact zg h
def uZ{v:TR}{x:S0}(h:ID v=some x):x.val=v/\x.h_/\gL v=true:=by
 unfold ID at h;split at h
 next f=>
  split at h
  next b=>
   cases h;refine⟨?_,?_,b⟩
   .simp only[S0.val,Pj,Value.agg.injEq];have:(SL.val ∘ JB)=id:=funext vn;rw[this,qdE]
   .intro l a;simp only[S0.cells,DJ]at a;obtain⟨v,e,rfl⟩:=a;exact qX (A_.1 b v e)
  .cases h
 next d=>
  split at h
  next c=>
   cases h;refine⟨vn v,?_,?_⟩
   .intro l a;simp only[S0.cells,GM]at a;subst a;exact qX c
   .cases v<;>first|exact c|simp_all
  .cases h
def dX{a b:TK}(h:df a b=true):a=b:=by
 cases a<;>cases b<;>first|rfl|cases h
def fM(a:TK):df a a=true:=by cases a<;>rfl
section
variable [DB] [En]
def Told(sks:TN)(ls:TG)(xs:List S0):Prop:=cJ xs sks=true/\cV xs=ls/\∀x∈xs,x.h_
def aF(C:m8)(Sg:Td)(g:TQ)(ls:TG)(H:Tu)(a:TG)(H':Tu):Prop:=
 ∃sg xs ys,Sg g=some sg/\Told sg.ps ls xs/\Told sg.rs a ys/\jY C g (ao xs) H (gM (ao ys)) H'
def xJ(C:m8)(v:Value)(args:Tn)(a:TN)(H:Tu)(b:TG)(H':Tu):Prop:=
 ∃ys,Told a b ys/\((∃g first cap,v = .func (.func g) first cap/\jY C g (first.toList++args++cap.toList) H (gM (ao ys)) H')∨
  (∃l,v = .func (.yield l) #[] #[]/\iK C l args H (gM (ao ys)) H'))
def rq(a:Nat):List (Nat×SK)->Tn->Tn->List Value
 |(t,_) :: l,v :: vs,tm=>rq a l vs (tm.set t v)
 |_,_,tm=>tm
def FC(s:Site)(b:Nat)(a:Tn):GJ:=
 { state:=.ready,pending:=none,fn:=b,tmps:=rq s.nt s.caps a (replicate s.nt w6),params:=s.params.map (·.1),assign:=s.assign.erase sB,body:=s.body.erase sB }
def iM:Lf->Lf->Bool
 | .i a,.i b=>a==b
 | .b a,.b b=>a==b
 |_,_=>false
def cu(l:List (Lf×Lf)):Bool:=l.all λp=>iM p.1 p.2
def K'(b:BinOp)(k:TK)(x:Int)(a:TK)(y n:Int):Prop:=∀(P:TI) (t:TP) (w:TS),(binOp b t (.int k x) (.int a y)).run P w = .ok (.int k n) w
abbrev _root_.Tv:=Nat->Site
structure pL{R HT:Type}(A:Dv R HT)(C:m8)(Sg:Td)(T:Tv)(holds:R->Prop)(abs:HT->Tu):Prop where
 fail:¬holds A.fail
 cond:∀b x y,holds (A.cond b x y)->(b=true/\holds x)∨(b=false/\holds y)
 x6:∀op k a b K,holds (A.x6 op k a b K)->∃n,tb op k a b n/\holds (K n)
 HB:∀op k a k' b K,holds (A.HB op k a k' b K)->∃n,K' op k a k' b n/\holds (K n)
 cmp:∀op a b K,holds (A.cmp op a b K)->∃t,rO op a b=some t/\holds (K t)
 eqs:∀l K,holds (A.eqs l K)->holds (K (cu l))
 conv:∀k a K,holds (A.conv k a K)->holds (K (k.wrap a))
 HH:∀t a b K,holds (A.HH t a b K)->holds (K (if t then a else b))
 jw:∀ {j7:Type} (o:Option j7) K,holds (A.jw o K)->∃x,o=some x/\holds (K x)
 n4:∀v K,holds (A.n4 v K)->aI v=true/\holds K
 po:∀ls K,holds (A.po ls K)->∃n r,ls = .i n :: r/\holds (K n r)
 Fu:∀ls K,holds (A.Fu ls K)->∃t r,ls = .b t :: r/\holds (K t r)
 DK:∀ls K,holds (A.DK ls K)->∃x r,ls = .v x :: r/\holds (K x r)
 A1:∀ls K,holds (A.A1 ls K)->ls=[]/\holds K
 td:∀k ls K,holds (A.td k ls K)->∃n r,ls = .int k n :: r/\holds (K n r)
 E7:∀ls K,holds (A.E7 ls K)->∃t r,ls = .bool t :: r/\holds (K t r)
 DF:∀ls K,holds (A.DF ls K)->∃x r,ls=x :: r/\holds (K x r)
 tf:∀ls K,holds (A.tf ls K)->ls=[]/\holds K
 ma:∀f h K,holds (A.ma f h K)->∃cs,f.run (λi=>(abs h)[i]?)=some cs/\holds (K cs)
 heap:∀f h K,holds (A.heap f h K)->∃acts cs h',f.run (λi=>(abs h)[i]?) (abs h).length=some (acts,cs)/\abs h'=iG (abs h) acts/\holds (K cs h')
 new:∀o h K,holds (A.new o h K)->∃h',abs h'=abs h++[o]/\holds (K (abs h).length h')
 call:∀g ls h K,holds (A.call g ls h K)->∃rs h',aF C Sg g ls (abs h) rs (abs h')/\holds (K rs h')
 Dw:∀v args hs h K,holds (A.Dw v args hs h K)->∃rs h',xJ C v args hs (abs h) rs (abs h')/\holds (K rs h')
 join:∀b m,holds (A.join b m)->holds (m b)
 loop:∀F ls h,holds (A.loop F ls h)->∃it:Nat->TG->HT->R,(∀ls h,¬holds (it 0 ls h))/\(∀n ls h,it (n+1) ls h=F (it n) ls h)/\∃n,holds (it n ls h)
 Ft:∀m9 v E9 h K,holds (A.Ft m9 v E9 h K)->∃g first cap r H1 lp h2,v = .func (.func g) first cap/\
  jY C g (first.toList++[.func (.yield (abs h).length) #[] #[]]++cap.toList) (abs h++[.loop (FC (T m9) m9 E9)]) r H1/\
  fg H1 (abs h).length=some lp/\lp.state≠.busy/\abs h2=H1.set (abs h).length (.loop { lp with state:=.exhausted })/\holds (K lp.pending h2)
 Fg:∀pd kn kr ks,holds (A.Fg pd kn kr ks)->(pd=none/\holds kn)∨(pd=some .ret/\holds kr)∨∃id x,pd=some (.exit id)/\(id,x)∈ks/\holds x
 JW:∀l h K,holds (A.JW l h K)->∃lp h',fg (abs h) l=some lp/\lp.state = .ready/\abs h'=(abs h).set l (.loop { lp with state:=.busy })/\holds (K h')
 HU:∀l j h K,holds (A.HU l j h K)->∃lp h',fg (abs h) l=some lp/\abs h'=(abs h).set l (.loop { lp with state:=if j.isNone then .ready else .done,pending:=j })/\holds (K h')
def SV.ok(a:Tn)(i:Nat)(s:SV):Prop:=
 match s with
 | .no=>True
 |s=>a[i]?=some s.val/\s.gd
def LR.ok(a:List (Option (Tn)))(i:Nat):LR->Prop
 | .JJ=>True
 | .nil=>a[i]?=some none
 | .any n=>∃vs,a[i]?=some (some vs)/\vs.length=n
 | .row cs=>a[i]?=some (some (cs.map SL.val))/\∀c∈cs,c.h_
structure Rp(ev:Env)(g9:St):Prop where
 len:ev.tm.length=g9.tmps.length
 val:∀(i:Nat) s,ev.tm[i]?=some s->s.ok g9.tmps i
 Fp:ev.lc.length=g9.loc.length
 row:∀(i:Nat) r,ev.lc[i]?=some r->r.ok g9.loc i
def SV.ok_gd{a:Tn}{i:Nat}{s:SV}(h:s.gd)(b:a[i]?=some s.val):s.ok a i:=by
 cases s<;>first|trivial|exact⟨b,h⟩
def Rp.at{b:Env}{g9:St}(h:Rp b g9){t:Nat}{s:SV}(a:b.tm.getD t .no=s)(d:s≠.no):g9.tmps[t]?=some s.val/\s.gd:=by
 rw[List.getD_eq_getElem?_getD]at a;cases c:b.tm[t]? with
 |none=>simp_all
 |some x=>
  rw[c]at a;simp only[U0]at a;subst a;have:=h.val t x c;cases x<;>first|exact this|exact absurd rfl d
def Rp.km{d:Env}{g9:St}(h:Rp d g9){x:TL}{s:SV}(a:km d x=s)(j:s≠.no):jn g9.tmps x=s.val/\s.gd:=by
 cases x with
 |tmp t=>
  obtain⟨b,c⟩:=h.at (t:=t) a j;exact⟨by simp[jn,List.getD_eq_getElem?_getD,b],c⟩
 |const v=>
  simp only[Am.km]at a;cases k:ID v with
  |none=>simp_all
  |some x=>
   rw[k]at a;subst a;obtain⟨b,c,e⟩:=uZ k;refine⟨?_,c⟩;have:flat v=true:=by cases v<;>first|exact e|(simp[gL,scalar]at e)
   simp[jn,this,SV.val,b]
 |global g=>
  subst a;simp only[Am.km,jn];cases m:Nat.blt g gB with
  |true=>exact⟨rfl,trivial⟩
  |false=>exact absurd (by simp only[Am.km,m]) j
 |func f=>
  subst a;refine⟨rfl,λl i=>?_⟩;simp only[S0.cells,GM]at i;subst i;rfl
def Rp.Dt{b:Env}{g9:St}(h:Rp b g9){x:TL}{s:S0}(a:Dt b x=some s):jn g9.tmps x=s.val/\s.h_:=by
 unfold Am.Dt at a;split at a
 next y e=>
  cases a;exact h.km e c_
 .cases a
def Rp.D1{b:Env}{g9:St}(h:Rp b g9):∀ {l:List Operand} {xs:List S0},D1 b l=some xs->l.map (jn g9.tmps)=ao xs/\∀x∈xs,x.h_
 | [],xs,a=>by cases a;exact⟨rfl,c_⟩
 |o :: l,xs,a=>by
  simp only[Am.D1]at a;split at a
  next x ys c d=>
   cases a;obtain⟨h1,f⟩:=h.Dt c;obtain⟨e,g⟩:=h.D1 d;refine⟨by simp[ao,h1];exact e,λy i=>?_⟩
   grind
  .cases a
def Rp.put{b:Env}{g9:St}(h:Rp b g9)(d:Nat){s:SV}(f:s.gd):Rp ⟨b.tm.set d s,b.lc⟩ (g9.put (some d) s.val):=by
 refine⟨by simp[St.put,h.len],λi x a=>?_,h.Fp,h.row⟩;simp only[HZ]at a;split at a
 next c=>
  subst c;split at a
  next e=>
   cases a;refine SV.ok_gd f ?_;simp only[St.put,List.getElem?_set_self'];rw[Gm (by rw[←h.len];exact e)];rfl
  .cases a
 next c=>
  have:=h.val i x a;cases x<;>first|trivial|exact⟨by simp only[St.put];rw[IA c];exact this.1,this.2⟩
def Rp.heap{a:Env}{g9:St}(h:Rp a g9)(H:Tu):Rp a { g9 with heap:=H }:=⟨h.len,h.val,h.Fp,h.row⟩
structure Fr(ws ks rs:TC)(g9 j6:St):Prop where
 JG:j6.tmps.length=g9.tmps.length
 Fp:j6.loc.length=g9.loc.length
 tm:∀(i:Nat) v,g9.tmps[i]?=some v->i∉ws->nc v=true->j6.tmps[i]?=some v
 tp:∀(i s off:Nat),g9.tmps[i]?=some (.pointer (some ⟨s,off,some 0⟩))->i∉ws->s∉ks->j6.tmps[i]?=some (.pointer (some ⟨s,off,some 0⟩))
 row:∀(s:Nat) x,g9.loc[s]?=some x->s∉rs->j6.loc[s]?=some x
 OR:∀(s:Nat) vs,g9.loc[s]?=some (some vs)->s∉ks->∃vs',j6.loc[s]?=some (some vs')/\vs'.length=vs.length
theorem Fr.refl(c ks a:TC)(g9:St):Fr c ks a g9 g9:=⟨rfl,rfl,λ_ _ h _ _=>h,λ_ _ _ h _ _=>h,λ_ _ h _=>h,λ_ b h _=>⟨b,h,rfl⟩⟩
def Fr.trans{f ks e:TC}{g9 j9 g:St}(h:Fr f ks e g9 j9)(h':Fr f ks e j9 g):Fr f ks e g9 g:=
 ⟨h'.JG.trans h.JG,h'.Fp.trans h.Fp,λi v a b c=>h'.tm i v (h.tm i v a b c) b c,λi s d a b c=>h'.tp i s d (h.tp i s d a b c) b c,
  λs x a b=>h'.row s x (h.row s x a b) b,λs j a b=>let ⟨v1,c1,d1⟩:=h.OR s j a b;let ⟨v2,c2,d2⟩:=h'.OR s v1 c1 b;⟨v2,c2,d2.trans d1⟩⟩
def Fr.mono{n ks m g e f:TC}{g9 l:St}(h:Fr n ks m g9 l)(h1:∀i∈n,i∈g)(k:∀i∈ks,i∈e)(o:∀i∈m,i∈f):Fr g e f g9 l:=
 ⟨h.JG,h.Fp,λi v a b c=>h.tm i v a (λd=>b (h1 i d)) c,λi s j a b c=>h.tp i s j a (λd=>b (h1 i d)) (λd=>c (k s d)),
  λs x a b=>h.row s x a (λd=>b (o s d)),λs p a b=>h.OR s p a (λd=>b (k s d))⟩
def Fr.heap{c ks b:TC}{g9 a:St}(h:Fr c ks b g9 a)(H:Tu):Fr c ks b g9 { a with heap:=H }:=⟨h.JG,h.Fp,h.tm,h.tp,h.row,h.OR⟩
def Fr.put{g9:St}(dst:Tq)(v:TR)(ks c:TC):Fr dst.toList ks c g9 (g9.put dst v):=by
 cases dst with
 |none=>exact .refl _ _ _ _
 |some d=>
  refine⟨by simp[St.put],rfl,λi x h a _=>?_,λi s b h a _=>?_,λ_ _ h _=>h,λ_ e h _=>⟨e,h,rfl⟩⟩<;>
  .simp only[Option.toList_some,GM]at a;simp only[St.put]
   grind
end
inductive HO where
 |o (x:s_)
 |lp (m9:Nat) (st:LoopState) (pd:Tm) (vs:Tn)
abbrev HL:=List HO
inductive CK where
 |f (g:TQ)
 |y (m9:Nat) (vs:Tn) (l:Nat)
def F1(T:Tv):HO->s_
 | .o x=>x
 | .lp a st b vs=>.loop { FC (T a) a vs with state:=st,pending:=b }
def h9(T:Tv)(h:HL):Tu:=h.map (F1 T)
namespace Sx
inductive Gt where
 |o (x:s_)
 |lp (m9:Nat) (st:LoopState) (pd:Tm) (vs:Tn)
 |t (n e:Nat) (rw:Bool) (c:Tr Value)
def Hq:Value:=.bool false
def cR(c:Tr Value)(n:Nat):Tn:=(range n).map λi=>(cG i).get Hq c
def Gt.ho:Gt->HO
 | .o x=>.o x
 | .lp a st b vs=>.lp a st b vs
 | .t n e rw c=>.o (.cells (cR c n) e rw)
structure y_ where
 n:Nat
 t:Tr Gt
def hX:Gt:=.o .dead
def y_.empty:y_:=⟨0,.leaf⟩
def y_.at(h:y_)(i:Nat):Option Gt:=match Nat.blt i h.n with
 |true=>some ((cG i).get hX h.t)
 |false=>none
def D9(h:y_):HL:=(range h.n).map λi=>((cG i).get hX h.t).ho
def iD(h:y_):(D9 h).length=h.n:=by simp[D9]
def nI(h:y_)(i:Nat):(D9 h)[i]?=(h.at i).map Gt.ho:=by
 unfold D9 y_.at;rw[FM];cases e:Nat.blt i h.n with
 |true=>
  simp_all
 |false=>
  have:h.n<=i:=by
   rcases HG i h.n with a|a
   .rw[←HA,e]at a;cases a
   .exact a
  simp_all
def y_.put(h:y_)(i:Nat)(o:Gt):y_:=match Nat.blt i h.n with
 |true=>⟨h.n,(cG i).set hX h.t o⟩
 |false=>h
def y_.push(h:y_)(o:Gt):y_:=⟨h.n+1,(cG h.n).set hX h.t o⟩
def jB(h:y_)(i:Nat)(o:Gt):D9 (h.put i o)=(D9 h).set i o.ho:=by
 apply Ib;intro j;unfold y_.put;cases e:Nat.blt i h.n with
 |true=>
  rw[HA]at e;simp only;rw[nI];by_cases b:i=j
  .subst b;rw[Ia (by rw[iD];exact e)];unfold y_.at;simp only[(HA▸e:Nat.blt i h.n=true)];rw[EH.DH];rfl
  .rw[IA b,nI];unfold y_.at;simp only;rw[EH.Ea _ _ _ _ _ (λh=>b (nl h).symm)]
 |false=>
  simp only;have:h.n<=i:=by
   rcases HG i h.n with a|a
   .rw[←HA,e]at a;cases a
   .exact a
  rw[List.set_eq_of_length_le (by rw[iD];exact this)]
def jS(h:y_)(o:Gt):D9 (h.push o)=D9 h++[o.ho]:=by
 apply Ib;intro j;rw[nI];unfold y_.push y_.at;simp only;by_cases c:j<h.n
 .rw[H3 (by rw[iD];exact c),nI];unfold y_.at;have a:Nat.blt j (h.n+1)=true:=by rw[HA];omega
  have b:Nat.blt j h.n=true:=by rw[HA];omega
  simp only[a,b];rw[EH.Ea _ _ _ _ _ (λh=>by have:=nl h;omega)]
 .rw[Iz (by rw[iD];omega),iD];by_cases d:j=h.n
  .subst d;have a:Nat.blt h.n (h.n+1)=true:=by rw[HA];omega
   simp only[a,SA,qcd];rw[EH.DH];rfl
  .have a:Nat.blt j (h.n+1)=false:=by rw[←Hz,HA];omega
   grind
def bq(c:Tr Value)(n:Nat):(cR c n).length=n:=by simp[cR]
def fK(c:Tr Value){n i:Nat}(h:i<n):(cR c n)[i]?=some ((cG i).get Hq c):=by
 unfold cR
 simp_all
def Hl:Tn->Nat->Tr Value->Tr Value
 | [],_,c=>c
 |v :: l,i,c=>Hl l (i+1) ((cG i).set Hq c v)
def uv:∀(l:Tn) (i:Nat) (c:Tr Value) (j:Nat),(cG j).get Hq (Hl l i c)=if i<=j/\j<i+l.length then l[j - i]?.getD Hq else(cG j).get Hq c
 | [],i,c,j=>by
  have h:¬(i<=j/\j<i+([]:Tn).length):=j_;rw[rv h];rfl
 |v :: l,i,c,j=>by
  show(cG j).get Hq (Hl l (i+1) _)=_;rw[uv l (i+1)];by_cases h:i+1<=j/\j<i+1+l.length
  .grind
  .rw[rv h];by_cases a:j=i
   .subst a;rw[EH.DH,qs c_];simp
   .rw[EH.Ea _ _ _ _ _ (λe=>a (nl e)),rv tt]
def rL{l:Tn}{i n:Nat}{c:Tr Value}(h:i+l.length<=n):cR (Hl l i c) n=(cR c n).take i++l++(cR c n).drop (i+l.length):=by
 apply Ib;intro j;by_cases a:j<n
 .rw[fK _ a,uv];by_cases b:j<i
  .rw[rv a_,FL,H3 (by rw[XP,bq];omega),List.getElem?_take_of_lt b,fK _ a]
  .have d:((cR c n).take i).length=i:=by rw[XP,bq];omega
   by_cases e:j<i+l.length
   .grind
   .rw[rv a_,Iz j_,HY,d,d6,show i+l.length+(j - (i+l.length))=j by omega,fK _ a]
 .rw[Hy (by rw[bq];omega),Hy (by simp[bq];omega)]
def pN{l:Tn}{n:Nat}{c:Tr Value}:cR (Hl l n c) (n+l.length)=cR c n++l:=by
 apply Ib;intro j;by_cases b:j<n+l.length
 .rw[fK _ b,uv];by_cases a:j<n
  .rw[rv a_,H3 (by rw[bq];exact a),fK _ a]
  .rw[qs ⟨a_,b⟩,Iz (by rw[bq];omega),bq,Gm a_];rfl
 .rw[Hy (by rw[bq];omega),Hy (by simp[bq];omega)]
def BS(l:Tn):cR (Hl l 0 .leaf) l.length=l:=by
 have:=pN (l:=l) (n:=0) (c:=.leaf);simpa[cR]using this
def Cx(c:Tr Value)(n:Nat):Nat->Tn:=Nat.rec (motive:=λ_=>Nat->Tn) (λ_=>[]) (λ_ b a=>(cG a).get Hq c :: fN (Nat.succ a) b) n
def mf(c:Tr Value):∀(n off m:Nat),off+n<=m->Cx c n off=((cR c m).drop off).take n
 |0,_,_,_=>by rw[a9];rfl
 |n+1,off,m,h=>by
  show(cG off).get Hq c :: Cx c n (off+1)=_;rw[mf c n (off+1) m a_];have h1:off<(cR c m).length:=by rw[bq];omega
  rw[Pg h1,hy]
  congr 1
  have:=fK c (n:=m) (i:=off) a_
  simp_all
section
variable {R:Type}
def Sy{j7:Type}(d:j7)(p:EH):Tr j7->j7->(Tr j7->R)->R:=
 EH.rec (motive:=λ_=>Tr j7->j7->(Tr j7->R)->R)
  (λt x k=>Tr.casesOn t (k (.node x .leaf .leaf)) λ_ l r=>k (.node x l r))
  (λ_ a t x k=>Tr.casesOn t (a .leaf x λl=>k (.node d l .leaf)) λv l r=>a l x λl=>k (.node v l r))
  (λ_ a t x k=>Tr.casesOn t (a .leaf x λr=>k (.node d .leaf r)) λv l r=>a r x λr=>k (.node v l r)) p
def kZ{j7:Type}(d:j7):∀(p:EH) (t:Tr j7) (x:j7) (k:Tr j7->R),Sy d p t x k=k (p.set d t x)
 | .e,t,x,k=>by cases t<;>rfl
 | .o p,t,x,k=>by
  cases t with
  |leaf=>exact kZ d p .leaf x _
  |node v l r=>exact kZ d p l x _
 | .i p,t,x,k=>by
  cases t with
  |leaf=>exact kZ d p .leaf x _
  |node v l r=>exact kZ d p r x _
def F7(h:y_)(i:Nat)(o:Gt)(k:y_->R):R:=match Nat.blt i h.n with
 |true=>Sy hX (cG i) h.t o λt=>k ⟨h.n,t⟩
 |false=>k h
def oz(h:y_)(o:Gt)(k:y_->R):R:=Sy hX (cG h.n) h.t o λt=>fN (Nat.succ h.n) λn=>k ⟨n,t⟩
def jv(h:y_)(i:Nat)(o:Gt)(k:y_->R):F7 h i o k=k (h.put i o):=by
 unfold F7 y_.put;split
 next e=>rw[kZ]
 .rfl
def jK(h:y_)(o:Gt)(k:y_->R):oz h o k=k (h.push o):=by
 unfold oz y_.push;rw[kZ,fc]
def Bc{j7:Type}(l:List j7):(List j7->R)->R:=
 List.rec (motive:=λ_=>(List j7->R)->R) (λk=>k []) (λx _ a k=>a λl=>k (x :: l)) l
def qO{j7:Type}:∀(l:List j7) (k:List j7->R),Bc l k=k l
 | [],_=>rfl
 |x :: l,k=>qO l λl=>k (x :: l)
def Bd(v:Value)(k:Value->R):R:=match v with
 | .int a n=>fI n λn=>k (.int a n)
 | .bool b=>Bool.rec (k (.bool false)) (k (.bool true)) b
 |v=>k v
def OM(v:TR)(k:TR->R):Bd v k=k v:=by
 unfold Bd;split
 .exact lH _ _
 next b=>cases b<;>rfl
 .rfl
def Km(l:Tn):Nat->Tr Value->(Tr Value->R)->R:=
 List.rec (motive:=λ_=>Nat->Tr Value->(Tr Value->R)->R) (λ_ c k=>k c) (λv _ a i c k=>Bd v λv=>Sy Hq (cG i) c v λc=>fN (Nat.succ i) λi=>a i c k) l
def qw:∀(l:Tn) (i:Nat) (c:Tr Value) (k:Tr Value->R),Km l i c k=k (Hl l i c)
 | [],_,_,_=>rfl
 |v :: l,i,c,k=>by
  show(Bd v λv=>Sy Hq (cG i) c v λc=>fN (Nat.succ i) λi=>Km l i c k)=_;rw[OM,kZ,fc,qw l];rfl
def wC(o:s_)(k:Gt->R):R:=match o with
 | .cells b e rw=>fN b.length λn=>Km b 0 .leaf λc=>k (.t n e rw c)
 | .map a c=>Bc a λa=>fN c λc=>k (.o (.map a c))
 |o=>k (.o o)
def lM{o:s_}{k:Gt->R}:∃x:Gt,x.ho = .o o/\wC o k=k x:=by
 cases o with
 |cells b e rw=>
  refine⟨.t b.length e rw (Hl b 0 .leaf),by simp only[Gt.ho,BS],?_⟩;show(fN b.length λn=>Km b 0 .leaf λc=>k (.t n e rw c))=_;rw[fc,qw]
 |map a c=>
  refine⟨.o (.map a c),rfl,?_⟩;show(Bc a λa=>fN c λc=>k (.o (.map a c)))=_;rw[qO,fc]
 |_=>exact⟨.o _,rfl,rfl⟩
def uO(l:TG):(TG->R)->R:=
 List.rec (motive:=λ_=>(TG->R)->R) (λk=>k []) (λx _ a k=>match x with
  | .i n=>fI n λn=>a λl=>k (.i n :: l)
  | .b t=>Bool.rec (a λl=>k (.b false :: l)) (a λl=>k (.b true :: l)) t
  | .v v=>a λl=>k (.v v :: l)) l
def fQ:∀(l:TG) (k:TG->R),uO l k=k l
 | [],_=>rfl
 | .i n :: l,k=>(lH n λn=>uO l λl=>k (.i n :: l)).trans (fQ l _)
 | .b true :: l,k=>fQ l λl=>k (.b true :: l)
 | .b false :: l,k=>fQ l λl=>k (.b false :: l)
 | .v v :: l,k=>fQ l λl=>k (.v v :: l)
end
end Sx
section
open Sx
abbrev RT:=Option (TG)
abbrev yes:RT:=some []
abbrev gr:=CK->TG->y_->(TG->y_->RT)->RT
def DL.onH(h:HL):DL->HL
 | .set i o=>h.set i (.o o)
 | .push o=>h++[.o o]
def bG(h:HL)(l:List DL):HL:=l.foldl DL.onH h
def s7(T:Tv)(h:HL):cW:=λi=>match h[i]? with
 |some x=>some (F1 T x)
 |none=>none
def Io(T:Tv)(h:y_):cW:=λi=>match h.at i with
 |some x=>some (F1 T x.ho)
 |none=>none
def BM(l:List DL):y_->(y_->RT)->RT:=
 List.rec (motive:=λ_=>y_->(y_->RT)->RT) (λh k=>k h) (λa _ b h k=>match a with
  | .set i o=>wC o λo=>F7 h i o λh=>b h k
  | .push o=>wC o λo=>oz h o λh=>b h k) l
def ez(b:Bool)(x y:RT):RT:=Bool.rec y x b
def Jr(k:TK)(c:Int)(K:Int->RT):RT:=Bool.rec (fI (k.wrap c) K) (K c) (Uu k c)
def Zu(c:Int)(K:Int->RT):RT:=@Bool.rec (λ_=>RT) (fI (IntKind.wrap .i64 c) K) (K c) (@Int.rec (λ_=>Bool) (λn=>Nat.ble n 9223372036854775807) (λn=>Nat.ble n 9223372036854775807) c)
def Zv(c:Int)(K:Int->RT):RT:=@Bool.rec (λ_=>RT) (fI (IntKind.wrap .u8 c) K) (K c) (@Int.rec (λ_=>Bool) (λn=>Nat.ble n 255) (λ_=>false) c)
def HX(k:TK)(c:Int)(K:Int->RT):RT:=@IntKind.rec (λ_=>RT) (Jr .i8 c K) (Jr .i16 c K) (Jr .i32 c K) (Zu c K) (Zv c K) (Jr .u16 c K) (Jr .u32 c K) (Jr .u64 c K) k
def Db(a b:Int)(K:Int->RT):RT:=
 Int.rec (λm=>Int.rec (λn=>fN (Nat.add m n) λc=>K (.ofNat c)) (λn=>Bool.rec (fN (Nat.sub n m) λc=>K (.negSucc c)) (fN (Nat.sub m (Nat.succ n)) λc=>K (.ofNat c)) (Nat.blt n m)) b)
  (λm=>Int.rec (λn=>Bool.rec (fN (Nat.sub m n) λc=>K (.negSucc c)) (fN (Nat.sub n (Nat.succ m)) λc=>K (.ofNat c)) (Nat.blt m n)) (λn=>fN (Nat.succ (Nat.add m n)) λc=>K (.negSucc c)) b) a
def v6(a b:Int)(K:Int->RT):RT:=
 Int.rec (λm=>Int.rec (λn=>Bool.rec (fN (Nat.sub n (Nat.succ m)) λc=>K (.negSucc c)) (fN (Nat.sub m n) λc=>K (.ofNat c)) (Nat.ble n m)) (λn=>fN (Nat.succ (Nat.add m n)) λc=>K (.ofNat c)) b)
  (λm=>Int.rec (λn=>fN (Nat.add m n) λc=>K (.negSucc c)) (λn=>Bool.rec (fN (Nat.sub m (Nat.succ n)) λc=>K (.negSucc c)) (fN (Nat.sub n m) λc=>K (.ofNat c)) (Nat.ble m n)) b) a
def m6(a b:Int)(K:Int->RT):RT:=
 Int.rec (λm=>Int.rec (λn=>fN (Nat.mul m n) λc=>K (.ofNat c)) (λn=>Nat.rec (K (.ofNat 0)) (λd _=>fN (Nat.add (Nat.mul m n) d) λc=>K (.negSucc c)) m) b)
  (λm=>Int.rec (λn=>Nat.rec (K (.ofNat 0)) (λe _=>fN (Nat.add (Nat.mul m n) e) λc=>K (.negSucc c)) n) (λn=>fN (Nat.mul (Nat.succ m) (Nat.succ n)) λc=>K (.ofNat c)) b) a
def gC(a b:Int)(K:Int->RT):RT:=
 Int.rec (λm=>Int.rec (λn=>fN (Nat.div m n) λc=>K (.ofNat c)) (λ_=>fI (Int.tdiv a b) K) b) (λ_=>fI (Int.tdiv a b) K) a
def fb(a b:Int)(K:Int->RT):RT:=
 Int.rec (λm=>Int.rec (λn=>fN (Nat.mod m n) λc=>K (.ofNat c)) (λ_=>fI (Int.tmod a b) K) b) (λ_=>fI (Int.tmod a b) K) a
def z2(b:Int):Bool:=Int.rec (λn=>Nat.beq n 0) (λ_=>false) b
def Df(d:BinOp)(k:TK)(a b:Int)(K:Int->RT):RT:=
 match d with
 | .add=>Db a b λc=>HX k c K
 | .sub=>v6 a b λc=>HX k c K
 | .mul=>m6 a b λc=>HX k c K
 | .quo=>Bool.rec (gC a b λc=>HX k c K) none (z2 b)
 | .rem=>Bool.rec (fb a b K) none (z2 b)
 | .and=>match eqI b 1 with
  |true=>fI (Int.emod a 2) K
  |false=>match a,b with
   | .ofNat m,.ofNat n=>fI (.ofNat (Nat.land m n)) λc=>HX k c K
   |_,_=>none
 | .xor=>match a,b with
  | .ofNat m,.ofNat n=>fI (.ofNat (Nat.xor m n)) λc=>HX k c K
  |_,_=>none
 | .or=>match a,b with
  | .ofNat m,.ofNat n=>fI (.ofNat (Nat.lor m n)) λc=>HX k c K
  |_,_=>none
 |_=>none
def QD(a b:Int):Bool:=Int.rec (λm=>Int.rec (λn=>Nat.beq m n) (λ_=>false) b) (λm=>Int.rec (λ_=>false) (λn=>Nat.beq m n) b) a
def RN(b:Bool):Bool:=Bool.rec true false b
def Q'(c:BinOp)(a b:Int)(K:Bool->RT):RT:=
 match c with
 | .eql=>K (QD a b)
 | .neq=>K (RN (QD a b))
 | .lss=>K (RN (WF b a))
 | .leq=>K (WF a b)
 | .gtr=>K (RN (WF a b))
 | .geq=>K (WF b a)
 |_=>none
def eqBK(a b:Bool):Bool:=Bool.rec (RN b) b a
def Kj(x y:Lf):Bool:=Lf.rec (λa=>Lf.rec (λb=>QD a b) (λ_=>false) (λ_=>false) y) (λa=>Lf.rec (λ_=>false) (λb=>eqBK a b) (λ_=>false) y) (λ_=>false) x
def m4(l:List (Lf×Lf)):Bool:=List.rec true (λp _ a=>Bool.rec false a (Kj p.1 p.2)) l
def eu(l:List (Lf×Lf))(K:Bool->RT):RT:=K (m4 l)
def eE(k:TK)(a:Int)(K:Int->RT):RT:=HX k a K
def selB(t:Bool)(a b:Int)(K:Int->RT):RT:=Bool.rec (K b) (K a) t
def optB{j7:Type}(o:Option j7)(K:j7->RT):RT:=Option.rec none K o
def unIB(ls:TG)(K:Int->TG->RT):RT:=List.rec none (λx r _=>Lf.rec (λn=>K n r) (λ_=>none) (λ_=>none) x) ls
def unBB(ls:TG)(K:Bool->TG->RT):RT:=List.rec none (λx r _=>Lf.rec (λ_=>none) (λn=>K n r) (λ_=>none) x) ls
def unVB(ls:TG)(K:Value->TG->RT):RT:=List.rec none (λx r _=>Lf.rec (λ_=>none) (λ_=>none) (λn=>K n r) x) ls
def un0B(ls:TG)(K:RT):RT:=List.rec K (λ_ _ _=>none) ls
def ucIB(k:TK)(ls:Tn)(K:Int->Tn->RT):RT:=match ls with | .int k' n :: r=>(match df k k' with|true=>K n r|false=>none)|_=>none
def ucBB(ls:Tn)(K:Bool->Tn->RT):RT:=match ls with | .bool n :: r=>K n r|_=>none
def ucVB(ls:Tn)(K:Value->Tn->RT):RT:=match ls with|n :: r=>K n r|_=>none
def uc0B(ls:Tn)(K:RT):RT:=match ls with | []=>K|_=>none
def TZ(s:Ts):Bool:=match s with
 |none=>true
 |some k=>match k with
  |0=>false
  |_=>true
def Jh(v:Value):Bool:=match v with
 | .pointer (some a)=>TZ a.spot
 | .slice (some a) _ _=>TZ a.spot
 |v=>aI v
def j4(v:Value)(K:RT):RT:=match Jh v with|true=>K|false=>none
def WG{j7:Type}(l:List j7):Nat:=List.rec 0 (λ_ _ n=>Nat.succ n) l
def ldB(n:Nat)(p:Value)(h:y_)(K:Tn->RT):RT:=match p with
 | .pointer (some a)=>match a.spot with
  |none=>match h.at a.block with
   |some (.t m _ _ c)=>match Nat.ble (Nat.add a.off n) m with
    |true=>K (Cx c n a.off)
    |false=>none
   |_=>none
  |some _=>none
 |_=>none
def lgB(C:m8)(n:Nat)(p:Value)(h:y_)(K:Tn->RT):RT:=match p with
 | .pointer (some a)=>match a.spot with
  |none=>match h.at a.block with
   |some (.t m _ _ c)=>match Nat.ble (Nat.add a.off n) m with
    |true=>K (Cx c n a.off)
    |false=>none
   |_=>none
  |some k=>match Nat.beq k 1 with
   |true=>match C.G a.block with
    |some d=>match NX d a.off n with
     |some b=>K b
     |none=>none
    |none=>none
   |false=>none
 |_=>none
def Sb(T:Tv)(f:Pk)(h:y_)(K:Tn->RT):RT:=match f with
 | .ld n p=>ldB n p h K
 | .lg C n p=>lgB C n p h K
 | .fn f=>match f (Io T h)with|some x=>K x|none=>none
def stB(p:Value)(new:Tn)(h:y_)(K:Tn->y_->RT):RT:=match p with
 | .pointer (some a)=>match a.spot with
  |none=>match h.at a.block with
   |some (.t m e true c)=>match Nat.ble (Nat.add a.off (WG new)) m with
    |true=>Km new a.off c λc=>F7 h a.block (.t m e true c) λh=>K [] h
    |false=>none
   |_=>none
  |some _=>none
 |_=>none
def Ym(s:Ts)(ra:Nat):Bool:=match s with
 |none=>false
 |some k=>Nat.beq k (Nat.add ra 10)
def slB(C:m8)(T:Tv)(ra:Nat)(x:Value)(h:y_)(K:Tn->Nat->RT):RT:=match x with
 | .slice (some a) b _=>match Ym a.spot ra with
  |true=>match h.at a.block with
   |some (.t m e _ c)=>match Nat.beq e ra,Nat.ble (Nat.add a.off (Nat.mul b ra)) m with
    |true,true=>K (Cx c (Nat.mul b ra) a.off) b
    |_,_=>none
   |_=>none
  |false=>match M_ C ra (Io T h) x with
   |some p=>K p.1 p.2
   |none=>none
 |x=>match M_ C ra (Io T h) x with
  |some p=>K p.1 p.2
  |none=>none
def LX(c:Tr Value)(m off w ra:Nat)(new:Tn)(k:Gt->RT):RT:=match Nat.beq off 0,Nat.beq w m with
 |true,true=>Km new m c λc=>fN (Nat.add m (WG new)) λm=>k (.t m ra true c)
 |_,_=>wC (.cells (Cx c w off++new) ra true) k
def apB(T:Tv)(C:m8)(ra bytes:Nat)(s x:Value)(h:y_)(K:Tn->y_->RT):RT:=
 slB C T ra x h λd n=>match s with
  | .slice none 0 0=>match n with
   |0=>K [.slice none 0 0] h
   |n+1=>match bc (n+1) bytes with
    |true=>wC (.cells d ra true) λo=>oz h o λf=>fN (n+1) λn=>K [.slice (some ⟨h.n,0,le ra⟩) n 0] f
    |false=>none
  | .slice (some a) b i=>match Ym a.spot ra with
   |false=>none
   |true=>match h.at a.block with
    |some (.t m e rw c)=>match Nat.beq e ra,Nat.ble (Nat.add a.off (Nat.mul b ra)) m with
     |true,true=>match i with
      |0=>match n with
       |0=>K [.slice (some a) b 0] h
       |n+1=>match rw,bc (b+(n+1)) bytes with
        |true,true=>LX c m a.off (Nat.mul b ra) ra d λo=>F7 h a.block (.o .dead) λf=>oz f o λg=>fN (b+(n+1)) λl=>K [.slice (some ⟨h.n,0,le ra⟩) l 0] g
        |_,_=>none
      |cap+1=>match Nat.ble (b+n) cap with
       |true=>match rw,Nat.ble (Nat.add (Nat.add a.off (Nat.mul b ra)) (WG d)) m with
        |true,true=>Km d (Nat.add a.off (Nat.mul b ra)) c λc=>F7 h a.block (.t m e true c) λf=>fN (b+n) λl=>K [.slice (some a) l (cap+1)] f
        |_,_=>none
       |false=>match bc (b+n) bytes with
        |true=>LX c m a.off (Nat.mul b ra) ra d λo=>oz h o λf=>fN (b+n) λl=>K [.slice (some ⟨h.n,0,le ra⟩) l 0] f
        |false=>none
     |_,_=>none
    |_=>none
  |_=>none
def LZ(T:Tv)(f:Hp)(h:y_)(K:Tn->y_->RT):RT:=match f with
 | .st p b=>stB p b h K
 | .ap C a bytes s x=>apB T C a bytes s x h K
 | .fn f=>match f (Io T h) h.n with|some p=>Bc p.2 λc=>BM p.1 h λh=>K c h|none=>none
def zl(o:s_)(h:y_)(K:Nat->y_->RT):RT:=wC o λo=>oz h o λa=>K h.n a
def O9(k:LK)(v:Value):Option SL:=
 match k with
 | .i k=>match v with
  | .int a n=>match df a k with
   |true=>some (.i a n)
   |false=>none
  |_=>none
 | .b=>match v with
  | .bool t=>some (.b t)
  |_=>none
 | .v=>match aI v with
  |true=>some (.v v)
  |false=>none
def Nr:TJ->Tn->Option (List SL)
 | [],[]=>some []
 |k :: ks,v :: vs=>match O9 k v with
  |some x=>match Nr ks vs with
   |some xs=>some (x :: xs)
   |none=>none
  |none=>none
 |_,_=>none
def y2(c:SK)(v:Value):Option S0:=
 match c with
 | .leaf k=>(O9 k v).map .leaf
 | .agg b=>match v with
  | .agg a=>(Nr b a.toList).map .agg
  |_=>none
def JH:TN->Tn->Option (List S0)
 | [],[]=>some []
 |k :: ks,v :: vs=>match y2 k v with
  |some x=>match JH ks vs with
   |some xs=>some (x :: xs)
   |none=>none
  |none=>none
 |_,_=>none
def V8:LK->LK->Bool
 | .i a,.i b=>df a b
 | .b,.b=>true
 | .v,.v=>true
 |_,_=>false
def LC:TJ->TJ->Bool
 | [],[]=>true
 |a :: l,b :: m=>V8 a b&&LC l m
 |_,_=>false
def pD:SK->SK->Bool
 | .leaf a,.leaf b=>V8 a b
 | .agg a,.agg b=>LC a b
 |_,_=>false
def Jd:TN->TN->Bool
 | [],[]=>true
 |a :: l,b :: m=>pD a b&&Jd l m
 |_,_=>false
def kj(ls:TG):Bool:=List.rec true (λl _ a=>match l with
 | .v x=>(match Jh x with
  |true=>a
  |false=>false)
 |_=>a) ls
section
variable (Sg:Td) (T:Tv) (call:gr)
def Lp(g:TQ)(ls:TG)(h:y_)(K:TG->y_->RT):RT:=match kj ls with|true=>call (.f g) ls h K|false=>none
def oG(g:TQ)(b:Option (TN))(a:Tn)(h:y_)(K:TG->y_->RT):RT:=
 match Sg g with
 |none=>none
 |some c=>match (match b with|none=>true|some b=>Jd c.rs b)with
  |false=>none
  |true=>match JH c.ps a with
   |none=>none
   |some d=>Lp call g (cV d) h K
def J4(v:Value)(args:Tn)(c:TN)(h:y_)(K:TG->y_->RT):RT:=
 match v with
 | .func f first a=>match f with
  | .func g=>oG Sg call g (some c) (first.toList++args++a.toList) h K
  | .yield l=>match first.toList,a.toList with
   | [],[]=>match h.at l with
    |some (.lp d _ _ i)=>match Jd [.leaf .b] c with
     |false=>none
     |true=>match JH ((T d).params.map (·.2)) args with
      |none=>none
      |some e=>match kj (cV e)with
       |true=>call (.y d i l) (cV e) h K
       |false=>none
    |_=>none
   |_,_=>none
  |_=>none
 |_=>none
def SP(k:Nat)(v:Value)(a:Tn)(h:y_)(K:Tm->y_->RT):RT:=
 match v with
 | .func f first b=>match f with
  | .func g=>oz h (.lp k .ready none a) λi=>oG Sg call g none (first.toList++[.func (.yield h.n) #[] #[]]++b.toList) i λ_ c=>match c.at h.n with
   |some (.lp e l d m)=>match l with
    | .busy=>none
    |_=>F7 c h.n (.lp e .exhausted d m) λj=>K d j
   |_=>none
  |_=>none
 |_=>none
def b4(e:Tm)(b d:RT)(ks:List (Nat×RT)):RT:=
 match e with
 |none=>b
 |some c=>match c with
  | .ret=>d
  | .exit id=>List.rec none (λp _ a=>match Nat.beq p.1 id with|true=>p.2|false=>a) ks
  |_=>none
def n3(l:Nat)(h:y_)(K:y_->RT):RT:=
 match h.at l with
 |some (.lp a c b d)=>match c with
  | .ready=>F7 h l (.lp a .busy b d) K
  |_=>none
 |_=>none
def t1(l:Nat)(j:Tm)(h:y_)(K:y_->RT):RT:=
 match h.at l with
 |some (.lp a _ _ b)=>match j with
  |none=>F7 h l (.lp a .ready none b) K
  |some c=>F7 h l (.lp a .done (some c) b) K
 |_=>none
end
def cm(F:(TG->y_->RT)->TG->y_->RT)(ls:TG)(h:y_):RT:=
 Nat.rec (motive:=λ_=>TG->y_->RT) (λ_ _=>none) (λ_ a ls h=>F a ls h) 1000000 ls h
def jj(b:TG->y_->RT)(m:(TG->y_->RT)->RT):RT:=m b
def S_(c:BinOp)(k:TK)(a:Int)(_:TK)(b:Int)(K:Int->RT):RT:=match WF 0 b with
 |true=>match c with
  | .shl=>fI (k.wrap (a*2 ^ min b.toNat k.bits)) K
  | .shr=>fI (a.fdiv (2 ^ min b.toNat k.bits)) K
  |_=>none
 |false=>none
def BA(Sg:Td)(T:Tv)(call:gr):Dv RT y_ where
 fail:=none
 cond:=ez
 x6:=Df
 HB:=S_
 cmp:=Q'
 eqs:=eu
 conv:=eE
 HH:=selB
 jw:=optB
 n4:=j4
 po:=unIB
 Fu:=unBB
 DK:=unVB
 A1:=un0B
 td:=ucIB
 E7:=ucBB
 DF:=ucVB
 tf:=uc0B
 ma:=Sb T
 heap:=LZ T
 new:=zl
 call:=Lp call
 Dw:=J4 Sg T call
 join:=jj
 loop:=cm
 Ft:=SP Sg call
 Fg:=b4
 JW:=n3
 HU:=t1
end
namespace Sx
section
variable [DB] [En]
def U3(b_:TC)(tm:Tn)(o:Oper):TC:=(Un b_ o).flatMap λx=>El (jn tm x)
def z3(b_:TC)(tm:Tn)(o:Oper):TC:=(dw b_ o).1.flatMap λx=>C' (dw b_ o).2 (jn tm x)
def Jb(b_:TC)(tm:Tn)(o:Oper):Prop:=∀d,o.dst=some d->E3 b_ o=2->∃v,tm[d]?=some v
def K_(b_:TC)(ops:To)(tm:Tn)(c:List (Nat×Nat)):Prop:=
 ∀p∈c,∃a b,ops[p.1]?=some a/\ops[p.2]?=some b/\(∀x∈U3 b_ tm a,x∉z3 b_ tm b)/\(∀x∈U3 b_ tm a,x∉U3 b_ tm b)/\(∀x∈U3 b_ tm b,x∉z3 b_ tm a)/\Jb b_ tm a/\Jb b_ tm b
def Ii(ops:To)(k:Nat)(g9 a:St):Prop:=∃o d x,ops[k]?=some o/\o.dst=some d/\g9.tmps[d]?=some x/\a.tmps[d]?=some x
def GL(C:m8)(B:Below)(b_:TC)(ops:To):TC->St->List (Tu)->St->Prop
 | [],g9,b,c=>b=[]/\c=g9
 |i :: l,g9,b,c=>∃j9 a,aq C B b_ ops i g9 j9/\b=j9.heap :: a/\GL C B b_ ops l j9 a c
def F_(C:m8)(B:Below)(b_:TC)(ops:To)(g9:St)(c:List (Tu))(a:St)(l:List (Nat×Nat)):Prop:=
 ∀p∈l,∃b,aq C B b_ ops p.1 { a with heap:=atM g9.heap c p } b/\Ii ops p.1 a b
def Pr(C:m8)(e:Dr):Prop:=∀b_ ops b,e b_ ops=some b->match GD b with
 |some l=>∀(n:Nat) (g9 a:St) (c:List (Tu)),GL C (sm C n).toBelow b_ ops (range ops.size) g9 c a->F_ C (sm C n).toBelow b_ ops g9 c a l->eW C (sm C n).toBelow b_ ops g9 a
 |none=>match HC b with
 |none=>∀(n:Nat) (g9 a:St),br C (sm C n).toBelow b_ ops (range ops.size) g9 a->K_ b_ ops a.tmps b->eW C (sm C n).toBelow b_ ops g9 a
 |some p=>∀(n:Nat) (g9 j9 d a:St),br C (sm C n).toBelow b_ ops (List.range' 0 (ops.toList.take (p.2+1)).length) g9 j9->aq C (sm C n).toBelow b_ ops p.1 j9 d->Ii ops p.1 j9 d->
   br C (sm C n).toBelow b_ ops (List.range' (p.2+1) (ops.toList.drop (p.2+1)).length) j9 a->eW C (sm C n).toBelow b_ ops g9 a
def Jq{C:m8}{b_:TC}{ops:To}:∀ {l:TC} {g9 d:St} {c:List (Tu)},GL C (uB C) b_ ops l g9 c d->∃n,∀m,n<=m->GL C (sm C m).toBelow b_ ops l g9 c d
 | [],_,_,_,h=>⟨0,λ_ _=>h⟩
 |_ :: _,_,_,_,⟨j9,b,h1,e,a⟩=>by
  obtain⟨n,h1⟩:=jQ h1;obtain⟨m,a⟩:=Jq a;exact⟨max n m,λk f=>⟨j9,b,dh (jX a_).call (jX a_).yield h1,e,a k a_⟩⟩
def again_at{C:m8}{b_:TC}{ops:To}{g9:St}{a:List (Tu)}{b:St}:∀ {l:List (Nat×Nat)},F_ C (uB C) b_ ops g9 a b l->∃n,∀m,n<=m->F_ C (sm C m).toBelow b_ ops g9 a b l
 | [],_=>⟨0,λ_ _ p hp=>(by cases hp)⟩
 |q :: l,h=>by
  obtain⟨e,h1,c⟩:=h q c_;obtain⟨n,h1⟩:=jQ h1;obtain⟨m,d⟩:=again_at (l:=l) λp hp=>h p (FZ _ hp);refine⟨max n m,λk f p hp=>?_⟩;rcases EL.1 hp with rfl|hp
  .exact⟨e,dh (jX a_).call (jX a_).yield h1,c⟩
  .exact d k a_ p hp
def LD:∀ {x y:Ts},kE x y=true->x=y
 |none,none,_=>rfl
 |some a,some b,h=>by rw[Ey h]
 |none,some _,h=>by cases h
 |some _,none,h=>by cases h
def Lx:∀ {x y:Option Addr},Kh x y=true->x=y
 |none,none,_=>rfl
 |some a,some b,h=>by
  simp only[Kh]at h;split at h
  next h1 c=>
   cases a;cases b;simp only at h1 c h;rw[Ey h1,Ey c,LD h]
  .cases h
 |none,some _,h=>by cases h
 |some _,none,h=>by cases h
def V':∀ {x y:Int},dC x y=true->x=y
 | .ofNat a,.ofNat b,h=>by rw[Ey h]
 | .negSucc a,.negSucc b,h=>by rw[Ey h]
 | .ofNat _,.negSucc _,h=>by cases h
 | .negSucc _,.ofNat _,h=>by cases h
def V7{x y:Int}{u:Unit}(h:lD x y=some u):x=y:=by
 unfold lD at h;split at h
 next e=>exact V' e
 .cases h
def V6{x y:Bool}{u:Unit}(h:eg x y=some u):x=y:=by
 cases x<;>cases y<;>first|rfl|cases h
def AD{x:Nat}:∀ {l:TC},Iu x l=true↔x∈l
 | []=>by simp[Iu]
 |y :: l=>by
  unfold Iu;cases h:Nat.beq x y with
  |true=>simp_all
  |false=>
   have:x≠y:=λe=>j_;simp only[EL,this,false_or];exact AD
def zQ:∀ {l m:TC},DG l m=true->∀x∈l,x∉m
 | [],_,_,_,h=>by cases h
 |y :: l,m,h,x,b=>by
  unfold DG at h;cases a:Iu y m with
  |true=>rw[a]at h;cases h
  |false=>
   rw[a]at h;rcases EL.1 b with rfl|b
   .intro e;rw[AD.2 e]at a;cases a
   .exact zQ h x b
def M3:∀ {l:List (Value×Nat×Value)} {u:Unit},Ew l=some u->∀p∈l,∀r∈El p.1,r∉C' p.2.1 p.2.2
 | [],_,_,_,h=>by cases h
 |q :: l,u,h,p,hp=>by
  unfold Ew at h;split at h
  next a=>
   rcases EL.1 hp with rfl|hp
   .exact zQ a
   .exact M3 h p hp
  .cases h
def V4{a:Env}{g9:St}(d:Rp a g9){x:TL}{us:Tn}(h:eD (km a x)=some us)(k r:Nat)(b:r∈C' k (jn g9.tmps x)):∃u∈us,r∈C' k u:=by
 have c:km a x≠.no:=λe=>by rw[e]at h;cases h
 have f:=(d.km rfl c).1;rw[f]at b;generalize km a x=s at *;have none:C' k s.val=[]->∃u∈us,r∈C' k u:=λe=>by rw[e]at b;cases b
 cases s with
 |st y=>
  cases y with
  |leaf l=>
   cases l with
   |v u=>
    cases h;exact⟨u,c_,b⟩
   |_=>exact none (by cases k with|zero=>rfl|succ k=>cases k<;>rfl)
  |agg g=>exact none (by cases k with|zero=>rfl|succ k=>cases k<;>rfl)
 |no=>exact absurd rfl c
 |_=>exact none (by cases k with|zero=>rfl|succ k=>cases k<;>rfl)
def ig{c:Env}{g9:St}(d:Rp c g9):∀ {l:List Operand} {us:Tn},tQ c l=some us->∀(k r:Nat),r∈l.flatMap (λx=>C' k (jn g9.tmps x))->∃u∈us,r∈C' k u
 | [],_,_,_,_,h=>by cases h
 |x :: l,us,h,k,r,hr=>by
  unfold tQ at h;split at h
  next a b f g=>
   cases h;rw[UY,Fs]at hr;rcases hr with hr|hr
   .obtain⟨u,h1,e⟩:=V4 d f k r hr
    grind
   .obtain⟨u,h1,e⟩:=ig d g k r hr
    grind
  .cases h
def pZ{c:Env}{g9:St}(g:Rp c g9){d:Nat}:∀ {l:List Operand} {us:Tn},tQ c l=some us->Operand.tmp d∈l->∃v,g9.tmps[d]?=some v
 |x :: l,us,h,f=>by
  unfold tQ at h;split at h
  next a b i j=>
   rcases EL.1 f with rfl|f
   .have k:km c (.tmp d)≠.no:=λe=>by rw[e]at i;cases i
    exact⟨_,(g.at (s:=c.tm.getD d .no) rfl k).1⟩
   .exact pZ g j f
  .cases h
def vw{b_:TC}{o:Oper}{d:Nat}(a:o.dst=some d)(h:E3 b_ o=2):Operand.tmp d∈Un b_ o:=by
 unfold Un;rw[h,a];simp
def pR{us vs:Tn}{k:Nat}{u v:TR}(a:u∈us)(b:v∈vs):(u,k,v)∈I' us k vs:=by
 unfold I'
 simp_all
def OV{b_:TC}{t:Env}{g9:St}(c:Rp t g9){a b:Oper}{l:List (Value×Nat×Value)}(h:KR b_ t a b=some l)(s:∀p∈l,∀r∈El p.1,r∉C' p.2.1 p.2.2) :
  (∀x∈U3 b_ g9.tmps a,x∉z3 b_ g9.tmps b)/\(∀x∈U3 b_ g9.tmps a,x∉U3 b_ g9.tmps b)/\(∀x∈U3 b_ g9.tmps b,x∉z3 b_ g9.tmps a)/\Jb b_ g9.tmps a/\Jb b_ g9.tmps b:=by
 unfold KR at h;split at h
 next B C z A m n w y=>
  cases h;refine⟨λx e f=>?_,λx e f=>?_,λx e f=>?_,λd q o=>pZ c m (vw q o),λd q o=>pZ c n (vw q o)⟩
  .obtain⟨u,g,i⟩:=ig c m 0 x e;obtain⟨v,j,k⟩:=ig c y _ x f;exact s (u,_,v) (KF _ (KF _ (pR g j))) x i k
  .obtain⟨u,g,i⟩:=ig c m 0 x e;obtain⟨v,j,k⟩:=ig c n 0 x f;exact s (u,0,v) (KF _ (UX _ (pR g j))) x i k
  .obtain⟨u,g,i⟩:=ig c n 0 x e;obtain⟨v,j,k⟩:=ig c w _ x f;exact s (u,_,v) (UX _ (pR g j)) x i k
 .cases h
def sP{b_:TC}{ops:To}{d:Env}{g9:St}(e:Rp d g9):∀ {c:List (Nat×Nat)} {l:List (Value×Nat×Value)},vg b_ ops d c=some l->(∀p∈l,∀r∈El p.1,r∉C' p.2.1 p.2.2)->K_ b_ ops g9.tmps c
 | [],_,_,_,_,h=>by cases h
 |q :: c,l,h,f,p,hp=>by
  unfold vg at h;split at h
  next a b r g i j=>
   obtain⟨x,k,rfl⟩:=EC.1 h;rcases EL.1 hp with rfl|hp
   .exact⟨a,b,g,i,OV e k λp hp=>f p (KF _ hp)⟩
   .exact sP e j (λp hp=>f p (UX _ hp)) p hp
  .cases h
def Lz{x y:TR}{u:Unit}(h:Ki x y=some u):x=y:=by
 unfold Ki at h;split at h
 .split at h
  .split at h
   .simp_all
   .cases h
  .cases h
 .cases h
def Wb{x y:TR}{u:Unit}(h:QC x y=some u):x=y:=by
 unfold QC at h;split at h
 .split at h
  .split at h
   next e=>rw[Lx e]
   .cases h
  .cases h
 .split at h
  .split at h
   next a b e3=>rw[Lx a,Ey b,Ey e3]
   .cases h
  .cases h
 .split at h
  .split at h
   next e=>rw[LD e]
   .cases h
  .cases h
 .exact Lz h
section
variable {R HT:Type} {A:Dv R HT} {C:m8} {Sg:Td} {T:Tv} {holds:R->Prop} {abs:HT->Tu}
def MZ(hA:pL A C Sg T holds abs){x y:SL}{K:R}(h:holds (SY A x y K)):x.val=y.val/\holds K:=by
 unfold SY at h;split at h
 .split at h
  .split at h
   next e=>
    obtain⟨u,a,b⟩:=hA.jw _ _ h;rw[V7 a,dX e];exact⟨rfl,b⟩
   .exact absurd h hA.fail
  .exact absurd h hA.fail
 .split at h
  .obtain⟨u,a,b⟩:=hA.jw _ _ h;rw[V6 a];exact⟨rfl,b⟩
  .exact absurd h hA.fail
 .split at h
  .obtain⟨u,a,b⟩:=hA.jw _ _ h;rw[Wb a];exact⟨rfl,b⟩
  .exact absurd h hA.fail
 .exact absurd h hA.fail
def Bp(hA:pL A C Sg T holds abs):∀ {x y:List SL} {K:R},holds (M0 A x y K)->x.map SL.val=y.map SL.val/\holds K
 | [],[],_,h=>⟨rfl,h⟩
 |a :: l,b :: m,K,h=>by
  obtain⟨h1,c⟩:=MZ hA (show holds (SY A a b (M0 A l m K))from h);obtain⟨d,e⟩:=Bp hA c
  simp_all
 | [],_ :: _,_,h=>absurd h hA.fail
 |_ :: _,[],_,h=>absurd h hA.fail
def samS_ok(hA:pL A C Sg T holds abs){j a:Env}{g9 f:St}(m:Rp j g9)(k:Rp a f){d:Nat}{K:R}(h:holds (samS A (j.tm.getD d .no) (a.tm.getD d .no) K)):(∃x,g9.tmps[d]?=some x/\f.tmps[d]?=some x)/\holds K:=by
 have l:∀ {x y:S0},j.tm.getD d .no = .st x->a.tm.getD d .no = .st y->x.val=y.val->∃z,g9.tmps[d]?=some z/\f.tmps[d]?=some z:=λb c e=>
  ⟨_,(m.at b c_).1,(show f.tmps[d]?=_ from(k.at c c_).1.trans (by show some _=some _;rw[show SV.val (.st _)=S0.val _ from rfl,←e];rfl))⟩
 unfold samS at h;split at h
 next g=>
  split at h
  next i=>
   obtain⟨b,c⟩:=MZ hA h;exact⟨l g i b,c⟩
  .exact absurd h hA.fail
 next g=>
  split at h
  next i=>
   obtain⟨b,c⟩:=Bp hA h;exact⟨l g i (by simp only[S0.val,b]),c⟩
  .exact absurd h hA.fail
 .exact absurd h hA.fail
end
def Lw{a:Env}{g9:St}(b:Rp a g9){d:Nat}{x:TR}(h:V3 (a.tm.getD d .no)=some x):g9.tmps[d]?=some x:=by
 unfold V3 at h;split at h
 next y c=>
  cases h;exact(b.at c c_).1
 .cases h
def sepK_ok{R b:Type}{A:Dv R b}{C:m8}{Sg:Td}{T:Tv}{holds:R->Prop}{abs:b->Tu}(hA:pL A C Sg T holds abs){b_:TC}{ops:To}{e:List (Nat×Nat)}{d:KN R b}{c:Env}{g9:St}(i:Rp c g9){h:b}(a:holds (sepK A b_ ops e d c h)) :
  K_ b_ ops g9.tmps e/\holds (d c h):=by
 unfold sepK at a;split at a
 .exact⟨λp k=>(by cases k),a⟩
 .simp only at a;split at a
  next l j=>
   obtain⟨u,f,g⟩:=hA.jw _ _ a;exact⟨sP i j (M3 f),g⟩
  .exact absurd a hA.fail
end
end Sx
section
variable [DB] [En] {R HT:Type} {A:Dv R HT} {X:DQ} {Sg:Td} {holds:R->Prop} {abs:HT->Tu}
variable {ev:Env} {g9:St} {h:HT} {o:Oper} {K:KN R HT}
def Pz(C:m8)(b_:TC)(o:Oper)(g9 a:St):Prop:=
 (∃e,au C b_ (jn g9.tmps) o=some e/\nP (uB C) e o.dst g9 a)∨(∃v,oh C g9.tmps o v/\a=g9.put o.dst v)
def wT(b_:TC)(o:Oper):Ts:=
 match o.op,o.dst with
 | .box ..,some d=>if b_.getD d 0=d+2 then some d else none
 | .alloc _,some d=>if b_.getD d 0=d+2 then some d else none
 |_,_=>none
def DT(X:DQ)(holds:R->Prop)(abs:HT->Tu)(o:Oper)(g9:St)(K:KN R HT):Prop:=
 ∃b a h',Pz X.C X.b_ o g9 b/\Rp a b/\abs h'=b.heap/\Fr o.dst.toList (wT X.b_ o).toList (kW X.b_ o).toList g9 b/\holds (K a h')
def zi(c:Rp ev g9){dst:Tq}{s:SV}(e:s.gd)(b:holds (my dst s ev h K)):∃a,Rp a (g9.put dst s.val)/\holds (K a h):=by
 unfold my at b;cases dst with
 |none=>exact⟨ev,c,b⟩
 |some d=>
  simp only[fq]at b;exact⟨_,c.put d e,b⟩
def dU(e:Rp ev g9)(H':Tu)(f:abs h=H'){s:SV}(i:s.gd)
  (b:Pz X.C X.b_ o g9 (({ g9 with heap:=H' }:St).put o.dst s.val)) (g:holds (my o.dst s ev h K)):DT X holds abs o g9 K:=by
 obtain⟨a,c,d⟩:=zi (e.heap H') i g;refine⟨_,a,h,b,c,?_,?_,d⟩
 .rw[f];cases o.dst<;>rfl
 .have:=Fr.put (g9:=({ g9 with heap:=H' }:St)) o.dst s.val (wT X.b_ o).toList (kW X.b_ o).toList;exact⟨this.JG,this.Fp,this.tm,this.tp,this.row,this.OR⟩
def aC(a:Rp ev g9)(b:abs h=g9.heap){s:SV}(e:s.gd)(c:au X.C X.b_ (jn g9.tmps) o=some (.val s.val))(d:holds (my o.dst s ev h K)) :
  DT X holds abs o g9 K:=
 dU a g9.heap b e (.inl ⟨_,c,_,rfl,rfl⟩) d
def cH(a:Rp ev g9)(b:abs h=g9.heap){s:SV}(e:s.gd)(c:oh X.C g9.tmps o s.val)(d:holds (my o.dst s ev h K)) :
  DT X holds abs o g9 K:=
 dU a g9.heap b e (.inr ⟨_,c,rfl⟩) d
def lF(a:Rp ev g9)(b:abs h=g9.heap){s:SV}(g:s.gd){f:Tu->Tk}(c:au X.C X.b_ (jn g9.tmps) o=some (.Gf f))(d:f g9.heap=some s.val)
  (e:holds (my o.dst s ev h K)):DT X holds abs o g9 K:=
 dU a g9.heap b g (.inl ⟨_,c,(g9,s.val),by simp[aX,d],rfl⟩) e
def dz(a:Rp ev g9){H':Tu}(b:abs h=H'){s:SV}(g:s.gd){f:Tu->Option (List s_×Value)}(c:au X.C X.b_ (jn g9.tmps) o=some (.Hk f))
  (d:f g9.heap=some (H',s.val)) (e:holds (my o.dst s ev h K)):DT X holds abs o g9 K:=
 dU a H' b g (.inl ⟨_,c,({ g9 with heap:=H' },s.val),by simp[aX,d],rfl⟩) e
def Mo(a:Rp ev g9)(d:abs h=g9.heap){x:TL}(ho:o.op = .move x∨o.op = .assign x){y:SV}(g:km ev x=y)(f:y≠.no)(e:holds (my o.dst y ev h K)):DT X holds abs o g9 K:=by
 obtain⟨b,c⟩:=a.km g f;refine aC a d c ?_ e;rcases ho with ho|ho<;>simp only[au,ho,b]
def XA(hA:pL A X.C Sg X.T holds abs)(d:Rp ev g9)(m:abs h=g9.heap){c a b:TL}(n:o.op = .pick c a b)
  (e:holds (match km ev c,km ev a,km ev b with
  | .st (.leaf (.l true)),.st y,_=>my o.dst (.st y) ev h K
  | .st (.leaf (.l false)),_,.st y=>my o.dst (.st y) ev h K
  | .st (.leaf (.b t)),.st y,.st z=>A.cond t (my o.dst (.st y) ev h K) (my o.dst (.st z) ev h K)
  |_,_,_=>A.fail)):DT X holds abs o g9 K:=by
 split at e
 next y g i=>
  obtain⟨f,_⟩:=d.km g c_;obtain⟨k,j⟩:=d.km i c_;refine aC d m j ?_ e;simp only[au,n,f,SV.val,S0.val,SL.val,if_true,k]
 next y g i=>
  obtain⟨f,_⟩:=d.km g c_;obtain⟨k,j⟩:=d.km i c_;refine aC d m j ?_ e;simp only[au,n,f,SV.val,S0.val,SL.val,k,Fh,if_false]
 next t y z g i e3=>
  obtain⟨f,_⟩:=d.km g c_;obtain⟨k,j⟩:=d.km i c_;obtain⟨r,q⟩:=d.km e3 c_;rcases hA.cond _ _ _ e with⟨p,e⟩|⟨p,e⟩
  .refine aC d m j ?_ e;simp only[au,n,f,SV.val,S0.val,SL.val,p,if_true,k]
  .refine aC d m q ?_ e;simp only[au,n,f,SV.val,S0.val,SL.val,p,r,Fh,if_false]
 .exact absurd e hA.fail
def Mu(hA:pL A X.C Sg X.T holds abs)(g:Rp ev g9)(F:abs h=g9.heap){t:TP}{x:S0}(u:x.h_)(G:au X.C X.b_ (jn g9.tmps) o=cM X.C X.b_ o.dst t x.val)
  (hb:(∃y,o.op = .box t y)∨o.op = .alloc t) (b:holds (Xb A X o.dst t x ev h K)):DT X holds abs o g9 K:=by
 unfold Xb at b;split at b
 .exact absurd b hA.fail
 next d j=>
  have gG:=S0.Eo u;have Q:=S0.Hg u;have O:=S0.E5 u;split at b
  next k=>
   have k:X.b_.getD d 0=d+2:=by simpa using k
   split at b
   next B=>
    rw[fq,fq]at b;have q:ev.lc[d]?=some .nil:=by
     grind
    have p:g9.loc[d]?=some none:=g.row d _ q;have a:au X.C X.b_ (jn g9.tmps) o=some (.GU d (x.cells.map SL.val)):=by
     rw[G,j];unfold cM
     simp_all
    let c:St:={ g9 with loc:=g9.loc.set d (some (x.cells.map SL.val)) }
    have z:Rp ⟨ev.tm,ev.lc.set d (.row x.cells)⟩ c:=by
     refine⟨g.len,g.val,by simp[c,g.Fp],λi r m=>?_⟩;simp only[HZ]at m;split at m
     next I=>
      subst I;split at m
      next M=>
       cases m;exact⟨i_,u⟩
      .cases m
     next I=>
      have:=g.row i r m;have D:c.loc[i]?=g9.loc[i]?:=i_;cases r<;>first|trivial|(simp only[LR.ok]at this ⊢;rw[D];exact this)
    have n:wT X.b_ o=some d:=by
     rcases hb with⟨y,hb⟩|hb<;>(simp only[wT,hb,j];rw[qs k])
    have f:kW X.b_ o=some d:=by
     rcases hb with⟨y,hb⟩|hb<;>(simp only[kW,hb,j];rw[qs k])
    refine⟨c.put o.dst (.pointer (some ⟨d,0,some 0⟩)),_,h,.inl ⟨_,a,(c,.pointer (some ⟨d,0,some 0⟩)),by simp[aX,p,c],rfl⟩,?_,?_,?_,b⟩
    .rw[j];exact z.put d (s:=.HQ d 0) trivial
    .rw[F];cases o.dst<;>rfl
    .have L:=Fr.put (g9:=c) o.dst (.pointer (some ⟨d,0,some 0⟩)) [d] [d];have J:Fr o.dst.toList [d] [d] g9 c:=by
      refine⟨rfl,by simp[c],λ_ _ h _ _=>h,λ_ _ _ h _ _=>h,λs y S N=>?_,λs V S N=>?_⟩
      .grind
      grind
     rw[n,f];exact J.trans L
   .exact absurd b hA.fail
  next k=>
   have k:¬X.b_.getD d 0=d+2:=λe=>j_;obtain⟨U,E,w⟩:=hA.new _ _ _ b;rw[F]at E w;have a:au X.C X.b_ (jn g9.tmps) o=some (.Hk λH=>some (H++[.cells x.val.cells.toList (nz X.C.P t) true],.pointer (some ⟨H.length,0,none⟩))):=by
    rw[G,j];unfold cM
    simp_all
   rw[←j]at w;refine dz (s:=.st (.leaf (.v (.pointer (some ⟨g9.heap.length,0,none⟩))))) g E (λl B=>?_) a ?_ w
   .simp only[S0.cells,GM]at B;subst B;rfl
   .simp only[gG];rfl
def zB(new:Tn):∀(off k:Nat) (cs:Tn),off+k+new.length<=cs.length->
  ((new.zipIdx k).foldl (λ(c:Tl) (p:Value×Nat)=>c.setIfInBounds (off+p.2) p.1) cs.toArray).toList=cs.take (off+k)++new++cs.drop (off+k+new.length):=by
 induction new with
 |nil=>intro off k cs h;simp
 |cons a l d=>
  intro off k cs h;simp only[ZJ]at h;simp only[List.zipIdx_cons,XR];have b:(cs.toArray.setIfInBounds (off+k) a)=(cs.set (off+k) a).toArray:=c_;rw[b,d off (k+1) (cs.set (off+k) a) tt];rw[List.take_set,List.drop_set];have e:(cs.take (off+(k+1))).set (off+k) a=cs.take (off+k)++[a]:=by
   rw[show off+(k+1)=(off+k)+1 from by omega];rw[List.take_succ_eq_append_getElem a_,qdA];simp[XS (show off+k<=cs.length by omega)]
  grind
def tY(pl:Nat->Option (Nat×Nat)):∀(b:List (Nat×S0)) (cs r:List SL),(∀p∈b,p.2.h_)->tX pl cs b=some r->
  Instr.fill pl ⟨cs.map SL.val⟩ (b.map λp=>(p.1,p.2.val))=some ⟨r.map SL.val⟩
 | [],cs,r,_,a=>by cases a;rfl
 |(i,x) :: b,cs,r,g,a=>by
  simp only[tX]at a;split at a
  next off n f=>
   split at a
   next e=>
    split at a
    next j c=>
     have e:x.cells.length=n:=by simpa using e
     have s:x.h_:=g (i,x) c_;have k:=S0.Eo s;unfold jA at c;split at c
     next l=>
      cases c;have t:=tY pl b _ r (λp m=>g p (by simp[m])) a;simp only[EN,Instr.fill,f,k];have q:(⟨x.cells.map SL.val⟩ : Array Value).size=n:=by simp[e]
      rw[rv (by
       simp_all)]
      rw[←t]
      congr 1
      have d:=zB (x.cells.map SL.val) off 0 (cs.map SL.val) tt;apply u9.1
      simp_all
     .cases c
    .cases a
   .cases a
  .cases a
def rT(pl:Nat->Option (Nat×Nat)):∀(e:List (Nat×S0)) (cs r:List SL),(∀c∈cs,c.h_)->(∀p∈e,p.2.h_)->tX pl cs e=some r->∀c∈r,c.h_
 | [],cs,r,g,_,a=>by cases a;exact g
 |(i,x) :: e,cs,r,g,j,a=>by
  simp only[tX]at a;split at a
  .split at a
   .split at a
    next f d=>
     refine rT pl e f r (λc b=>?_) (λp k=>j p (by simp[k])) a;unfold jA at d;split at d
     .cases d;simp only[Fs]at b;rcases b with(b|b)|b
      .grind
      .exact j (i,x) c_ c b
      grind
     .cases d
    .cases a
   .cases a
  .cases a
def ta{a:List (Nat×Operand)}{xs:List S0}(b:(a.map (·.2)).map (jn g9.tmps)=ao xs) :
  a.map (λp=>(p.1,jn g9.tmps p.2))=((a.map (·.1)).zip xs).map λp=>(p.1,p.2.val):=by
 induction a generalizing xs with
 |nil=>simp
 |cons p a c=>
  cases xs with
  |nil=>simp[ao]at b
  |cons x xs=>
   simp only[EN,ao,IU]at b;simp only[EN,qda,b.1];rw[c (xs:=xs) b.2]
def vy{is:TC}{xs:List S0}(a:∀x∈xs,x.h_):∀p∈is.zip xs,p.2.h_:=λ_ b=>a _ (List.of_mem_zip b).2
def BK{P:TI}{t:TP}{x:S0}(a:zA P t=some x):∃z,ft P t=some z/\x.val=z/\x.h_:=by
 unfold zA at a;obtain⟨z,c,b⟩:=FY.1 a;obtain⟨d,e,_⟩:=uZ b
 simp_all
def P6(hA:pL A X.C Sg X.T holds abs)(n:Rp ev g9)(v:abs h=g9.heap){t:TP}{d:Array (Nat×Operand)}(y:o.op = .build t d)
  (g:holds (match zA X.C.P t,pw X.C.P t,D1 ev (d.toList.map (·.2))with
  |some z,some pl,some xs=>match tX pl z.cells ((d.toList.map (·.1)).zip xs)with
   |some cs=>my o.dst (.st (.agg cs)) ev h K
   |none=>A.fail
  |_,_,_=>A.fail)):DT X holds abs o g9 K:=by
 split at g
 next z pl xs r u e3=>
  split at g
  next cs e4=>
   obtain⟨F,k,l,i⟩:=BK r;obtain⟨B,j⟩:=n.D1 e3;have m:=S0.Eo i;have a:=tY pl _ _ _ (vy (is:=d.toList.map (·.1)) j) e4;have b:=rT pl _ _ _ (λc w=>i c w) (vy (is:=d.toList.map (·.1)) j) e4;refine aC n v (s:=.st (.agg cs)) b ?_ g;have f:(d.toList.all λp=>!aD (jn g9.tmps p.2))=true:=by
    simp only[A_,ZI];intro p E;have q:jn g9.tmps p.2∈ao xs:=by
     grind
    simp only[ao,DJ]at q;obtain⟨x,D,e⟩:=q;rw[←e];exact S0.E5 (j x D)
   simp only[au,y,f,if_true,vC,k,u];rw[ta B,←l,m,a];rfl
  .exact absurd g hA.fail
 .exact absurd g hA.fail
end
def SL.Ri{a b:SL}{k:LK}(d:a.is k=true)(e:b.is k=true)(c:a.lf=b.lf):a.val=b.val/\(a.h_->b.h_):=by
 cases a<;>cases b<;>cases k<;>simp only[SL.lf,Lf.i.injEq,Lf.b.injEq,Lf.v.injEq,reduceCtorEq,SL.is,Fh]at c d e ⊢<;>try (subst c;exact⟨rfl,id⟩)
 subst c;exact⟨by simp only[SL.val];rw[dX d,dX e],id⟩
def bT:∀ {cs:List SL} {ks:TJ},ba cs ks=true->cs.length=ks.length
 | [],[],_=>rfl
 |c :: cs,k :: ks,h=>by
  simp only[ba,te]at h;simp[bT h.2]
 | [],_ :: _,h=>by cases h
 |_ :: _,[],h=>by cases h
def iS:∀ {a b:List SL} {ks:TJ},ba a ks=true->ba b ks=true->a.map SL.lf=b.map SL.lf->a.map SL.val=b.map SL.val/\((∀c∈a,c.h_)->∀c∈b,c.h_)
 | [],[],[],_,_,_=>⟨rfl,λ_ _ h=>by cases h⟩
 |a :: g,b :: i,k :: ks,d,e,f=>by
  simp only[ba,te]at d e;simp only[EN,IU]at f;obtain⟨h1,j⟩:=SL.Ri d.1 e.1 f.1;obtain⟨l,m⟩:=iS d.2 e.2 f.2
  simp_all
 | [],_ :: _,[],_,e,_=>by cases e
 | [],_,_ :: _,d,_,_=>by cases d
 |_ :: _,_,[],d,_,_=>by cases d
 |_ :: _,[],_ :: _,_,e,_=>by cases e
def S0.Q9{a b:S0}{h:SK}(c:a.is h=true)(d:b.is h=true)(g:a.cells.map SL.lf=b.cells.map SL.lf):a.val=b.val/\(a.h_->b.h_):=by
 cases h with
 |leaf k=>
  cases a with
  |agg _=>cases c
  |leaf a=>
   cases b with
   |agg _=>cases d
   |leaf b=>
    simp only[S0.cells,EN,IY,IU,and_true]at g;obtain⟨e,f⟩:=SL.Ri c d g;refine⟨e,λj l i=>?_⟩;simp only[S0.cells,GM]at i;subst i;exact f (j a (by simp[S0.cells]))
 |agg m=>
  cases a with
  |leaf _=>cases c
  |agg a=>
   cases b with
   |leaf _=>cases d
   |agg b=>
    obtain⟨e,f⟩:=iS c d g;exact⟨by simp only[S0.val,e],f⟩
def S0.Q8{a:S0}{e:SK}(c:a.is e=true):∃n,a.cells.length=n/\∀b:S0,b.is e=true->b.cells.length=n:=by
 refine⟨_,rfl,λb d=>?_⟩;cases e with
 |leaf k=>
  cases a with
  |agg _=>cases c
  |leaf a=>cases b with
   |agg _=>cases d
   |leaf b=>rfl
 |agg f=>
  cases a with
  |leaf _=>cases c
  |agg a=>cases b with
   |leaf _=>cases d
   |agg b=>exact(bT d).trans (bT c).symm
def dd:∀ {a b:List S0} {sks:TN},cJ a sks=true->cJ b sks=true->cV a=cV b->ao a=ao b/\((∀c∈a,c.h_)->∀c∈b,c.h_)
 | [],[],[],_,_,_=>⟨rfl,λ_ _ h=>by cases h⟩
 |a :: o,b :: q,k :: ks,d,e,m=>by
  simp only[cJ,te]at d e;obtain⟨n,j,f⟩:=S0.Q8 d.1;have f:=f b e.1;simp only[cV]at m;obtain⟨g,i⟩:=qdx m (by simp[j,f]);obtain⟨p,r⟩:=S0.Q9 d.1 e.1 g;obtain⟨l,s⟩:=dd d.2 e.2 i;refine⟨by simp only[ao,EN,p]at l ⊢;rw[l],λu c t=>?_⟩
  grind
 | [],_ :: _,[],_,e,_=>by cases e
 | [],_,_ :: _,d,_,_=>by cases d
 |_ :: _,_,[],d,_,_=>by cases d
 |_ :: _,[],_ :: _,_,e,_=>by cases e
section
variable [DB] [En] {R HT:Type} {A:Dv R HT} {X:DQ} {Sg:Td} {holds:R->Prop} {abs:HT->Tu}
variable {ev:Env} {g9:St} {h:HT} {o:Oper} {K:KN R HT}
def sY{C:m8}{T:Tv}(hA:pL A C Sg T holds abs):∀ {ks:TJ} {ls:TG} {K:List SL->TG->R},holds (Po A ks ls K)->
  ∃cs r,ls=cs.map SL.lf++r/\ba cs ks=true/\holds (K cs r)
 | [],ls,K,c=>⟨[],ls,rfl,rfl,c⟩
 | .i k :: ks,ls,K,c=>by
  obtain⟨n,r,rfl,a⟩:=hA.po _ _ c;obtain⟨cs,f,rfl,d,e⟩:=sY hA (ks:=ks) a;exact⟨.i k n :: cs,f,rfl,by simp[ba,SL.is,fM,d],e⟩
 | .b :: ks,ls,K,c=>by
  obtain⟨n,r,rfl,a⟩:=hA.Fu _ _ c;obtain⟨cs,f,rfl,d,e⟩:=sY hA (ks:=ks) a;exact⟨.b n :: cs,f,rfl,by simp[ba,SL.is,d],e⟩
 | .v :: ks,ls,K,c=>by
  obtain⟨n,r,rfl,a⟩:=hA.DK _ _ c;obtain⟨cs,f,rfl,d,e⟩:=sY hA (ks:=ks) a;exact⟨.v n :: cs,f,rfl,by simp[ba,SL.is,d],e⟩
def K5{C:m8}{T:Tv}(hA:pL A C Sg T holds abs){d:SK}{ls:TG}{K:S0->TG->R}(c:holds (unS A d ls K)) :
  ∃x r,ls=x.cells.map SL.lf++r/\x.is d=true/\holds (K x r):=by
 cases d with
 |leaf k=>
  cases k with
  |i k=>
   obtain⟨n,r,rfl,a⟩:=hA.po _ _ c;exact⟨.leaf (.i k n),r,rfl,by simp[S0.is,SL.is,fM],a⟩
  |b=>
   obtain⟨n,r,rfl,a⟩:=hA.Fu _ _ c;exact⟨.leaf (.b n),r,rfl,rfl,a⟩
  |v=>
   obtain⟨n,r,rfl,a⟩:=hA.DK _ _ c;exact⟨.leaf (.v n),r,rfl,rfl,a⟩
 |agg l=>
  obtain⟨e,r,f,g,j⟩:=sY hA c;exact⟨.agg e,r,f,g,j⟩
def rh{C:m8}{T:Tv}(hA:pL A C Sg T holds abs):∀ {sks:TN} {ls:TG} {K:List S0->TG->R},holds (JI A sks ls K)->
  ∃xs r,ls=cV xs++r/\cJ xs sks=true/\holds (K xs r)
 | [],ls,K,a=>⟨[],ls,rfl,rfl,a⟩
 |i :: sks,ls,K,a=>by
  have b:holds (unS A i ls λx r=>JI A sks r λxs r=>K (x :: xs) r):=a;obtain⟨x,r,rfl,d,c⟩:=K5 hA b;obtain⟨xs,g,rfl,e,f⟩:=rh hA (sks:=sks) c;exact⟨x :: xs,g,by simp[cV],by simp[cJ,d,e],f⟩
def BI{C:m8}{T:Tv}(hA:pL A C Sg T holds abs):∀ {ks:TJ} {ls:Tn} {K:List SL->Tn->R},holds (ucL A ks ls K)->
  ∃cs r,ls=cs.map SL.val++r/\ba cs ks=true/\(∀c∈cs,c.h_)/\holds (K cs r)
 | [],ls,K,d=>⟨[],ls,rfl,rfl,c_,d⟩
 | .i k :: ks,ls,K,d=>by
  obtain⟨n,r,rfl,a⟩:=hA.td _ _ _ d;obtain⟨cs,j,rfl,e,f,g⟩:=BI hA (ks:=ks) a;exact⟨.i k n :: cs,j,rfl,by simp[ba,SL.is,fM,e],Hx.2 ⟨trivial,f⟩,g⟩
 | .b :: ks,ls,K,d=>by
  obtain⟨n,r,rfl,a⟩:=hA.E7 _ _ d;obtain⟨cs,j,rfl,e,f,g⟩:=BI hA (ks:=ks) a;exact⟨.b n :: cs,j,rfl,by simp[ba,SL.is,e],Hx.2 ⟨trivial,f⟩,g⟩
 | .v :: ks,ls,K,d=>by
  obtain⟨n,r,rfl,a⟩:=hA.DF _ _ d;obtain⟨m,l⟩:=hA.n4 _ _ a;obtain⟨cs,j,rfl,e,f,g⟩:=BI hA (ks:=ks) l;exact⟨.v n :: cs,j,rfl,by simp[ba,SL.is,e],Hx.2 ⟨m,f⟩,g⟩
def sX{C:m8}{T:Tv}(hA:pL A C Sg T holds abs){f:SK}{ls:Tn}{K:S0->Tn->R}(d:holds (K4 A f ls K)) :
  ∃x r,ls=x.cells.map SL.val++r/\x.is f=true/\x.h_/\holds (K x r):=by
 cases f with
 |leaf k=>
  cases k with
  |i k=>
   obtain⟨n,r,rfl,a⟩:=hA.td _ _ _ d;exact⟨.leaf (.i k n),r,rfl,by simp[S0.is,SL.is,fM],λl c=>by simp only[S0.cells,GM]at c;subst c;trivial,a⟩
  |b=>
   obtain⟨n,r,rfl,a⟩:=hA.E7 _ _ d;exact⟨.leaf (.b n),r,rfl,rfl,λl c=>by simp only[S0.cells,GM]at c;subst c;trivial,a⟩
  |v=>
   obtain⟨n,r,rfl,a⟩:=hA.DF _ _ d;obtain⟨s,e⟩:=hA.n4 _ _ a;exact⟨.leaf (.v n),r,rfl,rfl,λl c=>by simp only[S0.cells,GM]at c;subst c;exact s,e⟩
 |agg t=>
  obtain⟨g,r,j,m,p,q⟩:=BI hA d;exact⟨.agg g,r,j,m,p,q⟩
def Ns{C:m8}{T:Tv}(hA:pL A C Sg T holds abs):∀ {sks:TN} {ls:Tn} {K:List S0->Tn->R},holds (y3 A sks ls K)->
  ∃xs r,ls=oI xs++r/\cJ xs sks=true/\(∀x∈xs,x.h_)/\holds (K xs r)
 | [],ls,K,a=>⟨[],ls,rfl,rfl,c_,a⟩
 |j :: sks,ls,K,a=>by
  have b:holds (K4 A j ls λx r=>y3 A sks r λxs r=>K (x :: xs) r):=a;obtain⟨x,r,rfl,e,m,d⟩:=sX hA b;obtain⟨xs,i,rfl,f,k,g⟩:=Ns hA (sks:=sks) d;refine⟨x :: xs,i,by simp[oI],by simp[cJ,e,f],λc l=>?_,g⟩
  grind
def W1(a:Bool)(cs:Tn)(v:Value):Prop:=(a=true/\v = .agg ⟨cs⟩)∨(a=false/\cs=[v])
def sw{x:S0}{a:SK}(c:x.is a=true){v:TR}(b:W1 (lj a) (x.cells.map SL.val) v):x.val=v:=by
 cases a with
 |leaf k=>
  cases x with
  |agg _=>cases c
  |leaf l=>
   rcases b with⟨h,_⟩|⟨_,h⟩
   .cases h
   .simp only[S0.cells,EN,IY,IU,and_true]at h;exact h
 |agg e=>
  cases x with
  |leaf _=>cases c
  |agg d=>
   rcases b with⟨_,h⟩|⟨h,_⟩
   .exact h.symm
   .cases h
def Qz{a b:Bool}(h:Qy a b=true):a=b:=by cases a<;>cases b<;>first|rfl|cases h
def qD{a:Bool}{cs:List SL}{x:S0}(b:HV a cs=some x):x.cells=cs/\W1 a (cs.map SL.val) x.val:=by
 unfold HV at b;split at b
 .cases b;exact⟨rfl,.inl ⟨rfl,rfl⟩⟩
 .cases b;exact⟨rfl,.inr ⟨rfl,rfl⟩⟩
 .cases b
def dp{P:TI}{t:TP}{c:Bool}(a:B2 P t=some c){vs cs:Tn}{off:Nat}(b:cut vs off (if c then P.cellsOf t else 1)=some cs) :
  ∃v,dL P t vs off=some v/\W1 c cs v:=by
 unfold B2 at a;unfold dL;split at a
 next i e=>
  cases a;rw[e];simp only[if_true]at b;exact⟨.agg ⟨cs⟩,by simp[b],.inl ⟨rfl,rfl⟩⟩
 next i e=>
  cases a;rw[e];simp only[if_true]at b;exact⟨.agg ⟨cs⟩,by simp[b],.inl ⟨rfl,rfl⟩⟩
 next d k l e=>
  cases a;rw[e];simp only[Fh,if_false]at b;unfold cut at b;split at b
  next j=>
   cases b;have f:off<vs.length:=a_;have g:(vs.drop off).take 1=[vs[off]]:=by
    rw[Pg f];rfl
   refine⟨vs[off],?_,.inr ⟨rfl,g⟩⟩;simp[f]
  .cases b
 .cases a
def nC(hA:pL A X.C Sg X.T holds abs){dst:Tq}{d:SK}{cs:Tn}{v:TR}(j:W1 (lj d) cs v)(g:holds (IE A dst d cs ev h K)) :
  ∃x:S0,x.val=v/\x.h_/\holds (my dst (.st x) ev h K):=by
 obtain⟨x,r,c,e,f,a⟩:=sX hA g;obtain⟨i,b⟩:=hA.tf _ _ a;rw[i,HF]at c;subst c;exact⟨x,sw e j,f,b⟩
def pT{cs ds:List SL}{off n:Nat}(a:E1 cs off n=some ds):cut (cs.map SL.val) off n=some (ds.map SL.val)/\(∀d∈ds,d∈cs):=by
 unfold E1 at a;unfold cut;split at a
 next b=>
  cases a;rw[qs (by simpa using b)];exact⟨j_,λd c=>lC (OO c)⟩
 .cases a
def mg(d:Rp ev g9){s:Nat}{cs:List SL}(a:uW ev s=some cs):g9.loc[s]?=some (some (cs.map SL.val))/\(∀c∈cs,c.h_)/\ev.lc[s]?=some (.row cs):=by
 unfold uW at a;split at a
 next f e=>
  cases a;rw[List.getD_eq_getElem?_getD]at e;cases b:ev.lc[s]? with
  |none=>rw[b]at e;cases e
  |some r=>
   rw[b]at e;simp only[U0]at e;subst e;have:=d.row s _ b;exact⟨this.1,this.2,rfl⟩
 .cases a
def Bb{cs:List SL}{a:Nat}{ix:List (Int×Nat)}{n:Nat}{ls:TG}(b:ir (cs.map SL.lf) a ix n=some ls) :
  ∃ds,E1 cs (Ed a ix) n=some ds/\ls=ds.map SL.lf:=by
 rw[Se]at b;split at b
 next c=>
  cases b;refine⟨_,by unfold E1;rw[qs (by simpa using c)],j_⟩
 .cases b
def Mw:∀(ix:List (Int×Nat)) (a:Nat),a<=Ed a ix
 | [],a=>B8 _
 |p :: l,a=>Pm (Nat.le_add_right _ _) (Mw l _)
def oB{cs ds:List SL}{ks:TJ}:∀ {ix:List (Int×Nat)} {a:Nat},vB cs ks a ix=true->E1 cs (Ed a ix) ks.length=some ds->ba ds ks=true
 | [],a,h1,b=>by
  simp only[vB,Ed]at h1 b
  simp_all
 |p :: l,a,h1,b=>by
  simp only[vB,te,A_,ZI,Ed]at h1 b;obtain⟨h0,h1⟩:=h1;refine oB (ix:=l) (h1 p.1.toNat ?_) b;have d:p.2≠0:=λe=>by rw[e]at h0;cases h0
  have c:Ed (a+p.1.toNat*p.2) l<=cs.length:=by
   unfold E1 at b
   grind
  have:=Mw l (a+p.1.toNat*p.2);have f:p.1.toNat<=p.1.toNat*p.2:=Nat.le_mul_of_pos_right _ (Nat.pos_of_ne_zero d)
  grind
def WC{x:S0}{b:SK}(a:x.is b=true):ba x.cells (IG b)=true:=by
 cases b with
 |leaf k=>
  cases x with
  |agg _=>cases a
  |leaf l=>simp[S0.cells,IG,ba];exact a
 |agg d=>
  cases x with
  |leaf _=>cases a
  |agg c=>exact a
def M4(hA:pL A X.C Sg X.T holds abs){dst:Tq}{e:SK}{ds:List SL}{v:TR}(l:ba ds (IG e)=true)(m:∀c∈ds,c.h_)(i:W1 (lj e) (ds.map SL.val) v)
  (n:holds (Jz A dst e (ds.map SL.lf) ev h K)):∃x:S0,x.val=v/\x.h_/\holds (my dst (.st x) ev h K):=by
 obtain⟨x,r,f,g,a⟩:=K5 hA n;obtain⟨d,b⟩:=hA.A1 _ _ a;rw[d,HF]at f;obtain⟨j,k⟩:=iS l (WC g) f;rw[j]at i;exact⟨x,sw g i,k m,b⟩
def gx(c:SL):c.is c.lk=true:=by cases c<;>first|rfl|exact fM _
def oC:∀cs:List SL,ba cs (cs.map SL.lk)=true
 | []=>rfl
 |c :: cs=>by simp[ba,gx,oC cs]
def iR:∀ {a b:List SL} {d c:TJ},ba a d=true->ba b c=true->ba (a++b) (d++c)=true
 | [],b,[],c,_,h=>h
 |a :: e,b,k :: d,c,h1,f=>by
  simp only[ba,te,EQ]at h1 ⊢;exact⟨h1.1,iR h1.2 f⟩
 | [],_,_ :: _,_,h,_=>by cases h
 |_ :: _,_,[],_,h,_=>by cases h
end
section
variable [DB] [En] {R HT:Type} {A:Dv R HT} {X:DQ} {Sg:Td} {holds:R->Prop} {abs:HT->Tu}
variable {ev:Env} {g9:St} {h:HT} {o:Oper} {K:KN R HT}
def vF(H:Tu)(id:Nat):iZ (λi=>H[i]?) id=gG H id:=rfl
def ng{n:Nat}{p:TR}{g:cW}{cs:Tn}(h:cq n p g=some cs):∃id off vs,p = .pointer (some ⟨id,off,none⟩)/\iZ g id=some vs/\cut vs off n=some cs:=by
 unfold cq at h;split at h
 next a=>
  split at h
  next e=>
   obtain⟨vs,c,d⟩:=FY.1 h;obtain⟨b,f,i⟩:=a
   grind
  .cases h
 .cases h
def w5{C:m8}{n:Nat}{p:TR}{g:cW}{cs:Tn}(h:x1 C n p g=some cs):(∃id off vs,p = .pointer (some ⟨id,off,none⟩)/\iZ g id=some vs/\cut vs off n=some cs)∨∃id off vs,p = .pointer (some ⟨id,off,some 1⟩)/\C.G id=some vs/\cut vs off n=some cs:=by
 unfold x1 at h;split at h
 next a=>
  split at h
  next c=>
   obtain⟨vs,d,e⟩:=FY.1 h;obtain⟨b,f,j⟩:=a
   grind
  next k c=>
   split at h
   next i=>
    obtain⟨vs,d,e⟩:=FY.1 h;obtain⟨b,f,j⟩:=a;simp only at c;subst c;rw[Ey i]
    grind
   .cases h
 .cases h
def WK(hA:pL A X.C Sg X.T holds abs)(k:Rp ev g9)(I:abs h=g9.heap){t:TP}{a:TL}{sk:SK}{F:Bool}(ho:o.op = .load t a)(m:B2 X.C.P t=some F)
  (w:F=lj sk) (d:holds (Rn A X o.dst sk F (if F then X.C.P.cellsOf t else 1) a ev h K)):DT X holds abs o g9 K:=by
 have e:au X.C X.b_ (jn g9.tmps) o=eG X.C X.b_ t a (jn g9.tmps a):=by simp only[au,ho]
 unfold Rn at d;split at d
 next p b E=>
  obtain⟨y,_⟩:=k.km E c_;obtain⟨N,h2,u⟩:=hA.ma _ _ _ d;simp only[Pk.run]at h2;rw[I]at h2;rcases w5 h2 with⟨id,off,vs,rfl,Z,h4⟩|⟨id,off,vs,rfl,Z,h4⟩
  .rw[vF]at Z;obtain⟨v,r,i⟩:=dp m h4;rw[w]at i;obtain⟨x,rfl,D,n⟩:=nC hA i u;refine lF k I (s:=.st x) D (f:=λH=>(gG H id).bind λvs=>dL X.C.P t vs off) ?_ ?_ n
   .rw[e,eG,b,y];rfl
   .simp only[Z,Ex,r];rfl
  .obtain⟨v,r,i⟩:=dp m h4;rw[w]at i;obtain⟨x,rfl,D,n⟩:=nC hA i u;refine lF k I (s:=.st x) D (f:=λ_=>(X.C.G id).bind λvs=>dL X.C.P t vs off) ?_ ?_ n
   .rw[e,eG,b,y];rfl
   .simp only[Z,Ex,r];rfl
 next g off b E=>
  obtain⟨y,_⟩:=k.km E c_;split at d
  next vs V=>
   split at d
   next N q=>
    obtain⟨v,r,i⟩:=dp m q;have j:au X.C X.b_ (jn g9.tmps) o=some (.val v):=by
     rw[e,eG,b,y];simp only[SV.val,ii,if_true,Ex,V,r,FJ]
    split at d
    next x an hm=>
     obtain⟨W,L⟩:=qD hm;have al:(N.map JB).map SL.val=N:=by
      rw[Pj];have:(SL.val ∘ JB)=id:=funext vn;rw[this,qdE]
     rw[al]at L;have hv:x.val=v:=by
      rcases L with⟨M,Q⟩|⟨M,Q⟩<;>rcases i with⟨z,S⟩|⟨z,S⟩
      .rw[Q,S]
      .rw[M]at z;cases z
      .rw[M]at z;cases z
      simp_all
     subst hv;refine aC k I (s:=.st x) (λl hl=>?_) j d;rw[W]at hl;obtain⟨c,ag,rfl⟩:=DJ.1 hl;exact qX (A_.1 an c ag)
    .rw[w]at i;obtain⟨x,rfl,D,d⟩:=nC hA i d;exact aC k I (s:=.st x) D j d
   .exact absurd d hA.fail
  .exact absurd d hA.fail
 next g B ix b E=>
  obtain⟨y,_⟩:=k.km E c_;split at d
  next vs V=>
   obtain⟨N,q,d⟩:=hA.jw _ _ d;obtain⟨v,r,i⟩:=dp m (vs:=vs) (off:=Ed B ix) ((Sf _ _ _ _).symm.trans q);have j:au X.C X.b_ (jn g9.tmps) o=some (.val v):=by
    rw[e,eG,b,y];simp only[SV.val,ii,if_true,Ex,V,r,FJ]
   rw[w]at i;obtain⟨x,rfl,D,d⟩:=nC hA i d;exact aC k I (s:=.st x) D j d
  .exact absurd d hA.fail
 next p b E=>
  obtain⟨y,_⟩:=k.km E c_;obtain⟨N,q,u⟩:=hA.jw _ _ d;unfold hO at q;split at q
  next ad=>
   split at q
   next ap=>
    obtain⟨vs,V,q⟩:=FY.1 q;obtain⟨v,r,i⟩:=dp m q;have j:au X.C X.b_ (jn g9.tmps) o=some (.val v):=by
     rw[e,eG,b,y];simp only[SV.val,S0.val,SL.val,ii,ap,if_true,Ex,V,r,FJ]
    rw[w]at i;obtain⟨x,rfl,D,n⟩:=nC hA i u;exact aC k I (s:=.st x) D j n
   .cases q
  .cases q
 next s s' off b E=>
  obtain⟨y,_⟩:=k.km E c_;split at d
  next x O Y=>
   have O:s=s':=by simpa using O
   subst O;obtain⟨N,hr,Y⟩:=FY.1 Y;obtain⟨ds,U,Y⟩:=FY.1 Y;obtain⟨r1,r2,_⟩:=mg k hr;obtain⟨c1,c2⟩:=pT U;obtain⟨v,r,i⟩:=dp m c1;obtain⟨W,L⟩:=qD Y;have hv:x.val=v:=by
    rcases L with⟨M,Q⟩|⟨M,Q⟩<;>rcases i with⟨z,S⟩|⟨z,S⟩
    .rw[Q,S]
    .rw[M]at z;cases z
    .rw[M]at z;cases z
    simp_all
   subst hv;refine dU k g9.heap I (s:=.st x) (λl hl=>?_) (.inl ⟨.Ir s λvs=>dL X.C.P t vs off,?_,(g9,x.val),?_,rfl⟩) d
   .simp_all
   .rw[e,eG,b,y];simp[SV.val,ko]
   .simp[aX,r1,r]
  .exact absurd d hA.fail
 next s s' B ix b E=>
  obtain⟨y,_⟩:=k.km E c_;split at d
  next N O hr=>
   have O:s=s':=by simpa using O
   subst O;split at d
   next J=>
    simp only[te]at J;obtain⟨J,hn⟩:=J;have hn:=Ey hn;obtain⟨ls,hp,u⟩:=hA.jw _ _ d;obtain⟨ds,U,rfl⟩:=Bb hp;obtain⟨r1,r2,_⟩:=mg k hr;obtain⟨c1,c2⟩:=pT U;obtain⟨v,r,i⟩:=dp m c1;rw[w]at i;rw[hn]at U;obtain⟨x,rfl,D,n⟩:=M4 hA (oB J U) (λc q=>r2 c (c2 c q)) i u;refine dU k g9.heap I (s:=.st x) D (.inl ⟨.Ir s λvs=>dL X.C.P t vs (Ed B ix),?_,(g9,x.val),?_,rfl⟩) n
    .rw[e,eG,b,y];simp[SV.val,ko]
    .simp[aX,r1,r]
   .exact absurd d hA.fail
  .exact absurd d hA.fail
 .exact absurd d hA.fail
def sS{cs r new:List SL}{off:Nat}(a:jA cs off new=some r):qa (cs.map SL.val) off (new.map SL.val)=some (r.map SL.val)/\r.length=cs.length/\((∀c∈cs,c.h_)->(∀c∈new,c.h_)->∀c∈r,c.h_):=by
 unfold jA at a;unfold qa;split at a
 next b=>
  cases a;rw[qs (by simpa using b)];refine⟨j_,tt,λd e c f=>?_⟩
  grind
 .cases a
def zx{P:TI}{t:TP}{x:S0}(b:x.h_)(a:x.cells.length=P.cellsOf t)(d:(P.info? t).isSome=true)(vs:Tn)(off:Nat) :
  fH P t x.val vs off=qa vs off (x.cells.map SL.val):=by
 unfold fH;have c:=S0.Eo b;rw[qs ⟨j_,d⟩,qs (S0.Hg b),c]
def tK(e:Rp ev g9)(v:abs h=g9.heap){s:Nat}{cs:List SL}{f:Tn->Option (Tn)}{vs:Tn}(w:au X.C X.b_ (jn g9.tmps) o=some (.GV s f))(b:g9.loc[s]?=some (some vs))
  (k:f vs=some (cs.map SL.val)) (n:(cs.map SL.val).length=vs.length) (x:∀c∈cs,c.h_) (p:kW X.b_ o=some s)
  (z:holds (my o.dst .un ⟨ev.tm,ev.lc.set s (.row cs)⟩ h K)):DT X holds abs o g9 K:=by
 let a:St:={ g9 with loc:=g9.loc.set s (some (cs.map SL.val)) }
 have B:s<g9.loc.length:=(b1.1 b).1;have j:Rp ⟨ev.tm,ev.lc.set s (.row cs)⟩ a:=by
  refine⟨e.len,e.val,by simp[a,e.Fp],λi r d=>?_⟩;simp only[HZ]at d;split at d
  next m=>
   subst m;split at d
   .cases d;exact⟨i_,x⟩
   .cases d
  next m=>
   have:=e.row i r d;have l:a.loc[i]?=g9.loc[i]?:=i_;cases r<;>first|trivial|(simp only[LR.ok]at this ⊢;rw[l];exact this)
 obtain⟨g,t,u⟩:=zi (dst:=o.dst) j (s:=.un) trivial z;refine⟨a.put o.dst undef,g,h,.inl ⟨_,w,(a,undef),by simp[aX,b,k,a],rfl⟩,t,?_,?_,u⟩
 .rw[v];cases o.dst<;>rfl
 .have k:=Fr.put (g9:=a) o.dst undef (wT X.b_ o).toList (kW X.b_ o).toList;have q:Fr o.dst.toList (wT X.b_ o).toList (kW X.b_ o).toList g9 a:=by
   refine⟨rfl,by simp[a],λ_ _ h _ _=>h,λ_ _ _ h _ _=>h,λi y E D=>?_,λi F E D=>?_⟩
   .grind
   grind
  exact q.trans k
def o6{p:TR}{new:Tn}{g:cW}{n:Nat}{c:List DL}{cs:Tn}(h:JD p new g n=some (c,cs)) :
  ∃id off vs d e,p = .pointer (some ⟨id,off,none⟩)/\g id=some (.cells vs e true)/\qa vs off new=some d/\c=[.set id (.cells d e true)]:=by
 unfold JD at h;split at h
 next a=>
  split at h
  next l=>
   split at h
   next vs e k=>
    obtain⟨d,i,j⟩:=EC.1 h;obtain⟨b,f,m⟩:=a
    grind
   .cases h
  .cases h
 .cases h
def T_(hA:pL A X.C Sg X.T holds abs)(m:Rp ev g9)(O:abs h=g9.heap){t:TP}{a y:TL}{x:S0}(ho:o.op = .store t a y)(hy:km ev y = .st x)
  (j:holds (KY A X o.dst t a x ev h K)):DT X holds abs o g9 K:=by
 obtain⟨aE,I⟩:=m.km hy c_;have I:x.h_:=I;have u:au X.C X.b_ (jn g9.tmps) o=fF X.C X.b_ t a (jn g9.tmps a) x.val:=by simp only[au,ho,aE];rfl
 have G:=S0.E5 I;unfold KY at j;split at j
 .exact absurd j hA.fail
 next hc=>
  simp only[te]at hc;obtain⟨v,hi⟩:=hc;have v:=Ey v;have hw:=zx (P:=X.C.P) (t:=t) I v hi;split at j
  next p d L=>
   obtain⟨J,_⟩:=m.km L c_;obtain⟨a3,i,h',Z,h3,D⟩:=hA.heap _ _ _ j;simp only[Hp.run]at Z;rw[O]at Z h3;obtain⟨id,c,N,a2,e,rfl,g1,g2,rfl⟩:=o6 Z;refine dz (s:=.un) m (H':=g9.heap.set id (.cells a2 e true)) h3 trivial (f:=kQ X.C t id c x.val) ?_ ?_ D
   .rw[u,fF,G,d,J];rfl
   .simp only[kQ,g1,hw,g2,FJ];rfl
  next s s' c d L=>
   obtain⟨J,_⟩:=m.km L c_;have l:kW X.b_ o=some s:=by simp only[kW,ho,d]
   split at j
   next i H k=>
    have H:s=s':=by simpa using H
    subst H;rw[fq]at j;have g:au X.C X.b_ (jn g9.tmps) o=some (.GV s λN=>fH X.C.P t x.val N c):=by
     rw[u,fF,G,d,J];simp[SV.val,ko]
    have ap:ev.lc[s]?=some (ev.lc.getD s .JJ)∨ev.lc.getD s .JJ = .JJ:=by
     grind
    unfold T9 at k;split at k
    next W hl=>
     obtain⟨q1,q2,q3⟩:=sS k;have E:ev.lc[s]?=some (.row W):=j_;have S:=m.row s _ E;exact tK m O g S.1 (by rw[hw];exact q1) (by simp[q2]) (q3 S.2 I) l j
    next n hl=>
     split at k
     next hz=>
      cases k;simp only[te]at hz;have a0:=Ey hz.1;have a1:=Ey hz.2;have E:ev.lc[s]?=some (.any n):=j_;obtain⟨N,ax,ay⟩:=m.row s _ E;refine tK m O g ax ?_ (by rw[ay,a1];simp) I l j;rw[hw,a0,qa,qs tt]
      simp_all
     .cases k
    .cases k
   .exact absurd j hA.fail
  next s s' B ix d L=>
   obtain⟨J,_⟩:=m.km L c_;have l:kW X.b_ o=some s:=by simp only[kW,ho,d]
   split at j
   next i H S=>
    have H:s=s':=by simpa using H
    subst H;split at j
    .exact absurd j hA.fail
    next ad=>
     obtain⟨ls,Q,D⟩:=hA.jw _ _ j;obtain⟨V,r,e1,e2,ag⟩:=sY hA D;obtain⟨an,M⟩:=hA.A1 _ _ ag;rw[an,HF]at e1;rw[fq]at M;obtain⟨r1,r2,_⟩:=mg m S;have g:au X.C X.b_ (jn g9.tmps) o=some (.GV s λN=>fH X.C.P t x.val N (Ed B ix)):=by
      rw[u,fF,G,d,J];simp[SV.val,ko]
     rw[XL]at Q;split at Q
     next F=>
      simp only[GY]at F
      let c:=Ed B ix
      have a4:E1 i c x.cells.length=some ((i.drop c).take x.cells.length):=by unfold E1;rw[qs F]
      have a6:ba ((i.drop c).take x.cells.length) (x.cells.map SL.lk)=true:=oB ad i_
      let z:=i.take c++x.cells++i.drop (c+x.cells.length)
      have av:jA i c x.cells=some z:=by unfold jA;rw[qs F]
      obtain⟨q1,q2,q3⟩:=sS av;have w:ba z (i.map SL.lk)=true:=by
       have U:i=i.take c++(i.drop c).take x.cells.length++i.drop (c+x.cells.length):=by
        rw[FL,←B0,XU,XU]
       have a7:∀ {a b:List SL},ba a (b.map SL.lk)=true->a.map SL.lk=b.map SL.lk:=by
        intro a b q
        induction a generalizing b with
        |nil=>cases b with
         |nil=>rfl
         |cons _ _=>cases q
        |cons a a5 ih=>cases b with
         |nil=>cases q
         |cons b bs=>
          simp only[EN,ba,te]at q;simp only[EN,ih q.2];have:a.lk=b.lk:=by
           have Y:=q.1;cases a<;>cases b<;>first|rfl|(simp[SL.is,SL.lk]at Y;done)|(simp only[SL.is,SL.lk]at Y ⊢;rw[dX Y])
          rw[this]
       have hm:i.map SL.lk=(i.take c).map SL.lk++x.cells.map SL.lk++(i.drop (c+x.cells.length)).map SL.lk:=by
        grind
       rw[hm];exact iR (iR (oC _) (oC _)) (oC _)
      have al:z.map SL.lf=V.map SL.lf:=by
       rw[←e1];cases Q;simp[z,c,List.map_take,List.map_drop]
      obtain⟨v1,v2⟩:=iS w e2 al;refine tK m O g r1 i_ (by rw[←v1];simp[q2]) (v2 (q3 r2 I)) l M
     .cases Q
   .exact absurd j hA.fail
  .exact absurd j hA.fail
end
section
variable {P:TI}
def aV{j7 c:Type}(s:Sem j7)(f:j7->Sem c):DW P (s >>= f)=(DW P s).bind λa=>DW P (f a):=by
 show DW P (s.bind f)=_
 induction s with
 |pure a=>rfl
 |program k b=>exact b P
 |_=>rfl
def iy{j7:Type}(a:j7):DW P (pure a:Sem j7)=some a:=rfl
def nu:DW P program=some P:=rfl
def bp{t:TP}{d:TypeDesc}(h:P.underlying t=some d):DW P (underlying t)=some d:=by
 unfold underlying;rw[aV,nu];simp only[Ex,h];rfl
def sI{d:Nat}{t:TP}{k c:TK}{a b:Int}(h:P.underlying t=some (.int c)):DW P (Op.equalIn (d+1) t (.int k a) (.int k b))=some (a==b):=by
 simp only[Op.equalIn,aV,bp h,Ex,if_true,iy]
def qN{d:Nat}{t:TP}{a b:Bool}(h:P.underlying t=some .bool):DW P (Op.equalIn (d+1) t (.bool a) (.bool b))=some (a==b):=by
 simp only[Op.equalIn,aV,bp h,Ex,iy]
def Bm{t:TP}{a:Bool}(h:B2 P t=some a):DW P (isAgg t)=some a:=by
 unfold isAgg;unfold B2 at h;split at h
 next b e=>cases h;rw[aV,bp e];rfl
 next b e=>cases h;rw[aV,bp e];rfl
 next d c f e=>
  cases h;rw[aV,bp e];simp only[Ex];rfl
 .cases h
def me{t:TP}{d:TypeDesc}(h:P.underlying t=some d):DW P (sizeOf t)=some (P.cellsOf t):=by
 unfold sizeOf typeInfo;have a:∃i,P.info? t=some i:=by
  unfold Program.underlying at h
  grind
 obtain⟨i,a⟩:=a;simp only[aV,nu,Ex,a];simp[DW,Program.cellsOf,a];rfl
def ns{t:TP}{c:Bool}(h:B2 P t=some c){cs:Tn}{off:Nat}{ds:Tn}(a:cut cs off (if c then P.cellsOf t else 1)=some ds) :
  ∃v,DW P (part t ⟨cs⟩ off)=some v/\W1 c ds v:=by
 have f:∃d,P.underlying t=some d:=by
  unfold B2 at h
  grind
 obtain⟨d,f⟩:=f;unfold part;rw[aV,Bm h];simp only[Ex];unfold cut at a;cases c with
 |true=>
  simp only[if_true]at a ⊢;split at a
  next e=>
   cases a;refine⟨.agg ⟨(cs.drop off).take (P.cellsOf t)⟩,?_,.inl ⟨rfl,rfl⟩⟩;rw[aV,me f];simp only[Ex,iy,G_,Value.agg.injEq]
   simp_all
  .cases a
 |false=>
  simp only[Fh,if_false]at a ⊢;split at a
  next e=>
   cases a;have b:off<cs.length:=a_;refine⟨cs[off],?_,.inr ⟨rfl,by rw[Pg b];rfl⟩⟩;have:(⟨cs⟩ : Array Value)[off]?=some cs[off]:=by simp[b]
   rw[this];rfl
  .cases a
def Fm(a b:List SL):Bool:=cu ((a.map SL.lf).zip (b.map SL.lf))
def vU(a b:List (Lf×Lf)):cu (a++b)=(cu a&&cu b):=by simp[cu]
def qd{a b c d:List SL}(h:a.length=b.length):Fm (a++c) (b++d)=(Fm a b&&Fm c d):=by
 unfold Fm;rw[IV,IV,List.zip_append (by simpa using h),vU]
def Ze(a:Bool)(cs:List SL)(v:Value):Prop:=W1 a (cs.map SL.val) v
def EqD(P:TI)(d:Nat)(t:TP)(ks:TJ):Prop:=
 ∃c,B2 P t=some c/\(if c then P.cellsOf t else 1)=ks.length/\∀(a b:List SL) (x y:Value),ba a ks=true->ba b ks=true->Ze c a x->Ze c b y->DW P (Op.equalIn d t x y)=some (Fm a b)
def gW{cs:List SL}{d e:TJ}(h:ba cs (d++e)=true):∃a b,cs=a++b/\ba a d=true/\ba b e=true:=by
 induction d generalizing cs with
 |nil=>exact⟨[],cs,rfl,rfl,h⟩
 |cons k d i=>
  cases cs with
  |nil=>cases h
  |cons c cs=>
   simp only[EQ,ba,te]at h;obtain⟨a,b,rfl,f,g⟩:=i h.2;exact⟨c :: a,b,rfl,by simp[ba,h.1,f],g⟩
def tJ{pre a post:List SL}{n off:Nat}(c:off=pre.length)(b:n=a.length):cut ((pre++a++post).map SL.val) off n=some (a.map SL.val):=by
 subst c;subst b;unfold cut
 simp_all
def KE{j7:Type}{c:Prop} [Decidable c](a b:Sem j7):DW P (if c then a else b)=if c then DW P a else DW P b:=by split<;>rfl
def qQ{d:Nat}{F:TP->Option (TJ)}(B:∀t ks,F t=some ks->EqD P d t ks):∀(l:List Field) (off:Nat) (ks:TJ),nT F l off=some ks->
  ∀(c a e b:List SL),c.length=off->e.length=off->ba a ks=true->ba b ks=true->
   DW P (Op.eqFields d ⟨(c++a).map SL.val⟩ ⟨(e++b).map SL.val⟩ l)=some (Fm a b)
 | [],off,ks,h,c,a,e,b,_,_,m,o=>by
  cases h;cases a with
  |cons _ _=>cases m
  |nil=>cases b with
   |cons _ _=>cases o
   |nil=>rfl
 |f :: l,off,ks,h,c,a,e,b,la,lb,m,o=>by
  simp only[nT]at h;split at h
  next k1 q C H=>
   have q:¬f.name = "_":=of_decide_eq_false q
   have C:=Ey C;obtain⟨J,I,rfl⟩:=EC.1 h;obtain⟨M,A,N,E⟩:=B _ _ H;obtain⟨g,w,rfl,j,n⟩:=gW m;obtain⟨i,z,rfl,k,p⟩:=gW o;have K:=bT j;have L:=bT k;obtain⟨x,r,s⟩:=ns A (cs:=(c++(g++w)).map SL.val) (off:=f.offset) (ds:=g.map SL.val) (by rw[←FL];exact tJ a_ a_);obtain⟨y,u,v⟩:=ns A (cs:=(e++(i++z)).map SL.val) (off:=f.offset) (ds:=i.map SL.val) (by rw[←FL];exact tJ a_ a_);have G:=E g i x y j k s v;have D:=qQ B l (off+k1.length) J I (c++g) w (e++i) z tt tt n p;rw[FL,FL]at D;simp only[Op.eqFields,ne_eq,q,not_false_eq_true,if_true];rw[aV,r];simp only[Ex];rw[aV,u];simp only[Ex];rw[aV,G];simp only[Ex];rw[qd a_];cases Fm g i with
   |true=>simpa using D
   |false=>rfl
  .cases h
def gU(d:Nat)(t:TP)(c:Array Field)(xs ys:Tl)(i:P.underlying t=some (.struct c))(k:P.stoodInHeld t=false) :
  DW P (Op.equalIn (d+1) t (.agg xs) (.agg ys))=DW P (Op.eqFields d xs ys c.toList):=by
 simp only[Op.equalIn,aV,bp i,Ex,nu,k,Fh,if_false];rw[←Array.forIn_toList];generalize c.toList=c;clear i
 induction c with
 |nil=>simp only[List.forIn_nil,Op.eqFields];rfl
 |cons f c j=>
  simp only[qdy,Op.eqFields,aV,KE];split
  .cases e:DW P (part f.type xs f.offset)with
   |none=>simp
   |some a=>
    cases g:DW P (part f.type ys f.offset)with
    |none=>simp[e,g]
    |some b=>
     cases h:DW P (Op.equalIn d f.type a b)with
     |none=>simp[e,g,h]
     |some r=>
      cases r
      .simp[e,g,h,iy]
      .simpa[e,g,h,iy]using j
  .simpa[iy]using j
def fy(d n:Nat)(e:TP)(xs ys:Tl):TC->Sem Bool
 | []=>pure true
 |i :: is=>do
  let a ←part e xs (i*n)
  let b ←part e ys (i*n)
  let r ←Op.equalIn d e a b
  if (!r)=true then pure false else fy d n e xs ys is
def iJ(d:Nat)(t e:TP)(n:Nat)(xs ys:Tl)(g:P.underlying t=some (.array n e))(f:∃k,P.underlying e=some k) :
  DW P (Op.equalIn (d+1) t (.agg xs) (.agg ys))=DW P (fy d (P.cellsOf e) e xs ys (range n)):=by
 obtain⟨k,f⟩:=f;simp only[Op.equalIn,aV,bp g,Ex,me f];rw[Std.Legacy.Range.forIn_eq_forIn_range'];simp only[Std.Legacy.Range.size,Nat.sub_zero,Nat.add_sub_cancel,Nat.div_one];rw[ZM];generalize List.range' 0 n=is;clear g
 induction is with
 |nil=>simp only[List.forIn_nil,fy];rfl
 |cons i is h=>
  simp only[qdy,fy,aV,KE];cases j:DW P (part e xs (i*P.cellsOf e))with
  |none=>simp
  |some a=>
   cases l:DW P (part e ys (i*P.cellsOf e))with
   |none=>simp
   |some b=>
    cases c:DW P (Op.equalIn d e a b)with
    |none=>simp[c]
    |some r=>
     cases r
     .simp[c,iy]
     .simpa[c,iy]using h
def sL{d:Nat}{e:TP}{p:TJ}(E:EqD P d e p)(l:p.length=P.cellsOf e):∀(n i:Nat) (c a f b:List SL),c.length=i*P.cellsOf e->f.length=i*P.cellsOf e->
  ba a (replicate n p).flatten=true->ba b (replicate n p).flatten=true->
   DW P (fy d (P.cellsOf e) e ⟨(c++a).map SL.val⟩ ⟨(f++b).map SL.val⟩ (List.range' i n))=some (Fm a b)
 |0,i,c,a,f,b,_,_,m,o=>by
  cases a with
  |cons _ _=>cases m
  |nil=>cases b with
   |cons _ _=>cases o
   |nil=>rfl
 |n+1,i,c,a,f,b,la,lb,m,o=>by
  rw[a8,ec]at m o;obtain⟨C,h1,D,A⟩:=E;obtain⟨g,w,rfl,j,q⟩:=gW m;obtain⟨h,z,rfl,k,r⟩:=gW o;have G:=bT j;have H:=bT k;obtain⟨x,s,t⟩:=ns h1 (cs:=(c++(g++w)).map SL.val) (off:=i*P.cellsOf e) (ds:=g.map SL.val) (by rw[←FL];exact tJ la.symm a_);obtain⟨y,u,v⟩:=ns h1 (cs:=(f++(h++z)).map SL.val) (off:=i*P.cellsOf e) (ds:=h.map SL.val) (by rw[←FL];exact tJ lb.symm a_);have F:=A g h x y j k t v;have B:=sL ⟨C,h1,D,A⟩ l n (i+1) (c++g) w (f++h) z i_ i_ q r;rw[FL,FL]at B;simp only[a7,fy];rw[aV,s];simp only[Ex];rw[aV,u];simp only[Ex];rw[aV,F];simp only[Ex];rw[qd a_];cases Fm g h with
  |true=>simpa using B
  |false=>rfl
def LG{k:LK}(g:k≠.v){a b:List SL}(d:ba a [k]=true)(e:ba b [k]=true):∃x y,a=[x]/\b=[y]/\x.is k=true/\y.is k=true:=by
 cases a with
 |nil=>cases d
 |cons x c=>cases c with
  |cons _ _=>simp[ba]at d
  |nil=>cases b with
   |nil=>cases e
   |cons y f=>cases f with
    |cons _ _=>simp[ba]at e
    |nil=>simp only[ba,qdG]at d e;simp_all
def oR:∀(d:Nat) (t:TP) (ks:TJ),DU P d t=some ks->EqD P d t ks
 |0,t,ks,h=>by cases h
 |d+1,t,ks,h=>by
  simp only[DU]at h;split at h
  next k e=>
   cases h;refine⟨false,by simp[B2,e],c_,λa b x y i j f g=>?_⟩;obtain⟨u,v,rfl,rfl,m,o⟩:=LG c_ i j;rcases f with⟨c,_⟩|⟨_,f⟩
   .cases c
   rcases g with⟨c,_⟩|⟨_,g⟩
   .cases c
   simp only[EN,IY,IU,and_true]at f g;subst f;subst g;cases u<;>simp only[SL.is,Fh]at m;cases v<;>simp only[SL.is,Fh]at o;have w:=dX m;have z:=dX o;subst w;subst z;simp only[SL.val];rw[sI e];simp[Fm,cu,SL.lf,iM]
  next e=>
   cases h;refine⟨false,by simp[B2,e],c_,λa b x y i j f g=>?_⟩;obtain⟨u,v,rfl,rfl,m,o⟩:=LG c_ i j;rcases f with⟨c,_⟩|⟨_,f⟩
   .cases c
   rcases g with⟨c,_⟩|⟨_,g⟩
   .cases c
   simp only[EN,IY,IU,and_true]at f g;subst f;subst g;cases u<;>simp only[SL.is,Fh]at m<;>cases v<;>simp only[SL.is,Fh]at o<;>
   .simp only[SL.val];rw[qN e];simp[Fm,cu,SL.lf,iM]
  next r e=>
   split at h
   next H E B=>
    split at h
    next l=>
     cases h;have l:=Ey l;refine⟨true,by simp[B2,e],by simp[l],λa b x y i j f g=>?_⟩;rcases f with⟨_,rfl⟩|⟨c,_⟩
     .rcases g with⟨_,rfl⟩|⟨c,_⟩
      .rw[gU d t r _ _ e E];exact qQ (oR d) r.toList 0 _ B [] a [] b rfl rfl i j
      .cases c
     .cases c
    .cases h
   .cases h
  next n p e=>
   split at h
   next F C=>
    split at h
    next l=>
     simp only[te]at l;have q:=Ey l.1;have D:=Ey l.2;cases h;refine⟨true,by simp[B2,e],j_,λa b x y i j f g=>?_⟩;rcases f with⟨_,rfl⟩|⟨c,_⟩
     .rcases g with⟨_,rfl⟩|⟨c,_⟩
      .have s:=oR d p F C;have m:∃k,P.underlying p=some k:=by
        obtain⟨G,A,_⟩:=s;unfold B2 at A
        grind
       rw[iJ d t p n _ _ e m,ZM];exact sL s q n 0 [] a [] b c_ c_ i j
      .cases c
     .cases c
    .cases h
   .cases h
  .cases h
end
section
variable {P:TI}
def Ly{a b:Bool}:Qy a b=(a==b):=by cases a<;>cases b<;>rfl
def yd{a b:Int}:Wc a b=(a==b):=by
 rw[OP,beq_iff_eq];cases a<;>cases b<;>simp only[Wc]
 .rw[Nat.beq_eq];grind
 .simp_all
 .simp_all
 simp_all
def oN:∀ {ks:TJ} {xs ys:Tn} {r:Bool},fY ks xs ys=some r->∃a b:List SL,a.map SL.val=xs/\b.map SL.val=ys/\ba a ks=true/\ba b ks=true/\Fm a b=r
 | [],[],[],r,h=>by cases h;exact⟨[],[],rfl,rfl,rfl,rfl,rfl⟩
 | .i k :: ks,.int a x :: xs,.int b y :: ys,r,h=>by
  simp only[fY]at h;split at h
  next r' m n e3=>
   obtain⟨c,d,h1,e,f,g,j⟩:=oN e3;refine⟨.i a x :: c,.i b y :: d,by simp[SL.val,h1],by simp[SL.val,e],by simp[ba,SL.is,m,f],by simp[ba,SL.is,n,g],?_⟩;have l:Fm (.i a x :: c) (.i b y :: d)=((x==y)&&Fm c d):=by simp[Fm,cu,iM,SL.lf]
   rw[l,j,←yd]
   grind
  .cases h
 | .b :: ks,.bool x :: xs,.bool y :: ys,r,h=>by
  simp only[fY]at h;split at h
  next r' e3=>
   obtain⟨c,d,h1,e,f,g,j⟩:=oN e3;refine⟨.b x :: c,.b y :: d,by simp[SL.val,h1],by simp[SL.val,e],by simp[ba,SL.is,f],by simp[ba,SL.is,g],?_⟩;have l:Fm (.b x :: c) (.b y :: d)=((x==y)&&Fm c d):=by simp[Fm,cu,iM,SL.lf]
   rw[l,j,←Ly]
   grind
  .cases h
def jg:∀ {ks:TJ} {xs ys:Tn} {r:Bool},fY ks xs ys=some r->xs.all scalar=true
 | [],[],[],r,h=>rfl
 | .i k :: ks,.int a x :: xs,.int b y :: ys,r,h=>by
  simp only[fY]at h;split at h
  next r' c d e3=>
   simp only[UW,te];exact⟨rfl,jg e3⟩
  .cases h
 | .b :: ks,.bool x :: xs,.bool y :: ys,r,h=>by
  simp only[fY]at h;split at h
  next r' e3=>
   simp only[UW,te];exact⟨rfl,jg e3⟩
  .cases h
def N9:∀ {ks:TJ} {xs ys:Tn} {r:Bool},fY ks xs ys=some r->xs.length=ks.length:=by
 intro ks xs ys r h;obtain⟨a,b,c,e,d,f,g⟩:=oN h;rw[←c,GY];exact bT d
def mL:∀ {ks:TJ} {xs:Tn} {r:Bool},fY ks xs xs=some r->r=true
 | [],[],r,h=>by cases h;rfl
 | .i k :: ks,.int a x :: xs,r,h=>by
  simp only[fY]at h;split at h
  next r' c d e3=>
   have:Wc x x=true:=by rw[yd];simp
   rw[this]at h;simp only[G_]at h;rw[←h];exact mL e3
  .cases h
 | .b :: ks,.bool x :: xs,r,h=>by
  simp only[fY]at h;split at h
  next r' e3=>
   have:Qy x x=true:=by cases x<;>rfl
   rw[this]at h;simp only[G_]at h;rw[←h];exact mL e3
  .cases h
def uV{j7:Type}{g:j7->PUnit->Sem (ForInStep PUnit)}:∀(l:List j7),(∀x∈l,DW P (g x PUnit.unit)=some (.yield PUnit.unit))->DW P (forIn l PUnit.unit g)=some PUnit.unit
 | [],_=>rfl
 |x :: l,h=>by
  rw[qdy,aV,h x KG];exact uV l λy a=>h y (FZ _ a)
def ChkD(P:TI)(d:Nat)(t:TP)(ks:TJ):Prop:=∃a,B2 P t=some a/\(if a then P.cellsOf t else 1)=ks.length/\∀(b:Bool) (m:Nat) (cs:Tn) (v:Value),d<=m->cs.length=ks.length->W1 a cs v->DW P (Instr.checkKey b m t v)=some ()
def wj{F:TP->Option (TJ)}:∀(d:List Field) (off:Nat) (ks:TJ),nT F d off=some ks->∀f∈d,∃k1,F f.type=some k1/\f.offset+k1.length<=off+ks.length
 | [],off,ks,h,f,c=>by cases c
 |j :: d,off,ks,h,f,c=>by
  simp only[nT]at h;split at h
  next k1 l e k=>
   have e:=Ey e;obtain⟨i,g,rfl⟩:=EC.1 h;rcases EL.1 c with rfl|c
   .simp_all
   .obtain⟨m,a,b⟩:=wj d _ i g f c
    grind
  .cases h
def J7:∀(d:Nat) (t:TP) (ks:TJ),DU P d t=some ks->ChkD P d t ks
 |0,t,ks,h=>by cases h
 |d+1,t,ks,h=>by
  simp only[DU]at h;split at h
  next k e=>
   cases h;refine⟨false,by simp[B2,e],c_,λb m cs v E _ _=>?_⟩;obtain⟨m,rfl⟩ : ∃l,m=l+1:=⟨m - 1,a_⟩;unfold Instr.checkKey;rw[aV,bp e];rfl
  next e=>
   cases h;refine⟨false,by simp[B2,e],c_,λb m cs v E _ _=>?_⟩;obtain⟨m,rfl⟩ : ∃l,m=l+1:=⟨m - 1,a_⟩;unfold Instr.checkKey;rw[aV,bp e];rfl
  next J e=>
   split at h
   next R Q L=>
    split at h
    next c=>
     cases h;have c:=Ey c;refine⟨true,by simp[B2,e],by simp[c],λb m cs v E y G=>?_⟩;obtain⟨m,rfl⟩ : ∃l,m=l+1:=⟨m - 1,a_⟩;rcases G with⟨_,rfl⟩|⟨u,_⟩
     case inr=>cases u
     unfold Instr.checkKey;rw[aV,bp e];simp only[Ex];rw[←Array.forIn_toList];have:=uV (P:=P) (g:=λf _=>if f.name ≠ "_" then(do Instr.checkKey b m f.type (←part f.type ⟨cs⟩ f.offset);pure (ForInStep.yield PUnit.unit))else pure (ForInStep.yield PUnit.unit)) J.toList (λf z=>by
      obtain⟨K,B,O⟩:=wj J.toList 0 _ L f z;rw[KE];split
      .obtain⟨s,q,I,r⟩:=J7 d f.type K B;have w:cut cs f.offset (if s then P.cellsOf f.type else 1)=some ((cs.drop f.offset).take K.length):=by
        unfold cut
        simp_all
       obtain⟨x,H,j⟩:=ns q w;rw[aV];rw[H];simp only[Ex];rw[aV,r b m _ x a_ tt j];rfl
      .rfl)
     simp_all
    .cases h
   .cases h
  next n a e=>
   split at h
   next p B=>
    split at h
    next c=>
     simp only[te]at c;have C:=Ey c.1;have M:=Ey c.2;cases h;refine⟨true,by simp[B2,e],j_,λb m cs v E y G=>?_⟩;obtain⟨m,rfl⟩ : ∃l,m=l+1:=⟨m - 1,a_⟩;rcases G with⟨_,rfl⟩|⟨u,_⟩
     case inr=>cases u
     obtain⟨s,q,I,r⟩:=J7 d a p B;have F:∃k,P.underlying a=some k:=by
      unfold B2 at q
      grind
     obtain⟨N,F⟩:=F;unfold Instr.checkKey;rw[aV,bp e];simp only[Ex];rw[Std.Legacy.Range.forIn_eq_forIn_range'];simp only[Std.Legacy.Range.size,Nat.sub_zero,Nat.add_sub_cancel,Nat.div_one];have o:cs.length=n*p.length:=j_;have:=uV (P:=P) (g:=λi _=>(do Instr.checkKey b m a (←part a ⟨cs⟩ (i*(←sizeOf a)));pure (ForInStep.yield PUnit.unit))) (List.range' 0 n) (λi A=>by
      have A:i<n:=by simpa using A
      have D:i*P.cellsOf a+p.length<=cs.length:=by
       rw[o,←C];have:=Pn p.length (Nat.succ_le_of_lt A)
       grind
      have w:cut cs (i*P.cellsOf a) (if s then P.cellsOf a else 1)=some ((cs.drop (i*P.cellsOf a)).take p.length):=by
       unfold cut;rw[I,qs D]
      obtain⟨x,H,j⟩:=ns q w;rw[aV,me F];simp only[Ex];rw[aV,H];simp only[Ex];rw[aV,r b m _ x a_ tt j];rfl)
     simp_all
    .cases h
   .cases h
  .cases h
def L8{kt:TP}{k:TR}(h:Jj P kt k=true):jW P kt k=true:=by
 unfold Jj at h;split at h
 next b=>
  split at h
  next B=>
   split at h
   next g n=>
    split at h
    next r i=>
     have o:=N9 i;have s:=mL i;subst s;obtain⟨p,z,A,q⟩:=oR 10000 kt g n;have l:p=true:=by
      simp_all
     subst l;obtain⟨a,c,t,u,v,w,x⟩:=oN i;have e:=q a c (.agg b) (.agg b) v w (.inl ⟨rfl,by rw[t]⟩) (.inl ⟨rfl,by rw[u]⟩);rw[x]at e;have f:DW P (Op.equal kt (.agg b) (.agg b))=some true:=e;obtain⟨j,y,_,m⟩:=J7 10000 kt g n;have d:j=true:=by
      simp_all
     subst d;unfold jW;rw[m true 10000 b.toList (.agg b) (B8 _) o (.inl ⟨rfl,rfl⟩),m false 10000 b.toList (.agg b) (B8 _) o (.inl ⟨rfl,rfl⟩),f];have:gL (.agg b)=true:=jg i;rw[this];rfl
    .exact h
   .exact h
  .exact h
 .exact h
def Ji(a:Bool)(xs:Tn)(x:Value):Prop:=(a=true/\x = .agg ⟨xs⟩)∨(a=false/\∃b,xs=x :: b)
def U4(P:TI)(d:Nat)(t:TP)(ks:TJ):Prop:=
 ∃a,B2 P t=some a/\(if a then P.cellsOf t else 1)=ks.length/\∀(xs ys:Tn) (x y:Value) (r:Bool),x8 ks xs ys=some r->Ji a xs x->Ji a ys y->DW P (Op.equalIn d t x y)=some r
def mI:∀ {k1 a:TJ} {xs ys:Tn} {r:Bool},x8 (k1++a) xs ys=some r->
  ∃c,x8 k1 (xs.take k1.length) (ys.take k1.length)=some c/\(c=false->r=false)/\(c=true->x8 a (xs.drop k1.length) (ys.drop k1.length)=some r)
 | [],a,xs,ys,r,h=>by
  refine⟨true,by simp only[x8],(λq=>Bool.noConfusion q),λ_=>?_⟩;simpa using h
 | .i k :: k1,a,xs,ys,r,h=>by
  cases xs with
  |nil=>simp[x8]at h
  |cons x xs=>cases ys with
   |nil=>cases x<;>simp[x8]at h
   |cons y ys=>
    cases x<;>first|(simp[x8]at h;done)|skip
    cases y<;>first|(simp[x8]at h;done)|skip
    simp only[EQ,x8]at h;simp only[ZJ,hy,qcA,x8];split at h
    next d e=>
     split at h
     next e3=>
      exact mI h
     simp_all
    .cases h
 | .b :: k1,a,xs,ys,r,h=>by
  cases xs with
  |nil=>simp[x8]at h
  |cons x xs=>cases ys with
   |nil=>cases x<;>simp[x8]at h
   |cons y ys=>
    cases x<;>first|(simp[x8]at h;done)|skip
    cases y<;>first|(simp[x8]at h;done)|skip
    simp only[EQ,x8]at h;simp only[ZJ,hy,qcA,x8];split at h
    next e3=>
     exact mI h
    simp_all
 | .v :: k1,a,xs,ys,r,h=>by simp[x8]at h
def V0{k:LK}{ks:TJ}{xs ys:Tn}{r:Bool}(h:x8 (k :: ks) xs ys=some r):∃x b y a,xs=x :: b/\ys=y :: a:=by
 cases xs with
 |nil=>cases k<;>simp[x8]at h
 |cons x xs=>cases ys with
  |nil=>cases k<;>cases x<;>simp[x8]at h
  |cons y ys=>simp_all
def MS{t:TP}{a:Bool}(h:B2 P t=some a){cs:Tn}{off n:Nat}(b:(if a then P.cellsOf t else 1)=n)(c:a=false->∃x f,(cs.drop off).take n=x :: f) :
  ∃v,DW P (part t ⟨cs⟩ off)=some v/\Ji a ((cs.drop off).take n) v:=by
 have e:∃d,P.underlying t=some d:=by
  unfold B2 at h
  grind
 obtain⟨d,e⟩:=e;unfold part;rw[aV,Bm h];simp only[Ex];cases a with
 |true=>
  simp only[if_true]at b ⊢;subst b;refine⟨.agg ⟨(cs.drop off).take (P.cellsOf t)⟩,?_,.inl ⟨rfl,rfl⟩⟩;rw[aV,me e];simp only[Ex,iy,G_,Value.agg.injEq]
  simp_all
 |false=>
  obtain⟨x,f,i⟩:=c rfl;simp only[Fh,if_false]at b ⊢;subst b;refine⟨x,?_,.inr ⟨rfl,f,i⟩⟩;have g:(cs.drop off)[0]?=some x:=by
   have:((cs.drop off).take 1)[0]?=some x:=by rw[i];rfl
   grind
  rw[d6,e2]at g;have:(⟨cs⟩ : Array Value)[off]?=some x:=by simpa using g
  rw[this];rfl
def zO{d:Nat}{t:TP}{k1 l:TJ}(u:U4 P d t k1){xs ys:Tn}{off:Nat}{r:Bool}(h:x8 (k1++l) (xs.drop off) (ys.drop off)=some r)(s:Bool->Sem Bool){r':Bool}
  (E:x8 l (xs.drop (off+k1.length)) (ys.drop (off+k1.length))=some r->DW P (s true)=some r) (v:DW P (s false)=some false) (w:r'=r) :
  (DW P (part t ⟨xs⟩ off)).bind (λa=>(DW P (part t ⟨ys⟩ off)).bind λb=>(DW P (Op.equalIn d t a b)).bind λq=>DW P (s q))=some r':=by
 subst w;obtain⟨n,j,e,p⟩:=u;obtain⟨m,i,o,e3⟩:=mI h;have c:n=false->(∃x f,(xs.drop off).take k1.length=x :: f)/\∃x f,(ys.drop off).take k1.length=x :: f:=by
  intro g;subst g;simp only[Fh,if_false]at e;cases k1 with
  |nil=>cases e
  |cons k F=>
   obtain⟨x,f,y,z,G,H⟩:=V0 i
   grind
 obtain⟨x,A,B⟩:=MS j (cs:=xs) (off:=off) e λh=>(c h).1;obtain⟨y,C,D⟩:=MS j (cs:=ys) (off:=off) e λh=>(c h).2;rw[A];simp only[Ex];rw[C];simp only[Ex];rw[p _ _ x y m i B D];simp only[Ex];cases m with
 |true=>
  simp_all
 |false=>rw[o rfl];exact v
def od{d:Nat}{F:TP->Option (TJ)}(g:∀t ks,F t=some ks->U4 P d t ks):∀(a:List Field) (off:Nat) (ks:TJ),nT F a off=some ks->
  ∀(xs ys:Tn) (r:Bool),x8 ks (xs.drop off) (ys.drop off)=some r->DW P (Op.eqFields d ⟨xs⟩ ⟨ys⟩ a)=some r
 | [],off,ks,h,xs,ys,r,b=>by
  cases h;simp only[x8,G_]at b;subst b;rfl
 |f :: a,off,ks,h,xs,ys,r,b=>by
  simp only[nT]at h;split at h
  next k1 c e i=>
   have c:¬f.name = "_":=of_decide_eq_false c
   have e:=Ey e;obtain⟨k,j,rfl⟩:=EC.1 h;simp only[Op.eqFields,ne_eq,c,not_false_eq_true,if_true,aV];rw[e];exact zO (g _ _ i) b (λq=>if (!q)=true then pure false else Op.eqFields d ⟨xs⟩ ⟨ys⟩ a) (λh=>by simpa using od g a _ k j xs ys r h) rfl rfl
  .cases h
def qP{d:Nat}{e:TP}{c:TJ}(f:U4 P d e c)(b:c.length=P.cellsOf e):∀(n i:Nat) (xs ys:Tn) (r:Bool),
  x8 (replicate n c).flatten (xs.drop (i*P.cellsOf e)) (ys.drop (i*P.cellsOf e))=some r->DW P (fy d (P.cellsOf e) e ⟨xs⟩ ⟨ys⟩ (List.range' i n))=some r
 |0,i,xs,ys,r,a=>by
  simp only[List.replicate_zero,List.flatten_nil,x8,G_]at a;subst a;rfl
 |n+1,i,xs,ys,r,a=>by
  rw[a8,ec]at a;simp only[a7,fy,aV];refine zO f a (λq=>if (!q)=true then pure false else fy d (P.cellsOf e) e ⟨xs⟩ ⟨ys⟩ (List.range' (i+1) n)) (λh=>?_) rfl rfl;have:=qP f b n (i+1) xs ys r i_;simpa using this
def qh:∀(d:Nat) (t:TP) (ks:TJ),DU P d t=some ks->U4 P d t ks
 |0,t,ks,h=>by cases h
 |d+1,t,ks,h=>by
  simp only[DU]at h;split at h
  next k e=>
   cases h;refine⟨false,by simp[B2,e],c_,λxs ys x y r a c f=>?_⟩;rcases c with⟨h0,_⟩|⟨_,A,rfl⟩
   .cases h0
   rcases f with⟨h0,_⟩|⟨_,ty,rfl⟩
   .cases h0
   cases x<;>first|(simp[x8]at a;done)|skip
   cases y<;>first|(simp[x8]at a;done)|skip
   simp only[x8]at a;split at a
   next g i=>
    have g:=dX g;have i:=dX i;subst g;subst i;rw[sI e,←yd]
    grind
   .cases a
  next e=>
   cases h;refine⟨false,by simp[B2,e],c_,λxs ys x y r a c f=>?_⟩;rcases c with⟨h0,_⟩|⟨_,A,rfl⟩
   .cases h0
   rcases f with⟨h0,_⟩|⟨_,ty,rfl⟩
   .cases h0
   cases x<;>first|(simp[x8]at a;done)|skip
   cases y<;>first|(simp[x8]at a;done)|skip
   simp only[x8]at a;rw[qN e,←Ly]
   grind
  next m e=>
   split at h
   next C v q=>
    split at h
    next b=>
     cases h;have b:=Ey b;refine⟨true,by simp[B2,e],by simp[b],λxs ys x y r a c f=>?_⟩;rcases c with⟨_,rfl⟩|⟨h0,_⟩
     .rcases f with⟨_,rfl⟩|⟨h0,_⟩
      .rw[gU d t m _ _ e v];exact od (qh d) m.toList 0 _ q xs ys r a
      .cases h0
     .cases h0
    .cases h
   .cases h
  next n j e=>
   split at h
   next z s=>
    split at h
    next b=>
     simp only[te]at b;have l:=Ey b.1;have u:=Ey b.2;cases h;refine⟨true,by simp[B2,e],j_,λxs ys x y r a c f=>?_⟩;rcases c with⟨_,rfl⟩|⟨h0,_⟩
     .rcases f with⟨_,rfl⟩|⟨h0,_⟩
      .have o:=qh d j z s;have w:∃k,P.underlying j=some k:=by
        obtain⟨B,p,_⟩:=o;unfold B2 at p
        grind
       rw[iJ d t j n _ _ e w,ZM];exact qP o l n 0 xs ys r (by simpa using a)
      .cases h0
     .cases h0
    .cases h
   .cases h
  .cases h
def we{kt:TP}{ks:TJ}{cs:Tl}(d:∀(xs ys:Tn) (x y:TR) (r:Bool),x8 ks xs ys=some r->Ji true xs x->Ji true ys y->DW P (Op.equalIn 10000 kt x y)=some r) :
  ∀(a:Tj) (i:Nat) (r:Ts),jU ks cs.toList a i=some r->∃q,DW P (Instr.findAsking kt (.agg cs) (a.map bI) i)=some q/\q.map (·.1)=r
 | [],i,r,h=>by cases h;exact⟨none,rfl,rfl⟩
 |e :: a,i,r,h=>by
  simp only[jU]at h;split at h
  next ds f=>
   have g:∀b,x8 ks cs.toList ds.toList=some b->DW P (Op.equal kt (.agg cs) (bI e).key)=some b:=by
    intro b c;have:=d cs.toList ds.toList (.agg cs) (.agg ds) b c (.inl ⟨rfl,rfl⟩) (.inl ⟨rfl,rfl⟩);show DW P (Op.equalIn 10000 kt (.agg cs) e.key)=some b;rw[f];exact this
   have j:DW P (Instr.findAsking kt (.agg cs) ((e :: a).map bI) i)=(DW P (Op.equal kt (.agg cs) (bI e).key)).bind λb=>DW P (if b then pure (some (i,(bI e).val))else Instr.findAsking kt (.agg cs) (a.map bI) (i+1)):=by
    show DW P (Op.equal kt (.agg cs) (bI e).key >>= λb=>if b then pure (some (i,(bI e).val))else Instr.findAsking kt (.agg cs) (a.map bI) (i+1))=_;rw[aV]
   split at h
   next c=>
    cases h;refine⟨some (i,(bI e).val),?_,rfl⟩;rw[j,g true c];rfl
   next c=>
    obtain⟨q,k,l⟩:=we d a (i+1) r h
    simp_all
   .cases h
  .cases h
def Ab(kt:TP)(k:TR)(b:Tj):wc P kt k b=tZ P kt k b:=by
 unfold wc;split
 next f=>
  simp only[oP];split
  next o a j=>
   split
   next r h=>
    obtain⟨p,g,u,i⟩:=qh 10000 kt o j;rw[a]at g;cases g;obtain⟨q,v,w⟩:=we (P:=P) (kt:=kt) i b 0 r h;have c:∃d,P.underlying kt=some d/\∀x,Instr.sameNow d (.agg f) x=none:=by
     unfold B2 at a;split at a
     next t e=>exact⟨_,e,λx=>by simp[Instr.sameNow]⟩
     next n s e=>exact⟨_,e,λx=>by simp[Instr.sameNow]⟩
     .cases a
     .cases a
    obtain⟨d,c,m⟩:=c;unfold tZ Instr.findKey;rw[aV,bp c];simp only[Ex];cases b with
    |nil=>
     cases h;rfl
    |cons e l=>
     have:Instr.findNow d (.agg f) ((e :: l).map bI) 0=none:=by
      simp only[EN];unfold Instr.findNow;rw[m]
     simp_all
   .rfl
  .rfl
 .rfl
end
section
variable [DB] [En] {R HT:Type} {A:Dv R HT} {X:DQ} {Sg:Td} {holds:R->Prop} {abs:HT->Tu}
variable {ev:Env} {g9:St} {h:HT} {o:Oper} {K:KN R HT}
def SL.nv:SL->Prop
 | .v _=>False
 |_=>True
def SL.OB{l:SL}(h:l.nv):scalar l.val=true:=by cases l<;>first|rfl|exact h.elim
def SL.nv_den{l:SL}(h:l.nv):Hi l.val=l.val:=by cases l<;>first|rfl|exact h.elim
def uI{x:S0}(h:∀l∈x.cells,l.nv):plain x.val=true/\GE x.val=x.val:=by
 cases x with
 |leaf l=>
  have a:=h l (by simp[S0.cells]);cases l<;>first|exact⟨rfl,rfl⟩|exact a.elim
 |agg b=>
  refine⟨?_,?_⟩
  .simp only[S0.val,plain,A_,DJ];rintro _ ⟨l,a,rfl⟩;simp[ky,SL.OB (h l a)]
  .simp only[S0.val,GE,Value.agg.injEq];apply u9.1;rw[qdq,Pj];refine ZP λl a=>?_;exact SL.nv_den (h l a)
def ti:∀ {cs:List SL} {ks:TJ},ba cs ks=true->tj ks=true->∀l∈cs,l.nv
 | [],[],_,_,l,a=>by cases a
 |c :: cs,k :: ks,h1,b,l,a=>by
  simp only[ba,te]at h1;simp only[tj,UW,te]at b;rcases EL.1 a with rfl|a
  .cases l<;>first|trivial|(cases k<;>first|(simp at b;done)|(simp[SL.is]at h1;done))
  .exact ti h1.2 b.2 l a
 | [],_ :: _,h,_,_,_=>by cases h
 |_ :: _,[],h,_,_,_=>by cases h
def gX{d:BinOp}{t m:TP}{x y:TL}{a b u:TR}(c:o.op = .binOp d t x y m)(e:jn g9.tmps x=a)(f:jn g9.tmps y=b)(g:plain a=true/\GE a=a)(i:plain b=true/\GE b=b)
  (j:plain u=true/\GE u=u) (k:∀w,(eqGuard d t x y a b).run X.C.P w = .ok () w) (l:∀w,(binOp d t a b).run X.C.P w = .ok u w):oh X.C g9.tmps o u:=by
 refine⟨by rw[c];rfl,?_,j.1,λw=>?_⟩
 .rw[c];simp[Op.operands,e,f,g.1,i.1]
 .simp only[execOp,c,e,f,g.2,i.2,Sem.run_bind,k w,Result.andThen_ok,l w,Sem.run_pure,j.2]
def qo{d:BinOp}{t:TP}{x y:TL}{k c:TK}{a b:Int}{P:TI}(w:TS):(eqGuard d t x y (.int k a) (.int c b)).run P w = .ok () w:=by
 unfold eqGuard;split<;>rfl
def rY{c:BinOp}{t:TP}{x y:TL}{a b:Bool}{P:TI}(w:TS):(eqGuard c t x y (.bool a) (.bool b)).run P w = .ok () w:=by
 unfold eqGuard;split<;>rfl
def wt{c:BinOp}{t:TP}{x y:TL}{a b:ByteArray}{P:TI}(w:TS):(eqGuard c t x y (.string a) (.string b)).run P w = .ok () w:=by
 unfold eqGuard;split<;>rfl
def Nh(a b:ByteArray):(a.toList==b.toList)=N6 a.data.toList b.data.toList:=by
 rw[OP,zW,beq_iff_eq,ByteArray.toList_eq,ByteArray.toList_eq]
def rf{x y:TR}{t:Bool}(h:Ng x y=some t):∃a b,x = .string a/\y = .string b/\t=N6 a.data.toList b.data.toList:=by
 unfold Ng at h
 grind
def VT{P:TI}{c:BinOp}{k:TK}{a b:Int}{t:Bool}(h:rO c a b=some t)(d:L4 c=false)(ty:TP)(w:TS):(binOp c ty (.int k a) (.int k b)).run P w = .ok (.bool t) w:=by
 cases c<;>simp only[rO,reduceCtorEq,G_]at h<;>subst h<;>simp[binOp,Op.intCmp]
def aB{l:SL}(h:l.h_):(S0.leaf l).h_:=λm a=>by
 simp only[S0.cells,GM]at a;subst a;exact h
def d'(hA:pL A X.C Sg X.T holds abs)(q:Rp ev g9)(z:abs h=g9.heap){W:BinOp}{t yt:TP}{x y:TL}{a b:S0}(D:o.op = .binOp W t x y yt)
  (hx:Dt ev x=some a) (hy:Dt ev y=some b) (g:holds (Dn A X o.dst W t a b ev h K)):DT X holds abs o g9 K:=by
 obtain⟨j,ga⟩:=q.Dt hx;obtain⟨p,gb⟩:=q.Dt hy;unfold Dn at g;split at g
 next k n k' m=>
  simp only[S0.val,SL.val]at j p;have F:∀(k:TK) (n:Int),plain (.int k n)=true/\GE (.int k n) = .int k n:=λ_ _=>⟨rfl,rfl⟩;split at g
  .obtain⟨r,S,f⟩:=hA.HB _ _ _ _ _ _ g;exact cH q z (s:=.st (.leaf (.i k r))) (aB trivial) (gX D j p (F _ _) (F _ _) (F _ _) (λw=>qo w) (λw=>S _ _ w)) f
  next hs G V=>
   have e:=dX G;subst e;obtain⟨r,S,f⟩:=hA.cmp _ _ _ _ g;exact cH q z (s:=.st (.leaf (.b r))) (aB trivial) (gX D j p (F _ _) (F _ _) ⟨rfl,rfl⟩ (λw=>qo w) (λw=>VT S hs _ w)) f
  next hs G V=>
   have e:=dX G;subst e;obtain⟨r,S,f⟩:=hA.x6 _ _ _ _ _ g;exact cH q z (s:=.st (.leaf (.i k r))) (aB trivial) (gX D j p (F _ _) (F _ _) (F _ _) (λw=>qo w) (λw=>S _ _ w)) f
  .exact absurd g hA.fail
 next Y Z=>
  split at g
  next ks hf al an=>
   split at g
   next V=>
    simp only[te]at V;obtain⟨⟨I,J⟩,L⟩:=V;have O:=uI (x:=.agg Y) (ti I L);have Q:=uI (x:=.agg Z) (ti J L);obtain⟨ag,g1,g2,g3⟩:=oR 10000 t ks hf;have N:∀w,(eqGuard W t x y (S0.val (.agg Y)) (S0.val (.agg Z))).run X.C.P w = .ok () w:=λw=>run_eqGuard_agg w W t x y _ _ al;have ad:ag=true:=by
     simp_all
    subst ad;have M:=g3 Y Z _ _ I J (.inl ⟨rfl,rfl⟩) (.inl ⟨rfl,rfl⟩);split at g
    .have f:=hA.eqs _ _ g;refine cH q z (s:=.st (.leaf (.b _))) (aB trivial) (gX D j p O Q ⟨rfl,rfl⟩ N λw=>?_) f;rw[S0.val,S0.val,run_eql_struct,iq M];rfl
    .have f:=hA.eqs _ _ g;refine cH q z (s:=.st (.leaf (.b _))) (aB trivial) (gX D j p O Q ⟨rfl,rfl⟩ N λw=>?_) f;rw[S0.val,S0.val,run_neq_struct,iq M];rfl
    .exact absurd g hA.fail
   .exact absurd g hA.fail
  .exact absurd g hA.fail
 next u v=>
  simp only[S0.val,SL.val]at j p;split at g
  next hu=>
   split at g
   .obtain⟨U,B,f⟩:=hA.jw _ _ g;obtain⟨c,d,rfl,rfl,rfl⟩:=rf B;refine cH q z (s:=.st (.leaf (.b _))) (aB trivial) (gX D j p ⟨rfl,rfl⟩ ⟨rfl,rfl⟩ ⟨rfl,rfl⟩ (λw=>wt w) λw=>?_) f;simp only[binOp,Op.stringOp,Nh];rfl
   .obtain⟨U,B,f⟩:=hA.jw _ _ g;obtain⟨c,d,rfl,rfl,rfl⟩:=rf B;refine cH q z (s:=.st (.leaf (.b _))) (aB trivial) (gX D j p ⟨rfl,rfl⟩ ⟨rfl,rfl⟩ ⟨rfl,rfl⟩ (λw=>wt w) λw=>?_) f;simp only[binOp,Op.stringOp,Nh];rfl
   .exact absurd g hA.fail
  .split at g
   .obtain⟨U,B,f⟩:=hA.jw _ _ g;obtain⟨B,H⟩:=wS ‹X.C.P.underlying t=some _› B;refine aC q z (s:=.st (.leaf (.b U))) (aB trivial) ?_ f;simp only[au,D,j,p,B,H,if_true];rfl
   .obtain⟨U,B,f⟩:=hA.jw _ _ g;obtain⟨B,H⟩:=wS ‹X.C.P.underlying t=some _› B;refine aC q z (s:=.st (.leaf (.b (!U)))) (aB trivial) ?_ f;simp only[au,D,j,p,B,H,if_true];rfl
   .exact absurd g hA.fail
  .exact absurd g hA.fail
 next u v _ _=>
  split at g
  next hb hu=>
   simp only[te]at hb;have E:∀ {l:SL},l.is .b=true->∃c,l.val = .bool c/\l.lf = .b c:=by
    intro l hl;cases l<;>simp only[SL.is,Fh]at hl<;>exact⟨_,rfl,rfl⟩
   obtain⟨c,c1,c2⟩:=E hb.1;obtain⟨d,d1,d2⟩:=E hb.2;simp only[S0.val]at j p;rw[c1]at j;rw[d1]at p;have hq:∀w,(Op.equal t (.bool c) (.bool d)).run X.C.P w = .ok (c==d) w:=λw=>run_equal_bool w t c d hu;split at g
   .have f:=hA.eqs _ _ g;rw[c2,d2]at f;refine cH q z (s:=.st (.leaf (.b _))) (aB trivial) (gX D j p ⟨rfl,rfl⟩ ⟨rfl,rfl⟩ ⟨rfl,rfl⟩ (λw=>rY w) λw=>?_) f;simp only[binOp,Sem.run_bind,hq w,Result.andThen_ok,Sem.run_pure];simp[SV.val,S0.val,SL.val,cu,iM]
   .have f:=hA.eqs _ _ g;rw[c2,d2]at f;refine cH q z (s:=.st (.leaf (.b _))) (aB trivial) (gX D j p ⟨rfl,rfl⟩ ⟨rfl,rfl⟩ ⟨rfl,rfl⟩ (λw=>rY w) λw=>?_) f;simp only[binOp,Sem.run_bind,hq w,Result.andThen_ok,Sem.run_pure];simp[SV.val,S0.val,SL.val,cu,iM]
   .exact absurd g hA.fail
  .exact absurd g hA.fail
 .exact absurd g hA.fail
def un_ok(hA:pL A X.C Sg X.T holds abs)(d:Rp ev g9)(j:abs h=g9.heap){v:UnOp}{t:TP}{x:TL}(p:o.op = .unOp v t x)
  (g:holds (match (generalizing:=false) v,km ev x with
  | .not,.st (.leaf (.b t))=>my o.dst (.st (.leaf (.b (!t)))) ev h K
  | .not,.st (.leaf (.l t))=>my o.dst (.st (.leaf (.l (!t)))) ev h K
  | .neg,.st (.leaf (.i k n))=>A.x6 .sub k 0 n λn=>my o.dst (.st (.leaf (.i k n))) ev h K
  |_,_=>A.fail)):DT X holds abs o g9 K:=by
 have c:∀ {a u:TR},jn g9.tmps x=a->(plain a=true/\GE a=a)->(plain u=true/\GE u=u)->(∀w,(Op.unary v a).run X.C.P w = .ok u w)->oh X.C g9.tmps o u:=by
  intro a u z B D q;refine⟨by rw[p];rfl,by rw[p];simp[Op.operands,z,B.1],D.1,λw=>?_⟩;simp only[execOp,p,z,B.2,Sem.run_bind,q w,Result.andThen_ok,Sem.run_pure,D.2]
 split at g
 next y e=>
  obtain⟨f,_⟩:=d.km e c_;refine cH d j (s:=.st (.leaf (.b (!y)))) (aB trivial) (c f ⟨rfl,rfl⟩ ⟨rfl,rfl⟩ λw=>?_) g;simp[SV.val,S0.val,SL.val,Op.unary]
 next y e=>
  obtain⟨f,_⟩:=d.km e c_;refine cH d j (s:=.st (.leaf (.l (!y)))) (aB trivial) (c f ⟨rfl,rfl⟩ ⟨rfl,rfl⟩ λw=>?_) g;simp[SV.val,S0.val,SL.val,Op.unary]
 next k n e=>
  obtain⟨f,_⟩:=d.km e c_;obtain⟨r,q,m⟩:=hA.x6 _ _ _ _ _ g;refine cH d j (s:=.st (.leaf (.i k r))) (aB trivial) (c f ⟨rfl,rfl⟩ ⟨rfl,rfl⟩ λw=>?_) m;have:=q X.C.P t w;simp[SV.val,S0.val,SL.val,Op.unary,binOp,Op.intArith]at this ⊢;exact this
 .exact absurd g hA.fail
def VV(hA:pL A X.C Sg X.T holds abs)(g:Rp ev g9)(l:abs h=g9.heap){j f:TP}{x:TL}(d:o.op = .convert j f x)
  (b:holds (match X.C.P.underlying j,X.C.P.underlying f,km ev x with
  |some (.int _),some (.int k),.st (.leaf (.i _ n))=>A.conv k n λn=>my o.dst (.st (.leaf (.i k n))) ev h K
  |_,_,_=>A.fail)):DT X holds abs o g9 K:=by
 split at b
 next r k q n m p e=>
  obtain⟨a,_⟩:=g.km e c_;have c:=hA.conv _ _ _ b
  simp only[SV.val,S0.val,SL.val]at a;refine cH g l (s:=.st (.leaf (.i k _))) (aB trivial) ⟨by rw[d];rfl,by rw[d];simp[Op.operands,a];rfl,rfl,λw=>?_⟩ c;simp only[execOp,d,a];simp[GE,Hi,convert,run_underlying m,run_underlying p,Conv.intToInt,SV.val,S0.val,SL.val]
 .exact absurd b hA.fail
end
namespace Sx
section
variable [DB] [En] {R HT:Type} {A:Dv R HT} {X:DQ} {Sg:Td} {holds:R->Prop} {abs:HT->Tu}
variable {ev:Env} {g9:St} {h:HT} {o:Oper} {K:KN R HT}
def qJ:∀(ix:List (Int×Nat)) (a:Nat) (p:Int×Nat),Ed a (ix++[p])=Ed a ix+p.1.toNat*p.2
 | [],_,_=>rfl
 |q :: l,a,p=>qJ l (a+q.1.toNat*q.2) p
def lX:∀(ix:List (Int×Nat)) (a n:Nat),Ed (a+n) ix=Ed a ix+n
 | [],_,_=>rfl
 |q :: l,a,n=>by
  simp only[Ed];rw[show a+n+q.1.toNat*q.2=a+q.1.toNat*q.2+n by omega];exact lX l _ n
def yH(hA:pL A X.C Sg X.T holds abs)(b:Rp ev g9)(d:abs h=g9.heap){x:TL}(i:o.op = .nilCheck x)
  (c:holds (match km ev x with
  | .st (.leaf (.v p))=>A.jw (Ec p) λq=>A.n4 q (my o.dst (.st (.leaf (.v q))) ev h K)
  | .HQ s off=>my o.dst (.HQ s off) ev h K
  | .JQ s off=>my o.dst (.JQ s off) ev h K
  |_=>A.fail)):DT X holds abs o g9 K:=by
 split at c
 next p e=>
  obtain⟨a,_⟩:=b.km e c_;simp only[SV.val,S0.val,SL.val]at a;obtain⟨q,j,f⟩:=hA.jw _ _ c;obtain⟨k,g⟩:=hA.n4 _ _ f;refine aC b d (s:=.st (.leaf (.v q))) (aB k) ?_ g;simp only[au,i,a];unfold Ec at j;split at j<;>cases j<;>rfl
 next s off e=>
  obtain⟨a,_⟩:=b.km e c_;exact aC b d (s:=.HQ s off) trivial (by simp only[au,i,a,SV.val]) c
 next s off e=>
  obtain⟨a,_⟩:=b.km e c_;exact aC b d (s:=.JQ s off) trivial (by simp only[au,i,a,SV.val]) c
 .exact absurd c hA.fail
def vY(hA:pL A X.C Sg X.T holds abs)(l:Rp ev g9)(n:abs h=g9.heap){t:TP}{x:TL}{f:Nat}(E:o.op = .fieldAddr t x f)
  (i:holds (mM A X o.dst t x f ev h K)):DT X holds abs o g9 K:=by
 unfold mM at i;split at i
 next H F=>
  split at i
  next m B=>
   have c:∀ {b d:Nat} {z:Ts},Nat.beq (X.C.P.cellsOf m.type) 0=false->jn g9.tmps x = .pointer (some ⟨b,d,z⟩)->
     au X.C X.b_ (jn g9.tmps) o=some (.val (.pointer (some ⟨b,d+m.offset,z⟩))):=by
    intro b d z g G;have g:¬X.C.P.cellsOf m.type=0:=λe=>by rw[e]at g;cases g
    simp only[au,E,G,gO,F,B,rv g,FJ]
   split at i
   next s d g e=>
    obtain⟨k,_⟩:=l.km e c_;exact aC l n (s:=.HQ s (d+m.offset)) trivial (c g k) i
   next s d g e=>
    obtain⟨k,_⟩:=l.km e c_;exact aC l n (s:=.JQ s (d+m.offset)) trivial (c g k) i
   next s j y g e=>
    obtain⟨k,_⟩:=l.km e c_;refine aC l n (s:=.JV s (j+m.offset) y) trivial ?_ i;rw[c g k,SV.val,lX]
   next s j y g e=>
    obtain⟨k,_⟩:=l.km e c_;refine aC l n (s:=.LU s (j+m.offset) y) trivial ?_ i;rw[c g k,SV.val,lX]
   next p g e=>
    obtain⟨k,_⟩:=l.km e c_;simp only[SV.val,S0.val,SL.val]at k;obtain⟨q,r,u⟩:=hA.jw _ _ i;obtain⟨D,w⟩:=hA.n4 _ _ u;refine aC l n (s:=.st (.leaf (.v q))) (aB D) ?_ w;unfold Eu at r;split at r
    next a=>
     cases r;exact c g k
    .cases r
   .exact absurd i hA.fail
  .exact absurd i hA.fail
 .exact absurd i hA.fail
def lz{i:TL}{n:Nat}(h:Kc i=some n):intOf (jn g9.tmps i)=some (n:Int):=by
 unfold Kc at h;split at h
 .cases h;simp[jn,flat,gL,scalar,Am.intOf]
 .cases h
def wx{len:Nat}{j:Int}{u:Unit}(h:FV len j=some u):0<=j/\j<(len:Int):=by
 rw[Q3]at h
 simp_all
def zS{ra:Nat}{x q:TR}{i:Int}(h:B_ ra x i=some q) :
  ∃a len cx,x = .slice (some a) len cx/\(0<=i/\i<(len:Int))/\q = .pointer (some ⟨a.block,a.off+i.toNat*ra,if a.spot=some 1 then some 1 else none⟩):=by
 rw[qr]at h
 grind
def wy(hA:pL A X.C Sg X.T holds abs)(w:Rp ev g9)(G:abs h=g9.heap){t:TP}{x i:TL}(W:o.op = .indexAddr t x i)
  (d:holds (mO A X o.dst t x i ev h K)):DT X holds abs o g9 K:=by
 unfold mO at d;split at d
 next E e S=>
  have c:∀ {b r:Nat} {U:Ts} {j:Int},Nat.beq (X.C.P.cellsOf e) 0=false->jn g9.tmps x = .pointer (some ⟨b,r,U⟩)->intOf (jn g9.tmps i)=some j->0<=j->j<(E:Int)->
    au X.C X.b_ (jn g9.tmps) o=some (.val (.pointer (some ⟨b,r+j.toNat*X.C.P.cellsOf e,U⟩))):=by
   intro b r U j f hx hi Y g;have f:¬X.C.P.cellsOf e=0:=λe=>by rw[e]at f;cases f
   simp only[au,W,hx,fL,hi,S,rv f,qs (And.intro Y g),FJ]
  have z:∀ {k:TK} {j:Int},km ev i = .st (.leaf (.i k j))->intOf (jn g9.tmps i)=some j:=by
   intro k j Q;obtain⟨g,_⟩:=w.km Q c_;rw[g];rfl
  simp only at d;split at d
  next s r n f y L=>
   obtain⟨g,_⟩:=w.km y c_;split at d
   next B=>
    have B:n<E:=j_;refine aC w G (s:=.HQ s (r+n*X.C.P.cellsOf e)) trivial ?_ d;rw[c f g (lz L) a_ a_];simp[SV.val]
   .exact absurd d hA.fail
  next s r n f y L=>
   obtain⟨g,_⟩:=w.km y c_;split at d
   next B=>
    have B:n<E:=j_;refine aC w G (s:=.JQ s (r+n*X.C.P.cellsOf e)) trivial ?_ d;rw[c f g (lz L) a_ a_];simp[SV.val]
   .exact absurd d hA.fail
  next s l M n f y L=>
   obtain⟨g,_⟩:=w.km y c_;split at d
   next B=>
    have B:n<E:=j_;refine aC w G (s:=.JV s (l+n*X.C.P.cellsOf e) M) trivial ?_ d;rw[c f g (lz L) a_ a_];simp[SV.val,lX]
   .exact absurd d hA.fail
  next s l M n f y L=>
   obtain⟨g,_⟩:=w.km y c_;split at d
   next B=>
    have B:n<E:=j_;refine aC w G (s:=.LU s (l+n*X.C.P.cellsOf e) M) trivial ?_ d;rw[c f g (lz L) a_ a_];simp[SV.val,lX]
   .exact absurd d hA.fail
  next s r k j f y F _=>
   obtain⟨g,_⟩:=w.km y c_;obtain⟨u,D,m⟩:=hA.jw _ _ d;obtain⟨I,J⟩:=wx D;exact aC w G (s:=.JV s r [(j,X.C.P.cellsOf e)]) trivial (by rw[c f g (z F) I J];rfl) m
  next s r k j f y F _=>
   obtain⟨g,_⟩:=w.km y c_;obtain⟨u,D,m⟩:=hA.jw _ _ d;obtain⟨I,J⟩:=wx D;exact aC w G (s:=.LU s r [(j,X.C.P.cellsOf e)]) trivial (by rw[c f g (z F) I J];rfl) m
  next s l M k j f y F _=>
   obtain⟨g,_⟩:=w.km y c_;obtain⟨u,D,m⟩:=hA.jw _ _ d;obtain⟨I,J⟩:=wx D;exact aC w G (s:=.JV s l (M++[(j,X.C.P.cellsOf e)])) trivial (by rw[c f g (z F) I J,SV.val,qJ]) m
  next s l M k j f y F _=>
   obtain⟨g,_⟩:=w.km y c_;obtain⟨u,D,m⟩:=hA.jw _ _ d;obtain⟨I,J⟩:=wx D;exact aC w G (s:=.LU s l (M++[(j,X.C.P.cellsOf e)])) trivial (by rw[c f g (z F) I J,SV.val,qJ]) m
  next p k j f y F=>
   obtain⟨g,_⟩:=w.km y c_;simp only[SV.val,S0.val,SL.val]at g;obtain⟨q,H,m⟩:=hA.jw _ _ d;obtain⟨Z,O⟩:=hA.n4 _ _ m;unfold QX at H;split at H
   next a=>
    split at H
    next N=>
     cases H;exact aC w G (s:=.st (.leaf (.v _))) (aB Z) (c f g (z F) N.1 N.2) O
    .cases H
   .cases H
  .exact absurd d hA.fail
 next e S=>
  simp only at d;split at d
  next p k j f y F=>
   obtain⟨g,_⟩:=w.km y c_;obtain⟨V,_⟩:=w.km F c_;simp only[SV.val,S0.val,SL.val]at g V;obtain⟨q,H,m⟩:=hA.jw _ _ d;have f:¬X.C.P.cellsOf e=0:=λe=>by rw[e]at f;cases f
   obtain⟨a,E,cx,rfl,N,rfl⟩:=zS H;refine aC w G (s:=.st (.leaf (.v _))) (aB ?_) ?_ m
   .show aI _=true;by_cases Q:a.spot=some 1<;>simp[Q,aI,nc,aT,bE,bj,aP,aD]
   .simp only[au,W,g,V,fL,Am.intOf,S,rv f,qs N,FJ];rfl
  .exact absurd d hA.fail
 .exact absurd d hA.fail
def AY{C:m8}{t:TP}{i:Bool}{cs ds:List SL}{off:Nat}{x:S0}(a:B2 C.P t=some i)(b:E1 cs off (if i then C.P.cellsOf t else 1)=some ds)(l:HV i ds=some x) :
  yQ C t ⟨cs.map SL.val⟩ off=some x.val/\x.cells=ds:=by
 obtain⟨k,c⟩:=qD l;refine⟨?_,k⟩;unfold E1 at b;unfold B2 at a;unfold yQ;split at a
 next p e=>
  cases a;simp only[if_true]at b;split at b
  next g=>
   cases b;rcases c with⟨_,c⟩|⟨f,_⟩
   .simp_all
   .cases f
  .cases b
 next n m e=>
  cases a;simp only[if_true]at b;split at b
  next g=>
   cases b;rcases c with⟨_,c⟩|⟨f,_⟩
   .simp_all
   .cases f
  .cases b
 next d q r e=>
  cases a;simp only[Fh,if_false]at b;split at b
  next g=>
   cases b;rcases c with⟨f,_⟩|⟨_,c⟩
   .cases f
   .rw[e];have j:off<cs.length:=a_;rw[Pg j]at c
    grind
  .cases b
 .cases a
def QI(hA:pL A X.C Sg X.T holds abs)(j:Rp ev g9)(u:abs h=g9.heap){t:TP}{x:TL}{f:Nat}(w:o.op = .field t x f)
  (a:holds (match X.C.P.underlying t,km ev x with
  |some (.struct i),.st (.agg cs)=>match i[f]? with
   |some c=>match (B2 X.C.P c.type).bind (λd=>(E1 cs c.offset (if d then X.C.P.cellsOf c.type else 1)).bind (HV d))with
    |some x=>my o.dst (.st x) ev h K
    |none=>A.fail
   |none=>A.fail
  |_,_=>A.fail)):DT X holds abs o g9 K:=by
 split at a
 next i cs y e=>
  obtain⟨p,n⟩:=j.km e c_;split at a
  next c v=>
   split at a
   next z b=>
    obtain⟨d,g,b⟩:=FY.1 b;obtain⟨B,k,b⟩:=FY.1 b;obtain⟨q,r⟩:=AY g k b;refine aC j u (s:=.st z) (λl m=>?_) ?_ a
    .rw[r]at m;exact n l ((pT k).2 l m)
    .simp only[au,w,p,SV.val,S0.val,vX,y,v,Ex,q,FJ]
   .exact absurd a hA.fail
  .exact absurd a hA.fail
 .exact absurd a hA.fail
def Ca(hA:pL A X.C Sg X.T holds abs)(b:Rp ev g9)(f:abs h=g9.heap){t:TL}{i:Nat}(g:o.op = .extract t i)
  (a:holds (match km ev t with
  | .K1 xs=>match xs[i]? with
   |some x=>my o.dst (.st x) ev h K
   |none=>A.fail
  |_=>A.fail)):DT X holds abs o g9 K:=by
 split at a
 next xs e=>
  obtain⟨d,c,k⟩:=b.km e c_;split at a
  next x j=>
   refine aC b f (s:=.st x) (c x (A9 j)) ?_ a;simp only[au,g,d,SV.val]
   grind
  .exact absurd a hA.fail
 .exact absurd a hA.fail
def yz(hA:pL A X.C Sg X.T holds abs)(c:Rp ev g9)(k:abs h=g9.heap){f:Fn}{first cap:Array Operand}(m:o.op = .makeFunc f first cap)
  (d:holds (match (generalizing:=false) f,D1 ev first.toList,D1 ev cap.toList with
  | .func g,some a,some b=>A.n4 (.func (.func g) ⟨ao a⟩ ⟨ao b⟩) (my o.dst (.st (.leaf (.v (.func (.func g) ⟨ao a⟩ ⟨ao b⟩)))) ev h K)
  |_,_,_=>A.fail)):DT X holds abs o g9 K:=by
 split at d
 next g a b _ i j=>
  obtain⟨n,_⟩:=c.D1 i;obtain⟨p,_⟩:=c.D1 j;obtain⟨l,e⟩:=hA.n4 _ _ d;refine aC c k (s:=.st (.leaf (.v _))) (aB l) ?_ e;simp only[au,m,SV.val,S0.val,SL.val,G_,EZ.val.injEq,Value.func.injEq,true_and]
  grind
 .exact absurd d hA.fail
def nh(b:Rp ev g9){r:Th}{x:Tt}(h:Gh ev r=some x):(r=none/\x=none)∨∃y k n,r=some y/\jn g9.tmps y = .int k n/\x=some n:=by
 unfold Gh at h;split at h
 .simp_all
 next y=>
  split at h
  next k n e=>
   cases h;obtain⟨a,_⟩:=b.km e c_;exact .inr ⟨y,k,n,rfl,a,rfl⟩
  .cases h
def ep(b:Rp ev g9){r:Th}{x:Tt}(h:Gh ev r=some x):iT (r.map (jn g9.tmps))=some x:=by
 rcases nh b h with⟨rfl,rfl⟩|⟨y,k,n,rfl,a,rfl⟩
 .rfl
 .simp[a,iT]
def mT(hA:pL A X.C Sg X.T holds abs)(d:Rp ev g9)(j:abs h=g9.heap){t:TP}{r:Th}(l:o.op = .makeMap t r)
  (b:holds (match qp X.C t (r.map λ_=>.int .i64 0),Gh ev r with
  |true,some _=>A.new (.map [] 0) h λn h=>my o.dst (.st (.leaf (.v (.map (some n))))) ev h K
  |_,_=>A.fail)):DT X holds abs o g9 K:=by
 split at b
 next x g e=>
  obtain⟨m,c,a⟩:=hA.new _ _ _ b;rw[j]at c a;refine dz d c (s:=.st (.leaf (.v (.map (some g9.heap.length))))) (aB rfl) (f:=λH=>some (H++[.map [] 0],.map (some H.length))) ?_ rfl a;have:qp X.C t (r.map (jn g9.tmps))=true:=by
   rcases nh d e with⟨rfl,rfl⟩|⟨y,k,n,rfl,i,rfl⟩
   .rfl
   .simp only[FJ,qp,i]at g ⊢;exact g
  simp only[au,l,this,if_true]
 .exact absurd b hA.fail
def da(n ra a b:Nat):aI (.slice (some ⟨n,0,le ra⟩) a b)=true:=by
 simp[aI,nc,aT,bE,bj,aP,aD,le]
def wJ(hA:pL A X.C Sg X.T holds abs)(j:Rp ev g9)(I:abs h=g9.heap){t:TP}{l c:TL}(L:o.op = .makeSlice t l c)
  (b:holds (match X.C.P.underlying t,km ev l,km ev c with
  |some (.slice e),.st (.leaf (.i _ l)),.st (.leaf (.i _ c))=>match X.C.P.info? e with
   |some a=>match Nat.beq a.size 0||Nat.blt 4096 a.bytes,(mt a).bind ID with
    |false,some z=>A.jw (EU l c) λ_=>
      A.new (.cells (aL (z.cells.map SL.val) c.toNat) a.size true) h λn h=>my o.dst (.st (.leaf (.v (.slice (some ⟨n,0,le a.size⟩) l.toNat (c.toNat+1))))) ev h K
    |_,_=>A.fail
   |none=>A.fail
  |_,_,_=>A.fail)):DT X holds abs o g9 K:=by
 split at b
 next e N Q O D M E F=>
  obtain⟨G,_⟩:=j.km E c_;obtain⟨H,_⟩:=j.km F c_;split at b
  next a J=>
   split at b
   next z y r=>
    obtain⟨W,w,x⟩:=FY.1 r;obtain⟨S,U,_⟩:=uZ x;obtain⟨u,p,m⟩:=hA.jw _ _ b;obtain⟨V,B,g⟩:=hA.new _ _ _ m;rw[I]at B g;unfold EU at p;split at p
    next d=>
     simp only[pB]at y;have q:¬a.size=0:=λe=>j_;have k:a.bytes<=4096:=by
      have:=y.2;rw[←Hz,HA]at this;omega
     refine dz j B (s:=.st (.leaf (.v _))) (aB (da _ _ _ _)) (f:=dP X.C t (.int N Q) (.int O D)) ?_ ?_ g
     .simp only[au,L,G,H];rfl
     .simp only[dP,Am.intOf,M,J,rv q,w];rw[qs ⟨d.1,d.2.1,d.2.2,k⟩,←S,S0.Eo U];rfl
    .cases p
   .exact absurd b hA.fail
  .exact absurd b hA.fail
 .exact absurd b hA.fail
def tC(hA:pL A X.C Sg X.T holds abs)(E:Rp ev g9)(O:abs h=g9.heap){t:TP}{n:Nat}{u:Array (Nat×Operand)}(U:o.op = .buildSlice t n u)
  (b:holds (match X.C.P.underlying t,D1 ev (u.toList.map (·.2))with
  |some (.slice e),some xs=>match X.C.P.info? e with
   |some a=>match Nat.beq a.size 0||Nat.blt 16777216 (n*a.size),(mt a).bind ID with
    |false,some z=>match tX (λi=>some (i*a.size,a.size)) (replicate n z.cells).flatten ((u.toList.map (·.1)).zip xs)with
     |some cs=>A.new (.cells (cs.map SL.val) a.size true) h λm h=>my o.dst (.st (.leaf (.v (.slice (some ⟨m,0,le a.size⟩) n (n+1))))) ev h K
     |none=>A.fail
    |_,_=>A.fail
   |none=>A.fail
  |_,_=>A.fail)):DT X holds abs o g9 K:=by
 split at b
 next e xs V N=>
  split at b
  next a S=>
   split at b
   next z J y=>
    obtain⟨zv,B,D⟩:=FY.1 y;obtain⟨z1,M,_⟩:=uZ D;split at b
    next cs Q=>
     obtain⟨h',L,r⟩:=hA.new _ _ _ b;rw[O]at L r;obtain⟨W,F⟩:=E.D1 N;have Z:∀c∈(replicate n z.cells).flatten,c.h_:=by
      intro c w;obtain⟨l,G,w⟩:=List.mem_flatten.1 w;rw[List.mem_replicate]at G;rw[G.2]at w;exact M c w
     have g:=tY _ _ _ _ (vy (is:=u.toList.map (·.1)) F) Q;simp only[pB]at J;obtain⟨k,d⟩:=J;have k:¬a.size=0:=λe=>j_;have d:¬n*a.size > 16777216:=by rw[←Hz,HA]at d;omega
     refine dz E L (s:=.st (.leaf (.v _))) (aB (da _ _ _ _))
      (f:=λH=>some (H++[.cells (cs.map SL.val) a.size true],.slice (some ⟨H.length,0,le a.size⟩) n (n+1))) ?_ rfl r
     have q:(u.toList.all λp=>(jn g9.tmps p.2).cells.toList.all bg)=true:=by
      rw[A_];intro p hp;have I:jn g9.tmps p.2∈ao xs:=by
       grind
      simp only[ao,DJ]at I;obtain⟨x,Y,e⟩:=I;rw[←e];exact S0.Hg (F x Y)
     have j:(aL zv.cells.toList n).toArray=⟨((replicate n z.cells).flatten).map SL.val⟩:=by
      rw[←z1,S0.Eo M];simp[aL,List.map_flatten]
     simp only[au,U,q,if_true,fT,V,S];rw[rv k,rv d];simp only[B];rw[ta W,j,g];rfl
    .exact absurd b hA.fail
   .exact absurd b hA.fail
  .exact absurd b hA.fail
 .exact absurd b hA.fail
end
end Sx
namespace Sx
section
variable [DB] [En] {R HT:Type} {A:Dv R HT} {X:DQ} {Sg:Td} {holds:R->Prop} {abs:HT->Tu}
variable {ev:Env} {g9:St} {h:HT} {o:Oper} {K:KN R HT}
def Qm{cs ds:List SL}{off n:Nat}(h:E1 cs off n=some ds):ds.length=n:=by
 unfold E1 at h
 grind
def l9{a:Bool}{ds:List SL}{n:Nat}(b:ds.length=(if a then n else 1)):∃x,HV a ds=some x:=by
 cases a with
 |true=>exact⟨_,rfl⟩
 |false=>
  simp only[Fh,if_false]at b
  match ds,b with
  | [d],_=>exact⟨_,rfl⟩
def Q4(hA:pL A X.C Sg X.T holds abs)(m:Rp ev g9)(S:abs h=g9.heap){t:TP}{x i:TL}{w:TN}(V:o.op = .index t x i)
  (a:holds (match X.C.P.underlying t,km ev x,km ev i with
  |some (.array len e),.st (.agg cs),.st (.leaf (.i _ j))=>match B2 X.C.P e with
   |some n=>match Qy n (lj (oA w))&&vB cs (IG (oA w)) 0 [(j,X.C.P.cellsOf e)]&&Nat.beq (if n then X.C.P.cellsOf e else 1) (IG (oA w)).length with
    |false=>A.fail
    |true=>A.jw (FV len j) λ_=>A.jw (ir (cs.map SL.lf) 0 [(j,X.C.P.cellsOf e)] (if n then X.C.P.cellsOf e else 1)) λls=>Jz A o.dst (oA w) ls ev h K
   |none=>A.fail
  |some .string,.st (.leaf (.v (.string s))),.st (.leaf (.i _ j))=>A.jw (JE s j) λb=>my o.dst (.st (.leaf (.i .u8 b))) ev h K
  |_,_,_=>A.fail)):DT X holds abs o g9 K:=by
 split at a
 next len e cs k j M E F=>
  obtain⟨d,Q⟩:=m.km E c_;obtain⟨f,_⟩:=m.km F c_;split at a
  next n G=>
   split at a
   .exact absurd a hA.fail
   next r=>
    simp only[te]at r;obtain⟨⟨B,c2⟩,D⟩:=r;have B:=Qz B;have D:=Ey D;obtain⟨u,H,g⟩:=hA.jw _ _ a;obtain⟨b1,b2⟩:=wx H;obtain⟨ls,hp,J⟩:=hA.jw _ _ g;obtain⟨ds,p,rfl⟩:=Bb hp;have q:ds.length=(if n then X.C.P.cellsOf e else 1):=Qm p;obtain⟨y,W⟩:=l9 q;obtain⟨Z,p2⟩:=AY G p W;obtain⟨m1,Y⟩:=qD W;rw[D]at p;rw[B]at Y;obtain⟨z,N,O,L⟩:=M4 hA (oB c2 p) (λc r=>Q c ((pT p).2 c r)) Y J;refine aC m S (s:=.st z) O ?_ L;have I:nV X.C t (.agg ⟨cs.map SL.val⟩) (.int k j)=some y.val:=by
     have:Ed 0 [(j,X.C.P.cellsOf e)]=j.toNat*X.C.P.cellsOf e:=by simp[Ed]
     rw[this]at Z;simp only[nV,Am.intOf,M,qs (And.intro b1 b2)];exact Z
    have d:jn g9.tmps x = .agg ⟨cs.map SL.val⟩:=d;have f:jn g9.tmps i = .int k j:=f;simp only[au,V,d,f,I,FJ];rw[←N];rfl
  .exact absurd a hA.fail
 next s k j M E F=>
  obtain⟨d,Q⟩:=m.km E c_;obtain⟨f,_⟩:=m.km F c_;obtain⟨b,H,g⟩:=hA.jw _ _ a;obtain⟨q1,q2⟩:=Ua H;have d:jn g9.tmps x = .string s:=d;have f:jn g9.tmps i = .int k j:=f;refine aC m S (s:=.st (.leaf (.i .u8 b))) (λl U=>?_) ?_ g
  .simp only[S0.cells,GM]at U;subst U;trivial
  .have I:nV X.C t (.string s) (.int k j)=some (.int .u8 b):=by
    simp only[nV,Am.intOf,M,qs q1];exact q2
   simp only[au,V,d,f,I,FJ];rfl
 .exact absurd a hA.fail
def xQ{P:TI}{d b e:Tk}(h1:∀v,d=some v->∃k,v = .int k 0)(f:∀v,b=some v->∃k,v = .int k 0)(g:∀v,e=some v->∃k,v = .int k 0)(i:e=none∨b.isSome=true)(w:TS) :
  (Instr.sliceBounds true 0 0 d b e).run P w = .ok (0,0,0) w:=by
 have a:∀(k:TK) (c:BoundsCode),(Instr.sliceBound (.int k 0) 0 c).run P w = .ok 0 w:=λk c=>by
  simp[Instr.sliceBound,asIntOf]
 unfold Instr.sliceBounds;cases e with
 |none=>
  cases b with
  |none=>
   cases d with
   |none=>simp
   |some l=>obtain⟨k,rfl⟩:=h1 _ rfl;simp[a]
  |some u=>
   obtain⟨k,rfl⟩:=f _ rfl;cases d with
   |none=>simp[a]
   |some l=>obtain⟨k,rfl⟩:=h1 _ rfl;simp[a]
 |some m=>
  obtain⟨k,rfl⟩:=g _ rfl;cases b with
  |none=>simp_all
  |some u=>
   obtain⟨k,rfl⟩:=f _ rfl;cases d with
   |none=>simp[a]
   |some l=>obtain⟨k,rfl⟩:=h1 _ rfl;simp[a]
def OZ(hA:pL A X.C Sg X.T holds abs)(f:Rp ev g9)(O:abs h=g9.heap){t:TP}{x:TL}{H j D:Th}(E:o.op = .slice t x H j D)
  (p:holds (match X.C.P.underlying t,km ev x,Gh ev H,Gh ev j,Gh ev D with
  |some (.slice e),.st (.leaf (.v x)),some H,some j,some D=>match Nat.beq (X.C.P.cellsOf e) 0 with
   |true=>A.fail
   |false=>A.jw (FN (X.C.P.cellsOf e) x H j D) λq=>A.n4 q (my o.dst (.st (.leaf (.v q))) ev h K)
  |_,_,_,_,_=>A.fail)):DT X holds abs o g9 K:=by
 split at p
 next e v al ad an Q Z I e3 e4=>
  obtain⟨g,_⟩:=f.km Z c_;simp only[SV.val,S0.val,SL.val]at g;split at p
  .exact absurd p hA.fail
  next B=>
   have B:¬X.C.P.cellsOf e=0:=λe=>by rw[e]at B;cases B
   obtain⟨q,d,L⟩:=hA.jw _ _ p;obtain⟨hg,u⟩:=hA.n4 _ _ L;have V:=ep f I;have W:=ep f e3;have Y:=ep f e4;unfold FN at d;split at d
   next a ag cx=>
    split at d
    .cases d
    next M=>
     split at d
     next l=>
      cases d;refine aC f O (s:=.st (.leaf (.v _))) (aB hg) ?_ u;simp only[au,E,g,Bt,V,W,Y,Q,rv B,rv M,qs l,qL];rfl
     .cases d
   .split at d
    next l=>
     cases d;have c:∀ {r:Th} {x:Tt},Gh ev r=some x->x.getD 0=0->∀v,r.map (jn g9.tmps)=some v->∃k,v = .int k 0:=by
      intro r x G h0 v hv;rcases nh f G with⟨rfl,rfl⟩|⟨y,k,n,rfl,g,rfl⟩
      .cases hv
      grind
     have F:∀ {r:Th} {x:Tt},Gh ev r=some x->∀y,r=some y->plain (jn g9.tmps y)=true/\GE (jn g9.tmps y)=jn g9.tmps y:=by
      intro r x G y S;rcases nh f G with⟨rfl,rfl⟩|⟨U,k,n,rfl,g,rfl⟩
      .cases S
      .cases S;rw[g];exact⟨rfl,rfl⟩
     have b:∀ {r:Th} {x:Tt},Gh ev r=some x->r.map (λy=>GE (jn g9.tmps y))=r.map (jn g9.tmps):=by
      intro r x G;cases r with
      |none=>rfl
      |some y=>grind
     refine cH f O (s:=.st (.leaf (.v (.slice none 0 0)))) (aB rfl) ⟨by rw[E];rfl,?_,rfl,λw=>?_⟩ u
     .rw[E];simp only[Op.operands,ZN,qdw,te];refine⟨⟨⟨by simp[g];rfl,?_⟩,?_⟩,?_⟩
      .grind
      .grind
      grind
     .have z:D.map (jn g9.tmps)=none∨(j.map (jn g9.tmps)).isSome=true:=by
       rcases l.2.2.2 with z|z
       .left;rcases nh f e4 with⟨rfl,rfl⟩|⟨U,k,n,rfl,g,rfl⟩
        .rfl
        .cases z
       .right;rcases nh f e3 with⟨rfl,rfl⟩|⟨U,k,n,rfl,g,rfl⟩
        .cases z
        .rfl
      have J:=xQ (P:=X.C.P) (c I l.1) (c e3 l.2.1) (c e4 l.2.2.1) z w;have N:∃i,X.C.P.info? e=some i:=by
       unfold Program.cellsOf at B;cases j:X.C.P.info? e with
       |none=>simp_all
       |some i=>exact⟨i,rfl⟩
      obtain⟨i,j⟩:=N;have m:GE (.slice none 0 0) = .slice none 0 0:=rfl;simp only[execOp,E,g,b I,b e3,b e4,m,Instr.sliceAt,Instr.slice,Sem.run_bind,run_underlying Q,Result.andThen_ok,J,bu j,Sem.run_pure];simp only[SV.val,S0.val,SL.val,m];simp
    .cases d
   .cases d
 .exact absurd p hA.fail
def pM{a:Bool}{v:TR}{cs:Tn}(h:gN a v=some cs):W1 a cs v:=by
 unfold gN at h;split at h
 .cases h;exact .inl ⟨rfl,rfl⟩
 .cases h
 .cases h
 .cases h;exact .inr ⟨rfl,rfl⟩
def Mi(H:Tu)(id:Nat):Is (λi=>H[i]?) id=EE H id:=rfl
def Ry{C:m8}{t kt l:TP}{j ok:Bool}{z m k:TR}{H:Tu}{cs:Tn}(q:C.P.underlying t=some (.map kt l))(r:ft C.P l=some z)
  (a:Gr C kt j z m k ok (λi=>H[i]?)=some cs):∃v b d,gN j v=some d/\cs=d++(if ok then [.bool b]else [])/\dY C t m k ok H=some (if ok then .tuple #[v,.bool b]else v):=by
 unfold Gr at a;simp only[Ab]at a;unfold dY;rw[q];simp only;split at a
 .cases a
 next e=>
  have e:¬(!jW C.P kt k)=true:=by
   have:=L8 (P:=C.P) (kt:=kt) (k:=k) (by simpa using e);simpa using this
  rw[rv e];simp only[r];split at a
  .obtain⟨d,f,n⟩:=EC.1 a
   grind
  next id=>
   rw[Mi]at a;split at a
   .cases a
   next s c p=>
    simp only[p];split at a
    .cases a
    next g=>
     rw[g];obtain⟨d,f,n⟩:=EC.1 a
     grind
    next i g=>
     rw[g];simp only;obtain⟨d,f,n⟩:=EC.1 a;obtain⟨v,u,w⟩:=FY.1 f
     grind
  .cases a
def Cn{C:m8}{b_:TC}{a:Tg}{t:TP}{m k:TL}{ok:Bool}(d:o.op = .lookup t m k ok)(H:Tu){v:TR}(b:dY C t (a m) (a k) ok H=some v) :
  au C b_ a o=some (.val v)∨∃f,au C b_ a o=some (.Gf f)/\f H=some v:=by
 simp only[au,d];split
 next c=>
  left;rw[c]at b;have:dY C t (.map none) (a k) ok []=dY C t (.map none) (a k) ok H:=rfl;rw[this,b];rfl
 simp_all
def vN(b:Rp ev g9)(c:abs h=g9.heap){s:SV}(e:s.gd){t:TP}{m k:TL}{ok:Bool}(i:o.op = .lookup t m k ok)
  (j:dY X.C t (jn g9.tmps m) (jn g9.tmps k) ok g9.heap=some s.val) (d:holds (my o.dst s ev h K)):DT X holds abs o g9 K:=by
 rcases Cn (b_:=X.b_) i g9.heap j with a|⟨f,a,g⟩
 .exact aC b c e a d
 .exact lF b c e a g d
def WM(hA:pL A X.C Sg X.T holds abs)(p:Rp ev g9)(q:abs h=g9.heap){t:TP}{m k:TL}{ok:Bool}{U:TN}(J:o.op = .lookup t m k ok)
  (a:holds (match X.C.P.underlying t,km ev m,Dt ev k with
  |some (.map kt H),.st (.leaf (.v m)),some k=>match ft X.C.P H with
   |some z=>match (generalizing:=false) U,ok with
    | [g],false=>A.ma (.fn (Gr X.C kt (lj g) z m k.val false)) h λcs=>K4 A g cs λx r=>A.tf r (my o.dst (.st x) ev h K)
    | [g,.leaf .b],true=>A.ma (.fn (Gr X.C kt (lj g) z m k.val true)) h λcs=>K4 A g cs λx r=>A.E7 r λt r=>A.tf r (my o.dst (.K1 [x,.leaf (.b t)]) ev h K)
    |_,_=>A.fail
   |none=>A.fail
  |_,_,_=>A.fail)):DT X holds abs o g9 K:=by
 split at a
 next kt H Z kv L Q S=>
  obtain⟨w,_⟩:=p.km Q c_;obtain⟨I,_⟩:=p.Dt S;simp only[SV.val,S0.val,SL.val]at w;split at a
  next z N=>
   split at a
   next g=>
    obtain⟨cs,f,c⟩:=hA.ma _ _ _ a;simp only[Pk.run]at f;rw[q]at f;obtain⟨v,b,u,E,j,l⟩:=Ry L N f;obtain⟨x,r,n,F,G,d⟩:=sX hA c;obtain⟨D,e⟩:=hA.tf _ _ d;rw[D,HF]at n;simp only[Fh,if_false,HF]at j l;have i:=pM E;rw[←j,n]at i;refine vN p q (s:=.st x) G J ?_ e;rw[w,I,l,←sw F i];rfl
   next g=>
    obtain⟨cs,f,c⟩:=hA.ma _ _ _ a;simp only[Pk.run]at f;rw[q]at f;obtain⟨v,b,u,E,j,l⟩:=Ry L N f;obtain⟨x,r,n,F,G,d⟩:=sX hA c;obtain⟨W,r',V,e⟩:=hA.E7 _ _ d;obtain⟨D,B⟩:=hA.tf _ _ e;simp only[if_true]at j l;rw[V,D,j]at n;obtain⟨Y,O⟩:=List.append_inj' n rfl;simp only[IU,Value.bool.injEq,and_true]at O;have i:=pM E;rw[Y]at i;refine vN p q (s:=.K1 [x,.leaf (.b W)]) ⟨λy M=>?_,B8 2⟩ J ?_ B
    .simp only[EL,SE,or_false]at M;rcases M with rfl|rfl
     .exact G
     .exact aB trivial
    .rw[w,I,l,←sw F i,O];rfl
   .exact absurd a hA.fail
  .exact absurd a hA.fail
 .exact absurd a hA.fail
def U8{C:m8}{t kt j:TP}{m k v:TR}{H:Tu}{n:Nat}{b:List DL}{cs:Tn}(q:C.P.underlying t=some (.map kt j))(f:nc v=true)(g:aD v=false)
  (a:G5 C kt m k v (λi=>H[i]?) n=some (b,cs)):cL C t m k v H=some (iG H b,undef):=by
 unfold G5 at a;simp only[Ab]at a;unfold cL;split at a
 next id=>
  rw[q];simp only;split at a
  .cases a
  next d=>
   have d:jW C.P kt k=true:=L8 (by simpa using d);rw[rv (by simp[d,f,g])];rw[Mi]at a;split at a
   .cases a
   next r c p=>
    simp only[p];split at a
    .cases a
    next e=>
     rw[e];cases a;rfl
    next i e=>
     rw[e];simp only;split at a
     next l=>
      rw[qs l];cases a;rfl
     .cases a
 .cases a
def Az(hA:pL A X.C Sg X.T holds abs)(a:Rp ev g9)(r:abs h=g9.heap){t:TP}{m k v:TL}(ho:o.op = .mapUpdate t m k v∨o.op = .insert t m k v)
  (b:holds (match X.C.P.underlying t,km ev m,Dt ev k,Dt ev v with
  |some (.map kt _),.st (.leaf (.v m)),some k,some v=>A.heap (.fn (G5 X.C kt m k.val v.val)) h λ_ h=>my o.dst .un ev h K
  |_,_,_,_=>A.fail)):DT X holds abs o g9 K:=by
 split at b
 next kt z w kv x u l n e3=>
  obtain⟨i,_⟩:=a.km l c_;obtain⟨p,_⟩:=a.Dt n;obtain⟨q,g⟩:=a.Dt e3;simp only[SV.val,S0.val,SL.val]at i;obtain⟨e,y,B,d,j,c⟩:=hA.heap _ _ _ b;simp only[Hp.run]at d;rw[r]at d j;refine dz a j (s:=.un) trivial (f:=cL X.C t w kv.val x.val) ?_ (U8 u (S0.nc g) (S0.E5 g) d) c;rcases ho with ho|ho<;>simp only[au,ho,i,p,q]
 .exact absurd b hA.fail
def t5{C:m8}{t kt e:TP}{d:Bool}{z m k:TR}{H:Tu}{n:Nat}{a:List DL}{cs:Tn}(g:C.P.underlying t=some (.map kt e))(j:ft C.P e=some z)
  (f:meG C kt d z m k (λi=>H[i]?) n=some (a,cs)):∃v b c,gN d v=some b/\cs=b++[.int .i64 c]/\jq C t m k H=some (iG H a,.tuple #[v,.int .i64 c]):=by
 cases f
def RA(hA:pL A X.C Sg X.T holds abs)(b:Rp ev g9)(M:abs h=g9.heap){t:TP}{m k:TL}{Q:TN}(N:o.op = .mapEntry t m k)
  (a:holds (match X.C.P.underlying t,km ev m,Dt ev k with
  |some (.map kt u),.st (.leaf (.v m)),some k=>match ft X.C.P u with
   |some z=>match Q with
    | [p,.leaf (.i .i64)]=>A.heap (.fn (meG X.C kt (lj p) z m k.val)) h λcs h=>K4 A p cs λx r=>A.td .i64 r λn r=>A.tf r (my o.dst (.K1 [x,.leaf (.i .i64 n)]) ev h K)
    |_=>A.fail
   |none=>A.fail
  |_,_,_=>A.fail)):DT X holds abs o g9 K:=by
 split at a
 next kt u V kv S I J=>
  obtain⟨w,_⟩:=b.km I c_;obtain⟨L,_⟩:=b.Dt J;simp only[SV.val,S0.val,SL.val]at w;split at a
  next z U=>
   split at a
   next p=>
    obtain⟨q,cs,h',l,E,d⟩:=hA.heap _ _ _ a;simp only[Hp.run]at l;rw[M]at l E;obtain⟨v,H,c,w1,w2,w3⟩:=t5 S U l;obtain⟨x,r,F,W,Y,e⟩:=sX hA d;obtain⟨n,r',Z,g⟩:=hA.td _ _ _ e;obtain⟨O,j⟩:=hA.tf _ _ g;rw[Z,O,w2]at F;obtain⟨u1,G⟩:=List.append_inj' F rfl;simp only[IU,Value.int.injEq,true_and,and_true]at G;have B:=pM w1;rw[u1]at B;refine dz b E (s:=.K1 [x,.leaf (.i .i64 n)]) ⟨λy D=>?_,B8 2⟩ (f:=jq X.C t V kv.val) ?_ ?_ j
    .simp only[EL,SE,or_false]at D;rcases D with rfl|rfl
     .exact Y
     .exact aB trivial
    .simp only[au,N,w,L]
    .rw[w3,←sw W B,G];rfl
   .exact absurd a hA.fail
  .exact absurd a hA.fail
 .exact absurd a hA.fail
def FF{m v:TR}{b:Int}{k:TK}{H:Tu}{n:Nat}{a:List DL}{cs:Tn}(d:nc v=true)(e:aD v=false)
  (c:esG m b v (λi=>H[i]?) n=some (a,cs)):fX m (.int k b) v H=some (iG H a,undef):=by
 cases c
def Qx(hA:pL A X.C Sg X.T holds abs)(a:Rp ev g9)(w:abs h=g9.heap){t:TP}{m s v:TL}(x:o.op = .entryStore t m s v)
  (c:holds (match km ev m,km ev s,Dt ev v with
  | .st (.leaf (.v m)),.st (.leaf (.i _ b)),some v=>A.heap (.fn (esG m b v.val)) h λ_ h=>my o.dst .un ev h K
  |_,_,_=>A.fail)):DT X holds abs o g9 K:=by
 split at c
 next y k b z q r e3=>
  obtain⟨l,_⟩:=a.km q c_;obtain⟨n,_⟩:=a.km r c_;obtain⟨u,j⟩:=a.Dt e3;simp only[SV.val,S0.val,SL.val]at l n;obtain⟨g,B,D,e,p,d⟩:=hA.heap _ _ _ c;simp only[Hp.run]at e;rw[w]at e p;refine dz a p (s:=.un) trivial (f:=fX y (.int k b) z.val) ?_ (FF (S0.nc j) (S0.E5 j) e) d;simp only[au,x,l,n,u]
 .exact absurd c hA.fail
def z9{C:m8}{t kt b:TP}{m k:TR}{H:Tu}{n:Nat}{a:List DL}{cs:Tn}(d:C.P.underlying t=some (.map kt b))
  (c:deG C kt m k (λi=>H[i]?) n=some (a,cs)):pU C t m k H=some (iG H a,undef):=by
 cases c
end
end Sx
namespace Sx
section
variable [DB] [En] {R HT:Type} {A:Dv R HT} {X:DQ} {Sg:Td} {holds:R->Prop} {abs:HT->Tu}
variable {ev:Env} {g9:St} {h:HT} {o:Oper} {K:KN R HT}
def KU(C:m8)(ra:Nat)(H:Tu)(x:TR):M_ C ra (λi=>H[i]?) x=cY C H ra x:=rfl
def Dd{C:m8}{t e:TP}{c:TypeInfo}{s x:TR}{H:Tu}{f:List DL}{cs:Tn}(z:C.P.underlying t=some (.slice e))(w:C.P.info? e=some c)(h0:¬c.size=0)
  (B:(mt c).isNone=false) (b:Fw C c.size c.bytes s x (λi=>H[i]?) H.length=some (f,cs)):∃v,cs=[v]/\gK C t s x H=some (iG H f,v):=by
 unfold Fw at b;unfold gK;simp only[z,w,rv h0,B,Fh,if_false];rw[KU]at b;split at b
 .cases b
 next E n q=>
  simp only[q];split at b
  .split at b
   next d=>
    simp only[qs d];cases b;exact⟨_,rfl,rfl⟩
   next d=>
    simp only[rv d];split at b
    next y=>
     simp only[qs y];cases b;exact⟨_,rfl,rfl⟩
    .cases b
  next a D M=>
   split at b
   .cases b
   next m=>
    simp only[rv m];split at b
    next O N J u=>
     simp only[u];split at b
     .cases b
     next r=>
      simp only[rv r];split at b
      .cases b
      next F k=>
       simp only[k];split at b
       .split at b
        next d=>
         simp only[qs d];cases b;exact⟨_,rfl,rfl⟩
        next d=>
         simp only[rv d];split at b
         next l=>
          simp only[qs l];cases b;refine⟨_,rfl,?_⟩;simp[iG,DL.on]
         .cases b
       next p=>
        split at b
        next g=>
         simp only[qs g];split at b
         next j=>
          simp only[qs j];obtain⟨L,G,I⟩:=EC.1 b;cases I;exact⟨_,rfl,by simp only[G];rfl⟩
         next j=>
          simp only[rv j];split at b
          next d=>
           simp only[qs d];cases b;exact⟨_,rfl,rfl⟩
          .cases b
        next g=>
         simp only[rv g];split at b
         next l=>
          simp only[qs l];cases b;exact⟨_,rfl,rfl⟩
         .cases b
    .cases b
  .cases b
def z6{C:m8}{t e:TP}{d x:TR}{H:Tu}{n:Nat}{c:List DL}{cs:Tn}(r:C.P.underlying t=some (.slice e))(h0:¬C.P.cellsOf e=0)
  (b:Za C (C.P.cellsOf e) d x (λi=>H[i]?) n=some (c,cs)):∃v,cs=[v]/\pQ C t d x H=some (iG H c,v):=by
 unfold Za at b;unfold pQ;rw[r];split at b
 .simp only[rv h0];rw[KU]at b;obtain⟨y,g,j⟩:=EC.1 b;cases j;exact⟨_,rfl,by simp only[g];rfl⟩
 next a k u=>
  simp only[rv h0];split at b
  .cases b
  next f=>
   simp only[rv f];rw[KU]at b;split at b
   next s m z w l q=>
    simp only[l,q];split at b
    .cases b
    next p=>
     simp only[rv p];obtain⟨y,g,j⟩:=EC.1 b;cases j;exact⟨_,rfl,by simp only[g];rfl⟩
   .cases b
 .cases b
def j5{C:m8}{t e:TP}{x:TR}{z:S0}{H:Tu}{n:Nat}{a:List DL}{cs:Tn}(c:C.P.underlying t=some (.slice e))(h0:¬C.P.cellsOf e=0)(d:zA C.P e=some z)
  (b:clG (C.P.cellsOf e) (z.cells.map SL.val) x (λi=>H[i]?) n=some (a,cs)):vI C t x H=some (iG H a,undef):=by
 cases b
def vh(hA:pL A X.C Sg X.T holds abs){dst:Tq}{a:SK}(c:lj a=false){v:TR}(b:holds (IE A dst a [v] ev h K)):∃x:S0,x.val=v/\x.h_/\holds (my dst (.st x) ev h K):=
 nC hA (.inr ⟨c,rfl⟩) b
def BQ(hA:pL A X.C Sg X.T holds abs)(G:Rp ev g9)(I:abs h=g9.heap){c:Call}{b:Builtin}{xs:List S0}{sk:SK}(Q:o.op = .call c)(W:c.callee = .builtin b)(hx:D1 ev c.args.toList=some xs)
  (d:holds (oE A X o.dst sk b xs c.argTypes ev h K)):DT X holds abs o g9 K:=by
 obtain⟨hv,hg⟩:=G.D1 hx;have q:au X.C X.b_ (jn g9.tmps) o=aY X.C (jn g9.tmps) b (ao xs) c.argTypes o:=by
  simp only[au,Q,gZ,W,hv]
 have L:∀ys:List S0,(∀y∈ys,∀l∈y.cells,l.nv)->ys=xs->c.args.toList.all (λx=>plain (jn g9.tmps x))=true/\c.args.map (λx=>GE (jn g9.tmps x))=⟨ao xs⟩:=by
  intro ys O e;subst e;have S:∀v∈c.args.toList.map (jn g9.tmps),plain v=true/\GE v=v:=by
   rw[hv];intro v hm;simp only[ao,DJ]at hm;obtain⟨y,hm,rfl⟩:=hm;exact uI (O y hm)
  grind
 unfold oE at d;split at d
 next s x t D=>
  split at d
  next e u=>
   split at d
   next Z hi=>
    split at d
    .exact absurd d hA.fail
    next hc=>
     simp only[pB]at hc;obtain⟨⟨⟨c1,c2⟩,c3⟩,c4⟩:=hc;have c1:¬Z.size=0:=λe=>by rw[e]at c1;cases c1
     obtain⟨J,cs,h',E,M,j⟩:=hA.heap _ _ _ d;simp only[Hp.run]at E;rw[I]at E M;obtain⟨v,rfl,q3⟩:=Dd u hi c1 c2 E;obtain⟨y,rfl,g,r⟩:=vh hA rfl j;refine dz G M (s:=.st y) g (f:=gK X.C t s x) ?_ q3 r;rw[q];simp only[aY,ao,EN,IY,S0.val,SL.val,D]
     grind
   .exact absurd d hA.fail
  .exact absurd d hA.fail
 next x t D=>
  split at d
  next e x' u=>
   obtain⟨n,N,j⟩:=hA.jw _ _ d;unfold HR at N;split at N
   next a m cx=>
    cases N;refine aC G I (s:=.st (.leaf (.i .i64 _))) (aB trivial) ?_ j;rw[q];simp only[aY,ao,EN,IY,S0.val,SL.val,D,u];rfl
   .cases N
  next kt et x' u=>
   obtain⟨cs,F,j⟩:=hA.ma _ _ _ d;simp only[Pk.run]at F;rw[I]at F;unfold ca at F;split at F
   next id=>
    split at F
    next es ck ad=>
     cases F;obtain⟨y,O,g,r⟩:=vh hA rfl j;refine lF G I (s:=.st y) g (f:=λH=>(EE H id).map λp=>.int .i64 p.1.length) ?_ ?_ r
     .rw[q];simp only[aY,ao,EN,IY,S0.val,SL.val,D,u]
     .simp only[EE,ad,FJ,SV.val,O]
    .cases F
   .cases F
  next n el u=>
   refine aC G I (s:=.st (.leaf (.i .i64 _))) (aB trivial) ?_ d;rw[q];simp only[aY,ao,EN,IY,D,u];rfl
  .exact absurd d hA.fail
 next x t D=>
  split at d
  next e x' u=>
   obtain⟨n,N,j⟩:=hA.jw _ _ d;unfold VJ at N;split at N
   .cases N;refine aC G I (s:=.st (.leaf (.i .i64 _))) (aB trivial) ?_ j;rw[q];simp only[aY,ao,EN,IY,S0.val,SL.val,D,u];rfl
   .cases N;refine aC G I (s:=.st (.leaf (.i .i64 _))) (aB trivial) ?_ j;rw[q];simp only[aY,ao,EN,IY,S0.val,SL.val,D,u];rfl
   .cases N
  next n el u=>
   refine aC G I (s:=.st (.leaf (.i .i64 _))) (aB trivial) ?_ d;rw[q];simp only[aY,ao,EN,IY,D,u];rfl
  .exact absurd d hA.fail
 next s x t D=>
  split at d
  next e u=>
   split at d
   .exact absurd d hA.fail
   next U=>
    have U:¬X.C.P.cellsOf e=0:=λe=>by rw[e]at U;cases U
    obtain⟨J,cs,h',E,M,j⟩:=hA.heap _ _ _ d;simp only[Hp.run]at E;rw[I]at E M;obtain⟨v,rfl,q3⟩:=z6 u U E;obtain⟨y,rfl,g,r⟩:=vh hA rfl j;refine dz G M (s:=.st y) g (f:=pQ X.C t s x) ?_ q3 r;rw[q];simp only[aY,ao,EN,IY,S0.val,SL.val,D]
  .exact absurd d hA.fail
 next m k t D=>
  split at d
  next kt et u=>
   obtain⟨J,cs,h',E,M,j⟩:=hA.heap _ _ _ d;simp only[Hp.run]at E;rw[I]at E M;refine dz G M (s:=.un) trivial (f:=pU X.C t m k.val) ?_ (z9 u E) j;rw[q];simp only[aY,ao,EN,IY,S0.val,SL.val,D]
  .exact absurd d hA.fail
 next s t D=>
  split at d
  next e u=>
   split at d
   next z Y U=>
    have Y:¬X.C.P.cellsOf e=0:=λe=>j_;obtain⟨J,cs,h',E,M,j⟩:=hA.heap _ _ _ d;simp only[Hp.run]at E;rw[I]at E M;refine dz G M (s:=.un) trivial (f:=vI X.C t s) ?_ (j5 u Y U E) j;rw[q];simp only[aY,ao,EN,IY,S0.val,SL.val,D]
   .exact absurd d hA.fail
  .exact absurd d hA.fail
 next k a k' V=>
  split at d
  next B=>
   have B:=dX B;subst B;obtain⟨t,S,j⟩:=hA.cmp _ _ _ _ d;have r:=hA.HH _ _ _ _ j;simp only[rO,G_]at S;subst S;obtain⟨p1,p2⟩:=L _ (λy O l F=>by
    simp only[EL,SE,or_false]at O;rcases O with rfl|rfl<;>(simp only[S0.cells,GM]at F;subst F;trivial)) rfl
   refine cH G I (s:=.st (.leaf (.i k _))) (aB trivial) ⟨by rw[Q];rfl,?_,rfl,λw=>?_⟩ r
   .rw[Q];simp only[Op.operands,Call.operands,W];simpa using p1
   .simp only[execOp,Q,resolve,W,Sem.run_bind,p2];simp only[Sem.run_pure,Result.andThen_ok,invoke,builtin,ao,EN,IY,S0.val,SL.val,Sem.run_bind];rw[show(⟨[Value.int k a,Value.int k V]⟩ : Array Value) = #[Value.int k a,Value.int k V]from rfl,run_min_int2];simp[SV.val,S0.val,SL.val,GE,Hi]
  .exact absurd d hA.fail
 next k a k' V=>
  split at d
  next B=>
   have B:=dX B;subst B;obtain⟨t,S,j⟩:=hA.cmp _ _ _ _ d;have r:=hA.HH _ _ _ _ j;simp only[rO,G_]at S;subst S;obtain⟨p1,p2⟩:=L _ (λy O l F=>by
    simp only[EL,SE,or_false]at O;rcases O with rfl|rfl<;>(simp only[S0.cells,GM]at F;subst F;trivial)) rfl
   refine cH G I (s:=.st (.leaf (.i k _))) (aB trivial) ⟨by rw[Q];rfl,?_,rfl,λw=>?_⟩ r
   .rw[Q];simp only[Op.operands,Call.operands,W];simpa using p1
   .simp only[execOp,Q,resolve,W,Sem.run_bind,p2];simp only[Sem.run_pure,Result.andThen_ok,invoke,builtin,ao,EN,IY,S0.val,SL.val,Sem.run_bind];rw[show(⟨[Value.int k a,Value.int k V]⟩ : Array Value) = #[Value.int k a,Value.int k V]from rfl,run_max_int2];simp[SV.val,S0.val,SL.val,GE,Hi]
  .exact absurd d hA.fail
 .exact absurd d hA.fail
end
end Sx
namespace Sx
section
variable [DB] [En] {R HT:Type} {A:Dv R HT} {X:DQ} {Sg:Td} {holds:R->Prop} {abs:HT->Tu}
variable {ev:Env} {g9:St} {h:HT} {o:Oper} {K:KN R HT}
def Ol(x:S0):cV [x]=x.cells.map SL.lf:=by simp[cV]
def zj(hA:pL A X.C Sg X.T holds abs)(p:Rp ev g9){sks:TN}{w:TG}{ys:List S0}(D:Told sks w ys){H':Tu}(q:abs h=H')
  (i:Pz X.C X.b_ o g9 (({ g9 with heap:=H' }:St).put o.dst (gM (ao ys)))) (k:holds (OW A o.dst sks w ev h K)):DT X holds abs o g9 K:=by
 obtain⟨c,rfl,z⟩:=D;unfold OW at k;split at k
 next E=>
  obtain⟨x,r,j,e,d⟩:=K5 hA k;obtain⟨n,g⟩:=hA.A1 _ _ d;rw[n,HF]at j
  match ys,c with
  | [y],c=>
   simp only[cJ,qdG]at c;rw[Ol]at j;obtain⟨t,u⟩:=S0.Q9 c e j;refine dU p H' q (s:=.st x) (u (z y c_)) ?_ g;rw[show(SV.st x).val=gM (ao [y])from by simp[SV.val,ao,gM,t]];exact i
  | [],c=>cases c
  |_ :: _ :: _,c=>simp[cJ]at c
 .obtain⟨n,d⟩:=hA.A1 _ _ k
  match ys,c with
  | [],_=>exact dU p H' q (s:=.un) trivial i d
  |_ :: _,c=>cases c
 next B v=>
  obtain⟨m,r,j,e,d⟩:=rh hA k;obtain⟨n,g⟩:=hA.A1 _ _ d;rw[n,HF]at j;obtain⟨t,u⟩:=dd c e j;have f:2<=m.length:=by
   match m,e with
   | [],e=>cases sks with
    |nil=>exact absurd rfl v
    |cons _ _=>cases e
   | [x],e=>cases sks with
    |nil=>exact absurd rfl v
    |cons a l=>cases l with
     |nil=>exact absurd rfl (B _)
     |cons _ _=>simp[cJ]at e
   |_ :: _ :: _,_=>simp
  refine dU p H' q (s:=.K1 m) ⟨u z,f⟩ ?_ g;have:(SV.K1 m).val=gM (ao ys):=by
   rw[t]
   match m,f with
   |a :: b :: l,_=>rfl
  rw[this];exact i
def NC{xs:List S0}(a:∀x∈xs,x.h_):(ao xs).all nc=true:=by
 simp only[ao,A_,DJ];rintro _ ⟨x,b,rfl⟩;exact S0.nc (a x b)
def VI(hA:pL A X.C Sg X.T holds abs)(n:Rp ev g9)(w:abs h=g9.heap){c:Call}{z:TN}(x:o.op = .call c)
  (a:holds (match D1 ev c.args.toList with
  |some xs=>match c.callee with
   | .builtin b=>oE A X o.dst (oA z) b xs c.argTypes ev h K
   | .value f=>match km ev f with
    | .st (.leaf (.v v))=>match f with
     | .func g=>match Sg g with
      |some sg=>match cJ xs sg.ps with
       |true=>A.call g (cV xs) h λr h=>OW A o.dst sg.rs r ev h K
       |false=>A.fail
      |none=>A.fail
     |_=>A.Dw v (ao xs) z h λr h=>OW A o.dst z r ev h K
    |_=>A.fail
   |_=>A.fail
  |none=>A.fail)):DT X holds abs o g9 K:=by
 split at a
 next xs G=>
  obtain⟨F,O⟩:=n.D1 G;have q:=NC O;split at a
  next b M=>
   exact BQ hA n w x M G a
  next f E=>
   split at a
   next v N=>
    obtain⟨t,J⟩:=n.km N c_;simp only[SV.val,S0.val,SL.val]at t;have L:aI v=true:=J (.v v) (by simp[S0.cells]);have k:∀ {g:TQ} {first d:Tl},v = .func (.func g) first d->au X.C X.b_ (jn g9.tmps) o=some (.call g (first.toList++ao xs++d.toList)):=by
     intro g first d e
     subst e;simp only[au,x,gZ,E,F,q,t,(ff.1 L).1,EX,Fh,if_false,if_true]
    split at a
    next g=>
     have e:v = .func (.func g) #[] #[]:=by
      have:=t;simp only[jn]at this;exact this.symm
     split at a
     next sg B=>
      split at a
      next y=>
       obtain⟨r,s,⟨P,S,u,p,⟨j,H,U⟩,I,D⟩,i⟩:=hA.call _ _ _ _ a;rw[B]at p;cases p;obtain⟨Q,_⟩:=dd y j H.symm;rw[w]at D;refine zj hA n I rfl (.inl ⟨_,k e,gM (ao u),abs s,?_,rfl⟩) i;rw[Q];show jY X.C g _ _ _ _;simpa using D
      .exact absurd a hA.fail
     .exact absurd a hA.fail
    .obtain⟨r,s,⟨u,p,j⟩,i⟩:=hA.Dw _ _ _ _ _ a;rw[w]at j;rcases j with⟨g,first,d,e,j⟩|⟨l,e,j⟩
     .exact zj hA n p rfl (.inl ⟨_,k e,gM (ao u),abs s,j,rfl⟩) i
     .have m:au X.C X.b_ (jn g9.tmps) o=some (.yield l (ao xs)):=by
       subst e;simp only[au,x,gZ,E,F,q,t,EX,Fh,if_false];rfl
      exact zj hA n p rfl (.inl ⟨_,m,gM (ao u),abs s,j,rfl⟩) i
   .exact absurd a hA.fail
  .exact absurd a hA.fail
 .exact absurd a hA.fail
def y9(hA:pL A X.C Sg X.T holds abs)(j:Rp ev g9)(p:abs h=g9.heap){L:TN}(g:holds (A5 A X Sg o L ev h K)):DT X holds abs o g9 K:=by
 unfold A5 at g;split at g
 next x d=>
  split at g
  .exact absurd g hA.fail
  next D=>exact Mo j p (.inl d) rfl (λe=>D e) g
 next x d=>
  split at g
  .exact absurd g hA.fail
  next D=>exact Mo j p (.inr d) rfl (λe=>D e) g
 next c a b d=>exact XA hA j p d g
 next t d=>
  split at g
  next x q=>
   obtain⟨z,u,w,I⟩:=BK q;exact Mu hA j p I (by simp only[au,d,u,Ex,w]) (.inr d) g
  .exact absurd g hA.fail
 next t y d=>
  split at g
  next x q=>
   obtain⟨u,w⟩:=j.km q c_;exact Mu hA j p w (by simp only[au,d,u];rfl) (.inl ⟨y,d⟩) g
  .exact absurd g hA.fail
 next t N d=>exact P6 hA j p d g
 next t n N d=>exact tC hA j p d g
 next t a d=>
  split at g
  next E B=>
   split at g
   next J=>exact WK hA j p d B (Qz J) g
   .exact absurd g hA.fail
  .exact absurd g hA.fail
 next t a y d=>
  split at g
  next x q=>exact T_ hA j p d q g
  .exact absurd g hA.fail
 next x d=>exact yH hA j p d g
 next M t x y Y d=>
  split at g
  next a b G H=>exact d' hA j p d G H g
  .exact absurd g hA.fail
 next M t x d=>exact un_ok hA j p d g
 next W O x d=>exact VV hA j p d g
 next P first F d=>exact yz hA j p d g
 next t r d=>exact mT hA j p d g
 next t l c d=>exact wJ hA j p d g
 next t x S Q U d=>exact OZ hA j p d g
 next t x f d=>exact vY hA j p d g
 next t x i d=>exact wy hA j p d g
 next t x f d=>exact QI hA j p d g
 next t x i d=>exact Q4 hA j p d g
 next t m k V d=>exact WM hA j p d g
 next t m k v d=>exact Az hA j p (.inl d) g
 next t m k v d=>exact Az hA j p (.inr d) g
 next t m k d=>exact RA hA j p d g
 next t m s v d=>exact Qx hA j p d g
 next t i d=>exact Ca hA j p d g
 next c d=>exact VI hA j p d g
 .exact absurd g hA.fail
def Pq(X:DQ)(holds:R->Prop)(abs:HT->Tu)(ops:To)(i:Nat)(o:Oper)(g9:St)(K:KN R HT):Prop:=
 ∃b a h',aq X.C (uB X.C) X.b_ ops i g9 b/\Rp a b/\abs h'=b.heap/\Fr o.dst.toList (wT X.b_ o).toList (kW X.b_ o).toList g9 b/\holds (K a h')
def SS(c:Rp ev g9){d:Nat}{t:Bool}(f:ev.tm.getD d .no = .st (.leaf (.b t))):Rp ⟨ev.tm.set d (.st (.leaf (.l t))),ev.lc⟩ g9:=by
 obtain⟨e,_⟩:=c.at f c_;refine⟨by simp[c.len],λi x a=>?_,c.Fp,c.row⟩;simp only[HZ]at a;split at a
 next g=>
  subst g;split at a
  .cases a;exact⟨e,aB trivial⟩
  .cases a
 .exact c.val i x a
def AQ(hA:pL A X.C Sg X.T holds abs)(f:Rp ev g9)(v:abs h=g9.heap){ops:To}{i:Nat}{x:TN}(w:ops[i]?=some o)(a:holds (A7 A X Sg ops o x ev h K)):Pq X holds abs ops i o g9 K:=by
 have g:∀ {ev:Env},Rp ev g9->cE ops g9.tmps o=some true->holds (A5 A X Sg o x ev h K)->Pq X holds abs ops i o g9 K:=by
  intro ev f n a;obtain⟨D,l,y,E,F,G,H,I⟩:=y9 hA f v a;exact⟨D,l,y,by unfold aq;simp only[w,n];exact E,F,G,H,I⟩
 have e:∀ {ev:Env},Rp ev g9->cE ops g9.tmps o=some false->holds (my o.dst .un ev h K)->Pq X holds abs ops i o g9 K:=by
  intro ev f n a;obtain⟨l,m,z⟩:=zi f (s:=.un) trivial a;refine⟨g9.put o.dst undef,l,h,by unfold aq;simp only[w,n],m,?_,.put _ _ _ _,z⟩;rw[v];cases o.dst<;>rfl
 unfold A7 at a;split at a
 next q=>
  exact g f (by simp only[cE,q]) a
 next j k q=>
  split at a
  next d r=>
   split at a
   next b p=>
    obtain⟨m,_⟩:=f.at p c_;have n:cE ops g9.tmps o=some (b==k):=by
     simp only[cE,q,r,Ex,m];rfl
    grind
   next p=>
    obtain⟨m,_⟩:=f.at p c_;have n:cE ops g9.tmps o=some false:=by
     simp only[cE,q,r,Ex,m];rfl
    exact e f n a
   next t p=>
    obtain⟨m,_⟩:=f.at p c_;have n:cE ops g9.tmps o=some (t==k):=by
     simp only[cE,q,r,Ex,m];rfl
    have B:=SS f p;split at a
    .rcases hA.cond _ _ _ a with⟨u,c⟩|⟨u,c⟩
     .rw[fq]at c
      grind
     .rw[fq]at c
      grind
    .rcases hA.cond _ _ _ a with⟨u,c⟩|⟨u,c⟩
     .rw[fq]at c
      grind
     .rw[fq]at c
      grind
   .exact absurd a hA.fail
  .exact absurd a hA.fail
def Up(l:TA):TC:=l.filterMap (·.dst)
def Re(b_:TC)(l:TA):TC:=l.filterMap (wT b_)
def SU(b_:TC)(l:TA):TC:=l.filterMap (kW b_)
def bD{f:Oper->Ts}{o:Oper}{l:TA}(a:o∈l):∀i∈(f o).toList,i∈l.filterMap f:=by
 grind
def pf(hA:pL A X.C Sg X.T holds abs){ops:To}:∀(l:TA) (i:Nat) (e:List (TN)) (ev:Env) (h:HT) (g9:St),l <+: ops.toList.drop i->Rp ev g9->abs h=g9.heap->holds (OH A X Sg ops l e ev h K)->
  ∃d a h',br X.C (uB X.C) X.b_ ops (List.range' i l.length) g9 d/\Rp a d/\abs h'=d.heap/\Fr (Up l) (Re X.b_ l) (SU X.b_ l) g9 d/\holds (K a h')
 | [],i,e,ev,h,g9,_,g,j,k=>⟨g9,ev,h,rfl,g,j,.refl _ _ _ _,k⟩
 |o :: l,i,e,ev,h,g9,c,g,j,k=>by
  have q:ops[i]?=some o:=by
   obtain⟨t,c⟩:=c;have:(ops.toList.drop i)[0]?=some o:=by rw[←c];rfl
   simpa using this
  obtain⟨n,F,E,x,y,z,B,D⟩:=AQ (K:=λev h=>OH A X Sg ops l e.tail ev h K) hA g j q k;have m:l <+: ops.toList.drop (i+1):=by
   obtain⟨t,c⟩:=c;exact⟨t,by rw[←B0,←c];rfl⟩
  obtain⟨d,a,h',r,s,u,v,w⟩:=pf hA l (i+1) e.tail F E n m y z D;refine⟨d,a,h',⟨n,x,r⟩,s,u,?_,w⟩;have p:Fr (Up (o :: l)) (Re X.b_ (o :: l)) (SU X.b_ (o :: l)) g9 n:=B.mono (bD c_) (bD c_) (bD c_);have b:∀(f:Oper->Ts) (i:Nat),i∈l.filterMap f->i∈(o :: l).filterMap f:=by
   simp_all
  exact p.trans (v.mono (b _) (b _) (b _))
def Xl(hA:pL A X.C Sg X.T holds abs){ops:To}(l:TA)(i:Nat)(c:List (TN))(ev:Env)(h:HT)(g9:St)(g:ops.toList.drop i=l)(d:Rp ev g9)(e:abs h=g9.heap)(f:holds (OH A X Sg ops l c ev h K)) :
  ∃b a h',br X.C (uB X.C) X.b_ ops (List.range' i l.length) g9 b/\Rp a b/\abs h'=b.heap/\Fr (Up l) (Re X.b_ l) (SU X.b_ l) g9 b/\holds (K a h'):=
 pf hA l i c ev h g9 (g▸List.prefix_refl _) d e f
end
end Sx
namespace Sx
section
variable [DB] [En] {R HT:Type} {A:Dv R HT} {X:DQ} {Sg:Td} {holds:R->Prop} {abs:HT->Tu}
def Lu(a ks:TC):∀(l:List SV) (i:Nat) (K:List SV->R),∃l',l0 a ks l i K=K l'/\l'.length=l.length/\
  ∀(j:Nat) s,l'[j]?=some s->s = .no∨(l[j]?=some s/\¬a.contains (i+j)=true/\s.Ff ks=false)
 | [],i,K=>⟨[],rfl,rfl,λj s h=>by simp at h⟩
 |x :: l,i,K=>by
  obtain⟨l',h1,c,f⟩:=Lu a ks l (i+1) λl=>match a.contains i||x.Ff ks with
   |true=>K (.no :: l)
   |false=>K (x :: l)
  have g:∀(j:Nat) s,l'[j]?=some s->s = .no∨((x :: l)[j+1]?=some s/\¬a.contains (i+(j+1))=true/\s.Ff ks=false):=by
   grind
  have b:l0 a ks (x :: l) i K=(match a.contains i||x.Ff ks with
   |true=>K (.no :: l')
   |false=>K (x :: l')):=h1
  cases d:a.contains i||x.Ff ks with
  |true=>
   refine⟨.no :: l',by rw[b,d],by simp[c],λj s e=>?_⟩;cases j with
   |zero=>simp_all
   |succ j=>simp_all
  |false=>
   simp only[pB]at d;refine⟨x :: l',j_,by simp[c],λj s e=>?_⟩;cases j with
   |zero=>
    simp_all
   |succ j=>simp_all
def uX(r a:LR):Prop:=r = .JJ∨(∃n,r = .any n/\(a = .any n∨∃cs,a = .row cs/\cs.length=n))
def Lt(a ks:TC)(e:LR):∀(l:List LR) (i:Nat) (K:List LR->R),∃l',Qd a ks e l i K=K l'/\l'.length=l.length/\
  ∀(j:Nat) r,l'[j]?=some r->(ks.contains (i+j)=true/\r=e)∨(ks.contains (i+j)=false/\a.contains (i+j)=true/\∃f,l[j]?=some f/\uX r f)∨
   (ks.contains (i+j)=false/\a.contains (i+j)=false/\l[j]?=some r)
 | [],i,K=>⟨[],rfl,rfl,λj s h=>by simp at h⟩
 |x :: l,i,K=>by
  obtain⟨l',h1,k,o⟩:=Lt a ks e l (i+1) λl=>match ks.contains i,a.contains i with
   |true,_=>K (e :: l)
   |false,true=>(match x with
    | .row g=>ug g.length λn=>K (.any n :: l)
    | .any n=>K (.any n :: l)
    |_=>K (.JJ :: l))
   |false,false=>K (x :: l)
  have q:∀(j:Nat) r,l'[j]?=some r->(ks.contains (i+(j+1))=true/\r=e)∨(ks.contains (i+(j+1))=false/\a.contains (i+(j+1))=true/\∃f,(x :: l)[j+1]?=some f/\uX r f)∨
   (ks.contains (i+(j+1))=false/\a.contains (i+(j+1))=false/\(x :: l)[j+1]?=some r):=by
   grind
  have b:∀y:LR,Qd a ks e (x :: l) i K=K (y :: l')->((ks.contains i=true/\y=e)∨(ks.contains i=false/\a.contains i=true/\uX y x)∨(ks.contains i=false/\a.contains i=false/\y=x))->
    ∃l',Qd a ks e (x :: l) i K=K l'/\l'.length=(x :: l).length/\∀(j:Nat) r,l'[j]?=some r->(ks.contains (i+j)=true/\r=e)∨(ks.contains (i+j)=false/\a.contains (i+j)=true/\∃f,(x :: l)[j]?=some f/\uX r f)∨
     (ks.contains (i+j)=false/\a.contains (i+j)=false/\(x :: l)[j]?=some r):=by
   intro y m p;refine⟨y :: l',m,by simp[k],λj r t=>?_⟩;cases j with
   |zero=>
    grind
   |succ j=>simp_all
  cases c:ks.contains i with
  |true=>exact b e (by show _=_;refine h1.trans ?_;simp only[c]) (.inl ⟨c,rfl⟩)
  |false=>
   cases d:a.contains i with
   |false=>exact b x (by refine h1.trans ?_;simp only[c,d]) (.inr (.inr ⟨c,d,rfl⟩))
   |true=>
    cases x with
    |row g=>exact b (.any g.length) (by refine h1.trans ?_;simp only[c,d,yl]) (.inr (.inl ⟨c,d,.inr ⟨_,rfl,.inr ⟨g,rfl,rfl⟩⟩⟩))
    |any n=>exact b (.any n) (by refine h1.trans ?_;simp only[c,d]) (.inr (.inl ⟨c,d,.inr ⟨_,rfl,.inl rfl⟩⟩))
    |JJ=>exact b .JJ (by refine h1.trans ?_;simp only[c,d]) (.inr (.inl ⟨c,d,.inl rfl⟩))
    |nil=>exact b .JJ (by refine h1.trans ?_;simp only[c,d]) (.inr (.inl ⟨c,d,.inl rfl⟩))
def Um{C:m8}{T:Tv}(hA:pL A C Sg T holds abs):∀(lv:List (Nat×SK)) (xs:List S0) (tm:List SV) (K:List SV->R),holds (upT A lv xs tm K)->cJ xs (lv.map (·.2))=true->
  ∃a,holds (K a)/\a.length=tm.length/\∀(j:Nat) s,a[j]?=some s->tm[j]?=some s∨∃e x,(j,e)∈lv/\s = .st x/\((j,e),x)∈lv.zip xs
 | [],xs,tm,K,d,_=>⟨tm,d,rfl,λj s f=>.inl f⟩
 |p :: lv,[],tm,K,d,h=>by cases h
 |p :: lv,x :: xs,tm,K,d,h=>by
  simp only[EN,cJ,te]at h;have c:holds (Gn (.st x) tm p.1 λtm=>upT A lv xs tm K):=d;rw[fq]at c;obtain⟨a,g,i,k⟩:=Um hA lv xs _ K c h.2;refine⟨a,g,by rw[i];simp,λj s f=>?_⟩;rcases k j s f with b|⟨e,y,b,l,m⟩
  .simp only[HZ]at b;split at b
   next n=>
    split at b
    .cases b;subst n;exact .inr ⟨p.2,x,c_,rfl,c_⟩
    .cases b
   .exact .inl b
  .exact .inr ⟨e,y,by simp[b],l,by simp[m]⟩
def Ul{C:m8}{T:Tv}(hA:pL A C Sg T holds abs):∀(lv:List (Nat×List LK)) (ls:TG) (c:List LR) (K:List LR->TG->R),holds (upR A lv ls c K)->
  ∃(b:List LR) (r:TG) (a:List (List SL)),holds (K b r)/\ls=(a.map (·.map SL.lf)).flatten++r/\a.length=lv.length/\(∀(i:Nat) p cs,lv[i]?=some p->a[i]?=some cs->ba cs p.2=true)/\b.length=c.length/\
   ∀(j:Nat) s,b[j]?=some s->c[j]?=some s∨∃(i:Nat) (ks:TJ) (cs:List SL),lv[i]?=some (j,ks)/\a[i]?=some cs/\s = .row cs
 | [],ls,c,K,f=>⟨c,ls,[],f,rfl,rfl,λ_ _ _ h=>by simp at h,rfl,λj s k=>.inl k⟩
 |p :: lv,ls,c,K,f=>by
  have g:holds (Po A p.2 ls λcs r=>Gn (.row cs) c p.1 λc=>upR A lv r c K):=f;obtain⟨cs,r,m,B,e⟩:=sY hA g;rw[fq]at e;obtain⟨b,z,a,n,o,t,D,u,v⟩:=Ul hA lv r _ K e;refine⟨b,z,cs :: a,n,by rw[m,o];simp,by simp[t],λi q l F E=>?_,by rw[u];simp,λj s k=>?_⟩
  .grind
  .rcases v j s k with d|⟨i,ks,l,d,w,x⟩
   .simp only[HZ]at d;split at d
    next y=>
     split at d
     .cases d;subst y;exact .inr ⟨0,p.2,cs,rfl,rfl,rfl⟩
     .cases d
    .exact .inl d
   .exact .inr ⟨i+1,ks,l,by simpa using d,by simpa using w,x⟩
def Sl{b:Env}{g9:St}(c:Rp b g9):∀ {lv:List (Nat×SK)} {ls:TG},pkT b.tm lv=some ls->
  ∃xs,cV xs=ls/\cJ xs (lv.map (·.2))=true/\(∀x∈xs,x.h_)/\∀p∈lv.zip xs,g9.tmps[p.1.1]?=some p.2.val
 | [],ls,h=>by cases h;exact⟨[],rfl,rfl,c_,c_⟩
 |(t,m) :: lv,ls,h=>by
  simp only[pkT]at h;split at h
  next x l k j=>
   split at h
   next a=>
    cases h;obtain⟨xs,h1,f,g,i⟩:=Sl c j;obtain⟨d,e⟩:=c.at k c_;refine⟨x :: xs,by simp[cV,h1],by simp[cJ,a,f],Hx.2 ⟨e,g⟩,λp hp=>?_⟩;simp only[qda,EL]at hp;rcases hp with rfl|hp
    .exact d
    .exact i p hp
   .cases h
  .cases h
def Sj{b:Env}{g9:St}(d:Rp b g9):∀ {lv:List (Nat×List LK)} {ls:TG},pkR b.lc lv=some ls->
  ∃a:List (List SL),(a.map (·.map SL.lf)).flatten=ls/\a.length=lv.length/\(∀(i:Nat) p cs,lv[i]?=some p->a[i]?=some cs->ba cs p.2=true/\(∀c∈cs,c.h_)/\g9.loc[p.1]?=some (some (cs.map SL.val)))
 | [],ls,h=>by cases h;simp_all
 |(s,ks) :: lv,ls,h=>by
  simp only[pkR]at h;split at h
  next cs l k g=>
   split at h
   next f=>
    cases h;obtain⟨a,h1,e,q⟩:=Sj d g;have j:uW b s=some cs:=by unfold uW;rw[k]
    obtain⟨n,o,_⟩:=mg d j;refine⟨cs :: a,by simp[h1],by simp[e],λi p m t r=>?_⟩
    grind
   .cases h
  .cases h
def Ql:∀ {lv:List (Nat×List LK)} {a b:List (List SL)} {r:TG},a.length=lv.length->b.length=lv.length->
  (∀(i:Nat) p c,lv[i]?=some p->a[i]?=some c->ba c p.2=true)->(∀(i:Nat) p c,lv[i]?=some p->b[i]?=some c->ba c p.2=true)->
  (a.map (·.map SL.lf)).flatten=(b.map (·.map SL.lf)).flatten++r->r=[]/\∀(i:Nat) x y,a[i]?=some x->b[i]?=some y->x.map SL.lf=y.map SL.lf
 | [],a,b,r,la,lb,_,_,h=>by
  simp_all
 |p :: lv,a,b,r,la,lb,f,g,h=>by
  cases a with
  |nil=>simp at la
  |cons x a=>cases b with
   |nil=>simp at lb
   |cons y b=>
    simp only[EN,ec,FL]at h;have k:=bT (f 0 p x rfl rfl);have l:=bT (g 0 p y rfl rfl);obtain⟨m,j⟩:=qdx h (by simp[k,l]);obtain⟨n,o⟩:=Ql (lv:=lv) (by simpa using la) (by simpa using lb) (λi q c e d=>f (i+1) q c (by simpa using e) (by simpa using d))
     (λi q c e d=>g (i+1) q c (by simpa using e) (by simpa using d)) j
    grind
def Cp{j7 b:Type}{l:List j7}{m:List b}{p:j7×b}(h:p∈l.zip m):∃i:Nat,l[i]?=some p.1/\m[i]?=some p.2:=by
 obtain⟨i,a⟩:=FK h;rw[qdf]at a;exact⟨i,a⟩
def si:∀ {a b:List S0} {sks:TN},cJ a sks=true->cJ b sks=true->(cV a).length=(cV b).length
 | [],[],[],_,_=>rfl
 |x :: a,y :: b,k :: sks,c,d=>by
  simp only[cJ,te]at c d;obtain⟨n,e,f⟩:=S0.Q8 c.1;simp only[cV,HY,GY,e,f y d.1,si c.2 d.2]
 | [],_ :: _,[],_,d=>by cases d
 | [],_,_ :: _,c,_=>by cases c
 |_ :: _,_,[],c,_=>by cases c
 |_ :: _,[],_ :: _,_,d=>by cases d
structure Like(ks:TC)(nw:LR)(j6 j8:St):Prop where
 JG:j8.tmps.length=j6.tmps.length
 Fp:j8.loc.length=j6.loc.length
 tm:∀(i:Nat) v,j6.tmps[i]?=some v->nc v=true->j8.tmps[i]?=some v
 tp:∀(i s off:Nat),j6.tmps[i]?=some (.pointer (some ⟨s,off,some 0⟩))->s∉ks->j8.tmps[i]?=some (.pointer (some ⟨s,off,some 0⟩))
 row:∀(s:Nat) x,j6.loc[s]?=some x->s∉ks->j8.loc[s]?=some x
 new:∀s,s∈ks->s<j8.loc.length->nw.ok j8.loc s
theorem Like.refl(ks:TC)(g9:St):Like ks .JJ g9 g9:=⟨rfl,rfl,λ_ _ h _=>h,λ_ _ _ h _=>h,λ_ _ h _=>h,λ_ _ _=>trivial⟩
def SM{C:m8}{T:Tv}(hA:pL A C Sg T holds abs){b_:TC}{c:Code}{nw:LR}{lv:Live}{M N:Env}{g9 j6 j8:St}{ls:TG}{K:Env->R}
  (H:Rp M g9) (P:Rp N j6) (z:Fr (I2 c) (aR b_ c) (GO b_ c) g9 j6) (hp:pk N lv=some ls) (o:Like (aR b_ c) nw j6 j8)
  (h:j8=j6∨∀p∈lv.rows,p.1∉aR b_ c) (hk:holds (reE A b_ c nw lv M ls K)):∃O,Rp O j8/\holds (K O):=by
 unfold reE at hk;obtain⟨a4,h1,h2,h3⟩:=Lu (I2 c) (aR b_ c) M.tm 0 λtm=>Qd (GO b_ c) (aR b_ c) nw M.lc 0 λF=>
  JI A (lv.tm.map (·.2)) ls λJ r=>upT A lv.tm J tm λtm=>upR A lv.rows r F λF r=>A.A1 r (K ⟨tm,F⟩)
 rw[h1]at hk;obtain⟨a8,g1,g2,g3⟩:=Lt (GO b_ c) (aR b_ c) nw M.lc 0 λF=>
  JI A (lv.tm.map (·.2)) ls λJ r=>upT A lv.tm J a4 λtm=>upR A lv.rows r F λF r=>A.A1 r (K ⟨tm,F⟩)
 rw[g1]at hk;obtain⟨J,r,e1,e2,ag⟩:=rh hA hk;obtain⟨V,al,u1,u2⟩:=Um hA _ _ _ _ ag e2;obtain⟨U,r2,a6,an,v1,v2,v3,v4,v5⟩:=Ul hA _ _ _ _ al;obtain⟨aE,ap⟩:=hA.A1 _ _ an;subst aE;rw[HF]at v1;unfold pk at hp;split at hp
 next la lb ax ay=>
  cases hp;obtain⟨ys,y1,y2,y3,y4⟩:=Sl P ax;obtain⟨ad,d1,d2,d3⟩:=Sj P ay;rw[←y1,←d1]at e1;obtain⟨s1,s2⟩:=qdx e1 (si y2 e2);obtain⟨w1,w2⟩:=dd y2 e2 s1;have B:=w2 y3;obtain⟨_,z2⟩:=Ql (r:=[]) d2 v2 (λi p G a b=>(d3 i p G a b).1) v3 j_;refine⟨⟨V,U⟩,⟨?_,λi s hs=>?_,?_,λi s hs=>?_⟩,ap⟩
  .show V.length=_;rw[u1,h2,H.len,o.JG,z.JG]
  .rcases u2 i s hs with D|⟨sk,x,W,rfl,a3⟩
   .rcases h3 i s D with rfl|⟨m,q,u⟩
    .trivial
    .have e:=H.val i s m;rw[F9]at q;have q:i∉I2 c:=by simpa using q
     have d:∀v,g9.tmps[i]?=some v->nc v=true->j8.tmps[i]?=some v:=λv E Q=>o.tm i v (z.tm i v E q Q) Q;have l:∀s f,g9.tmps[i]?=some (.pointer (some ⟨s,f,some 0⟩))->s∉aR b_ c->j8.tmps[i]?=some (.pointer (some ⟨s,f,some 0⟩)):=λs f E Q=>
      o.tp i s f (z.tp i s f E q Q) Q
     cases s with
     |no=>trivial
     |st x=>exact⟨d _ e.1 (S0.nc e.2),e.2⟩
     |K1 J=>simp[SV.Ff]at u
     |un=>exact⟨d _ e.1 rfl,trivial⟩
     |JQ g f=>exact⟨d _ e.1 rfl,trivial⟩
     |LU g L ix=>exact⟨d _ e.1 rfl,trivial⟩
     |HQ s f=>exact⟨l s f e.1 (by simpa[SV.Ff]using u),trivial⟩
     |JV s L ix=>exact⟨l s _ e.1 (by simpa[SV.Ff]using u),trivial⟩
   .obtain⟨k,q1,q2⟩:=Cp a3;simp only at q1 q2;have S:(ao J)[k]?=some x.val:=by simp[ao,q2]
    rw[←w1]at S;simp only[ao,FM,EC]at S;obtain⟨y,a7,a0⟩:=S;have hm:((i,sk),y)∈lv.tm.zip ys:=by
     apply A9 (i:=k)
     grind
    have E:=y4 _ hm;simp only at E;rw[a0]at E;have gx:=B x (A9 q2);exact⟨o.tm i _ E (S0.nc gx),gx⟩
  .show U.length=_;rw[v4,g2,H.Fp,o.Fp,z.Fp]
  .rcases v5 i s hs with D|⟨k,ks,G,W,a2,rfl⟩
   .rcases g3 i s D with⟨m,rfl⟩|⟨m,q,r0,u,b4⟩|⟨m,q,u⟩
    .rw[F9]at m;refine o.new i (by simpa using m) ?_;rw[o.Fp,z.Fp,←H.Fp,←g2]
     grind
    .rw[F9]at m;have t:i∉aR b_ c:=by simpa using m
     have w:=H.row i r0 u;rcases b4 with rfl|⟨n,rfl,b4⟩
     .trivial
     .have:∃I,g9.loc[i]?=some (some I)/\I.length=n:=by
       rcases b4 with rfl|⟨G,rfl,hl⟩
       .exact w
       .exact⟨_,w.1,by simpa using hl⟩
      obtain⟨I,c1,c2⟩:=this;obtain⟨a5,c3,c4⟩:=z.OR i I c1 t;exact⟨a5,o.row i _ c3 t,c4.trans c2⟩
    .rw[F9]at m q;have t:i∉aR b_ c:=by simpa using m
     have av:i∉GO b_ c:=by simpa using q
     have w:=H.row i s u;have j:∀x,g9.loc[i]?=some x->j8.loc[i]?=some x:=λx S=>o.row i x (z.row i x S av) t;cases s with
     |JJ=>trivial
     |nil=>exact j _ w
     |any n=>obtain⟨I,c1,c2⟩:=w;exact⟨I,j _ c1,c2⟩
     |row G=>exact⟨j _ w.1,w.2⟩
   .have Z:∃Y,ad[k]?=some Y:=by
     grind
    obtain⟨Y,Z⟩:=Z;obtain⟨f1,f2,f3⟩:=d3 k _ Y W Z;have f4:=v3 k _ G W a2;obtain⟨m1,m2⟩:=iS f1 f4 (z2 k Y G Z a2);simp only at f3;rw[m1]at f3;refine⟨?_,m2 f2⟩;rcases h with rfl|h
    .exact f3
    .exact o.row i _ f3 (h (i,ks) (A9 W))
 .cases hp
end
end Sx
namespace Sx
section
variable [DB] [En] {R HT:Type} {A:Dv R HT} {X:DQ} {Sg:Td} {holds:R->Prop} {abs:HT->Tu}
def er(X:DQ)(c:AC):Code:=c.erase λa t=>gI (X.T a) t
def d4(X:DQ)(holds:R->Prop)(abs:HT->Tu)(c:Code)(g9:St)(d:KN R HT)(f:Exit->KN R HT):Prop:=
 ∃e b a h',Ez X.C X.b_ c g9 e b/\Rp a b/\abs h'=b.heap/\Fr (I2 c) (aR X.b_ c) (GO X.b_ c) g9 b/\((e = .normal/\holds (d a h'))∨(e≠.normal/\holds (f e a h')))
def uw(hA:pL A X.C Sg X.T holds abs){c:Code}{j:Option Live}{l:Env}{g9:St}{d:KN R HT}{b:KN R HT->R}{s:Exit->KN R HT}{f:Code}
  (z:I2 f=I2 c) (w:aR X.b_ f=aR X.b_ c) (y:GO X.b_ f=GO X.b_ c)
  (v:Rp l g9) (q:∀d,holds (b d)->d4 X holds abs f g9 d s) (k:holds (wB A X.b_ c j l d b)):d4 X holds abs f g9 d s:=by
 unfold wB at k;cases j with
 |none=>exact q d k
 |some lv=>
  obtain⟨e,r,g,m,n,o,p,i,a⟩:=q _ (hA.join _ _ k);rcases a with⟨rfl,a⟩|a
  .simp only at a;split at a
   next B x=>
    rw[z,w,y]at i;obtain⟨h,t,u⟩:=SM hA v o i x (.refl _ _) (.inl rfl) a;exact⟨.normal,r,h,m,n,t,p,j_,.inl ⟨rfl,u⟩⟩
   .exact absurd a hA.fail
  .exact⟨e,r,g,m,n,o,p,i,.inr a⟩
def VH(b_:TC):∀c:Code,∀s∈aR b_ c,s∈GO b_ c:=by
 intro c
 induction c with
 |region id k i=>
  intro s d;simp only[aR,SD]at d;simp only[GO,SD];obtain⟨o,j,d⟩:=d;refine⟨o,j,?_⟩;unfold kW
  grind
 |seq a b g h=>intro s d;simp only[aR,GO,Fs]at d ⊢;grind
 |cond c a b g h=>intro s d;simp only[aR,GO,Fs]at d ⊢;grind
 |block id b e=>exact e
 |loop b e=>exact e
 |scope b e=>exact e
 |rangeFunc f l a b g h=>intro s d;simp only[aR,GO,Fs]at d ⊢;grind
 |_=>intro s d;cases d
def vK{b:TC}{v:TR}(h:nc v=true):kf b v=v:=by
 unfold kf;split
 next a=>
  split
  next c=>
   simp only[te,E6]at c;simp[nc,aT,bE,bj,c.1]at h
  .rfl
 .rw[qs h]
def vJ{a:TC}{s off:Nat}(h:s∉a):kf a (.pointer (some ⟨s,off,some 0⟩)) = .pointer (some ⟨s,off,some 0⟩):=by
 unfold kf;simp[h]
def jG{g9:St}{a:TC}{i:Nat}{v:TR}(c:g9.tmps[i]?=some v)(b:kf a v=v):(g9.clear a).tmps[i]?=some v:=by
 unfold St.clear
 grind
def pO{g9:St}{a:TC}{s:Nat}{x:Option (Tn)}(b:g9.loc[s]?=some x)(c:s∉a):(g9.clear a).loc[s]?=some x:=by
 unfold St.clear;split
 .exact b
 .simp only;rw[fU,F9,rv (by simpa using c)];exact b
def NS{g9:St}{a:TC}{s:Nat}(c:s∈a)(b:s<g9.loc.length):(g9.clear a).loc[s]?=some none:=by
 unfold St.clear;split
 .simp_all
 .simp only;rw[fU,F9,qs (by simpa using c)];simp[b]
def rM{g9:St}{a:TC}:(g9.clear a).tmps.length=g9.tmps.length:=by unfold St.clear;split<;>simp
def jZ(a:TC):∀(l:List (Option (Tn))) (i:Nat),(jb a l i).length=l.length
 | [],_=>rfl
 |_ :: l,i=>by simp[jb,jZ a l]
def mF{g9:St}{a:TC}:(g9.clear a).loc.length=g9.loc.length:=by unfold St.clear;split<;>simp[jZ]
def BT{g9:St}{a:TC}:(g9.clear a).heap=g9.heap:=by unfold St.clear;split<;>rfl
def BU(g9:St)(a:TC):Like a .nil g9 (g9.clear a):=
 ⟨rM,mF,λ_ _ h b=>jG h (vK b),λ_ _ _ h b=>jG h (vJ b),λ_ _ h b=>pO h b,λ_ h c=>NS h (by rw[mF]at c;exact c)⟩
def Qa{g9:St}{g a d:TC}(c:∀s∈a,s∈d):Fr g a d g9 (g9.clear a):=
 ⟨rM,mF,λ_ _ h _ b=>jG h (vK b),λ_ _ _ h _ b=>jG h (vJ b),λs _ h b=>pO h λe=>b (c s e),
  λs f h b=>⟨f,pO h b,rfl⟩⟩
def rK{d:Env}{g9:St}(e:Rp d g9):∀ {caps:List (Nat×SK)} {vs:Tn},pK d.tm caps=some vs->∀(b:Nat) (tm:Tn),
  (∀(i:Nat) x,tm[i]?=some x->x=w6∨(g9.tmps[i]?=some x/\nc x=true))->∀(i:Nat) x,(rq b caps vs tm)[i]?=some x->x=w6∨(g9.tmps[i]?=some x/\nc x=true)
 | [],vs,h,b,tm,c=>by cases h;exact c
 |(t,n) :: caps,vs,h,b,tm,c=>by
  simp only[pK]at h;split at h
  next x m l k=>
   split at h
   .cases h;obtain⟨f,g⟩:=e.at l c_;refine rK e k b _ λi y a=>?_;simp only[HZ]at a;split at a
    next j=>
     subst j;split at a
     .cases a;exact .inr ⟨f,S0.nc g⟩
     .cases a
    .exact c i y a
   .cases h
  .cases h
def nM:∀(nt:Nat) (caps:List (Nat×SK)) (vs tm:Tn),(rq nt caps vs tm).length=tm.length
 |_,[],_,_=>rfl
 |_,_ :: _,[],_=>rfl
 |nt,(t,_) :: caps,v :: vs,tm=>by simp[rq,nM nt caps vs]
def My(hA:pL A X.C Sg X.T holds abs){ops:To}:∀(l:TA) (i:Nat) (g:List (TN)) (c:Env) (h:HT) (g9:St) (K:Env->HT->List HT->R),l <+: ops.toList.drop i->Rp c g9->abs h=g9.heap->holds (opsM A X Sg ops l g c h K)->
  ∃e a h' b,GL X.C (uB X.C) X.b_ ops (List.range' i l.length) g9 (b.map abs) e/\Rp a e/\abs h'=e.heap/\Fr (Up l) (Re X.b_ l) (SU X.b_ l) g9 e/\holds (K a h' b)
 | [],i,g,c,h,g9,K,_,j,k,m=>⟨g9,c,h,[],⟨rfl,rfl⟩,j,k,.refl _ _ _ _,m⟩
 |o :: l,i,g,c,h,g9,K,b,j,k,m=>by
  have v:ops[i]?=some o:=by
   obtain⟨t,b⟩:=b;have:(ops.toList.drop i)[0]?=some o:=by rw[←b];rfl
   simpa using this
  obtain⟨p,H,s,D,E,r,F,G⟩:=AQ (K:=λc h=>opsM A X Sg ops l g.tail c h λa h' b=>K a h' (h :: b)) hA j k v m;have n:l <+: ops.toList.drop (i+1):=by
   obtain⟨t,b⟩:=b;exact⟨t,by rw[←B0,←b];rfl⟩
  obtain⟨e,a,h',q,w,x,y,z,B⟩:=My hA l (i+1) g.tail H s p _ n E r G;refine⟨e,a,h',s :: q,⟨p,q.map abs,D,by rw[EN,r],w⟩,x,y,?_,B⟩;have u:Fr (Up (o :: l)) (Re X.b_ (o :: l)) (SU X.b_ (o :: l)) g9 p:=F.mono (bD c_) (bD c_) (bD c_);have d:∀(f:Oper->Ts) (i:Nat),i∈l.filterMap f->i∈(o :: l).filterMap f:=by
   simp_all
  exact u.trans (z.mono (d _) (d _) (d _))
def Vg(h0:HT)(a:List HT)(p:Nat×Nat):abs (atM h0 a p)=atM (abs h0) (a.map abs) p:=by
 unfold atM
 grind
def SN(hA:pL A X.C Sg X.T holds abs){ops:To}{g:List (TN)}{a:Env}{h0:HT}{c:List HT}{K:R}{g9 i:St}(f:Rp a i)(b:abs h0=g9.heap):∀ {l:List (Nat×Nat)},holds (reM A X Sg ops g a h0 c K l)->
  F_ X.C (uB X.C) X.b_ ops g9 (c.map abs) i l/\holds K
 | [],h=>⟨λp hp=>(by cases hp),h⟩
 |q :: l,h=>by
  have h:holds (match ops[q.1]? with
   |some o=>match o.dst with
    |some d=>A7 A X Sg ops o (g.getD q.1 []) a (atM h0 c q) λe _=>samS A (a.tm.getD d .no) (e.tm.getD d .no) (reM A X Sg ops g a h0 c K l)
    |none=>A.fail
   |none=>A.fail):=h
  split at h
  next o j=>
   split at h
   next d k=>
    obtain⟨y,B,z,m,n,D,_,r⟩:=AQ (g9:={ i with heap:=atM g9.heap (c.map abs) q }) hA (f.heap _) (by rw[Vg (abs:=abs),b]) j h;obtain⟨⟨x,u,v⟩,w⟩:=samS_ok hA f n r;obtain⟨s,t⟩:=SN hA f b w;refine⟨λp hp=>?_,t⟩;rcases EL.1 hp with rfl|hp
    .exact⟨y,m,o,d,x,j,k,u,v⟩
    .exact s p hp
   .exact absurd h hA.fail
  .exact absurd h hA.fail
def yf(hA:pL A X.C Sg X.T holds abs){dr:Dr}
  (an:Pr X.C dr) :
  ∀(c:AC) (k:Env) (h:HT) (g9:St) (z:KN R HT) (F:Exit->KN R HT),Rp k g9->abs h=g9.heap->holds (exec A X Sg dr c k h z F)->d4 X holds abs (er X c) g9 z F:=by
 intro c
 induction c with
 |skip=>intro k h g9 z F D I w;exact⟨.normal,g9,k,h,.skip,D,I,.refl _ _ _ _,.inl ⟨rfl,w⟩⟩
 |ret=>intro k h g9 z F D I w;exact⟨.ret,g9,k,h,.ret,D,I,.refl _ _ _ _,.inr ⟨c_,w⟩⟩
 |exit id=>intro k h g9 z F D I w;exact⟨.exit id,g9,k,h,.exit,D,I,.refl _ _ _ _,.inr ⟨c_,w⟩⟩
 |label l=>intro k h g9 z F D I w;exact⟨.normal,g9,k,h,.label,D,I,.refl _ _ _ _,.inl ⟨rfl,w⟩⟩
 |seq a b a1 a2=>
  intro k h g9 z F D I w;obtain⟨e,O,Q,P,V,Y,q3,q4,E⟩:=a1 k h g9 _ _ D I w;have m1:Fr (I2 (er X (.seq a b))) (aR X.b_ (er X (.seq a b))) (GO X.b_ (er X (.seq a b))) g9 O:=
   q4.mono (λi B=>KF _ B) (λi B=>KF _ B) (λi B=>KF _ B)
  rcases E with⟨rfl,E⟩|⟨E,q6⟩
  .obtain⟨e',N,G,S,L,J,U,p4,M⟩:=a2 Q P O z F Y q3 E;exact⟨e',N,G,S,.seq V L,J,U,m1.trans (p4.mono (λi B=>UX _ B) (λi B=>UX _ B) (λi B=>UX _ B)),M⟩
  .exact⟨e,O,Q,P,.seqX V E,Y,q3,m1,.inr ⟨E,q6⟩⟩
 |scope b ih=>
  intro k h g9 z F D I w;obtain⟨e,O,Q,P,V,q⟩:=ih k h g9 z F D I w;exact⟨e,O,Q,P,.scope V,q⟩
 |region id H K hs j=>
  intro k h g9 z F D I w;have s:holds (match drX dr K X.b_ H with
   |none=>A.fail
   |some ps=>wB A X.b_ (.region id H K) j k z λz=>regE A X Sg H hs ps k h z):=w
  split at s
  .exact absurd s hA.fail
  next ps hd=>
   refine uw hA (c:=.region id H K) rfl rfl rfl D (λz w=>?_) s;unfold regE at w;cases W:GD ps with
   |some l=>
    rw[W]at w;simp only at w;obtain⟨N,G,S,hl,L,J,U,p4,M⟩:=My hA H.toList 0 hs k h g9 _ j_ D I w;obtain⟨M,p6⟩:=SN (g9:=g9) hA J I M;have L:GL X.C (uB X.C) X.b_ H (range H.size) g9 (hl.map abs) N:=by
     rw[ZM];omega
    refine⟨.normal,N,G,S,?_,J,U,p4,.inl ⟨rfl,p6⟩⟩;cases K with
    |false=>cases hd;cases W
    |true=>
     have Z:=an _ _ _ hd;rw[W]at Z;obtain⟨n,g1⟩:=Jq L;obtain⟨m,g2⟩:=again_at M;exact .drawA (Z (max n m) g9 N _ (g1 _ (ee _ _)) (g2 _ (qcy _ _)))
   |none=>
    rw[W]at w;simp only at w;cases ag:HC ps with
    |none=>
     rw[ag]at w;simp only at w;obtain⟨N,G,S,L,J,U,p4,M⟩:=Xl hA H.toList 0 hs k h g9 rfl D I w;obtain⟨M,p6⟩:=sepK_ok hA J M;have L:br X.C (uB X.C) X.b_ H (range H.size) g9 N:=by
      rw[ZM];omega
     refine⟨.normal,N,G,S,?_,J,U,p4,.inl ⟨rfl,p6⟩⟩;cases K with
     |false=>exact .region L
     |true=>
      have Z:=an _ _ _ hd;rw[W]at Z;simp only at Z;rw[ag]at Z;exact .draw (λn hn=>Z n _ _ hn M) L
    |some q=>
     rw[ag]at w;simp only at w;obtain⟨O,Q,P,L,J,U,p4,M⟩:=pf hA (H.toList.take (q.2+1)) 0 hs k h g9 i_ D I w;unfold reK at M;split at M
     next o ho=>
      split at M
      next d bb=>
       obtain⟨s9,C8,B7,V,Y,q3,_,E⟩:=AQ hA J U ho M;simp only at E;split at E
       next x y hx hy=>
        obtain⟨u,e1,e2⟩:=hA.jw _ _ E;have e1:=Lz e1;subst e1;have sm:Ii H q.1 O s9:=⟨o,d,x,ho,bb,Lw J hx,Lw Y hy⟩;obtain⟨N,G,S,r1,r2,r3,r4,r5⟩:=pf hA (H.toList.drop (q.2+1)) (q.2+1) _ Q P O (List.prefix_refl _) J U e2;refine⟨.normal,N,G,S,?_,r2,r3,?_,.inl ⟨rfl,r5⟩⟩
        .cases K with
         |false=>cases hd;cases ag
         |true=>
          have Z:=an _ _ _ hd;rw[W]at Z;simp only at Z;rw[ag]at Z;exact .drawS (λn h1 h2 h3=>Z n _ _ _ _ h1 h2 sm h3) L V r1
        .refine(p4.mono (λi B=>?_) (λi B=>?_) (λi B=>?_)).trans (r4.mono (λi B=>?_) (λi B=>?_) (λi B=>?_))
         all_goals
          replace B:=SD.1 B
          obtain⟨o,ho,e⟩:=B;exact SD.2 ⟨o,i_,e⟩
       .exact absurd E hA.fail
      .exact absurd M hA.fail
     .exact absurd M hA.fail
 |cond c a b j a1 a2=>
  intro k h g9 z F D I w;have s:holds (match km k c with
   | .st (.leaf (.l true))=>exec A X Sg dr a k h z F
   | .st (.leaf (.l false))=>exec A X Sg dr b k h z F
   | .st (.leaf (.b t))=>wB A X.b_ (er X (.cond c a b j)) j k z λz=>A.cond t (exec A X Sg dr a k h z F) (exec A X Sg dr b k h z F)
   |_=>A.fail):=w
  have ga:∀ {z},jn g9.tmps c = .bool true->holds (exec A X Sg dr a k h z F)->d4 X holds abs (er X (.cond c a b j)) g9 z F:=by
   intro z hc w;obtain⟨e,O,Q,P,V,Y,q3,q4,E⟩:=a1 k h g9 z F D I w;exact⟨e,O,Q,P,.cond hc V,Y,q3,q4.mono (λi B=>KF _ B) (λi B=>KF _ B) (λi B=>KF _ B),E⟩
  have gb:∀ {z},jn g9.tmps c = .bool false->holds (exec A X Sg dr b k h z F)->d4 X holds abs (er X (.cond c a b j)) g9 z F:=by
   intro z hc w;obtain⟨e,O,Q,P,V,Y,q3,q4,E⟩:=a2 k h g9 z F D I w;exact⟨e,O,Q,P,.cond hc (show Ez X.C X.b_ (if false=true then er X a else er X b) g9 e O by simp_all),Y,q3,q4.mono (λi B=>UX _ B) (λi B=>UX _ B) (λi B=>UX _ B),E⟩
  split at s
  next e=>exact ga (D.km e c_).1 s
  next e=>exact gb (D.km e c_).1 s
  next t e=>
   have h1:=(D.km e c_).1;refine uw hA (c:=er X (.cond c a b j)) rfl rfl rfl D (λz w=>?_) s;rcases hA.cond _ _ _ w with⟨ht,av⟩|⟨ht,av⟩
   .exact ga (by rw[h1,ht];rfl) av
   .exact gb (by rw[h1,ht];rfl) av
  .exact absurd s hA.fail
 |block id b j ih=>
  intro k h g9 z F D I w;refine uw hA (c:=er X b) rfl rfl rfl D (λz w=>?_) (show holds (wB A X.b_ (er X b) j k z λz=>exec A X Sg dr b k h z λe=>match vV e id with
   |true=>z
   |false=>F e)from w)
  obtain⟨e,O,Q,P,V,Y,q3,q4,E⟩:=ih k h g9 _ _ D I w;refine⟨kN id e,O,Q,P,.block V,Y,q3,q4,?_⟩;rcases E with⟨rfl,E⟩|⟨E,q6⟩
  .exact .inl ⟨rfl,E⟩
  .cases e with
   |normal=>exact absurd rfl E
   |exit i=>
    by_cases B:i=id
    .subst B;left;simp only[kN,if_true,true_and];simpa[vV]using q6
    .right;simp only[kN,rv B];refine⟨c_,?_⟩;have:Nat.beq i id=false:=by
      rw[←Hz];simp_all
     simpa[vV,this]using q6
   |_=>exact .inr ⟨by simp[kN],by simpa[vV,kN]using q6⟩
 |loop b lv ih=>
  intro k h g9 z F D I w;have s:holds (match pk k lv with
   |none=>A.fail
   |some ls=>match lv.rows.all λp=>!(aR X.b_ (er X b)).contains p.1 with
    |false=>A.fail
    |true=>A.loop (λa6 ls h=>reE A X.b_ (er X b) .nil lv k ls λk=>exec A X Sg dr b k h (λk h=>match pk k lv with
     |some ls=>a6 ls h
     |none=>A.fail) F) ls h):=w
  split at s
  .exact absurd s hA.fail
  next bl bd=>
   split at s
   .exact absurd s hA.fail
   next bs=>
    have ax:∀p∈lv.rows,p.1∉aR X.b_ (er X b):=by
     grind
    obtain⟨it,i0,i1,n,hn⟩:=hA.loop _ _ _ s;have a5:∀(n:Nat) (ls:TG) (h:HT) (j8:St) (B9:Env),Rp B9 j8->Fr (I2 (er X b)) (aR X.b_ (er X b)) (GO X.b_ (er X b)) g9 j8->pk B9 lv=some ls->abs h=j8.heap->holds (it n ls h)->
      ∃e N G S,Ez X.C X.b_ (.loop (er X b)) j8 e N/\e≠.normal/\Rp G N/\abs S=N.heap/\Fr (I2 (er X b)) (aR X.b_ (er X b)) (GO X.b_ (er X b)) g9 N/\holds (F e G S):=by
     intro n
     induction n with
     |zero=>simp_all
     |succ n bk=>
      intro ls h j8 B9 Dg hF hp Dh hh;rw[i1]at hh;obtain⟨a7,g1,g2⟩:=SM hA D Dg hF hp (BU j8 _) (.inr ax) hh;obtain⟨e,O,Q,P,V,Y,q3,q4,E⟩:=ih a7 h (j8.clear (aR X.b_ (er X b))) _ _ g1 (by rw[BT];exact Dh) g2;have a3:Fr (I2 (er X b)) (aR X.b_ (er X b)) (GO X.b_ (er X b)) g9 O:=(hF.trans (Qa (VH _ _))).trans q4;rcases E with⟨rfl,E⟩|⟨E,q6⟩
      .simp only at E;split at E
       next bm be=>
        obtain⟨e',N,G,S,L,J,U,p4,M,p6⟩:=bk bm P O Q Y a3 be q3 E;exact⟨e',N,G,S,.loop V L,J,U,p4,M,p6⟩
       .exact absurd E hA.fail
      .exact⟨e,O,Q,P,.loopX V E,E,Y,q3,a3,q6⟩
    obtain⟨e',N,G,S,L,J,U,p4,M,p6⟩:=a5 n bl h g9 k D (.refl _ _ _ _) bd I hn;exact⟨e',N,G,S,L,U,p4,M,.inr ⟨J,p6⟩⟩
 |rangeFunc f m9 a4=>
  intro k h g9 z F D I w;have s:holds (match (generalizing:=false) f,km k f,X.b_ with
   | .tmp _,.st (.leaf (.v v)),_ :: _=>match Nat.beq k.tm.length (X.T m9).nt,pK k.tm (X.T m9).caps with
    |true,some vs=>A.Ft m9 v vs h λpd h=>A.Fg pd (z k h) (F .ret k h) (a4.map λid=>(id,F (.exit id) k h))
    |_,_=>A.fail
   |_,_,_=>A.fail):=w
  clear w;cases f with
  |tmp t=>
   cases ad:X.b_ with
   |nil=>rw[ad]at s;split at s<;>first|exact absurd s hA.fail|(rename_i e;cases e)
   |cons p0 pr=>
    rw[ad]at s;split at s
    next t2 v hd tl e0 e e1=>
     split at s
     next vs ay a8=>
      have ay:=Ey ay;obtain⟨h1,g1⟩:=D.km e c_;have gv:aI v=true:=g1 (.v v) (by simp[S0.cells]);obtain⟨g,first,bn,r,H1,lp,h2,r1,r2,r3,r4,r5,r6⟩:=hA.Ft _ _ _ _ _ s;subst r1;rw[I]at r2 r3 r5;have a0:zD g9.tmps (FC (X.T m9) m9 vs).tmps:=by
       refine⟨by simp only[FC,nM,qcR];rw[←ay,D.len],rK D a8 _ _ λi x hx=>?_⟩
       grind
      have aE:=hA.Fg _ _ _ _ r6;have ap:∀ {e:Exit},zZ lp.pending=some e->Ez X.C X.b_ (er X (.rangeFunc (.tmp t) m9 a4)) g9 e { g9 with heap:=H1.set g9.heap.length (.loop { lp with state:=.exhausted }) }:=by
       intro e he;have a9:X.b_≠[]:=by rw[ad];simp
       refine Ez.rangeFunc (r:=r) (B4:=m9) (tm:=(FC (X.T m9) m9 vs).tmps) a9 a0 h1 (ff.1 gv).1 ?_ r3 r4 he;simpa[FC]using r2
      have al:Rp k { g9 with heap:=H1.set g9.heap.length (.loop { lp with state:=.exhausted }) }:=D.heap _;rcases aE with⟨L,J⟩|⟨L,J⟩|⟨id,x,L,J,U⟩
      .exact⟨.normal,_,k,h2,ap (by rw[L];rfl),al,r5,(Fr.refl _ _ _ _).heap _,.inl ⟨rfl,J⟩⟩
      .exact⟨.ret,_,k,h2,ap (by rw[L];rfl),al,r5,(Fr.refl _ _ _ _).heap _,.inr ⟨c_,J⟩⟩
      .obtain⟨bt,i',he⟩:=DJ.1 J;cases he;exact⟨.exit id,_,k,h2,ap (by rw[L];rfl),al,r5,(Fr.refl _ _ _ _).heap _,.inr ⟨c_,U⟩⟩
     .exact absurd s hA.fail
    .exact absurd s hA.fail
  |_=>exact absurd s hA.fail
end
end Sx
namespace Sx
section
variable [DB] [En] {R HT:Type} {A:Dv R HT} {X:DQ} {Sg:Td} {holds:R->Prop} {abs:HT->Tu}
def eo(ls:TG):Prop:=∀l∈ls,match l with
 | .v x=>aI x=true
 |_=>True
def Ce{xs:List S0}(h:eo (cV xs)):∀x∈xs,x.h_:=by
 intro x a l b;have c:l.lf∈cV xs:=by
  induction xs with
  |nil=>cases a
  |cons y e d=>
   simp only[cV,Fs,DJ];rcases EL.1 a with rfl|a
   .grind
   .exact .inr (d (λl b=>h l (by simp only[cV,Fs];exact .inr b)) a)
 have:=h _ c;cases l<;>first|trivial|exact this
def sq:∀ {xs:List S0},(∀x∈xs,x.h_)->eo (cV xs)
 | [],_,l,a=>by cases a
 |x :: xs,h,l,a=>by
  simp only[cV,Fs,DJ]at a;rcases a with⟨c,b,rfl⟩|a
  .have:=h x c_ c b;cases c<;>first|trivial|exact this
  .exact sq (λy d=>h y (by simp[d])) l a
def ja{C:m8}{T:Tv}(hA:pL A C Sg T holds abs):∀ {cs:List SL} {K:R},holds (J6 A cs K)->(∀c∈cs,bE c.val=true)/\holds K
 | [],K,h=>⟨c_,h⟩
 |c :: cs,K,h=>by
  cases c with
  |v x=>
   have h':holds (A.jw (GA x) λ_=>J6 A cs K):=h;obtain⟨u,e,f⟩:=hA.jw _ _ h';obtain⟨a,d⟩:=ja hA f;refine⟨Hx.2 ⟨?_,a⟩,d⟩;unfold GA at e;split at e
   .assumption
   .cases e
  |i k n=>obtain⟨a,d⟩:=ja (cs:=cs) (K:=K) hA h;exact⟨Hx.2 ⟨rfl,a⟩,d⟩
  |b t=>obtain⟨a,d⟩:=ja (cs:=cs) (K:=K) hA h;exact⟨Hx.2 ⟨rfl,a⟩,d⟩
  |l t=>obtain⟨a,d⟩:=ja (cs:=cs) (K:=K) hA h;exact⟨Hx.2 ⟨rfl,a⟩,d⟩
def NO{C:m8}{T:Tv}(hA:pL A C Sg T holds abs){a:Bool}{x:S0}{K:R}(e:x.h_)(h:holds (iH A a x K)):(a=true->aT x.val=true)/\holds K:=by
 unfold iH at h;split at h
 next b=>
  obtain⟨f,c⟩:=ja hA h;refine⟨λ_=>?_,c⟩;simp only[S0.val,aT,A_,DJ]
  simp_all
 next d=>
  refine⟨λg=>?_,h⟩;cases x with
  |agg b=>simp_all
  |leaf l=>exact(ff.1 (SL.E8 (e l (by simp[S0.cells])))).2.1
def MV(hA:pL A X.C Sg X.T holds abs){i:Env}{g9:St}{h:HT}(F:Rp i g9)(Y:abs h=g9.heap){b:Bool}:∀(d:List ResultVar) (sks:TN) (e:TG) (K:TG->HT->R),holds (H5 A X b i h d sks e K)->
  ∃ys,cJ ys sks=true/\(∀y∈ys,y.h_)/\(b=true->∀y∈ys,aT y.val=true)/\ys.length=d.length/\dq X.C g9 d=some (ao ys)/\holds (K (e++cV ys) h)
 | [],sks,e,K,j=>by
  cases sks with
  |nil=>
   have c:holds (K e h):=j;exact⟨[],rfl,c_,c_,rfl,rfl,by rw[cV,HF];exact c⟩
  |cons _ _=>exact absurd j hA.fail
 |L :: d,sks,e,K,j=>by
  cases sks with
  |nil=>exact absurd j hA.fail
  |cons k sks=>
   have q:∀x:S0,x.is k=true->x.h_->gn X.C g9 L=some x.val->holds (iH A b x (H5 A X b i h d sks (e++x.cells.map SL.lf) K))->
     ∃ys,cJ ys (k :: sks)=true/\(∀y∈ys,y.h_)/\(b=true->∀y∈ys,aT y.val=true)/\ys.length=(L :: d).length/\dq X.C g9 (L :: d)=some (ao ys)/\holds (K (e++cV ys) h):=by
    intro x o Z H j;obtain⟨h1,E⟩:=NO hA Z j;obtain⟨ys,z,I,a3,a4,a5,a6⟩:=MV hA F Y d sks _ K E;refine⟨x :: ys,by simp[cJ,o,z],Hx.2 ⟨Z,I⟩,λhm=>Hx.2 ⟨h1 hm,a3 hm⟩,by simp[a4],?_,by simpa[cV]using a6⟩;simp only[dq,H,a5];rfl
   cases L with
   |tmp t=>
    have c:holds (match i.tm.getD t .no with
     | .st x=>match x.is k with
      |true=>iH A b x (H5 A X b i h d sks (e++x.cells.map SL.lf) K)
      |false=>A.fail
     |_=>A.fail):=j
    split at c
    next x o=>
     obtain⟨D,g2⟩:=F.at o c_;split at c
     next u=>
      exact q x u g2 (by simp[gn,List.getD_eq_getElem?_getD,D];rfl) c
     .exact absurd c hA.fail
    .exact absurd c hA.fail
   |cell a t=>
    have c:holds (match (generalizing:=false) B2 X.C.P t with
     |some g=>
      let n:=if g then X.C.P.cellsOf t else 1
      match (generalizing:=false) i.tm.getD a .no with
      | .HQ s w=>match (uW i s).bind (λm=>(E1 m w n).bind (HV g))with
       |some x=>match x.is k with
        |true=>iH A b x (H5 A X b i h d sks (e++x.cells.map SL.lf) K)
        |false=>A.fail
       |none=>A.fail
      | .st (.leaf (.v p))=>match (generalizing:=false) g,k with
       |true,.agg _=>A.ma (.ld n p) h λm=>K4 A k m λx r=>A.tf r (iH A b x (H5 A X b i h d sks (e++x.cells.map SL.lf) K))
       |false,.leaf _=>A.ma (.ld n p) h λm=>K4 A k m λx r=>A.tf r (iH A b x (H5 A X b i h d sks (e++x.cells.map SL.lf) K))
       |_,_=>A.fail
      |_=>A.fail
     |none=>A.fail):=j
    clear j;split at c
    next g G=>
     simp only at c;split at c
     next s w J=>
      obtain⟨D,_⟩:=F.at J c_;split at c
      next x o=>
       obtain⟨m,S,o⟩:=FY.1 o;obtain⟨ds,hd,o⟩:=FY.1 o;obtain⟨r1,r2,_⟩:=mg F S;obtain⟨c1,c2⟩:=pT hd;obtain⟨v,v1,v2⟩:=dp G c1;obtain⟨m1,m2⟩:=qD o;split at c
       next u=>
        have hv:x.val=v:=by
         rcases m2 with⟨z,I⟩|⟨z,I⟩<;>rcases v2 with⟨B,V⟩|⟨B,V⟩
         .rw[I,V]
         .rw[z]at B;cases B
         .rw[z]at B;cases B
         simp_all
        refine q x u (λl J=>?_) ?_ c
        .simp_all
        .simp only[gn,List.getD_eq_getElem?_getD,D,U0,SV.val,r1,v1,hv]
       .exact absurd c hA.fail
      .exact absurd c hA.fail
     next p J=>
      obtain⟨D,_⟩:=F.at J c_;have f:g=lj k->holds (A.ma (.ld (if g then X.C.P.cellsOf t else 1) p) h λm=>K4 A k m λx r=>A.tf r (iH A b x (H5 A X b i h d sks (e++x.cells.map SL.lf) K)))->
        ∃ys,cJ ys (k :: sks)=true/\(∀y∈ys,y.h_)/\(b=true->∀y∈ys,aT y.val=true)/\ys.length=(ResultVar.cell a t :: d).length/\dq X.C g9 (.cell a t :: d)=some (ao ys)/\holds (K (e++cV ys) h):=by
       intro U j;obtain⟨m,E,N⟩:=hA.ma _ _ _ j;simp only[Pk.run]at E;rw[Y]at E;obtain⟨id,w,vs,rfl,W,h4⟩:=ng E;rw[vF]at W;obtain⟨v,h5,M⟩:=dp G h4;rw[U]at M;obtain⟨x,r,q1,q2,q3,O⟩:=sX hA N;obtain⟨S,Q⟩:=hA.tf _ _ O;rw[S,HF]at q1;rw[q1]at M;refine q x q2 q3 ?_ Q;rw[sw q2 M];simp only[gn,List.getD_eq_getElem?_getD,D,U0,SV.val,S0.val,SL.val,W,Ex,h5]
      split at c
      .exact f rfl c
      .exact f rfl c
      .exact absurd c hA.fail
     .exact absurd c hA.fail
    .exact absurd c hA.fail
structure HI(X:DQ)(Sg:Td)(f:TQ)(fn:Fn1):Prop where
 is:∃g,X.C.P.funcs[f]?=some g/\g.body=some (er X fn.code)/\((g.name == "runtime.NumGoroutine")||X.C.opq f)=false/\g.ntmps=fn.nt/\g.results.toList=fn.rvs
 b_:X.b_=X.C.b_ f
 sg:Sg f=some fn.sg
def yO{ys:List S0}(c:∀y∈ys,y.h_)(d:1<ys.length->∀y∈ys,aT y.val=true):nc (gM (ao ys))=true:=by
 match ys with
 | []=>rfl
 | [y]=>exact S0.nc (c y c_)
 |a :: b :: l=>
  have h:=d c_;have e:gM (ao (a :: b :: l)) = .tuple (ao (a :: b :: l)).toArray:=rfl;rw[e];simp only[Am.nc,A_];intro v f;simp only[ao,DJ]at f
  grind
def nL:∀ {a:List S0} {sks:TN},cJ a sks=true->a.length=sks.length
 | [],[],_=>rfl
 |x :: a,k :: sks,h=>by
  simp only[cJ,te]at h;simp[nL h.2]
 | [],_ :: _,h=>by cases h
 |_ :: _,[],h=>by cases h
def T4{xs:List S0}(f:∀x∈xs,x.h_)(d:Nat)(H:Tu) :
  Rp ⟨xs.map .st++replicate (d - xs.length) .no,replicate d .nil⟩ { tmps:=ao xs++replicate (d - (ao xs).length) undef,loc:=replicate d none,heap:=H }:=by
 refine⟨by simp[ao],λi s a=>?_,c_,λi r c=>?_⟩
 .rw[d8]at a;split at a
  next b=>
   simp only[GY]at b;simp only[FM,EC]at a;obtain⟨x,e,rfl⟩:=a;refine⟨?_,f x (A9 e)⟩;rw[H3 (by simpa[ao]using b)];simp[ao,e,SV.val]
  .rw[ZL]at a;split at a
   .cases a;trivial
   .cases a
 .simp only[ZL]at c;split at c
  .rename_i b;cases c
   simp[LR.ok,b]
  .cases c
def tU(hA:pL A X.C Sg X.T holds abs){q:Dr}
  (i:Pr X.C q)
  {f:TQ} {a:Fn1} (j:HI X Sg f a) {ls:TG} {h:HT} {K:TG->HT->R} (n:eo ls) (k:holds (aw A X Sg q a ls h K)) :
  ∃b h',aF X.C Sg f ls (abs h) b (abs h')/\eo b/\holds (K b h'):=by
 obtain⟨g,F,G,f3,f4,f5⟩:=j.is;obtain⟨x,r,s,E,l⟩:=rh hA k;obtain⟨J,m⟩:=hA.A1 _ _ l;rw[J,HF]at s;subst s;have t:=Ce n;have H:=T4 t a.nt (abs h);obtain⟨e,O,d,h',v,L,w,_,o⟩:=yf hA i a.code _ h _ _ _ H rfl m;have u:(e = .normal∨e = .ret)->holds (H5 A X (Nat.blt 1 a.rvs.length) d h' a.rvs a.sg.rs [] K)->∃b h',aF X.C Sg f (cV x) (abs h) b (abs h')/\eo b/\holds (K b h'):=by
  intro I k;obtain⟨y,z,c,B,M,D,p⟩:=MV hA L w a.rvs a.sg.rs [] K k;rw[EG]at p;refine⟨cV y,h',⟨a.sg,x,y,j.sg,⟨E,rfl,t⟩,⟨z,rfl,c⟩,?_⟩,sq c,p⟩;rw[w];refine jY.intro F G f3 ?_ I (by rw[f5];exact D) (yO c λN=>B (by rw[HA];omega));rw[j.b_]at v;simpa[nQ,f4]using v
 rcases o with⟨rfl,o⟩|⟨o,q6⟩
 .simp_all
 .cases e with
  |ret=>simp_all
  |_=>exact absurd q6 hA.fail
def pJ:∀(caps:List (Nat×SK)) (xs:List S0) (tm:List SV) (a:Tn),tm.length=a.length->(∀x∈xs,x.h_)->(∀(i:Nat) s,tm[i]?=some s->s.ok a i)->
  (gw 0 caps xs tm).length=tm.length/\∀(i:Nat) s,(gw 0 caps xs tm)[i]?=some s->s.ok (cX (caps.map (·.1)) (ao xs) a) i
 | [],xs,tm,a,_,_,h=>⟨by simp[gw],by simpa[gw,cX]using h⟩
 |(t,j) :: caps,[],tm,a,_,_,h=>⟨by simp[gw],by simpa[gw,cX,ao]using h⟩
 |(t,j) :: caps,x :: xs,tm,a,e,d,h=>by
  have:=pJ caps xs (tm.set t (.st x)) (a.set t x.val) (by simp[e]) (λy g=>d y (by simp[g])) (λi s b=>?_)
  .simpa[gw,cX,ao]using this
  .simp only[HZ]at b;split at b
   next c=>
    subst c;split at b
    next f=>
     cases b;exact⟨by rw[Ia a_];rfl,d x c_⟩
    .cases b
   next c=>
    have:=h i s b;cases s<;>first|trivial|exact⟨by rw[IA c];exact this.1,this.2⟩
def iW(b a:Nat):∀(caps:List (Nat×SK)) (xs:List S0) (tm:List SV),gw b caps xs tm=gw a caps xs tm
 | [],_,_=>rfl
 |_ :: _,[],_=>rfl
 |(t,_) :: caps,x :: xs,tm=>iW b a caps xs _
def nN(a:Nat):∀(caps:List (Nat×SK)) (vs tm:Tn),rq a caps vs tm=cX (caps.map (·.1)) vs tm
 | [],_,_=>by simp[rq,cX]
 |_ :: _,[],_=>by simp[rq,cX]
 |(t,_) :: caps,v :: vs,tm=>by simp only[rq,EN,cX];exact nN a caps vs _
def sA{T T':Nat->Tmp->Code}:∀ {c:AC},GX c=true->c.erase T=c.erase T':=by
 intro c
 induction c with
 |seq a b d e=>intro h;simp only[GX,te]at h;simp only[AC.erase,d h.1,e h.2]
 |scope b g=>intro h;simp only[AC.erase,g h]
 |cond c a b j d e=>intro h;simp only[GX,te]at h;simp only[AC.erase,d h.1,e h.2]
 |block id b j g=>intro h;simp only[AC.erase,g h]
 |loop b lv g=>intro h;simp only[AC.erase,g h]
 |rangeFunc f k i=>intro h;cases h
 |_=>intro _;rfl
def wE:∀ {caps:List (Nat×SK)} {xs:List S0},ux caps=true->cJ xs (caps.map (·.2))=true->oI xs=ao xs
 | [],[],_,_=>rfl
 |p :: caps,x :: xs,h1,a=>by
  simp only[ux,UW,te]at h1;simp only[EN,cJ,te]at a;have b:=wE (caps:=caps) h1.2 a.2;obtain⟨t,c⟩:=p;cases c with
  |agg d=>cases h1.1
  |leaf k=>
   cases x with
   |agg _=>cases a.1
   |leaf l=>
    simp only[oI,UY,ao,EN]at b ⊢;rw[b];rfl
 | [],_ :: _,_,h=>by cases h
 |_ :: _,[],_,h=>by cases h
def zY(hA:pL A X.C Sg X.T holds abs){O:Dr}
  (k:Pr X.C O)
  {st:Site} {vs:Tn} {l:Nat} {ls:TG} {h:HT} {K:TG->HT->R} {a:GJ} {ys:List S0} (h1:fg (abs h) l=some a) (h2:a.tmps=rq st.nt st.caps vs (replicate st.nt w6))
  (Q:a.params=st.params.map (·.1)) (h4:a.assign=st.assign.erase sB) (h5:a.body=st.body.erase sB) (hy:Told (st.params.map (·.2)) ls ys)
  (f:holds (vW A X Sg O st vs l ls h K)):∃b h',iK X.C l (ao ys) (abs h) (.bool b) (abs h')/\holds (K [.b b] h'):=by
 unfold vW at f;split at f
 .exact absurd f hA.fail
 next S=>
  simp only[te]at S;obtain⟨⟨c1,c2⟩,c3⟩:=S;obtain⟨J,r,P,e2,e3,x⟩:=Ns hA f;obtain⟨D,y⟩:=hA.tf _ _ x;rw[D,HF,wE c1 e2]at P;subst P;obtain⟨L,r',N,d2,z⟩:=rh hA y;obtain⟨E,B⟩:=hA.A1 _ _ z;rw[E,HF]at N;obtain⟨Y,y2,y3⟩:=hy;obtain⟨w1,w2⟩:=dd Y d2 (y2.trans N);have F:=w2 y3
  let M:DQ:={ X with b_:=[] }
  let I:St:={ tmps:=cX a.params (ao ys) a.tmps,loc:=[],heap:=abs h }
  have hR:Rp ⟨gw st.nt st.params L (gw st.nt st.caps J (replicate st.nt .no)),[]⟩ I:=by
   have u:=pJ st.caps J (replicate st.nt .no) (replicate st.nt w6) c_ e3 (λi s g=>by
    rw[ZL]at g;split at g
    .cases g;trivial
    .cases g)
   have c:∀(q:List Tmp) (vs tm:Tn),(cX q vs tm).length=tm.length:=by
    intro q
    induction q with
    |nil=>intro vs tm;simp[cX]
    |cons t q ih=>intro vs tm;cases vs with
     |nil=>simp[cX]
     |cons v vs=>simp[cX,ih]
   have a2:=pJ st.params L _ _ (by rw[u.1,c];simp) F u.2;have w:I.tmps=cX (st.params.map (·.1)) (ao L) (cX (st.caps.map (·.1)) (ao J) (replicate st.nt w6)):=by
    show cX a.params (ao ys) a.tmps=_;rw[Q,h2,nN,w1]
   refine⟨?_,λi s g=>?_,rfl,λi r D=>by simp at D⟩
   .rw[w,c,c,iW st.nt 0,iW st.nt 0,a2.1,u.1];simp
   .rw[iW st.nt 0,iW st.nt 0]at g
    simp_all
  obtain⟨e,n,w0,v9,q1,q2,q3,_,o⟩:=yf (X:=M) hA k st.assign _ h I _ _ hR rfl B;rcases o with⟨rfl,o⟩|⟨_,o⟩
  .obtain⟨W,B7,U,p2,V,q6⟩:=hA.JW _ _ _ o;rw[q3]at U V;obtain⟨e,s9,C8,Di,s1,s2,s3,_,p⟩:=yf (X:=M) hA k st.body w0 B7 { n with heap:=n.heap.set l (.loop { W with state:=.busy }) } _ _ (q2.heap _) V q6;have u1:Ez X.C [] a.assign { tmps:=cX a.params (ao ys) a.tmps,loc:=[],heap:=abs h } .normal n:=by
    rw[h4,sA (T':=λG t=>gI (X.T G) t) c2];exact q1
   have u2:Ez X.C [] a.body { n with heap:=n.heap.set l (.loop { W with state:=.busy }) } e s9:=by
    rw[h5,sA (T':=λG t=>gI (X.T G) t) c3];exact s1
   have m:(ao ys).length=a.params.length:=by
    rw[Q];have:=nL Y;simpa[ao]using this
   have d:∀(j:Tm) (b:Bool),Ko e=some j->b=j.isNone->holds (A.HU l j Di λh=>K [.b b] h)->∃b h',iK X.C l (ao ys) (abs h) (.bool b) (abs h')/\holds (K [.b b] h'):=by
    intro j b hj hb f;obtain⟨A7,Dj,Z,z2,z3⟩:=hA.HU _ _ _ _ f;rw[s3]at Z z2;refine⟨b,Dj,?_,z3⟩;rw[z2,hb];exact iK.intro h1 m u1 U p2 u2 hj Z
   rcases p with⟨rfl,p⟩|⟨p,H⟩
   .exact d none true rfl rfl p
   .cases e with
    |ret=>exact d (some .ret) false rfl rfl H
    |exit id=>exact d (some (.exit id)) false rfl rfl H
    |_=>exact absurd H hA.fail
  .exact absurd o hA.fail
end
end Sx
namespace Sx
section
variable {P:TI}
end
end Sx
end Go.Am
end

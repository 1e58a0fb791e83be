import Derived.Test.YtohimaenikegoaaGreatDoorOY2
import Derived.IntWalk
import Derived.Laws.Entries
import Derived.Laws.StructEq
set_option linter.all false
noncomputable section
open List(range replicate)
namespace Go.Am
def zY:∀(f n:Nat),n<=f->1<=n->(QL f n).num=n
 |0,n,h,h1=>by omega
 |f+1,n,h,h1=>by
  unfold QL;by_cases d:n<=1
  .have:n=1:=by omega
   subst this;rfl
  .have c:Nat.ble n 1=false:=by
    rw[←Gb,Hr];exact d
   rw[c];have b:=zY f (n / 2) (by omega) (by omega);by_cases a:n%2=0
   .simp[a,Dt.num,b];omega
   .simp[a,Dt.num,b];omega
def rF(n:Nat):(cC n).num=n+1:=zY _ _ (x5 _) (by omega)
def mq{a b:Nat}(h:cC a=cC b):a=b:=by
 have:=congrArg Dt.num h;rw[rF,rF]at this;omega
def Dt.set{i6:Type}(d:i6):Dt->Tr i6->i6->Tr i6
 | .e,.leaf,x=>.node x .leaf .leaf
 | .e,.node _ l r,x=>.node x l r
 | .o p,.leaf,x=>.node d (Dt.set d p .leaf x) .leaf
 | .o p,.node v l r,x=>.node v (Dt.set d p l x) r
 | .i p,.leaf,x=>.node d .leaf (Dt.set d p .leaf x)
 | .i p,.node v l r,x=>.node v l (Dt.set d p r x)
def Dt.El{i6:Type}(d:i6)(p:Dt):p.get d .leaf=d:=by cases p<;>rfl
def Dt.Cm{i6:Type}(d:i6):∀(p:Dt) (t:Tr i6) (x:i6),p.get d (p.set d t x)=x
 | .e,t,x=>by cases t<;>rfl
 | .o p,t,x=>by
  cases t with
  |leaf=>exact Dt.Cm d p .leaf x
  |node v l r=>exact Dt.Cm d p l x
 | .i p,t,x=>by
  cases t with
  |leaf=>exact Dt.Cm d p .leaf x
  |node v l r=>exact Dt.Cm d p r x
def Dt.CV{i6:Type}(d:i6):∀(p q:Dt) (t:Tr i6) (x:i6),q≠p->q.get d (p.set d t x)=q.get d t
 | .e,q,t,x,h=>by cases q<;>cases t<;>first|rfl|exact absurd rfl h|exact Dt.El d _
 | .o p,q,t,x,h=>by
  cases q with
  |e=>cases t<;>rfl
  |o q=>
   have a:q≠p:=λe=>h (e▸rfl);cases t with
   |leaf=>exact(Dt.CV d p q .leaf x a).trans (Dt.El d q)
   |node v l r=>exact Dt.CV d p q l x a
  |i q=>
   cases t with
   |leaf=>exact Dt.El d q
   |node v l r=>rfl
 | .i p,q,t,x,h=>by
  cases q with
  |e=>cases t<;>rfl
  |i q=>
   have a:q≠p:=λe=>h (e▸rfl);cases t with
   |leaf=>exact(Dt.CV d p q .leaf x a).trans (Dt.El d q)
   |node v l r=>exact Dt.CV d p q r x a
  |o q=>
   cases t with
   |leaf=>exact Dt.El d q
   |node v l r=>rfl
def J5{a b:Int}:v2 a b=true↔a=b:=by
 cases a<;>cases b<;>simp[v2]<;>omega
def O6{k:TL}{c:Int}(h:RX k c=true):(k.signed=true->-(I1 k:Int) - 1<=c)/\(k.signed=false->0<=c)/\c<=I1 k:=by
 cases c with
 |ofNat n=>
  simp only[RX,Hr]at h;refine⟨λ_=>?_,λ_=>?_,?_⟩<;>simp<;>omega
 |negSucc n=>
  simp only[RX,te,Hr]at h;refine⟨λ_=>?_,λa=>?_,?_⟩
  .omega
  .rw[h.1]at a;cases a
  .omega
def uZ{k:TL}{c:Int}(h:RX k c=true):k.wrap c=c:=by
 obtain⟨a,b,d⟩:=O6 h;cases k<;>simp only[IntKind.signed,I1,forall_const,reduceCtorEq,false_implies]at a b d
 .exact Go.IntWalk.i8_in c (by omega)
 .exact Go.IntWalk.i16_in c (by omega)
 .exact Go.IntWalk.i32_in c (by omega)
 .exact Go.IntWalk.i64_in c (by omega)
 .exact Go.IntWalk.u8_in c (by omega)
 .exact Go.IntWalk.u16_in c (by omega)
 .exact Go.IntWalk.u32_in c (by omega)
 .exact Go.IntWalk.u64_in c (by omega)
section
abbrev _root_.TE:=List Int
variable [Cf] {j6:TE}
def qL(a:BinOp)(x y:Int):Option Bool:=
 match a with
 | .eql=>some (x==y)
 | .neq=>some (x != y)
 | .lss=>some (decide (x<y))
 | .leq=>some (decide (x<=y))
 | .gtr=>some (decide (x > y))
 | .geq=>some (decide (x ≥ y))
 |_=>none
def rY(a:BinOp)(k:TL)(x y n:Int):Prop:=∀(P:TI) (t:TP) (w:TS),(binOp a t (.int k x) (.int k y)).run P w = .ok (.int k n) w
def On{k:TL}(x:Int):((BitVec.ofInt k.bits x &&& BitVec.ofInt k.bits 1).toNat:Int)=x%2:=by
 have a:k.bits=k.bits - 1+1:=by cases k<;>rfl
 generalize k.bits - 1=n at a;rw[a];have b:(BitVec.ofInt (n+1) 1).toNat=1:=by
  simp
 rw[BitVec.toNat_and,b,Nat.and_one_is_mod,BitVec.toNat_ofInt];have d:(0:Int)<2 ^ (n+1):=Int.pow_pos (by omega);have e:(2:Int) ^ (n+1)=2*2 ^ n:=by omega
 have c:0<=x%(2 ^ (n+1):Int):=Int.emod_nonneg _ (by omega);have:((x%((2 ^ (n+1):Nat):Int)).toNat%2:Nat)=((x%(2 ^ (n+1):Int))%2:Int):=by
  grind
 simp_all
def qb{k:TL}{x n:Int}(d:x%2=n):rY .and k x 1 n:=by
 intro P t w;have e:k.wrap n=n:=uZ (by
  have a:0<=n:=by omega
  have b:n<=1:=by omega
  obtain⟨m,rfl⟩ : ∃m:Nat,n=m:=⟨n.toNat,by omega⟩;show Nat.ble m (I1 k)=true;rw[Hr];cases k<;>simp only[I1]<;>omega)
 have c:=On (k:=k) x;simp only[binOp,ne_eq,not_true_eq_false,if_false,Op.intBits]
 simp_all
end
section
variable [Cf] {j6:TE}
def ql(k:TL)(x:Int):k.wrap (x%(2 ^ k.bits:Int))=k.wrap x:=by
 unfold IntKind.wrap
 simp_all
def xS{k:TL}(m n:Nat):rY .and k m n (k.wrap (Nat.land m n:Nat)):=by
 intro P t w;simp only[binOp,ne_eq,not_true_eq_false,if_false,Op.intBits];show Result.ok (Value.int k (k.wrap _)) w=_;rw[←ql k (Nat.land m n:Nat)]
 congr 3
 have b:∀x:Nat,(BitVec.ofInt k.bits (x:Int)).toNat=x%2 ^ k.bits:=λx=>by
  simp_all
 have a:(BitVec.ofInt k.bits (m:Int) &&& BitVec.ofInt k.bits (n:Int)).toNat=(m &&& n)%2 ^ k.bits:=by
  grind
 rw[a];simp
def xW{k:TL}(m n:Nat):rY .xor k m n (k.wrap (Nat.xor m n:Nat)):=by
 intro P t w;simp only[binOp,ne_eq,not_true_eq_false,if_false,Op.intBits];show Result.ok (Value.int k (k.wrap _)) w=_;rw[←ql k (Nat.xor m n:Nat)]
 congr 3
 have b:∀x:Nat,(BitVec.ofInt k.bits (x:Int)).toNat=x%2 ^ k.bits:=λx=>by
  simp_all
 have a:(BitVec.ofInt k.bits (m:Int) ^^^ BitVec.ofInt k.bits (n:Int)).toNat=(m ^^^ n)%2 ^ k.bits:=by
  grind
 rw[a];simp
def By{k:TL}(m n:Nat):rY .or k m n (k.wrap (Nat.lor m n:Nat)):=by
 intro P t w;simp only[binOp,ne_eq,not_true_eq_false,if_false,Op.intBits];show Result.ok (Value.int k (k.wrap _)) w=_;rw[←ql k (Nat.lor m n:Nat)]
 congr 3
 have b:∀x:Nat,(BitVec.ofInt k.bits (x:Int)).toNat=x%2 ^ k.bits:=λx=>by
  simp_all
 have a:(BitVec.ofInt k.bits (m:Int) ||| BitVec.ofInt k.bits (n:Int)).toNat=(m ||| n)%2 ^ k.bits:=by
  grind
 rw[a];simp
end
section
variable {R:Type}
def eS{i6:Type}(x:i6):∀(l:List i6) (i:Nat) (k:List i6->R),E3 x l i k=k (l.set i x)
 | [],_,_=>rfl
 |_ :: _,0,_=>rfl
 |a :: l,i+1,k=>eS x l i λl=>k (a :: l)
def wP(n:Nat)(K:Nat->R):sV n K=K n:=by cases n<;>rfl
end
def SL.g_:SL->Prop
 | .v x=>aJ x=true
 |_=>True
def S0.g_(x:S0):Prop:=∀l∈x.cells,l.g_
def SV.gd:SV->Prop
 | .st x=>x.g_
 | .Jz xs=>(∀x∈xs,x.g_)/\2<=xs.length
 | .no=>False
 |_=>True
def eG{x:TR}:aJ x=true↔l_ x=true/\aV x=true/\aR x=true/\aD x=false:=by
 unfold aJ
 grind
def AV{x:TR}(h:aJ x=true):bg x=true:=by
 obtain⟨a,_,b,_⟩:=eG.1 h;simp[bg,a,b]
def wQ{x:TR}(h:aJ x=true):x.cells = #[x]:=eO (eG.1 h).2.2.1
def SL.DW{l:SL}(h:l.g_):aJ l.val=true:=by
 cases l with
 |v x=>exact h
 |_=>rfl
def S0.C_{x:S0}(h:x.g_):x.val.cells=⟨x.cells.map SL.val⟩:=by
 cases x with
 |leaf l=>exact wQ (SL.DW (h l (by simp[S0.cells])))
 |agg a=>rfl
def S0.l_{x:S0}(h:x.g_):l_ x.val=true:=by
 cases x with
 |leaf l=>exact(eG.1 (SL.DW (h l (by simp[S0.cells])))).1
 |agg b=>
  simp only[S0.val,Am.l_,A5,CH];rintro _ ⟨l,a,rfl⟩;exact(eG.1 (SL.DW (h l a))).2.1
def S0.DT{x:S0}(h:x.g_):aD x.val=false:=by
 cases x with
 |leaf l=>exact(eG.1 (SL.DW (h l (by simp[S0.cells])))).2.2.2
 |agg a=>rfl
def S0.FY{x:S0}(h:x.g_):x.val.cells.toList.all bg=true:=by
 rw[S0.C_ h];simp only[A5,CH];rintro _ ⟨l,a,rfl⟩;exact AV (SL.DW (h l a))
def xX{v:TR}(h:scalar v=true):aJ v=true:=by
 cases v<;>first|rfl|(simp[scalar]at h;done)|skip
 case pointer a=>cases a<;>first|rfl|simp[scalar]at h
 case slice a l c=>
  cases a with
  |none=>rfl
  |some a=>cases l<;>cases c<;>simp[scalar]at h
def ue(v:TR):(H9 v).val=v:=by cases v<;>rfl
def qf{v:TR}(h:scalar v=true):(H9 v).g_:=by
 cases v<;>first|trivial|exact xX h
def tT{v:TR}{x:S0}(h:Hd v=some x):x.val=v/\x.g_/\gk v=true:=by
 unfold Hd at h;split at h
 next f=>
  split at h
  next b=>
   cases h;refine⟨?_,?_,b⟩
   .simp only[S0.val,SD,Value.agg.injEq];have:(SL.val ∘ H9)=id:=funext ue;rw[this,ca]
   .intro l a;simp only[S0.cells,CH]at a;obtain⟨v,e,rfl⟩:=a;exact qf (A5.1 b v e)
  .cases h
 next d=>
  split at h
  next c=>
   cases h;refine⟨ue v,?_,?_⟩
   .intro l a;simp only[S0.cells,Fm]at a;subst a;exact qf c
   .cases v<;>first|exact c|simp_all
  .cases h
def dJ{a b:TL}(h:cX a b=true):a=b:=by
 cases a<;>cases b<;>first|rfl|cases h
def fq(a:TL):cX a a=true:=by cases a<;>rfl
section
variable [Cf] [C8]
def Told(sks:TN)(ls:TG)(xs:List S0):Prop:=cE xs sks=true/\cN xs=ls/\∀x∈xs,x.g_
def aI(C:ke)(Sg:Td)(g:TQ)(ls:TG)(H:Tu)(a:TG)(H':Tu):Prop:=
 ∃sg xs ys,Sg g=some sg/\Told sg.ps ls xs/\Told sg.rs a ys/\jE C g (ak xs) H (gl (ak ys)) H'
def wo(C:ke)(v:Value)(args:Tn)(a:TN)(H:Tu)(b:TG)(H':Tu):Prop:=
 ∃ys,Told a b ys/\((∃g first cap,v = .func (.func g) first cap/\jE C g (first.toList++args++cap.toList) H (gl (ak ys)) H')∨
  (∃l,v = .func (.yield l) #[] #[]/\io C l args H (gl (ak ys)) H'))
def qt(a:Nat):List (Nat×SK)->Tn->Tn->List Value
 |(t,_) :: l,v :: vs,tm=>qt a l vs (tm.set t v)
 |_,_,tm=>tm
def Em(s:Site)(b:Nat)(a:Tn):Fg:=
 { state:=.ready,pending:=none,fn:=b,tmps:=qt s.nt s.caps a (replicate s.nt vc),params:=s.params.map (·.1),assign:=s.assign.erase ry,body:=s.body.erase ry }
def iq:Lf->Lf->Bool
 | .i a,.i b=>a==b
 | .b a,.b b=>a==b
 |_,_=>false
def ch(l:List (Lf×Lf)):Bool:=l.all λp=>iq p.1 p.2
def JJ(b:BinOp)(k:TL)(x:Int)(a:TL)(y n:Int):Prop:=∀(P:TI) (t:TP) (w:TS),(binOp b t (.int k x) (.int a y)).run P w = .ok (.int k n) w
abbrev _root_.Tv:=Nat->Site
structure nc{R HT:Type}(A:A_ R HT)(C:ke)(Sg:Td)(T:Tv)(holds:R->Prop)(abs:HT->Tu):Prop where
 fail:¬holds A.fail
 cond:∀b x y,holds (A.cond b x y)->(b=true/\holds x)∨(b=false/\holds y)
 w7:∀op k a b K,holds (A.w7 op k a b K)->∃n,rY op k a b n/\holds (K n)
 E5:∀op k a k' b K,holds (A.E5 op k a k' b K)->∃n,JJ op k a k' b n/\holds (K n)
 cmp:∀op a b K,holds (A.cmp op a b K)->∃t,qL op a b=some t/\holds (K t)
 eqs:∀l K,holds (A.eqs l K)->holds (K (ch l))
 conv:∀k a K,holds (A.conv k a K)->holds (K (k.wrap a))
 FO:∀t a b K,holds (A.FO t a b K)->holds (K (if t then a else b))
 h_:∀ {i6:Type} (o:Option i6) K,holds (A.h_ o K)->∃x,o=some x/\holds (K x)
 k_:∀v K,holds (A.k_ v K)->aJ v=true/\holds K
 oo:∀ls K,holds (A.oo ls K)->∃n r,ls = .i n :: r/\holds (K n r)
 D7:∀ls K,holds (A.D7 ls K)->∃t r,ls = .b t :: r/\holds (K t r)
 Ck:∀ls K,holds (A.Ck ls K)->∃x r,ls = .v x :: r/\holds (K x r)
 u4:∀ls K,holds (A.u4 ls K)->ls=[]/\holds K
 rv:∀k ls K,holds (A.rv k ls K)->∃n r,ls = .int k n :: r/\holds (K n r)
 DV:∀ls K,holds (A.DV ls K)->∃t r,ls = .bool t :: r/\holds (K t r)
 BM:∀ls K,holds (A.BM ls K)->∃x r,ls=x :: r/\holds (K x r)
 ts:∀ls K,holds (A.ts ls K)->ls=[]/\holds K
 ka:∀f h K,holds (A.ka f h K)->∃cs,f.run (λi=>(abs h)[i]?)=some cs/\holds (K cs)
 heap:∀f h K,holds (A.heap f h K)->∃acts cs h',f.run (λi=>(abs h)[i]?) (abs h).length=some (acts,cs)/\abs h'=ig (abs h) acts/\holds (K cs h')
 new:∀o h K,holds (A.new o h K)->∃h',abs h'=abs h++[o]/\holds (K (abs h).length h')
 call:∀g ls h K,holds (A.call g ls h K)->∃rs h',aI C Sg g ls (abs h) rs (abs h')/\holds (K rs h')
 A7:∀v args hs h K,holds (A.A7 v args hs h K)->∃rs h',wo C v args hs (abs h) rs (abs h')/\holds (K rs h')
 join:∀b m,holds (A.join b m)->holds (m b)
 loop:∀F ls h,holds (A.loop F ls h)->∃it:Nat->TG->HT->R,(∀ls h,¬holds (it 0 ls h))/\(∀n ls h,it (n+1) ls h=F (it n) ls h)/\∃n,holds (it n ls h)
 Ec:∀j7 v DX h K,holds (A.Ec j7 v DX h K)->∃g first cap r H1 lp h2,v = .func (.func g) first cap/\
  jE C g (first.toList++[.func (.yield (abs h).length) #[] #[]]++cap.toList) (abs h++[.loop (Em (T j7) j7 DX)]) r H1/\
  eH H1 (abs h).length=some lp/\lp.state≠.busy/\abs h2=H1.set (abs h).length (.loop { lp with state:=.exhausted })/\holds (K lp.pending h2)
 D4:∀pd kn kr ks,holds (A.D4 pd kn kr ks)->(pd=none/\holds kn)∨(pd=some .ret/\holds kr)∨∃id x,pd=some (.exit id)/\(id,x)∈ks/\holds x
 Ir:∀l h K,holds (A.Ir l h K)->∃lp h',eH (abs h) l=some lp/\lp.state = .ready/\abs h'=(abs h).set l (.loop { lp with state:=.busy })/\holds (K h')
 Gw:∀l j h K,holds (A.Gw l j h K)->∃lp h',eH (abs h) l=some lp/\abs h'=(abs h).set l (.loop { lp with state:=if j.isNone then .ready else .done,pending:=j })/\holds (K h')
def SV.ok(a:Tn)(i:Nat)(s:SV):Prop:=
 match s with
 | .no=>True
 |s=>a[i]?=some s.val/\s.gd
def LR.ok(a:List (Option (Tn)))(i:Nat):LR->Prop
 | .Ih=>True
 | .nil=>a[i]?=some none
 | .any n=>∃vs,a[i]?=some (some vs)/\vs.length=n
 | .row cs=>a[i]?=some (some (cs.map SL.val))/\∀c∈cs,c.g_
structure Rp(ev:Env)(g9:St):Prop where
 len:ev.tm.length=g9.tmps.length
 val:∀(i:Nat) s,ev.tm[i]?=some s->s.ok g9.tmps i
 Ea:ev.lc.length=g9.loc.length
 row:∀(i:Nat) r,ev.lc[i]?=some r->r.ok g9.loc i
def SV.ok_gd{a:Tn}{i:Nat}{s:SV}(h:s.gd)(b:a[i]?=some s.val):s.ok a i:=by
 cases s<;>first|trivial|exact⟨b,h⟩
def Rp.at{b:Env}{g9:St}(h:Rp b g9){t:Nat}{s:SV}(a:b.tm.getD t .no=s)(d:s≠.no):g9.tmps[t]?=some s.val/\s.gd:=by
 rw[List.getD_eq_getElem?_getD]at a;cases c:b.tm[t]? with
 |none=>simp_all
 |some x=>
  rw[c]at a;simp only[QU]at a;subst a;have:=h.val t x c;cases x<;>first|exact this|exact absurd rfl d
def Rp.jw{d:Env}{g9:St}(h:Rp d g9){x:TK}{s:SV}(a:jw d x=s)(j:s≠.no):h9 g9.tmps x=s.val/\s.gd:=by
 cases x with
 |tmp t=>
  obtain⟨b,c⟩:=h.at (t:=t) a j;exact⟨by simp[h9,List.getD_eq_getElem?_getD,b],c⟩
 |const v=>
  simp only[Am.jw]at a;cases k:Hd v with
  |none=>simp_all
  |some x=>
   rw[k]at a;subst a;obtain⟨b,c,e⟩:=tT k;refine⟨?_,c⟩;have:flat v=true:=by cases v<;>first|exact e|(simp[gk,scalar]at e)
   simp[h9,this,SV.val,b]
 |global g=>
  subst a;simp only[Am.jw,h9];cases m:Nat.blt g gB with
  |true=>exact⟨rfl,trivial⟩
  |false=>exact absurd (by simp only[Am.jw,m]) j
 |func f=>
  subst a;refine⟨rfl,λl i=>?_⟩;simp only[S0.cells,Fm]at i;subst i;rfl
def Rp.BN{b:Env}{g9:St}(h:Rp b g9){x:TK}{s:S0}(a:BN b x=some s):h9 g9.tmps x=s.val/\s.g_:=by
 unfold Am.BN at a;split at a
 next y e=>
  cases a;exact h.jw e (by simp)
 .cases a
def Rp.CE{b:Env}{g9:St}(h:Rp b g9):∀ {l:List Operand} {xs:List S0},CE b l=some xs->l.map (h9 g9.tmps)=ak xs/\∀x∈xs,x.g_
 | [],xs,a=>by cases a;exact⟨rfl,by simp⟩
 |o :: l,xs,a=>by
  simp only[Am.CE]at a;split at a
  next x ys c d=>
   cases a;obtain⟨h1,f⟩:=h.BN c;obtain⟨e,g⟩:=h.CE d;refine⟨by simp[ak,h1];exact e,λy i=>?_⟩
   grind
  .cases a
def Rp.put{b:Env}{g9:St}(h:Rp b g9)(d:Nat){s:SV}(f:s.gd):Rp ⟨b.tm.set d s,b.lc⟩ (g9.put (some d) s.val):=by
 refine⟨by simp[St.put,h.len],λi x a=>?_,h.Ea,h.row⟩;simp only[GC]at a;split at a
 next c=>
  subst c;split at a
  next e=>
   cases a;refine SV.ok_gd f ?_;simp only[St.put,List.getElem?_set_self'];rw[FN (by rw[←h.len];exact e)];rfl
  .cases a
 next c=>
  have:=h.val i x a;cases x<;>first|trivial|exact⟨by simp only[St.put];rw[Ha c];exact this.1,this.2⟩
def Rp.heap{a:Env}{g9:St}(h:Rp a g9)(H:Tu):Rp a { g9 with heap:=H }:=⟨h.len,h.val,h.Ea,h.row⟩
structure Fr(ws ks rs:TC)(g9 i5:St):Prop where
 Ic:i5.tmps.length=g9.tmps.length
 Ea:i5.loc.length=g9.loc.length
 tm:∀(i:Nat) v,g9.tmps[i]?=some v->i∉ws->l_ v=true->i5.tmps[i]?=some v
 tp:∀(i s off:Nat),g9.tmps[i]?=some (.pointer (some ⟨s,off,some 0⟩))->i∉ws->s∉ks->i5.tmps[i]?=some (.pointer (some ⟨s,off,some 0⟩))
 row:∀(s:Nat) x,g9.loc[s]?=some x->s∉rs->i5.loc[s]?=some x
 Na:∀(s:Nat) vs,g9.loc[s]?=some (some vs)->s∉ks->∃vs',i5.loc[s]?=some (some vs')/\vs'.length=vs.length
theorem Fr.refl(c ks a:TC)(g9:St):Fr c ks a g9 g9:=⟨rfl,rfl,λ_ _ h _ _=>h,λ_ _ _ h _ _=>h,λ_ _ h _=>h,λ_ b h _=>⟨b,h,rfl⟩⟩
def Fr.trans{f ks e:TC}{g9 i9 g:St}(h:Fr f ks e g9 i9)(h':Fr f ks e i9 g):Fr f ks e g9 g:=
 ⟨h'.Ic.trans h.Ic,h'.Ea.trans h.Ea,λi v a b c=>h'.tm i v (h.tm i v a b c) b c,λi s d a b c=>h'.tp i s d (h.tp i s d a b c) b c,
  λs x a b=>h'.row s x (h.row s x a b) b,λs j a b=>let ⟨v1,c1,d1⟩:=h.Na s j a b;let ⟨v2,c2,d2⟩:=h'.Na s v1 c1 b;⟨v2,c2,d2.trans d1⟩⟩
def Fr.mono{n ks m g e f:TC}{g9 l:St}(h:Fr n ks m g9 l)(h1:∀i∈n,i∈g)(k:∀i∈ks,i∈e)(o:∀i∈m,i∈f):Fr g e f g9 l:=
 ⟨h.Ic,h.Ea,λi v a b c=>h.tm i v a (λd=>b (h1 i d)) c,λi s j a b c=>h.tp i s j a (λd=>b (h1 i d)) (λd=>c (k s d)),
  λs x a b=>h.row s x a (λd=>b (o s d)),λs p a b=>h.Na s p a (λd=>b (k s d))⟩
def Fr.heap{c ks b:TC}{g9 a:St}(h:Fr c ks b g9 a)(H:Tu):Fr c ks b g9 { a with heap:=H }:=⟨h.Ic,h.Ea,h.tm,h.tp,h.row,h.Na⟩
def Fr.put{g9:St}(dst:Tq)(v:TR)(ks c:TC):Fr dst.toList ks c g9 (g9.put dst v):=by
 cases dst with
 |none=>exact .refl _ _ _ _
 |some d=>
  refine⟨by simp[St.put],rfl,λi x h a _=>?_,λi s b h a _=>?_,λ_ _ h _=>h,λ_ e h _=>⟨e,h,rfl⟩⟩<;>
  .simp only[Option.toList_some,Fm]at a;simp only[St.put]
   grind
end
inductive HO where
 |o (x:ra)
 |lp (j7:Nat) (st:LoopState) (pd:Tm) (vs:Tn)
abbrev HL:=List HO
inductive CK where
 |f (g:TQ)
 |y (j7:Nat) (vs:Tn) (l:Nat)
def EE(T:Tv):HO->ra
 | .o x=>x
 | .lp a st b vs=>.loop { Em (T a) a vs with state:=st,pending:=b }
def f_(T:Tv)(h:HL):Tu:=h.map (EE T)
namespace Sx
inductive E8 where
 |o (x:ra)
 |lp (j7:Nat) (st:LoopState) (pd:Tm) (vs:Tn)
 |t (n e:Nat) (rw:Bool) (c:Tr Value)
def F6:Value:=.bool false
def cK(c:Tr Value)(n:Nat):Tn:=(range n).map λi=>(cC i).get F6 c
def E8.ho:E8->HO
 | .o x=>.o x
 | .lp a st b vs=>.lp a st b vs
 | .t n e rw c=>.o (.cells (cK c n) e rw)
structure wa where
 n:Nat
 t:Tr E8
def n5:E8:=.o .dead
def wa.empty:wa:=⟨0,.leaf⟩
def wa.at(h:wa)(i:Nat):Option E8:=match Nat.blt i h.n with
 |true=>some ((cC i).get n5 h.t)
 |false=>none
def CT(h:wa):HL:=(range h.n).map λi=>((cC i).get n5 h.t).ho
def ic(h:wa):(CT h).length=h.n:=by simp[CT]
def mM(h:wa)(i:Nat):(CT h)[i]?=(h.at i).map E8.ho:=by
 unfold CT wa.at;rw[EL];cases e:Nat.blt i h.n with
 |true=>
  simp_all
 |false=>
  have:h.n<=i:=by
   rcases Gk i h.n with a|a
   .rw[←Gf,e]at a;cases a
   .exact a
  simp_all
def wa.put(h:wa)(i:Nat)(o:E8):wa:=match Nat.blt i h.n with
 |true=>⟨h.n,(cC i).set n5 h.t o⟩
 |false=>h
def wa.push(h:wa)(o:E8):wa:=⟨h.n+1,(cC h.n).set n5 h.t o⟩
def jc(h:wa)(i:Nat)(o:E8):CT (h.put i o)=(CT h).set i o.ho:=by
 apply GB;intro j;unfold wa.put;cases e:Nat.blt i h.n with
 |true=>
  rw[Gf]at e;simp only;rw[mM];by_cases b:i=j
  .subst b;rw[GL (by rw[ic];exact e)];unfold wa.at;simp only[(Gf▸e:Nat.blt i h.n=true)];rw[Dt.Cm];rfl
  .rw[Ha b,mM];unfold wa.at;simp only;rw[Dt.CV _ _ _ _ _ (λh=>b (mq h).symm)]
 |false=>
  simp only;have:h.n<=i:=by
   rcases Gk i h.n with a|a
   .rw[←Gf,e]at a;cases a
   .exact a
  rw[List.set_eq_of_length_le (by rw[ic];exact this)]
def jx(h:wa)(o:E8):CT (h.push o)=CT h++[o.ho]:=by
 apply GB;intro j;rw[mM];unfold wa.push wa.at;simp only;by_cases c:j<h.n
 .rw[GD (by rw[ic];exact c),mM];unfold wa.at;have a:Nat.blt j (h.n+1)=true:=by rw[Gf];omega
  have b:Nat.blt j h.n=true:=by rw[Gf];omega
  simp only[a,b];rw[Dt.CV _ _ _ _ _ (λh=>by have:=mq h;omega)]
 .rw[Hb (by rw[ic];omega),ic];by_cases d:j=h.n
  .subst d;have a:Nat.blt h.n (h.n+1)=true:=by rw[Gf];omega
   simp only[a,Wj,hB];rw[Dt.Cm];rfl
  .have a:Nat.blt j (h.n+1)=false:=by rw[←Gb,Gf];omega
   grind
def bj(c:Tr Value)(n:Nat):(cK c n).length=n:=by simp[cK]
def fk(c:Tr Value){n i:Nat}(h:i<n):(cK c n)[i]?=some ((cC i).get F6 c):=by
 unfold cK
 simp_all
def F3:Tn->Nat->Tr Value->Tr Value
 | [],_,c=>c
 |v :: l,i,c=>F3 l (i+1) ((cC i).set F6 c v)
def tj:∀(l:Tn) (i:Nat) (c:Tr Value) (j:Nat),(cC j).get F6 (F3 l i c)=if i<=j/\j<i+l.length then l[j - i]?.getD F6 else(cC j).get F6 c
 | [],i,c,j=>by
  have h:¬(i<=j/\j<i+([]:Tn).length):=by simp_all
  rw[qs h];rfl
 |v :: l,i,c,j=>by
  show(cC j).get F6 (F3 l (i+1) _)=_;rw[tj l (i+1)];by_cases h:i+1<=j/\j<i+1+l.length
  .grind
  .rw[qs h];by_cases a:j=i
   .subst a;rw[Dt.Cm,n_ (by simp)];simp
   .rw[Dt.CV _ _ _ _ _ (λe=>a (mq e)),qs (by simp;omega)]
def qJ{l:Tn}{i n:Nat}{c:Tr Value}(h:i+l.length<=n):cK (F3 l i c) n=(cK c n).take i++l++(cK c n).drop (i+l.length):=by
 apply GB;intro j;by_cases a:j<n
 .rw[fk _ a,tj];by_cases b:j<i
  .rw[qs (by omega),EC,GD (by rw[Ys,bj];omega),List.getElem?_take_of_lt b,fk _ a]
  .have d:((cK c n).take i).length=i:=by rw[Ys,bj];omega
   by_cases e:j<i+l.length
   .grind
   .rw[qs (by omega),Hb (by simp_all),GA,d,t1,show i+l.length+(j - (i+l.length))=j by omega,fk _ a]
 .rw[Gm (by rw[bj];omega),Gm (by simp[bj];omega)]
def oM{l:Tn}{n:Nat}{c:Tr Value}:cK (F3 l n c) (n+l.length)=cK c n++l:=by
 apply GB;intro j;by_cases b:j<n+l.length
 .rw[fk _ b,tj];by_cases a:j<n
  .rw[qs (by omega),GD (by rw[bj];exact a),fk _ a]
  .rw[n_ ⟨by omega,b⟩,Hb (by rw[bj];omega),bj,FN (by omega)];rfl
 .rw[Gm (by rw[bj];omega),Gm (by simp[bj];omega)]
def AK(l:Tn):cK (F3 l 0 .leaf) l.length=l:=by
 have:=oM (l:=l) (n:=0) (c:=.leaf);simpa[cK]using this
def Bo(c:Tr Value)(n:Nat):Nat->Tn:=Nat.rec (motive:=λ_=>Nat->Tn) (λ_=>[]) (λ_ b a=>(cC a).get F6 c :: fN (Nat.succ a) b) n
def lw(c:Tr Value):∀(n off m:Nat),off+n<=m->Bo c n off=((cK c m).drop off).take n
 |0,_,_,_=>by rw[gx];rfl
 |n+1,off,m,h=>by
  show(cC off).get F6 c :: Bo c n (off+1)=_;rw[lw c n (off+1) m (by omega)];have h1:off<(cK c m).length:=by rw[bj];omega
  rw[SB h1,ih]
  congr 1
  have:=fk c (n:=m) (i:=off) (by omega)
  simp_all
section
variable {R:Type}
def QO{i6:Type}(d:i6)(p:Dt):Tr i6->i6->(Tr i6->R)->R:=
 Dt.rec (motive:=λ_=>Tr i6->i6->(Tr i6->R)->R)
  (λt x k=>Tr.casesOn t (k (.node x .leaf .leaf)) λ_ l r=>k (.node x l r))
  (λ_ a t x k=>Tr.casesOn t (a .leaf x λl=>k (.node d l .leaf)) λv l r=>a l x λl=>k (.node v l r))
  (λ_ a t x k=>Tr.casesOn t (a .leaf x λr=>k (.node d .leaf r)) λv l r=>a r x λr=>k (.node v l r)) p
def kj{i6:Type}(d:i6):∀(p:Dt) (t:Tr i6) (x:i6) (k:Tr i6->R),QO d p t x k=k (p.set d t x)
 | .e,t,x,k=>by cases t<;>rfl
 | .o p,t,x,k=>by
  cases t with
  |leaf=>exact kj d p .leaf x _
  |node v l r=>exact kj d p l x _
 | .i p,t,x,k=>by
  cases t with
  |leaf=>exact kj d p .leaf x _
  |node v l r=>exact kj d p r x _
def EK(h:wa)(i:Nat)(o:E8)(k:wa->R):R:=match Nat.blt i h.n with
 |true=>QO n5 (cC i) h.t o λt=>k ⟨h.n,t⟩
 |false=>k h
def nG(h:wa)(o:E8)(k:wa->R):R:=QO n5 (cC h.n) h.t o λt=>fN (Nat.succ h.n) λn=>k ⟨n,t⟩
def iV(h:wa)(i:Nat)(o:E8)(k:wa->R):EK h i o k=k (h.put i o):=by
 unfold EK wa.put;split
 next e=>rw[kj]
 .rfl
def jl(h:wa)(o:E8)(k:wa->R):nG h o k=k (h.push o):=by
 unfold nG wa.push;rw[kj,ew]
def zR{i6:Type}(l:List i6):(List i6->R)->R:=
 List.rec (motive:=λ_=>(List i6->R)->R) (λk=>k []) (λx _ a k=>a λl=>k (x :: l)) l
def pU{i6:Type}:∀(l:List i6) (k:List i6->R),zR l k=k l
 | [],_=>rfl
 |x :: l,k=>pU l λl=>k (x :: l)
def zT(v:Value)(k:Value->R):R:=match v with
 | .int a n=>fI n λn=>k (.int a n)
 | .bool b=>Bool.rec (k (.bool false)) (k (.bool true)) b
 |v=>k v
def M5(v:TR)(k:TR->R):zT v k=k v:=by
 unfold zT;split
 .exact jz _ _
 next b=>cases b<;>rfl
 .rfl
def IX(l:Tn):Nat->Tr Value->(Tr Value->R)->R:=
 List.rec (motive:=λ_=>Nat->Tr Value->(Tr Value->R)->R) (λ_ c k=>k c) (λv _ a i c k=>zT v λv=>QO F6 (cC i) c v λc=>fN (Nat.succ i) λi=>a i c k) l
def pC:∀(l:Tn) (i:Nat) (c:Tr Value) (k:Tr Value->R),IX l i c k=k (F3 l i c)
 | [],_,_,_=>rfl
 |v :: l,i,c,k=>by
  show(zT v λv=>QO F6 (cC i) c v λc=>fN (Nat.succ i) λi=>IX l i c k)=_;rw[M5,kj,ew,pC l];rfl
def vx(o:ra)(k:E8->R):R:=match o with
 | .cells b e rw=>fN b.length λn=>IX b 0 .leaf λc=>k (.t n e rw c)
 | .map a c=>zR a λa=>fN c λc=>k (.o (.map a c))
 |o=>k (.o o)
def kU{o:ra}{k:E8->R}:∃x:E8,x.ho = .o o/\vx o k=k x:=by
 cases o with
 |cells b e rw=>
  refine⟨.t b.length e rw (F3 b 0 .leaf),by simp only[E8.ho,AK],?_⟩;show(fN b.length λn=>IX b 0 .leaf λc=>k (.t n e rw c))=_;rw[ew,pC]
 |map a c=>
  refine⟨.o (.map a c),rfl,?_⟩;show(zR a λa=>fN c λc=>k (.o (.map a c)))=_;rw[pU,ew]
 |_=>exact⟨.o _,rfl,rfl⟩
def tJ(l:TG):(TG->R)->R:=
 List.rec (motive:=λ_=>(TG->R)->R) (λk=>k []) (λx _ a k=>match x with
  | .i n=>fI n λn=>a λl=>k (.i n :: l)
  | .b t=>Bool.rec (a λl=>k (.b false :: l)) (a λl=>k (.b true :: l)) t
  | .v v=>a λl=>k (.v v :: l)) l
def fw:∀(l:TG) (k:TG->R),tJ l k=k l
 | [],_=>rfl
 | .i n :: l,k=>(jz n λn=>tJ l λl=>k (.i n :: l)).trans (fw l _)
 | .b true :: l,k=>fw l λl=>k (.b true :: l)
 | .b false :: l,k=>fw l λl=>k (.b false :: l)
 | .v v :: l,k=>fw l λl=>k (.v v :: l)
end
end Sx
section
open Sx
abbrev RT:=Option (TG)
abbrev dk:RT:=some []
abbrev fV:=CK->TG->wa->(TG->wa->RT)->RT
def Cq.onH(h:HL):Cq->HL
 | .set i o=>h.set i (.o o)
 | .push o=>h++[.o o]
def bH(h:HL)(l:List Cq):HL:=l.foldl Cq.onH h
def r_(T:Tv)(h:HL):cP:=λi=>match h[i]? with
 |some x=>some (EE T x)
 |none=>none
def G0(T:Tv)(h:wa):cP:=λi=>match h.at i with
 |some x=>some (EE T x.ho)
 |none=>none
def AE(l:List Cq):wa->(wa->RT)->RT:=
 List.rec (motive:=λ_=>wa->(wa->RT)->RT) (λh k=>k h) (λa _ b h k=>match a with
  | .set i o=>vx o λo=>EK h i o λh=>b h k
  | .push o=>vx o λo=>nG h o λh=>b h k) l
def v0(b:Bool)(x y:RT):RT:=Bool.rec y x b
def HX(k:TL)(c:Int)(K:Int->RT):RT:=Bool.rec (fI (k.wrap c) K) (K c) (RX k c)
def Ya(c:Int)(K:Int->RT):RT:=@Bool.rec (λ_=>RT) (fI (IntKind.wrap .i64 c) K) (K c) (@Int.rec (λ_=>Bool) (λn=>Nat.ble n 9223372036854775807) (λn=>Nat.ble n 9223372036854775807) c)
def Yb(c:Int)(K:Int->RT):RT:=@Bool.rec (λ_=>RT) (fI (IntKind.wrap .u8 c) K) (K c) (@Int.rec (λ_=>Bool) (λn=>Nat.ble n 255) (λ_=>false) c)
def Gz(k:TL)(c:Int)(K:Int->RT):RT:=@IntKind.rec (λ_=>RT) (HX .i8 c K) (HX .i16 c K) (HX .i32 c K) (Ya c K) (Yb c K) (HX .u16 c K) (HX .u32 c K) (HX .u64 c K) k
def YU(a b:Int)(K:Int->RT):RT:=
 Int.rec (λm=>Int.rec (λn=>fN (Nat.add m n) λc=>K (.ofNat c)) (λn=>Bool.rec (fN (Nat.sub n m) λc=>K (.negSucc c)) (fN (Nat.sub m (Nat.succ n)) λc=>K (.ofNat c)) (Nat.blt n m)) b)
  (λm=>Int.rec (λn=>Bool.rec (fN (Nat.sub m n) λc=>K (.negSucc c)) (fN (Nat.sub n (Nat.succ m)) λc=>K (.ofNat c)) (Nat.blt m n)) (λn=>fN (Nat.succ (Nat.add m n)) λc=>K (.negSucc c)) b) a
def rm(a b:Int)(K:Int->RT):RT:=
 Int.rec (λm=>Int.rec (λn=>Bool.rec (fN (Nat.sub n (Nat.succ m)) λc=>K (.negSucc c)) (fN (Nat.sub m n) λc=>K (.ofNat c)) (Nat.ble n m)) (λn=>fN (Nat.succ (Nat.add m n)) λc=>K (.ofNat c)) b)
  (λm=>Int.rec (λn=>fN (Nat.add m n) λc=>K (.negSucc c)) (λn=>Bool.rec (fN (Nat.sub m (Nat.succ n)) λc=>K (.negSucc c)) (fN (Nat.sub n m) λc=>K (.ofNat c)) (Nat.ble m n)) b) a
def A4(a b:Int)(K:Int->RT):RT:=
 Int.rec (λm=>Int.rec (λn=>fN (Nat.mul m n) λc=>K (.ofNat c)) (λn=>Nat.rec (K (.ofNat 0)) (λd _=>fN (Nat.add (Nat.mul m n) d) λc=>K (.negSucc c)) m) b)
  (λm=>Int.rec (λn=>Nat.rec (K (.ofNat 0)) (λe _=>fN (Nat.add (Nat.mul m n) e) λc=>K (.negSucc c)) n) (λn=>fN (Nat.mul (Nat.succ m) (Nat.succ n)) λc=>K (.ofNat c)) b) a
def mS(a b:Int)(K:Int->RT):RT:=
 Int.rec (λm=>Int.rec (λn=>fN (Nat.div m n) λc=>K (.ofNat c)) (λ_=>fI (Int.tdiv a b) K) b) (λ_=>fI (Int.tdiv a b) K) a
def np(a b:Int)(K:Int->RT):RT:=
 Int.rec (λm=>Int.rec (λn=>fN (Nat.mod m n) λc=>K (.ofNat c)) (λ_=>fI (Int.tmod a b) K) b) (λ_=>fI (Int.tmod a b) K) a
def v5(b:Int):Bool:=Int.rec (λn=>Nat.beq n 0) (λ_=>false) b
def Y0(d:BinOp)(k:TL)(a b:Int)(K:Int->RT):RT:=
 match d with
 | .add=>YU a b λc=>Gz k c K
 | .sub=>rm a b λc=>Gz k c K
 | .mul=>A4 a b λc=>Gz k c K
 | .quo=>Bool.rec (mS a b λc=>Gz k c K) none (v5 b)
 | .rem=>Bool.rec (np a b K) none (v5 b)
 | .and=>match v2 b 1 with
  |true=>fI (Int.emod a 2) K
  |false=>match a,b with
   | .ofNat m,.ofNat n=>fI (.ofNat (Nat.land m n)) λc=>Gz k c K
   |_,_=>none
 | .xor=>match a,b with
  | .ofNat m,.ofNat n=>fI (.ofNat (Nat.xor m n)) λc=>Gz k c K
  |_,_=>none
 | .or=>match a,b with
  | .ofNat m,.ofNat n=>fI (.ofNat (Nat.lor m n)) λc=>Gz k c K
  |_,_=>none
 |_=>none
def OZ(a b:Int):Bool:=Int.rec (λm=>Int.rec (λn=>Nat.beq m n) (λ_=>false) b) (λm=>Int.rec (λ_=>false) (λn=>Nat.beq m n) b) a
def P'(b:Bool):Bool:=Bool.rec true false b
def Zm(c:BinOp)(a b:Int)(K:Bool->RT):RT:=
 match c with
 | .eql=>K (OZ a b)
 | .neq=>K (P' (OZ a b))
 | .lss=>K (P' (PF b a))
 | .leq=>K (PF a b)
 | .gtr=>K (P' (PF a b))
 | .geq=>K (PF b a)
 |_=>none
def hq(a b:Bool):Bool:=Bool.rec (P' b) b a
def IQ(x y:Lf):Bool:=Lf.rec (λa=>Lf.rec (λb=>OZ a b) (λ_=>false) (λ_=>false) y) (λa=>Lf.rec (λ_=>false) (λb=>hq a b) (λ_=>false) y) (λ_=>false) x
def ZF(l:List (Lf×Lf)):Bool:=List.rec true (λp _ a=>Bool.rec false a (IQ p.1 p.2)) l
def pB(l:List (Lf×Lf))(K:Bool->RT):RT:=K (ZF l)
def vb(k:TL)(a:Int)(K:Int->RT):RT:=Gz k a K
def selB(t:Bool)(a b:Int)(K:Int->RT):RT:=Bool.rec (K b) (K a) t
def e2{i6:Type}(o:Option i6)(K:i6->RT):RT:=Option.rec none K o
def unIB(ls:TG)(K:Int->TG->RT):RT:=List.rec none (λx r _=>Lf.rec (λn=>K n r) (λ_=>none) (λ_=>none) x) ls
def unBB(ls:TG)(K:Bool->TG->RT):RT:=List.rec none (λx r _=>Lf.rec (λ_=>none) (λn=>K n r) (λ_=>none) x) ls
def unVB(ls:TG)(K:Value->TG->RT):RT:=List.rec none (λx r _=>Lf.rec (λ_=>none) (λ_=>none) (λn=>K n r) x) ls
def un0B(ls:TG)(K:RT):RT:=List.rec K (λ_ _ _=>none) ls
def ucIB(k:TL)(ls:Tn)(K:Int->Tn->RT):RT:=match ls with | .int k' n :: r=>(match cX k k' with|true=>K n r|false=>none)|_=>none
def ucBB(ls:Tn)(K:Bool->Tn->RT):RT:=match ls with | .bool n :: r=>K n r|_=>none
def ucVB(ls:Tn)(K:Value->Tn->RT):RT:=match ls with|n :: r=>K n r|_=>none
def uc0B(ls:Tn)(K:RT):RT:=match ls with | []=>K|_=>none
def Rl(s:Ts):Bool:=match s with
 |none=>true
 |some k=>match k with
  |0=>false
  |_=>true
def HN(v:Value):Bool:=match v with
 | .pointer (some a)=>Rl a.spot
 | .slice (some a) _ _=>Rl a.spot
 |v=>aJ v
def Zi(v:Value)(K:RT):RT:=match HN v with|true=>K|false=>none
def Vo{i6:Type}(l:List i6):Nat:=List.rec 0 (λ_ _ n=>Nat.succ n) l
def b4(n:Nat)(p:Value)(h:wa)(K:Tn->RT):RT:=match p with
 | .pointer (some a)=>match a.spot with
  |none=>match h.at a.block with
   |some (.t m _ _ c)=>match Nat.ble (Nat.add a.off n) m with
    |true=>K (Bo c n a.off)
    |false=>none
   |_=>none
  |some _=>none
 |_=>none
def bt(C:ke)(n:Nat)(p:Value)(h:wa)(K:Tn->RT):RT:=match p with
 | .pointer (some a)=>match a.spot with
  |none=>match h.at a.block with
   |some (.t m _ _ c)=>match Nat.ble (Nat.add a.off n) m with
    |true=>K (Bo c n a.off)
    |false=>none
   |_=>none
  |some k=>match Nat.beq k 1 with
   |true=>match C.G a.block with
    |some d=>match Mj d a.off n with
     |some b=>K b
     |none=>none
    |none=>none
   |false=>none
 |_=>none
def Qy(T:Tv)(f:Pk)(h:wa)(K:Tn->RT):RT:=match f with
 | .ld n p=>b4 n p h K
 | .lg C n p=>bt C n p h K
 | .fn f=>match f (G0 T h)with|some x=>K x|none=>none
def stB(p:Value)(new:Tn)(h:wa)(K:Tn->wa->RT):RT:=match p with
 | .pointer (some a)=>match a.spot with
  |none=>match h.at a.block with
   |some (.t m e true c)=>match Nat.ble (Nat.add a.off (Vo new)) m with
    |true=>IX new a.off c λc=>EK h a.block (.t m e true c) λh=>K [] h
    |false=>none
   |_=>none
  |some _=>none
 |_=>none
def WO(s:Ts)(p_:Nat):Bool:=match s with
 |none=>false
 |some k=>Nat.beq k (Nat.add p_ 10)
def slB(C:ke)(T:Tv)(p_:Nat)(x:Value)(h:wa)(K:Tn->Nat->RT):RT:=match x with
 | .slice (some a) b _=>match WO a.spot p_ with
  |true=>match h.at a.block with
   |some (.t m e _ c)=>match Nat.beq e p_,Nat.ble (Nat.add a.off (Nat.mul b p_)) m with
    |true,true=>K (Bo c (Nat.mul b p_) a.off) b
    |_,_=>none
   |_=>none
  |false=>match NH C p_ (G0 T h) x with
   |some p=>K p.1 p.2
   |none=>none
 |x=>match NH C p_ (G0 T h) x with
  |some p=>K p.1 p.2
  |none=>none
def Kk(c:Tr Value)(m off w p_:Nat)(new:Tn)(k:E8->RT):RT:=match Nat.beq off 0,Nat.beq w m with
 |true,true=>IX new m c λc=>fN (Nat.add m (Vo new)) λm=>k (.t m p_ true c)
 |_,_=>vx (.cells (Bo c w off++new) p_ true) k
def apB(T:Tv)(C:ke)(p_ bytes:Nat)(s x:Value)(h:wa)(K:Tn->wa->RT):RT:=
 slB C T p_ x h λd n=>match s with
  | .slice none 0 0=>match n with
   |0=>K [.slice none 0 0] h
   |n+1=>match ba (n+1) bytes with
    |true=>vx (.cells d p_ true) λo=>nG h o λf=>fN (n+1) λn=>K [.slice (some ⟨h.n,0,le p_⟩) n 0] f
    |false=>none
  | .slice (some a) b i=>match WO a.spot p_ with
   |false=>none
   |true=>match h.at a.block with
    |some (.t m e rw c)=>match Nat.beq e p_,Nat.ble (Nat.add a.off (Nat.mul b p_)) m with
     |true,true=>match i with
      |0=>match n with
       |0=>K [.slice (some a) b 0] h
       |n+1=>match rw,ba (b+(n+1)) bytes with
        |true,true=>Kk c m a.off (Nat.mul b p_) p_ d λo=>EK h a.block (.o .dead) λf=>nG f o λg=>fN (b+(n+1)) λl=>K [.slice (some ⟨h.n,0,le p_⟩) l 0] g
        |_,_=>none
      |cap+1=>match Nat.ble (b+n) cap with
       |true=>match rw,Nat.ble (Nat.add (Nat.add a.off (Nat.mul b p_)) (Vo d)) m with
        |true,true=>IX d (Nat.add a.off (Nat.mul b p_)) c λc=>EK h a.block (.t m e true c) λf=>fN (b+n) λl=>K [.slice (some a) l (cap+1)] f
        |_,_=>none
       |false=>match ba (b+n) bytes with
        |true=>Kk c m a.off (Nat.mul b p_) p_ d λo=>nG h o λf=>fN (b+n) λl=>K [.slice (some ⟨h.n,0,le p_⟩) l 0] f
        |false=>none
     |_,_=>none
    |_=>none
  |_=>none
def Km(T:Tv)(f:Hp)(h:wa)(K:Tn->wa->RT):RT:=match f with
 | .st p b=>stB p b h K
 | .ap C a bytes s x=>apB T C a bytes s x h K
 | .fn f=>match f (G0 T h) h.n with|some p=>zR p.2 λc=>AE p.1 h λh=>K c h|none=>none
def B6(o:ra)(h:wa)(K:Nat->wa->RT):RT:=vx o λo=>nG h o λa=>K h.n a
def Nv(k:LK)(v:Value):Option SL:=
 match k with
 | .i k=>match v with
  | .int a n=>match cX a k with
   |true=>some (.i a n)
   |false=>none
  |_=>none
 | .b=>match v with
  | .bool t=>some (.b t)
  |_=>none
 | .v=>match aJ v with
  |true=>some (.v v)
  |false=>none
def LP:TJ->Tn->Option (List SL)
 | [],[]=>some []
 |k :: ks,v :: vs=>match Nv k v with
  |some x=>match LP ks vs with
   |some xs=>some (x :: xs)
   |none=>none
  |none=>none
 |_,_=>none
def zP(c:SK)(v:Value):Option S0:=
 match c with
 | .leaf k=>(Nv k v).map .leaf
 | .agg b=>match v with
  | .agg a=>(LP b a.toList).map .agg
  |_=>none
def Ie:TN->Tn->Option (List S0)
 | [],[]=>some []
 |k :: ks,v :: vs=>match zP k v with
  |some x=>match Ie ks vs with
   |some xs=>some (x :: xs)
   |none=>none
  |none=>none
 |_,_=>none
def UE:LK->LK->Bool
 | .i a,.i b=>cX a b
 | .b,.b=>true
 | .v,.v=>true
 |_,_=>false
def J7:TJ->TJ->Bool
 | [],[]=>true
 |a :: l,b :: m=>UE a b&&J7 l m
 |_,_=>false
def ZA:SK->SK->Bool
 | .leaf a,.leaf b=>UE a b
 | .agg a,.agg b=>J7 a b
 |_,_=>false
def HI:TN->TN->Bool
 | [],[]=>true
 |a :: l,b :: m=>ZA a b&&HI l m
 |_,_=>false
def jH(ls:TG):Bool:=List.rec true (λl _ a=>match l with
 | .v x=>(match HN x with
  |true=>a
  |false=>false)
 |_=>a) ls
section
variable (Sg:Td) (T:Tv) (call:fV)
def JV(g:TQ)(ls:TG)(h:wa)(K:TG->wa->RT):RT:=match jH ls with|true=>call (.f g) ls h K|false=>none
def nO(g:TQ)(b:Option (TN))(a:Tn)(h:wa)(K:TG->wa->RT):RT:=
 match Sg g with
 |none=>none
 |some c=>match (match b with|none=>true|some b=>HI c.rs b)with
  |false=>none
  |true=>match Ie c.ps a with
   |none=>none
   |some d=>JV call g (cN d) h K
def Iy(v:Value)(args:Tn)(c:TN)(h:wa)(K:TG->wa->RT):RT:=
 match v with
 | .func f first a=>match f with
  | .func g=>nO Sg call g (some c) (first.toList++args++a.toList) h K
  | .yield l=>match first.toList,a.toList with
   | [],[]=>match h.at l with
    |some (.lp d _ _ i)=>match HI [.leaf .b] c with
     |false=>none
     |true=>match Ie ((T d).params.map (·.2)) args with
      |none=>none
      |some e=>match jH (cN e)with
       |true=>call (.y d i l) (cN e) h K
       |false=>none
    |_=>none
   |_,_=>none
  |_=>none
 |_=>none
def Q2(j:Nat)(v:Value)(a:Tn)(h:wa)(K:Tm->wa->RT):RT:=
 match v with
 | .func e first b=>match e with
  | .func g=>nG h (.lp j .ready none a) λf=>nO Sg call g none (first.toList++[.func (.yield h.n) #[] #[]]++b.toList) f λ_ c=>match c.at h.n with
   |some (.lp m k d l)=>match k with
    | .busy=>none
    |_=>EK c h.n (.lp m .exhausted d l) λi=>K d i
   |_=>none
  |_=>none
 |_=>none
def l4(e:Tm)(b d:RT)(ks:List (Nat×RT)):RT:=
 match e with
 |none=>b
 |some c=>match c with
  | .ret=>d
  | .exit id=>List.rec none (λp _ a=>match Nat.beq p.1 id with|true=>p.2|false=>a) ks
  |_=>none
def BT(l:Nat)(h:wa)(K:wa->RT):RT:=
 match h.at l with
 |some (.lp a c b d)=>match c with
  | .ready=>EK h l (.lp a .busy b d) K
  |_=>none
 |_=>none
def BU(l:Nat)(j:Tm)(h:wa)(K:wa->RT):RT:=
 match h.at l with
 |some (.lp a _ _ b)=>match j with
  |none=>EK h l (.lp a .ready none b) K
  |some c=>EK h l (.lp a .done (some c) b) K
 |_=>none
end
def tl(F:(TG->wa->RT)->TG->wa->RT)(ls:TG)(h:wa):RT:=
 Nat.rec (motive:=λ_=>TG->wa->RT) (λ_ _=>none) (λ_ a ls h=>F a ls h) 1000000 ls h
def y3(b:TG->wa->RT)(m:(TG->wa->RT)->RT):RT:=m b
def Hg(c:BinOp)(k:TL)(a:Int)(_:TL)(b:Int)(K:Int->RT):RT:=match PF 0 b with
 |true=>match c with
  | .shl=>fI (k.wrap (a*2 ^ min b.toNat k.bits)) K
  | .shr=>fI (a.fdiv (2 ^ min b.toNat k.bits)) K
  |_=>none
 |false=>none
def BA(Sg:Td)(T:Tv)(call:fV):A_ RT wa where
 fail:=none
 cond:=v0
 w7:=Y0
 E5:=Hg
 cmp:=Zm
 eqs:=pB
 conv:=vb
 FO:=selB
 h_:=e2
 k_:=Zi
 oo:=unIB
 D7:=unBB
 Ck:=unVB
 u4:=un0B
 rv:=ucIB
 DV:=ucBB
 BM:=ucVB
 ts:=uc0B
 ka:=Qy T
 heap:=Km T
 new:=B6
 call:=JV call
 A7:=Iy Sg T call
 join:=y3
 loop:=tl
 Ec:=Q2 Sg call
 D4:=l4
 Ir:=BT
 Gw:=BU
end
namespace Sx
section
variable [Cf] [C8]
def SM(a_:TC)(tm:Tn)(o:Oper):TC:=(RP a_ o).flatMap λx=>C9 (h9 tm x)
def gE(a_:TC)(tm:Tn)(o:Oper):TC:=(df a_ o).1.flatMap λx=>A6 (df a_ o).2 (h9 tm x)
def HG(a_:TC)(tm:Tn)(o:Oper):Prop:=∀d,o.dst=some d->DR a_ o=2->∃v,tm[d]?=some v
def JI(a_:TC)(ops:To)(tm:Tn)(c:List (Nat×Nat)):Prop:=
 ∀p∈c,∃a b,ops[p.1]?=some a/\ops[p.2]?=some b/\(∀x∈SM a_ tm a,x∉gE a_ tm b)/\(∀x∈SM a_ tm a,x∉SM a_ tm b)/\(∀x∈SM a_ tm b,x∉gE a_ tm a)/\HG a_ tm a/\HG a_ tm b
def GU(ops:To)(k:Nat)(g9 a:St):Prop:=∃o d x,ops[k]?=some o/\o.dst=some d/\g9.tmps[d]?=some x/\a.tmps[d]?=some x
def Fk(C:ke)(B:Below)(a_:TC)(ops:To):TC->St->List (Tu)->St->Prop
 | [],g9,b,c=>b=[]/\c=g9
 |i :: l,g9,b,c=>∃i9 a,ao C B a_ ops i g9 i9/\b=i9.heap :: a/\Fk C B a_ ops l i9 a c
def EN(C:ke)(B:Below)(a_:TC)(ops:To)(g9:St)(c:List (Tu))(a:St)(l:List (Nat×Nat)):Prop:=
 ∀p∈l,∃b,ao C B a_ ops p.1 { a with heap:=atM g9.heap c p } b/\GU ops p.1 a b
def NN(C:ke)(e:Dr):Prop:=∀a_ ops b,e a_ ops=some b->match Fe b with
 |some l=>∀(n:Nat) (g9 a:St) (c:List (Tu)),Fk C (sm C n).toBelow a_ ops (range ops.size) g9 c a->EN C (sm C n).toBelow a_ ops g9 c a l->eo C (sm C n).toBelow a_ ops g9 a
 |none=>match Gh b with
 |none=>∀(n:Nat) (g9 a:St),bp C (sm C n).toBelow a_ ops (range ops.size) g9 a->JI a_ ops a.tmps b->eo C (sm C n).toBelow a_ ops g9 a
 |some p=>∀(n:Nat) (g9 i9 d a:St),bp C (sm C n).toBelow a_ ops (List.range' 0 (ops.toList.take (p.2+1)).length) g9 i9->ao C (sm C n).toBelow a_ ops p.1 i9 d->GU ops p.1 i9 d->
   bp C (sm C n).toBelow a_ ops (List.range' (p.2+1) (ops.toList.drop (p.2+1)).length) i9 a->eo C (sm C n).toBelow a_ ops g9 a
def HW{C:ke}{a_:TC}{ops:To}:∀ {l:TC} {g9 d:St} {c:List (Tu)},Fk C (uB C) a_ ops l g9 c d->∃n,∀m,n<=m->Fk C (sm C m).toBelow a_ ops l g9 c d
 | [],_,_,_,h=>⟨0,λ_ _=>h⟩
 |_ :: _,_,_,_,⟨i9,b,h1,e,a⟩=>by
  obtain⟨n,h1⟩:=ju h1;obtain⟨m,a⟩:=HW a;exact⟨max n m,λk f=>⟨i9,b,cZ (jD (by omega)).call (jD (by omega)).yield h1,e,a k (by omega)⟩⟩
def again_at{C:ke}{a_:TC}{ops:To}{g9:St}{a:List (Tu)}{b:St}:∀ {l:List (Nat×Nat)},EN C (uB C) a_ ops g9 a b l->∃n,∀m,n<=m->EN C (sm C m).toBelow a_ ops g9 a b l
 | [],_=>⟨0,λ_ _ p hp=>(by cases hp)⟩
 |q :: l,h=>by
  obtain⟨e,h1,c⟩:=h q (by simp);obtain⟨n,h1⟩:=ju h1;obtain⟨m,d⟩:=again_at (l:=l) λp hp=>h p (E2 _ hp);refine⟨max n m,λk f p hp=>?_⟩;rcases Dy.1 hp with rfl|hp
  .exact⟨e,cZ (jD (by omega)).call (jD (by omega)).yield h1,c⟩
  .exact d k (by omega) p hp
def J8:∀ {x y:Ts},ZB x y=true->x=y
 |none,none,_=>rfl
 |some a,some b,h=>by rw[Dp h]
 |none,some _,h=>by cases h
 |some _,none,h=>by cases h
def J2:∀ {x y:Option Addr},IL x y=true->x=y
 |none,none,_=>rfl
 |some a,some b,h=>by
  simp only[IL]at h;split at h
  next h1 c=>
   cases a;cases b;simp only at h1 c h;rw[Dp h1,Dp c,J8 h]
  .cases h
 |none,some _,h=>by cases h
 |some _,none,h=>by cases h
def UI:∀ {x y:Int},p8 x y=true->x=y
 | .ofNat a,.ofNat b,h=>by rw[Dp h]
 | .negSucc a,.negSucc b,h=>by rw[Dp h]
 | .ofNat _,.negSucc _,h=>by cases h
 | .negSucc _,.ofNat _,h=>by cases h
def UD{x y:Int}{u:Unit}(h:Zy x y=some u):x=y:=by
 unfold Zy at h;split at h
 next e=>exact UI e
 .cases h
def UC{x y:Bool}{u:Unit}(h:p7 x y=some u):x=y:=by
 cases x<;>cases y<;>first|rfl|cases h
def zq{x:Nat}:∀ {l:TC},G7 x l=true↔x∈l
 | []=>by simp[G7]
 |y :: l=>by
  unfold G7;cases h:Nat.beq x y with
  |true=>simp_all
  |false=>
   have:x≠y:=λe=>by simp_all
   simp only[Dy,this,false_or];exact zq
def yH:∀ {l m:TC},Ci l m=true->∀x∈l,x∉m
 | [],_,_,_,h=>by cases h
 |y :: l,m,h,x,b=>by
  unfold Ci at h;cases a:G7 y m with
  |true=>rw[a]at h;cases h
  |false=>
   rw[a]at h;rcases Dy.1 b with rfl|b
   .intro e;rw[zq.2 e]at a;cases a
   .exact yH h x b
def Ll:∀ {l:List (Value×Nat×Value)} {u:Unit},Di l=some u->∀p∈l,∀r∈C9 p.1,r∉A6 p.2.1 p.2.2
 | [],_,_,_,h=>by cases h
 |q :: l,u,h,p,hp=>by
  unfold Di at h;split at h
  next a=>
   rcases Dy.1 hp with rfl|hp
   .exact yH a
   .exact Ll h p hp
  .cases h
def UA{a:Env}{g9:St}(d:Rp a g9){x:TK}{us:Tn}(h:W2 (jw a x)=some us)(k r:Nat)(b:r∈A6 k (h9 g9.tmps x)):∃u∈us,r∈A6 k u:=by
 have c:jw a x≠.no:=λe=>by rw[e]at h;cases h
 have f:=(d.jw rfl c).1;rw[f]at b;generalize jw a x=s at *;have none:A6 k s.val=[]->∃u∈us,r∈A6 k u:=λe=>by rw[e]at b;cases b
 cases s with
 |st y=>
  cases y with
  |leaf l=>
   cases l with
   |v u=>
    cases h;exact⟨u,by simp,b⟩
   |_=>exact none (by cases k with|zero=>rfl|succ k=>cases k<;>rfl)
  |agg g=>exact none (by cases k with|zero=>rfl|succ k=>cases k<;>rfl)
 |no=>exact absurd rfl c
 |_=>exact none (by cases k with|zero=>rfl|succ k=>cases k<;>rfl)
def gL{c:Env}{g9:St}(d:Rp c g9):∀ {l:List Operand} {us:Tn},sH c l=some us->∀(k r:Nat),r∈l.flatMap (λx=>A6 k (h9 g9.tmps x))->∃u∈us,r∈A6 k u
 | [],_,_,_,_,h=>by cases h
 |x :: l,us,h,k,r,hr=>by
  unfold sH at h;split at h
  next a b f g=>
   cases h;rw[SF,Ed]at hr;rcases hr with hr|hr
   .obtain⟨u,h1,e⟩:=UA d f k r hr
    grind
   .obtain⟨u,h1,e⟩:=gL d g k r hr
    grind
  .cases h
def oX{c:Env}{g9:St}(g:Rp c g9){d:Nat}:∀ {l:List Operand} {us:Tn},sH c l=some us->Operand.tmp d∈l->∃v,g9.tmps[d]?=some v
 |x :: l,us,h,f=>by
  unfold sH at h;split at h
  next a b i j=>
   rcases Dy.1 f with rfl|f
   .have k:jw c (.tmp d)≠.no:=λe=>by rw[e]at i;cases i
    exact⟨_,(g.at (s:=c.tm.getD d .no) rfl k).1⟩
   .exact oX g j f
  .cases h
def um{a_:TC}{o:Oper}{d:Nat}(a:o.dst=some d)(h:DR a_ o=2):Operand.tmp d∈RP a_ o:=by
 unfold RP;rw[h,a];simp
def oO{us vs:Tn}{k:Nat}{u v:TR}(a:u∈us)(b:v∈vs):(u,k,v)∈HE us k vs:=by
 unfold HE
 simp_all
def Nf{a_:TC}{t:Env}{g9:St}(c:Rp t g9){a b:Oper}{l:List (Value×Nat×Value)}(h:Jo a_ t a b=some l)(s:∀p∈l,∀r∈C9 p.1,r∉A6 p.2.1 p.2.2) :
  (∀x∈SM a_ g9.tmps a,x∉gE a_ g9.tmps b)/\(∀x∈SM a_ g9.tmps a,x∉SM a_ g9.tmps b)/\(∀x∈SM a_ g9.tmps b,x∉gE a_ g9.tmps a)/\HG a_ g9.tmps a/\HG a_ g9.tmps b:=by
 unfold Jo at h;split at h
 next B C z A m n w y=>
  cases h;refine⟨λx e f=>?_,λx e f=>?_,λx e f=>?_,λd q o=>oX c m (um q o),λd q o=>oX c n (um q o)⟩
  .obtain⟨u,g,i⟩:=gL c m 0 x e;obtain⟨v,j,k⟩:=gL c y _ x f;exact s (u,_,v) (Jf _ (Jf _ (oO g j))) x i k
  .obtain⟨u,g,i⟩:=gL c m 0 x e;obtain⟨v,j,k⟩:=gL c n 0 x f;exact s (u,0,v) (Jf _ (SE _ (oO g j))) x i k
  .obtain⟨u,g,i⟩:=gL c n 0 x e;obtain⟨v,j,k⟩:=gL c w _ x f;exact s (u,_,v) (SE _ (oO g j)) x i k
 .cases h
def rM{a_:TC}{ops:To}{d:Env}{g9:St}(e:Rp d g9):∀ {c:List (Nat×Nat)} {l:List (Value×Nat×Value)},tX a_ ops d c=some l->(∀p∈l,∀r∈C9 p.1,r∉A6 p.2.1 p.2.2)->JI a_ ops g9.tmps c
 | [],_,_,_,_,h=>by cases h
 |q :: c,l,h,f,p,hp=>by
  unfold tX at h;split at h
  next a b r g i j=>
   obtain⟨x,k,rfl⟩:=Dv.1 h;rcases Dy.1 hp with rfl|hp
   .exact⟨a,b,g,i,Nf e k λp hp=>f p (Jf _ hp)⟩
   .exact rM e j (λp hp=>f p (SE _ hp)) p hp
  .cases h
def J4{x y:TR}{u:Unit}(h:IP x y=some u):x=y:=by
 unfold IP at h;split at h
 .split at h
  .split at h
   .simp_all
   .cases h
  .cases h
 .cases h
def UK{x y:TR}{u:Unit}(h:OY x y=some u):x=y:=by
 unfold OY at h;split at h
 .split at h
  .split at h
   next e=>rw[J2 e]
   .cases h
  .cases h
 .split at h
  .split at h
   next a b e3=>rw[J2 a,Dp b,Dp e3]
   .cases h
  .cases h
 .split at h
  .split at h
   next e=>rw[J8 e]
   .cases h
  .cases h
 .exact J4 h
section
variable {R HT:Type} {A:A_ R HT} {C:ke} {Sg:Td} {T:Tv} {holds:R->Prop} {abs:HT->Tu}
def Lh(hA:nc A C Sg T holds abs){x y:SL}{K:R}(h:holds (Q9 A x y K)):x.val=y.val/\holds K:=by
 unfold Q9 at h;split at h
 .split at h
  .split at h
   next e=>
    obtain⟨u,a,b⟩:=hA.h_ _ _ h;rw[UD a,dJ e];exact⟨rfl,b⟩
   .exact absurd h hA.fail
  .exact absurd h hA.fail
 .split at h
  .obtain⟨u,a,b⟩:=hA.h_ _ _ h;rw[UC a];exact⟨rfl,b⟩
  .exact absurd h hA.fail
 .split at h
  .obtain⟨u,a,b⟩:=hA.h_ _ _ h;rw[UK a];exact⟨rfl,b⟩
  .exact absurd h hA.fail
 .exact absurd h hA.fail
def Ae(hA:nc A C Sg T holds abs):∀ {x y:List SL} {K:R},holds (Li A x y K)->x.map SL.val=y.map SL.val/\holds K
 | [],[],_,h=>⟨rfl,h⟩
 |a :: l,b :: m,K,h=>by
  obtain⟨h1,c⟩:=Lh hA (show holds (Q9 A a b (Li A l m K))from h);obtain⟨d,e⟩:=Ae hA c
  simp_all
 | [],_ :: _,_,h=>absurd h hA.fail
 |_ :: _,[],_,h=>absurd h hA.fail
def samS_ok(hA:nc A C Sg T holds abs){j a:Env}{g9 f:St}(m:Rp j g9)(k:Rp a f){d:Nat}{K:R}(h:holds (samS A (j.tm.getD d .no) (a.tm.getD d .no) K)):(∃x,g9.tmps[d]?=some x/\f.tmps[d]?=some x)/\holds K:=by
 have l:∀ {x y:S0},j.tm.getD d .no = .st x->a.tm.getD d .no = .st y->x.val=y.val->∃z,g9.tmps[d]?=some z/\f.tmps[d]?=some z:=λb c e=>
  ⟨_,(m.at b (by simp)).1,(show f.tmps[d]?=_ from(k.at c (by simp)).1.trans (by show some _=some _;rw[show SV.val (.st _)=S0.val _ from rfl,←e];rfl))⟩
 unfold samS at h;split at h
 next g=>
  split at h
  next i=>
   obtain⟨b,c⟩:=Lh hA h;exact⟨l g i b,c⟩
  .exact absurd h hA.fail
 next g=>
  split at h
  next i=>
   obtain⟨b,c⟩:=Ae hA h;exact⟨l g i (by simp only[S0.val,b]),c⟩
  .exact absurd h hA.fail
 .exact absurd h hA.fail
end
def J1{a:Env}{g9:St}(b:Rp a g9){d:Nat}{x:TR}(h:Uz (a.tm.getD d .no)=some x):g9.tmps[d]?=some x:=by
 unfold Uz at h;split at h
 next y c=>
  cases h;exact(b.at c (by simp)).1
 .cases h
def sepK_ok{R b:Type}{A:A_ R b}{C:ke}{Sg:Td}{T:Tv}{holds:R->Prop}{abs:b->Tu}(hA:nc A C Sg T holds abs){a_:TC}{ops:To}{e:List (Nat×Nat)}{d:KN R b}{c:Env}{g9:St}(i:Rp c g9){h:b}(a:holds (sepK A a_ ops e d c h)) :
  JI a_ ops g9.tmps e/\holds (d c h):=by
 unfold sepK at a;split at a
 .exact⟨λp k=>(by cases k),a⟩
 .simp only at a;split at a
  next l j=>
   obtain⟨u,f,g⟩:=hA.h_ _ _ a;exact⟨rM i j (Ll f),g⟩
  .exact absurd a hA.fail
end
end Sx
section
variable [Cf] [C8] {R HT:Type} {A:A_ R HT} {X:Cv} {Sg:Td} {holds:R->Prop} {abs:HT->Tu}
variable {ev:Env} {g9:St} {h:HT} {o:Oper} {K:KN R HT}
def NY(C:ke)(a_:TC)(o:Oper)(g9 a:St):Prop:=
 (∃e,ar C a_ (h9 g9.tmps) o=some e/\mV (uB C) e o.dst g9 a)∨(∃v,nu C g9.tmps o v/\a=g9.put o.dst v)
def vL(a_:TC)(o:Oper):Ts:=
 match o.op,o.dst with
 | .box ..,some d=>if a_.getD d 0=d+2 then some d else none
 | .alloc _,some d=>if a_.getD d 0=d+2 then some d else none
 |_,_=>none
def Cy(X:Cv)(holds:R->Prop)(abs:HT->Tu)(o:Oper)(g9:St)(K:KN R HT):Prop:=
 ∃b a h',NY X.C X.a_ o g9 b/\Rp a b/\abs h'=b.heap/\Fr o.dst.toList (vL X.a_ o).toList (jY X.a_ o).toList g9 b/\holds (K a h')
def xY(c:Rp ev g9){dst:Tq}{s:SV}(e:s.gd)(b:holds (kb dst s ev h K)):∃a,Rp a (g9.put dst s.val)/\holds (K a h):=by
 unfold kb at b;cases dst with
 |none=>exact⟨ev,c,b⟩
 |some d=>
  simp only[eS]at b;exact⟨_,c.put d e,b⟩
def dH(e:Rp ev g9)(H':Tu)(f:abs h=H'){s:SV}(i:s.gd)
  (b:NY X.C X.a_ o g9 (({ g9 with heap:=H' }:St).put o.dst s.val)) (g:holds (kb o.dst s ev h K)):Cy X holds abs o g9 K:=by
 obtain⟨a,c,d⟩:=xY (e.heap H') i g;refine⟨_,a,h,b,c,?_,?_,d⟩
 .rw[f];cases o.dst<;>rfl
 .have:=Fr.put (g9:=({ g9 with heap:=H' }:St)) o.dst s.val (vL X.a_ o).toList (jY X.a_ o).toList;exact⟨this.Ic,this.Ea,this.tm,this.tp,this.row,this.Na⟩
def aC(a:Rp ev g9)(b:abs h=g9.heap){s:SV}(e:s.gd)(c:ar X.C X.a_ (h9 g9.tmps) o=some (.val s.val))(d:holds (kb o.dst s ev h K)) :
  Cy X holds abs o g9 K:=
 dH a g9.heap b e (.inl ⟨_,c,_,rfl,rfl⟩) d
def cD(a:Rp ev g9)(b:abs h=g9.heap){s:SV}(e:s.gd)(c:nu X.C g9.tmps o s.val)(d:holds (kb o.dst s ev h K)) :
  Cy X holds abs o g9 K:=
 dH a g9.heap b e (.inr ⟨_,c,rfl⟩) d
def kL(a:Rp ev g9)(b:abs h=g9.heap){s:SV}(g:s.gd){f:Tu->Tk}(c:ar X.C X.a_ (h9 g9.tmps) o=some (.ET f))(d:f g9.heap=some s.val)
  (e:holds (kb o.dst s ev h K)):Cy X holds abs o g9 K:=
 dH a g9.heap b g (.inl ⟨_,c,(g9,s.val),by simp[aW,d],rfl⟩) e
def dh(a:Rp ev g9){H':Tu}(b:abs h=H'){s:SV}(g:s.gd){f:Tu->Option (List ra×Value)}(c:ar X.C X.a_ (h9 g9.tmps) o=some (.F2 f))
  (d:f g9.heap=some (H',s.val)) (e:holds (kb o.dst s ev h K)):Cy X holds abs o g9 K:=
 dH a H' b g (.inl ⟨_,c,({ g9 with heap:=H' },s.val),by simp[aW,d],rfl⟩) e
def KO(a:Rp ev g9)(d:abs h=g9.heap){x:TK}(ho:o.op = .move x∨o.op = .assign x){y:SV}(g:jw ev x=y)(f:y≠.no)(e:holds (kb o.dst y ev h K)):Cy X holds abs o g9 K:=by
 obtain⟨b,c⟩:=a.jw g f;refine aC a d c ?_ e;rcases ho with ho|ho<;>simp only[ar,ho,b]
def V9(hA:nc A X.C Sg X.T holds abs)(d:Rp ev g9)(m:abs h=g9.heap){c a b:TK}(n:o.op = .pick c a b)
  (e:holds (match jw ev c,jw ev a,jw ev b with
  | .st (.leaf (.l true)),.st y,_=>kb o.dst (.st y) ev h K
  | .st (.leaf (.l false)),_,.st y=>kb o.dst (.st y) ev h K
  | .st (.leaf (.b t)),.st y,.st z=>A.cond t (kb o.dst (.st y) ev h K) (kb o.dst (.st z) ev h K)
  |_,_,_=>A.fail)):Cy X holds abs o g9 K:=by
 split at e
 next y g i=>
  obtain⟨f,_⟩:=d.jw g (by simp);obtain⟨k,j⟩:=d.jw i (by simp);refine aC d m j ?_ e;simp only[ar,n,f,SV.val,S0.val,SL.val,if_true,k]
 next y g i=>
  obtain⟨f,_⟩:=d.jw g (by simp);obtain⟨k,j⟩:=d.jw i (by simp);refine aC d m j ?_ e;simp only[ar,n,f,SV.val,S0.val,SL.val,k,D5,if_false]
 next t y z g i e3=>
  obtain⟨f,_⟩:=d.jw g (by simp);obtain⟨k,j⟩:=d.jw i (by simp);obtain⟨r,q⟩:=d.jw e3 (by simp);rcases hA.cond _ _ _ e with⟨p,e⟩|⟨p,e⟩
  .refine aC d m j ?_ e;simp only[ar,n,f,SV.val,S0.val,SL.val,p,if_true,k]
  .refine aC d m q ?_ e;simp only[ar,n,f,SV.val,S0.val,SL.val,p,r,D5,if_false]
 .exact absurd e hA.fail
def KR(hA:nc A X.C Sg X.T holds abs)(g:Rp ev g9)(F:abs h=g9.heap){t:TP}{x:S0}(u:x.g_)(G:ar X.C X.a_ (h9 g9.tmps) o=cH X.C X.a_ o.dst t x.val)
  (hb:(∃y,o.op = .box t y)∨o.op = .alloc t) (b:holds (VL A X o.dst t x ev h K)):Cy X holds abs o g9 K:=by
 unfold VL at b;split at b
 .exact absurd b hA.fail
 next d j=>
  have gc:=S0.C_ u;have Q:=S0.FY u;have O:=S0.DT u;split at b
  next k=>
   have k:X.a_.getD d 0=d+2:=by simpa using k
   split at b
   next B=>
    rw[eS,eS]at b;have q:ev.lc[d]?=some .nil:=by
     grind
    have p:g9.loc[d]?=some none:=g.row d _ q;have a:ar X.C X.a_ (h9 g9.tmps) o=some (.Fv d (x.cells.map SL.val)):=by
     rw[G,j];unfold cH
     simp_all
    let c:St:={ g9 with loc:=g9.loc.set d (some (x.cells.map SL.val)) }
    have z:Rp ⟨ev.tm,ev.lc.set d (.row x.cells)⟩ c:=by
     refine⟨g.len,g.val,by simp[c,g.Ea],λi r m=>?_⟩;simp only[GC]at m;split at m
     next I=>
      subst I;split at m
      next M=>
       cases m;exact⟨by grind,u⟩
      .cases m
     next I=>
      have:=g.row i r m;have D:c.loc[i]?=g9.loc[i]?:=by grind
      cases r<;>first|trivial|(simp only[LR.ok]at this ⊢;rw[D];exact this)
    have n:vL X.a_ o=some d:=by
     rcases hb with⟨y,hb⟩|hb<;>(simp only[vL,hb,j];rw[n_ k])
    have f:jY X.a_ o=some d:=by
     rcases hb with⟨y,hb⟩|hb<;>(simp only[jY,hb,j];rw[n_ k])
    refine⟨c.put o.dst (.pointer (some ⟨d,0,some 0⟩)),_,h,.inl ⟨_,a,(c,.pointer (some ⟨d,0,some 0⟩)),by simp[aW,p,c],rfl⟩,?_,?_,?_,b⟩
    .rw[j];exact z.put d (s:=.Gu d 0) trivial
    .rw[F];cases o.dst<;>rfl
    .have L:=Fr.put (g9:=c) o.dst (.pointer (some ⟨d,0,some 0⟩)) [d] [d];have J:Fr o.dst.toList [d] [d] g9 c:=by
      refine⟨rfl,by simp[c],λ_ _ h _ _=>h,λ_ _ _ h _ _=>h,λs y S N=>?_,λs V S N=>?_⟩
      .grind
      grind
     rw[n,f];exact J.trans L
   .exact absurd b hA.fail
  next k=>
   have k:¬X.a_.getD d 0=d+2:=λe=>by simp_all
   obtain⟨U,E,w⟩:=hA.new _ _ _ b;rw[F]at E w;have a:ar X.C X.a_ (h9 g9.tmps) o=some (.F2 λH=>some (H++[.cells x.val.cells.toList (mG X.C.P t) true],.pointer (some ⟨H.length,0,none⟩))):=by
    rw[G,j];unfold cH
    simp_all
   rw[←j]at w;refine dh (s:=.st (.leaf (.v (.pointer (some ⟨g9.heap.length,0,none⟩))))) g E (λl B=>?_) a ?_ w
   .simp only[S0.cells,Fm]at B;subst B;rfl
   .simp only[gc];rfl
def yq(new:Tn):∀(off k:Nat) (cs:Tn),off+k+new.length<=cs.length->
  ((new.zipIdx k).foldl (λ(c:Tl) (p:Value×Nat)=>c.setIfInBounds (off+p.2) p.1) cs.toArray).toList=cs.take (off+k)++new++cs.drop (off+k+new.length):=by
 induction new with
 |nil=>intro off k cs h;simp
 |cons a l d=>
  intro off k cs h;simp only[Wk]at h;simp only[List.zipIdx_cons,Wn];have b:(cs.toArray.setIfInBounds (off+k) a)=(cs.set (off+k) a).toArray:=by simp
  rw[b,d off (k+1) (cs.set (off+k) a) (by simp;omega)];rw[List.take_set,List.drop_set];have e:(cs.take (off+(k+1))).set (off+k) a=cs.take (off+k)++[a]:=by
   rw[show off+(k+1)=(off+k)+1 from by omega];rw[List.take_succ_eq_append_getElem (by omega),qdt];simp[SH (show off+k<=cs.length by omega)]
  grind
def sP(pl:Nat->Option (Nat×Nat)):∀(b:List (Nat×S0)) (cs r:List SL),(∀p∈b,p.2.g_)->sO pl cs b=some r->
  Instr.fill pl ⟨cs.map SL.val⟩ (b.map λp=>(p.1,p.2.val))=some ⟨r.map SL.val⟩
 | [],cs,r,_,a=>by cases a;rfl
 |(i,x) :: b,cs,r,g,a=>by
  simp only[sO]at a;split at a
  next off n f=>
   split at a
   next e=>
    split at a
    next j c=>
     have e:x.cells.length=n:=by simpa using e
     have s:x.g_:=g (i,x) (by simp);have k:=S0.C_ s;unfold jb at c;split at c
     next l=>
      cases c;have t:=sP pl b _ r (λp m=>g p (by simp[m])) a;simp only[DD,Instr.fill,f,k];have q:(⟨x.cells.map SL.val⟩ : Array Value).size=n:=by simp[e]
      rw[qs (by
       simp_all)]
      rw[←t]
      congr 1
      have d:=yq (x.cells.map SL.val) off 0 (cs.map SL.val) (by simp;omega);apply u9.1
      simp_all
     .cases c
    .cases a
   .cases a
  .cases a
def qQ(pl:Nat->Option (Nat×Nat)):∀(e:List (Nat×S0)) (cs r:List SL),(∀c∈cs,c.g_)->(∀p∈e,p.2.g_)->sO pl cs e=some r->∀c∈r,c.g_
 | [],cs,r,g,_,a=>by cases a;exact g
 |(i,x) :: e,cs,r,g,j,a=>by
  simp only[sO]at a;split at a
  .split at a
   .split at a
    next f d=>
     refine qQ pl e f r (λc b=>?_) (λp k=>j p (by simp[k])) a;unfold jb at d;split at d
     .cases d;simp only[Ed]at b;rcases b with(b|b)|b
      .grind
      .exact j (i,x) (by simp) c b
      grind
     .cases d
    .cases a
   .cases a
  .cases a
def rX{a:List (Nat×Operand)}{xs:List S0}(b:(a.map (·.2)).map (h9 g9.tmps)=ak xs) :
  a.map (λp=>(p.1,h9 g9.tmps p.2))=((a.map (·.1)).zip xs).map λp=>(p.1,p.2.val):=by
 induction a generalizing xs with
 |nil=>simp
 |cons p a c=>
  cases xs with
  |nil=>simp[ak]at b
  |cons x xs=>
   simp only[DD,ak,Hq]at b;simp only[DD,a7,b.1];rw[c (xs:=xs) b.2]
def uq{is:TC}{xs:List S0}(a:∀x∈xs,x.g_):∀p∈is.zip xs,p.2.g_:=λ_ b=>a _ (List.of_mem_zip b).2
def AB{P:TI}{t:TP}{x:S0}(a:yp P t=some x):∃z,eU P t=some z/\x.val=z/\x.g_:=by
 unfold yp at a;obtain⟨z,c,b⟩:=EB.1 a;obtain⟨d,e,_⟩:=tT b
 simp_all
def Oo(hA:nc A X.C Sg X.T holds abs)(n:Rp ev g9)(v:abs h=g9.heap){t:TP}{d:Array (Nat×Operand)}(y:o.op = .build t d)
  (g:holds (match yp X.C.P t,ox X.C.P t,CE ev (d.toList.map (·.2))with
  |some z,some pl,some xs=>match sO pl z.cells ((d.toList.map (·.1)).zip xs)with
   |some cs=>kb o.dst (.st (.agg cs)) ev h K
   |none=>A.fail
  |_,_,_=>A.fail)):Cy X holds abs o g9 K:=by
 split at g
 next z pl xs r u e3=>
  split at g
  next cs e4=>
   obtain⟨F,k,l,i⟩:=AB r;obtain⟨B,j⟩:=n.CE e3;have m:=S0.C_ i;have a:=sP pl _ _ _ (uq (is:=d.toList.map (·.1)) j) e4;have b:=qQ pl _ _ _ (λc w=>i c w) (uq (is:=d.toList.map (·.1)) j) e4;refine aC n v (s:=.st (.agg cs)) b ?_ g;have f:(d.toList.all λp=>!aD (h9 g9.tmps p.2))=true:=by
    simp only[A5,qB];intro p E;have q:h9 g9.tmps p.2∈ak xs:=by
     grind
    simp only[ak,CH]at q;obtain⟨x,D,e⟩:=q;rw[←e];exact S0.DT (j x D)
   simp only[ar,y,f,if_true,ux,k,u];rw[rX B,←l,m,a];rfl
  .exact absurd g hA.fail
 .exact absurd g hA.fail
end
def SL.PJ{a b:SL}{k:LK}(d:a.is k=true)(e:b.is k=true)(c:a.lf=b.lf):a.val=b.val/\(a.g_->b.g_):=by
 cases a<;>cases b<;>cases k<;>simp only[SL.lf,Lf.i.injEq,Lf.b.injEq,Lf.v.injEq,reduceCtorEq,SL.is,D5]at c d e ⊢<;>try (subst c;exact⟨rfl,id⟩)
 subst c;exact⟨by simp only[SL.val];rw[dJ d,dJ e],id⟩
def bR:∀ {cs:List SL} {ks:TJ},aZ cs ks=true->cs.length=ks.length
 | [],[],_=>rfl
 |c :: cs,k :: ks,h=>by
  simp only[aZ,te]at h;simp[bR h.2]
 | [],_ :: _,h=>by cases h
 |_ :: _,[],h=>by cases h
def iw:∀ {a b:List SL} {ks:TJ},aZ a ks=true->aZ b ks=true->a.map SL.lf=b.map SL.lf->a.map SL.val=b.map SL.val/\((∀c∈a,c.g_)->∀c∈b,c.g_)
 | [],[],[],_,_,_=>⟨rfl,λ_ _ h=>by cases h⟩
 |a :: g,b :: i,k :: ks,d,e,f=>by
  simp only[aZ,te]at d e;simp only[DD,Hq]at f;obtain⟨h1,j⟩:=SL.PJ d.1 e.1 f.1;obtain⟨l,m⟩:=iw d.2 e.2 f.2
  simp_all
 | [],_ :: _,[],_,e,_=>by cases e
 | [],_,_ :: _,d,_,_=>by cases d
 |_ :: _,_,[],d,_,_=>by cases d
 |_ :: _,[],_ :: _,_,e,_=>by cases e
def S0.Px{a b:S0}{h:SK}(c:a.is h=true)(d:b.is h=true)(g:a.cells.map SL.lf=b.cells.map SL.lf):a.val=b.val/\(a.g_->b.g_):=by
 cases h with
 |leaf k=>
  cases a with
  |agg _=>cases c
  |leaf a=>
   cases b with
   |agg _=>cases d
   |leaf b=>
    simp only[S0.cells,DD,H6,Hq,and_true]at g;obtain⟨e,f⟩:=SL.PJ c d g;refine⟨e,λj l i=>?_⟩;simp only[S0.cells,Fm]at i;subst i;exact f (j a (by simp[S0.cells]))
 |agg m=>
  cases a with
  |leaf _=>cases c
  |agg a=>
   cases b with
   |leaf _=>cases d
   |agg b=>
    obtain⟨e,f⟩:=iw c d g;exact⟨by simp only[S0.val,e],f⟩
def S0.Pw{a:S0}{e:SK}(c:a.is e=true):∃n,a.cells.length=n/\∀b:S0,b.is e=true->b.cells.length=n:=by
 refine⟨_,rfl,λb d=>?_⟩;cases e with
 |leaf k=>
  cases a with
  |agg _=>cases c
  |leaf a=>cases b with
   |agg _=>cases d
   |leaf b=>rfl
 |agg f=>
  cases a with
  |leaf _=>cases c
  |agg a=>cases b with
   |leaf _=>cases d
   |agg b=>exact(bR d).trans (bR c).symm
def cV:∀ {a b:List S0} {sks:TN},cE a sks=true->cE b sks=true->cN a=cN b->ak a=ak b/\((∀c∈a,c.g_)->∀c∈b,c.g_)
 | [],[],[],_,_,_=>⟨rfl,λ_ _ h=>by cases h⟩
 |a :: o,b :: q,k :: ks,d,e,m=>by
  simp only[cE,te]at d e;obtain⟨n,j,f⟩:=S0.Pw d.1;have f:=f b e.1;simp only[cN]at m;obtain⟨g,i⟩:=qdr m (by simp[j,f]);obtain⟨p,r⟩:=S0.Px d.1 e.1 g;obtain⟨l,s⟩:=cV d.2 e.2 i;refine⟨by simp only[ak,DD,p]at l ⊢;rw[l],λu c t=>?_⟩
  grind
 | [],_ :: _,[],_,e,_=>by cases e
 | [],_,_ :: _,d,_,_=>by cases d
 |_ :: _,_,[],d,_,_=>by cases d
 |_ :: _,[],_ :: _,_,e,_=>by cases e
section
variable [Cf] [C8] {R HT:Type} {A:A_ R HT} {X:Cv} {Sg:Td} {holds:R->Prop} {abs:HT->Tu}
variable {ev:Env} {g9:St} {h:HT} {o:Oper} {K:KN R HT}
def rW{C:ke}{T:Tv}(hA:nc A C Sg T holds abs):∀ {ks:TJ} {ls:TG} {K:List SL->TG->R},holds (NI A ks ls K)->
  ∃cs r,ls=cs.map SL.lf++r/\aZ cs ks=true/\holds (K cs r)
 | [],ls,K,c=>⟨[],ls,rfl,rfl,c⟩
 | .i k :: ks,ls,K,c=>by
  obtain⟨n,r,rfl,a⟩:=hA.oo _ _ c;obtain⟨cs,f,rfl,d,e⟩:=rW hA (ks:=ks) a;exact⟨.i k n :: cs,f,rfl,by simp[aZ,SL.is,fq,d],e⟩
 | .b :: ks,ls,K,c=>by
  obtain⟨n,r,rfl,a⟩:=hA.D7 _ _ c;obtain⟨cs,f,rfl,d,e⟩:=rW hA (ks:=ks) a;exact⟨.b n :: cs,f,rfl,by simp[aZ,SL.is,d],e⟩
 | .v :: ks,ls,K,c=>by
  obtain⟨n,r,rfl,a⟩:=hA.Ck _ _ c;obtain⟨cs,f,rfl,d,e⟩:=rW hA (ks:=ks) a;exact⟨.v n :: cs,f,rfl,by simp[aZ,SL.is,d],e⟩
def JC{C:ke}{T:Tv}(hA:nc A C Sg T holds abs){d:SK}{ls:TG}{K:S0->TG->R}(c:holds (b7 A d ls K)) :
  ∃x r,ls=x.cells.map SL.lf++r/\x.is d=true/\holds (K x r):=by
 cases d with
 |leaf k=>
  cases k with
  |i k=>
   obtain⟨n,r,rfl,a⟩:=hA.oo _ _ c;exact⟨.leaf (.i k n),r,rfl,by simp[S0.is,SL.is,fq],a⟩
  |b=>
   obtain⟨n,r,rfl,a⟩:=hA.D7 _ _ c;exact⟨.leaf (.b n),r,rfl,rfl,a⟩
  |v=>
   obtain⟨n,r,rfl,a⟩:=hA.Ck _ _ c;exact⟨.leaf (.v n),r,rfl,rfl,a⟩
 |agg l=>
  obtain⟨e,r,f,g,j⟩:=rW hA c;exact⟨.agg e,r,f,g,j⟩
def qk{C:ke}{T:Tv}(hA:nc A C Sg T holds abs):∀ {sks:TN} {ls:TG} {K:List S0->TG->R},holds (Ig A sks ls K)->
  ∃xs r,ls=cN xs++r/\cE xs sks=true/\holds (K xs r)
 | [],ls,K,a=>⟨[],ls,rfl,rfl,a⟩
 |i :: sks,ls,K,a=>by
  have b:holds (b7 A i ls λx r=>Ig A sks r λxs r=>K (x :: xs) r):=a;obtain⟨x,r,rfl,d,c⟩:=JC hA b;obtain⟨xs,g,rfl,e,f⟩:=qk hA (sks:=sks) c;exact⟨x :: xs,g,by simp[cN],by simp[cE,d,e],f⟩
def Ay{C:ke}{T:Tv}(hA:nc A C Sg T holds abs):∀ {ks:TJ} {ls:Tn} {K:List SL->Tn->R},holds (ucL A ks ls K)->
  ∃cs r,ls=cs.map SL.val++r/\aZ cs ks=true/\(∀c∈cs,c.g_)/\holds (K cs r)
 | [],ls,K,d=>⟨[],ls,rfl,rfl,by simp,d⟩
 | .i k :: ks,ls,K,d=>by
  obtain⟨n,r,rfl,a⟩:=hA.rv _ _ _ d;obtain⟨cs,j,rfl,e,f,g⟩:=Ay hA (ks:=ks) a;exact⟨.i k n :: cs,j,rfl,by simp[aZ,SL.is,fq,e],Hx.2 ⟨trivial,f⟩,g⟩
 | .b :: ks,ls,K,d=>by
  obtain⟨n,r,rfl,a⟩:=hA.DV _ _ d;obtain⟨cs,j,rfl,e,f,g⟩:=Ay hA (ks:=ks) a;exact⟨.b n :: cs,j,rfl,by simp[aZ,SL.is,e],Hx.2 ⟨trivial,f⟩,g⟩
 | .v :: ks,ls,K,d=>by
  obtain⟨n,r,rfl,a⟩:=hA.BM _ _ d;obtain⟨m,l⟩:=hA.k_ _ _ a;obtain⟨cs,j,rfl,e,f,g⟩:=Ay hA (ks:=ks) l;exact⟨.v n :: cs,j,rfl,by simp[aZ,SL.is,e],Hx.2 ⟨m,f⟩,g⟩
def rV{C:ke}{T:Tv}(hA:nc A C Sg T holds abs){f:SK}{ls:Tn}{K:S0->Tn->R}(d:holds (JB A f ls K)) :
  ∃x r,ls=x.cells.map SL.val++r/\x.is f=true/\x.g_/\holds (K x r):=by
 cases f with
 |leaf k=>
  cases k with
  |i k=>
   obtain⟨n,r,rfl,a⟩:=hA.rv _ _ _ d;exact⟨.leaf (.i k n),r,rfl,by simp[S0.is,SL.is,fq],λl c=>by simp only[S0.cells,Fm]at c;subst c;trivial,a⟩
  |b=>
   obtain⟨n,r,rfl,a⟩:=hA.DV _ _ d;exact⟨.leaf (.b n),r,rfl,rfl,λl c=>by simp only[S0.cells,Fm]at c;subst c;trivial,a⟩
  |v=>
   obtain⟨n,r,rfl,a⟩:=hA.BM _ _ d;obtain⟨s,e⟩:=hA.k_ _ _ a;exact⟨.leaf (.v n),r,rfl,rfl,λl c=>by simp only[S0.cells,Fm]at c;subst c;exact s,e⟩
 |agg t=>
  obtain⟨g,r,j,m,p,q⟩:=Ay hA d;exact⟨.agg g,r,j,m,p,q⟩
def LQ{C:ke}{T:Tv}(hA:nc A C Sg T holds abs):∀ {sks:TN} {ls:Tn} {K:List S0->Tn->R},holds (gy A sks ls K)->
  ∃xs r,ls=nP xs++r/\cE xs sks=true/\(∀x∈xs,x.g_)/\holds (K xs r)
 | [],ls,K,a=>⟨[],ls,rfl,rfl,by simp,a⟩
 |j :: sks,ls,K,a=>by
  have b:holds (JB A j ls λx r=>gy A sks r λxs r=>K (x :: xs) r):=a;obtain⟨x,r,rfl,e,m,d⟩:=rV hA b;obtain⟨xs,i,rfl,f,k,g⟩:=LQ hA (sks:=sks) d;refine⟨x :: xs,i,by simp[nP],by simp[cE,e,f],λc l=>?_,g⟩
  grind
def VB(a:Bool)(cs:Tn)(v:Value):Prop:=(a=true/\v = .agg ⟨cs⟩)∨(a=false/\cs=[v])
def rp{x:S0}{a:SK}(c:x.is a=true){v:TR}(b:VB (kq a) (x.cells.map SL.val) v):x.val=v:=by
 cases a with
 |leaf k=>
  cases x with
  |agg _=>cases c
  |leaf l=>
   rcases b with⟨h,_⟩|⟨_,h⟩
   .cases h
   .simp only[S0.cells,DD,H6,Hq,and_true]at h;exact h
 |agg e=>
  cases x with
  |leaf _=>cases c
  |agg d=>
   rcases b with⟨_,h⟩|⟨h,_⟩
   .exact h.symm
   .cases h
def OV{a b:Bool}(h:OU a b=true):a=b:=by cases a<;>cases b<;>first|rfl|cases h
def pJ{a:Bool}{cs:List SL}{x:S0}(b:Gx a cs=some x):x.cells=cs/\VB a (cs.map SL.val) x.val:=by
 unfold Gx at b;split at b
 .cases b;exact⟨rfl,.inl ⟨rfl,rfl⟩⟩
 .cases b;exact⟨rfl,.inr ⟨rfl,rfl⟩⟩
 .cases b
def db{P:TI}{t:TP}{c:Bool}(a:x6 P t=some c){vs cs:Tn}{off:Nat}(b:cut vs off (if c then P.cellsOf t else 1)=some cs) :
  ∃v,dx P t vs off=some v/\VB c cs v:=by
 unfold x6 at a;unfold dx;split at a
 next i e=>
  cases a;rw[e];simp only[if_true]at b;exact⟨.agg ⟨cs⟩,by simp[b],.inl ⟨rfl,rfl⟩⟩
 next i e=>
  cases a;rw[e];simp only[if_true]at b;exact⟨.agg ⟨cs⟩,by simp[b],.inl ⟨rfl,rfl⟩⟩
 next d k l e=>
  cases a;rw[e];simp only[D5,if_false]at b;unfold cut at b;split at b
  next j=>
   cases b;have f:off<vs.length:=by omega
   have g:(vs.drop off).take 1=[vs[off]]:=by
    rw[SB f];rfl
   refine⟨vs[off],?_,.inr ⟨rfl,g⟩⟩;simp[f]
  .cases b
 .cases a
def mJ(hA:nc A X.C Sg X.T holds abs){dst:Tq}{d:SK}{cs:Tn}{v:TR}(j:VB (kq d) cs v)(g:holds (He A dst d cs ev h K)) :
  ∃x:S0,x.val=v/\x.g_/\holds (kb dst (.st x) ev h K):=by
 obtain⟨x,r,c,e,f,a⟩:=rV hA g;obtain⟨i,b⟩:=hA.ts _ _ a;rw[i,GM]at c;subst c;exact⟨x,rp e j,f,b⟩
def oQ{cs ds:List SL}{off n:Nat}(a:DP cs off n=some ds):cut (cs.map SL.val) off n=some (ds.map SL.val)/\(∀d∈ds,d∈cs):=by
 unfold DP at a;unfold cut;split at a
 next b=>
  cases a;rw[n_ (by simpa using b)];exact⟨by simp_all,λd c=>pD (ND c)⟩
 .cases a
def lz(d:Rp ev g9){s:Nat}{cs:List SL}(a:tR ev s=some cs):g9.loc[s]?=some (some (cs.map SL.val))/\(∀c∈cs,c.g_)/\ev.lc[s]?=some (.row cs):=by
 unfold tR at a;split at a
 next f e=>
  cases a;rw[List.getD_eq_getElem?_getD]at e;cases b:ev.lc[s]? with
  |none=>rw[b]at e;cases e
  |some r=>
   rw[b]at e;simp only[QU]at e;subst e;have:=d.row s _ b;exact⟨this.1,this.2,rfl⟩
 .cases a
def zQ{cs:List SL}{a:Nat}{ix:List (Int×Nat)}{n:Nat}{ls:TG}(b:jZ (cs.map SL.lf) a ix n=some ls) :
  ∃ds,DP cs (CX a ix) n=some ds/\ls=ds.map SL.lf:=by
 rw[QB]at b;split at b
 next c=>
  cases b;refine⟨_,by unfold DP;rw[n_ (by simpa using c)],by simp_all⟩
 .cases b
def KS:∀(ix:List (Int×Nat)) (a:Nat),a<=CX a ix
 | [],a=>x5 _
 |p :: l,a=>NG (Nat.le_add_right _ _) (KS l _)
def nJ{cs ds:List SL}{ks:TJ}:∀ {ix:List (Int×Nat)} {a:Nat},uw cs ks a ix=true->DP cs (CX a ix) ks.length=some ds->aZ ds ks=true
 | [],a,h1,b=>by
  simp only[uw,CX]at h1 b
  simp_all
 |p :: l,a,h1,b=>by
  simp only[uw,te,A5,qB,CX]at h1 b;obtain⟨h0,h1⟩:=h1;refine nJ (ix:=l) (h1 p.1.toNat ?_) b;have d:p.2≠0:=λe=>by rw[e]at h0;cases h0
  have c:CX (a+p.1.toNat*p.2) l<=cs.length:=by
   unfold DP at b
   grind
  have:=KS l (a+p.1.toNat*p.2);have f:p.1.toNat<=p.1.toNat*p.2:=Nat.le_mul_of_pos_right _ (Nat.pos_of_ne_zero d)
  grind
def Vk{x:S0}{b:SK}(a:x.is b=true):aZ x.cells (Hh b)=true:=by
 cases b with
 |leaf k=>
  cases x with
  |agg _=>cases a
  |leaf l=>simp[S0.cells,Hh,aZ];exact a
 |agg d=>
  cases x with
  |leaf _=>cases a
  |agg c=>exact a
def Lp(hA:nc A X.C Sg X.T holds abs){dst:Tq}{e:SK}{ds:List SL}{v:TR}(l:aZ ds (Hh e)=true)(m:∀c∈ds,c.g_)(i:VB (kq e) (ds.map SL.val) v)
  (n:holds (H8 A dst e (ds.map SL.lf) ev h K)):∃x:S0,x.val=v/\x.g_/\holds (kb dst (.st x) ev h K):=by
 obtain⟨x,r,f,g,a⟩:=JC hA n;obtain⟨d,b⟩:=hA.u4 _ _ a;rw[d,GM]at f;obtain⟨j,k⟩:=iw l (Vk g) f;rw[j]at i;exact⟨x,rp g i,k m,b⟩
def y2(c:SL):c.is c.lk=true:=by cases c<;>first|rfl|exact fq _
def nK:∀cs:List SL,aZ cs (cs.map SL.lk)=true
 | []=>rfl
 |c :: cs=>by simp[aZ,y2,nK cs]
def iu:∀ {a b:List SL} {d c:TJ},aZ a d=true->aZ b c=true->aZ (a++b) (d++c)=true
 | [],b,[],c,_,h=>h
 |a :: e,b,k :: d,c,h1,f=>by
  simp only[aZ,te,DC]at h1 ⊢;exact⟨h1.1,iu h1.2 f⟩
 | [],_,_ :: _,_,h,_=>by cases h
 |_ :: _,_,[],_,h,_=>by cases h
end
section
variable [Cf] [C8] {R HT:Type} {A:A_ R HT} {X:Cv} {Sg:Td} {holds:R->Prop} {abs:HT->Tu}
variable {ev:Env} {g9:St} {h:HT} {o:Oper} {K:KN R HT}
def uz(H:Tu)(id:Nat):iC (λi=>H[i]?) id=gc H id:=rfl
def Z8{n:Nat}{p:TR}{g:cP}{cs:Tn}(h:p6 n p g=some cs):∃id off vs,p = .pointer (some ⟨id,off,none⟩)/\iC g id=some vs/\cut vs off n=some cs:=by
 unfold p6 at h;split at h
 next a=>
  split at h
  next e=>
   obtain⟨vs,c,d⟩:=EB.1 h;obtain⟨b,f,i⟩:=a
   grind
  .cases h
 .cases h
def v6{C:ke}{n:Nat}{p:TR}{g:cP}{cs:Tn}(h:ng C n p g=some cs):(∃id off vs,p = .pointer (some ⟨id,off,none⟩)/\iC g id=some vs/\cut vs off n=some cs)∨∃id off vs,p = .pointer (some ⟨id,off,some 1⟩)/\C.G id=some vs/\cut vs off n=some cs:=by
 unfold ng at h;split at h
 next a=>
  split at h
  next c=>
   obtain⟨vs,d,e⟩:=EB.1 h;obtain⟨b,f,j⟩:=a
   grind
  next k c=>
   split at h
   next i=>
    obtain⟨vs,d,e⟩:=EB.1 h;obtain⟨b,f,j⟩:=a;simp only at c;subst c;rw[Dp i]
    grind
   .cases h
 .cases h
def Vq(hA:nc A X.C Sg X.T holds abs)(k:Rp ev g9)(I:abs h=g9.heap){t:TP}{a:TK}{sk:SK}{F:Bool}(ho:o.op = .load t a)(m:x6 X.C.P t=some F)
  (w:F=kq sk) (d:holds (PO A X o.dst sk F (if F then X.C.P.cellsOf t else 1) a ev h K)):Cy X holds abs o g9 K:=by
 have e:ar X.C X.a_ (h9 g9.tmps) o=dV X.C X.a_ t a (h9 g9.tmps a):=by simp only[ar,ho]
 unfold PO at d;split at d
 next p b E=>
  obtain⟨y,_⟩:=k.jw E (by simp);obtain⟨N,h2,u⟩:=hA.ka _ _ _ d;simp only[Pk.run]at h2;rw[I]at h2;rcases v6 h2 with⟨id,off,vs,rfl,Z,h4⟩|⟨id,off,vs,rfl,Z,h4⟩
  .rw[uz]at Z;obtain⟨v,r,i⟩:=db m h4;rw[w]at i;obtain⟨x,rfl,D,n⟩:=mJ hA i u;refine kL k I (s:=.st x) D (f:=λH=>(gc H id).bind λvs=>dx X.C.P t vs off) ?_ ?_ n
   .rw[e,dV,b,y];rfl
   .simp only[Z,Dj,r];rfl
  .obtain⟨v,r,i⟩:=db m h4;rw[w]at i;obtain⟨x,rfl,D,n⟩:=mJ hA i u;refine kL k I (s:=.st x) D (f:=λ_=>(X.C.G id).bind λvs=>dx X.C.P t vs off) ?_ ?_ n
   .rw[e,dV,b,y];rfl
   .simp only[Z,Dj,r];rfl
 next g off b E=>
  obtain⟨y,_⟩:=k.jw E (by simp);split at d
  next vs V=>
   split at d
   next N q=>
    obtain⟨v,r,i⟩:=db m q;have j:ar X.C X.a_ (h9 g9.tmps) o=some (.val v):=by
     rw[e,dV,b,y];simp only[SV.val,gN,if_true,Dj,V,r,EA]
    split at d
    next x an hm=>
     obtain⟨W,L⟩:=pJ hm;have al:(N.map H9).map SL.val=N:=by
      rw[SD];have:(SL.val ∘ H9)=id:=funext ue;rw[this,ca]
     rw[al]at L;have hv:x.val=v:=by
      rcases L with⟨M,Q⟩|⟨M,Q⟩<;>rcases i with⟨z,S⟩|⟨z,S⟩
      .rw[Q,S]
      .rw[M]at z;cases z
      .rw[M]at z;cases z
      simp_all
     subst hv;refine aC k I (s:=.st x) (λl hl=>?_) j d;rw[W]at hl;obtain⟨c,ag,rfl⟩:=CH.1 hl;exact qf (A5.1 an c ag)
    .rw[w]at i;obtain⟨x,rfl,D,d⟩:=mJ hA i d;exact aC k I (s:=.st x) D j d
   .exact absurd d hA.fail
  .exact absurd d hA.fail
 next g B ix b E=>
  obtain⟨y,_⟩:=k.jw E (by simp);split at d
  next vs V=>
   obtain⟨N,q,d⟩:=hA.h_ _ _ d;obtain⟨v,r,i⟩:=db m (vs:=vs) (off:=CX B ix) ((QC _ _ _ _).symm.trans q);have j:ar X.C X.a_ (h9 g9.tmps) o=some (.val v):=by
    rw[e,dV,b,y];simp only[SV.val,gN,if_true,Dj,V,r,EA]
   rw[w]at i;obtain⟨x,rfl,D,d⟩:=mJ hA i d;exact aC k I (s:=.st x) D j d
  .exact absurd d hA.fail
 next p b E=>
  obtain⟨y,_⟩:=k.jw E (by simp);obtain⟨N,q,u⟩:=hA.h_ _ _ d;unfold p4 at q;split at q
  next ad=>
   split at q
   next ap=>
    obtain⟨vs,V,q⟩:=EB.1 q;obtain⟨v,r,i⟩:=db m q;have j:ar X.C X.a_ (h9 g9.tmps) o=some (.val v):=by
     rw[e,dV,b,y];simp only[SV.val,S0.val,SL.val,gN,ap,if_true,Dj,V,r,EA]
    rw[w]at i;obtain⟨x,rfl,D,n⟩:=mJ hA i u;exact aC k I (s:=.st x) D j n
   .cases q
  .cases q
 next s s' off b E=>
  obtain⟨y,_⟩:=k.jw E (by simp);split at d
  next x O Y=>
   have O:s=s':=by simpa using O
   subst O;obtain⟨N,hr,Y⟩:=EB.1 Y;obtain⟨ds,U,Y⟩:=EB.1 Y;obtain⟨r1,r2,_⟩:=lz k hr;obtain⟨c1,c2⟩:=oQ U;obtain⟨v,r,i⟩:=db m c1;obtain⟨W,L⟩:=pJ Y;have hv:x.val=v:=by
    rcases L with⟨M,Q⟩|⟨M,Q⟩<;>rcases i with⟨z,S⟩|⟨z,S⟩
    .rw[Q,S]
    .rw[M]at z;cases z
    .rw[M]at z;cases z
    simp_all
   subst hv;refine dH k g9.heap I (s:=.st x) (λl hl=>?_) (.inl ⟨.G4 s λvs=>dx X.C.P t vs off,?_,(g9,x.val),?_,rfl⟩) d
   .simp_all
   .rw[e,dV,b,y];simp[SV.val,jI]
   .simp[aW,r1,r]
  .exact absurd d hA.fail
 next s s' B ix b E=>
  obtain⟨y,_⟩:=k.jw E (by simp);split at d
  next N O hr=>
   have O:s=s':=by simpa using O
   subst O;split at d
   next J=>
    simp only[te]at J;obtain⟨J,hn⟩:=J;have hn:=Dp hn;obtain⟨ls,hp,u⟩:=hA.h_ _ _ d;obtain⟨ds,U,rfl⟩:=zQ hp;obtain⟨r1,r2,_⟩:=lz k hr;obtain⟨c1,c2⟩:=oQ U;obtain⟨v,r,i⟩:=db m c1;rw[w]at i;rw[hn]at U;obtain⟨x,rfl,D,n⟩:=Lp hA (nJ J U) (λc q=>r2 c (c2 c q)) i u;refine dH k g9.heap I (s:=.st x) D (.inl ⟨.G4 s λvs=>dx X.C.P t vs (CX B ix),?_,(g9,x.val),?_,rfl⟩) n
    .rw[e,dV,b,y];simp[SV.val,jI]
    .simp[aW,r1,r]
   .exact absurd d hA.fail
  .exact absurd d hA.fail
 .exact absurd d hA.fail
def rR{cs r new:List SL}{off:Nat}(a:jb cs off new=some r):q9 (cs.map SL.val) off (new.map SL.val)=some (r.map SL.val)/\r.length=cs.length/\((∀c∈cs,c.g_)->(∀c∈new,c.g_)->∀c∈r,c.g_):=by
 unfold jb at a;unfold q9;split at a
 next b=>
  cases a;rw[n_ (by simpa using b)];refine⟨by simp_all,by simp;omega,λd e c f=>?_⟩
  grind
 .cases a
def yn{P:TI}{t:TP}{x:S0}(b:x.g_)(a:x.cells.length=P.cellsOf t)(d:(P.info? t).isSome=true)(vs:Tn)(off:Nat) :
  fi P t x.val vs off=q9 vs off (x.cells.map SL.val):=by
 unfold fi;have c:=S0.C_ b;rw[n_ ⟨by simp_all,d⟩,n_ (S0.FY b),c]
def sB(e:Rp ev g9)(v:abs h=g9.heap){s:Nat}{cs:List SL}{f:Tn->Option (Tn)}{vs:Tn}(w:ar X.C X.a_ (h9 g9.tmps) o=some (.Fw s f))(b:g9.loc[s]?=some (some vs))
  (k:f vs=some (cs.map SL.val)) (n:(cs.map SL.val).length=vs.length) (x:∀c∈cs,c.g_) (p:jY X.a_ o=some s)
  (z:holds (kb o.dst .un ⟨ev.tm,ev.lc.set s (.row cs)⟩ h K)):Cy X holds abs o g9 K:=by
 let a:St:={ g9 with loc:=g9.loc.set s (some (cs.map SL.val)) }
 have B:s<g9.loc.length:=(x0.1 b).1;have j:Rp ⟨ev.tm,ev.lc.set s (.row cs)⟩ a:=by
  refine⟨e.len,e.val,by simp[a,e.Ea],λi r d=>?_⟩;simp only[GC]at d;split at d
  next m=>
   subst m;split at d
   .cases d;exact⟨by grind,x⟩
   .cases d
  next m=>
   have:=e.row i r d;have l:a.loc[i]?=g9.loc[i]?:=by grind
   cases r<;>first|trivial|(simp only[LR.ok]at this ⊢;rw[l];exact this)
 obtain⟨g,t,u⟩:=xY (dst:=o.dst) j (s:=.un) trivial z;refine⟨a.put o.dst undef,g,h,.inl ⟨_,w,(a,undef),by simp[aW,b,k,a],rfl⟩,t,?_,?_,u⟩
 .rw[v];cases o.dst<;>rfl
 .have k:=Fr.put (g9:=a) o.dst undef (vL X.a_ o).toList (jY X.a_ o).toList;have q:Fr o.dst.toList (vL X.a_ o).toList (jY X.a_ o).toList g9 a:=by
   refine⟨rfl,by simp[a],λ_ _ h _ _=>h,λ_ _ _ h _ _=>h,λi y E D=>?_,λi F E D=>?_⟩
   .grind
   grind
  exact q.trans k
def B1{p:TR}{new:Tn}{g:cP}{n:Nat}{c:List Cq}{cs:Tn}(h:Jw p new g n=some (c,cs)) :
  ∃id off vs d e,p = .pointer (some ⟨id,off,none⟩)/\g id=some (.cells vs e true)/\q9 vs off new=some d/\c=[.set id (.cells d e true)]:=by
 unfold Jw at h;split at h
 next a=>
  split at h
  next l=>
   split at h
   next vs e k=>
    obtain⟨d,i,j⟩:=Dv.1 h;obtain⟨b,f,m⟩:=a
    grind
   .cases h
  .cases h
 .cases h
def Rz(hA:nc A X.C Sg X.T holds abs)(m:Rp ev g9)(O:abs h=g9.heap){t:TP}{a y:TK}{x:S0}(ho:o.op = .store t a y)(hy:jw ev y = .st x)
  (j:holds (Jx A X o.dst t a x ev h K)):Cy X holds abs o g9 K:=by
 obtain⟨aE,I⟩:=m.jw hy (by simp);have I:x.g_:=I;have u:ar X.C X.a_ (h9 g9.tmps) o=fg X.C X.a_ t a (h9 g9.tmps a) x.val:=by simp only[ar,ho,aE];rfl
 have G:=S0.DT I;unfold Jx at j;split at j
 .exact absurd j hA.fail
 next hc=>
  simp only[te]at hc;obtain⟨v,hi⟩:=hc;have v:=Dp v;have hw:=yn (P:=X.C.P) (t:=t) I v hi;split at j
  next p d L=>
   obtain⟨J,_⟩:=m.jw L (by simp);obtain⟨a3,i,h',Z,h3,D⟩:=hA.heap _ _ _ j;simp only[Hp.run]at Z;rw[O]at Z h3;obtain⟨id,c,N,a2,e,rfl,g1,g2,rfl⟩:=B1 Z;refine dh (s:=.un) m (H':=g9.heap.set id (.cells a2 e true)) h3 trivial (f:=jU X.C t id c x.val) ?_ ?_ D
   .rw[u,fg,G,d,J];rfl
   .simp only[jU,g1,hw,g2,EA];rfl
  next s s' c d L=>
   obtain⟨J,_⟩:=m.jw L (by simp);have l:jY X.a_ o=some s:=by simp only[jY,ho,d]
   split at j
   next i H k=>
    have H:s=s':=by simpa using H
    subst H;rw[eS]at j;have g:ar X.C X.a_ (h9 g9.tmps) o=some (.Fw s λN=>fi X.C.P t x.val N c):=by
     rw[u,fg,G,d,J];simp[SV.val,jI]
    have ap:ev.lc[s]?=some (ev.lc.getD s .Ih)∨ev.lc.getD s .Ih = .Ih:=by
     grind
    unfold Ry at k;split at k
    next W hl=>
     obtain⟨q1,q2,q3⟩:=rR k;have E:ev.lc[s]?=some (.row W):=by simp_all
     have S:=m.row s _ E;exact sB m O g S.1 (by rw[hw];exact q1) (by simp[q2]) (q3 S.2 I) l j
    next n hl=>
     split at k
     next hz=>
      cases k;simp only[te]at hz;have a0:=Dp hz.1;have a1:=Dp hz.2;have E:ev.lc[s]?=some (.any n):=by simp_all
      obtain⟨N,ax,ay⟩:=m.row s _ E;refine sB m O g ax ?_ (by rw[ay,a1];simp) I l j;rw[hw,a0,q9,n_ (by simp;omega)]
      simp_all
     .cases k
    .cases k
   .exact absurd j hA.fail
  next s s' B ix d L=>
   obtain⟨J,_⟩:=m.jw L (by simp);have l:jY X.a_ o=some s:=by simp only[jY,ho,d]
   split at j
   next i H S=>
    have H:s=s':=by simpa using H
    subst H;split at j
    .exact absurd j hA.fail
    next ad=>
     obtain⟨ls,Q,D⟩:=hA.h_ _ _ j;obtain⟨V,r,e1,e2,ag⟩:=rW hA D;obtain⟨an,M⟩:=hA.u4 _ _ ag;rw[an,GM]at e1;rw[eS]at M;obtain⟨r1,r2,_⟩:=lz m S;have g:ar X.C X.a_ (h9 g9.tmps) o=some (.Fw s λN=>fi X.C.P t x.val N (CX B ix)):=by
      rw[u,fg,G,d,J];simp[SV.val,jI]
     rw[Wh]at Q;split at Q
     next F=>
      simp only[FM]at F
      let c:=CX B ix
      have a4:DP i c x.cells.length=some ((i.drop c).take x.cells.length):=by unfold DP;rw[n_ F]
      have a6:aZ ((i.drop c).take x.cells.length) (x.cells.map SL.lk)=true:=nJ ad (by grind)
      let z:=i.take c++x.cells++i.drop (c+x.cells.length)
      have av:jb i c x.cells=some z:=by unfold jb;rw[n_ F]
      obtain⟨q1,q2,q3⟩:=rR av;have w:aZ z (i.map SL.lk)=true:=by
       have U:i=i.take c++(i.drop c).take x.cells.length++i.drop (c+x.cells.length):=by
        rw[EC,←FF,Wp,Wp]
       have a7:∀ {a b:List SL},aZ a (b.map SL.lk)=true->a.map SL.lk=b.map SL.lk:=by
        intro a b q
        induction a generalizing b with
        |nil=>cases b with
         |nil=>rfl
         |cons _ _=>cases q
        |cons a a5 ih=>cases b with
         |nil=>cases q
         |cons b bs=>
          simp only[DD,aZ,te]at q;simp only[DD,ih q.2];have:a.lk=b.lk:=by
           have Y:=q.1;cases a<;>cases b<;>first|rfl|(simp[SL.is,SL.lk]at Y;done)|(simp only[SL.is,SL.lk]at Y ⊢;rw[dJ Y])
          rw[this]
       have hm:i.map SL.lk=(i.take c).map SL.lk++x.cells.map SL.lk++(i.drop (c+x.cells.length)).map SL.lk:=by
        grind
       rw[hm];exact iu (iu (nK _) (nK _)) (nK _)
      have al:z.map SL.lf=V.map SL.lf:=by
       rw[←e1];cases Q;simp[z,c,List.map_take,List.map_drop]
      obtain⟨v1,v2⟩:=iw w e2 al;refine sB m O g r1 (by grind) (by rw[←v1];simp[q2]) (v2 (q3 r2 I)) l M
     .cases Q
   .exact absurd j hA.fail
  .exact absurd j hA.fail
end
section
variable {P:TI}
def aU{i6 c:Type}(s:Sem i6)(f:i6->Sem c):CB P (s >>= f)=(CB P s).bind λa=>CB P (f a):=by
 show CB P (s.bind f)=_
 induction s with
 |pure a=>rfl
 |program k b=>exact b P
 |_=>rfl
def gW{i6:Type}(a:i6):CB P (pure a:Sem i6)=some a:=rfl
def mE:CB P program=some P:=rfl
def bi{t:TP}{d:TypeDesc}(h:P.underlying t=some d):CB P (underlying t)=some d:=by
 unfold underlying;rw[aU,mE];simp only[Dj,h];rfl
def rG{d:Nat}{t:TP}{k c:TL}{a b:Int}(h:P.underlying t=some (.int c)):CB P (Op.equalIn (d+1) t (.int k a) (.int k b))=some (a==b):=by
 simp only[Op.equalIn,aU,bi h,Dj,if_true,gW]
def pS{d:Nat}{t:TP}{a b:Bool}(h:P.underlying t=some .bool):CB P (Op.equalIn (d+1) t (.bool a) (.bool b))=some (a==b):=by
 simp only[Op.equalIn,aU,bi h,Dj,gW]
def Ab{t:TP}{a:Bool}(h:x6 P t=some a):CB P (isAgg t)=some a:=by
 unfold isAgg;unfold x6 at h;split at h
 next b e=>cases h;rw[aU,bi e];rfl
 next b e=>cases h;rw[aU,bi e];rfl
 next d c f e=>
  cases h;rw[aU,bi e];simp only[Dj];rfl
 .cases h
def lu{t:TP}{d:TypeDesc}(h:P.underlying t=some d):CB P (sizeOf t)=some (P.cellsOf t):=by
 unfold sizeOf typeInfo;have a:∃i,P.info? t=some i:=by
  unfold Program.underlying at h
  grind
 obtain⟨i,a⟩:=a;simp only[aU,mE,Dj,a];simp[CB,Program.cellsOf,a];rfl
def mz{t:TP}{c:Bool}(h:x6 P t=some c){cs:Tn}{off:Nat}{ds:Tn}(a:cut cs off (if c then P.cellsOf t else 1)=some ds) :
  ∃v,CB P (part t ⟨cs⟩ off)=some v/\VB c ds v:=by
 have f:∃d,P.underlying t=some d:=by
  unfold x6 at h
  grind
 obtain⟨d,f⟩:=f;unfold part;rw[aU,Ab h];simp only[Dj];unfold cut at a;cases c with
 |true=>
  simp only[if_true]at a ⊢;split at a
  next e=>
   cases a;refine⟨.agg ⟨(cs.drop off).take (P.cellsOf t)⟩,?_,.inl ⟨rfl,rfl⟩⟩;rw[aU,lu f];simp only[Dj,gW,FL,Value.agg.injEq]
   simp_all
  .cases a
 |false=>
  simp only[D5,if_false]at a ⊢;split at a
  next e=>
   cases a;have b:off<cs.length:=by omega
   refine⟨cs[off],?_,.inr ⟨rfl,by rw[SB b];rfl⟩⟩;have:(⟨cs⟩ : Array Value)[off]?=some cs[off]:=by simp[b]
   rw[this];rfl
  .cases a
def D_(a b:List SL):Bool:=ch ((a.map SL.lf).zip (b.map SL.lf))
def uQ(a b:List (Lf×Lf)):ch (a++b)=(ch a&&ch b):=by simp[ch]
def oZ{a b c d:List SL}(h:a.length=b.length):D_ (a++c) (b++d)=(D_ a b&&D_ c d):=by
 unfold D_;rw[Iu,Iu,List.zip_append (by simpa using h),uQ]
def X1(a:Bool)(cs:List SL)(v:Value):Prop:=VB a (cs.map SL.val) v
def p1(P:TI)(d:Nat)(t:TP)(ks:TJ):Prop:=
 ∃c,x6 P t=some c/\(if c then P.cellsOf t else 1)=ks.length/\∀(a b:List SL) (x y:Value),aZ a ks=true->aZ b ks=true->X1 c a x->X1 c b y->CB P (Op.equalIn d t x y)=some (D_ a b)
def gH{cs:List SL}{d e:TJ}(h:aZ cs (d++e)=true):∃a b,cs=a++b/\aZ a d=true/\aZ b e=true:=by
 induction d generalizing cs with
 |nil=>exact⟨[],cs,rfl,rfl,h⟩
 |cons k d i=>
  cases cs with
  |nil=>cases h
  |cons c cs=>
   simp only[DC,aZ,te]at h;obtain⟨a,b,rfl,f,g⟩:=i h.2;exact⟨c :: a,b,rfl,by simp[aZ,h.1,f],g⟩
def sA{pre a post:List SL}{n off:Nat}(c:off=pre.length)(b:n=a.length):cut ((pre++a++post).map SL.val) off n=some (a.map SL.val):=by
 subst c;subst b;unfold cut
 simp_all
def Jd{i6:Type}{c:Prop} [Decidable c](a b:Sem i6):CB P (if c then a else b)=if c then CB P a else CB P b:=by split<;>rfl
def pW{d:Nat}{F:TP->Option (TJ)}(B:∀t ks,F t=some ks->p1 P d t ks):∀(l:List Field) (off:Nat) (ks:TJ),mY F l off=some ks->
  ∀(c a e b:List SL),c.length=off->e.length=off->aZ a ks=true->aZ b ks=true->
   CB P (Op.eqFields d ⟨(c++a).map SL.val⟩ ⟨(e++b).map SL.val⟩ l)=some (D_ a b)
 | [],off,ks,h,c,a,e,b,_,_,m,o=>by
  cases h;cases a with
  |cons _ _=>cases m
  |nil=>cases b with
   |cons _ _=>cases o
   |nil=>rfl
 |f :: l,off,ks,h,c,a,e,b,la,lb,m,o=>by
  simp only[mY]at h;split at h
  next k1 q C H=>
   have q:¬f.name = "_":=of_decide_eq_false q
   have C:=Dp C;obtain⟨J,I,rfl⟩:=Dv.1 h;obtain⟨M,A,N,E⟩:=B _ _ H;obtain⟨g,w,rfl,j,n⟩:=gH m;obtain⟨i,z,rfl,k,p⟩:=gH o;have K:=bR j;have L:=bR k;obtain⟨x,r,s⟩:=mz A (cs:=(c++(g++w)).map SL.val) (off:=f.offset) (ds:=g.map SL.val) (by rw[←EC];exact sA (by omega) (by omega));obtain⟨y,u,v⟩:=mz A (cs:=(e++(i++z)).map SL.val) (off:=f.offset) (ds:=i.map SL.val) (by rw[←EC];exact sA (by omega) (by omega));have G:=E g i x y j k s v;have D:=pW B l (off+k1.length) J I (c++g) w (e++i) z (by simp;omega) (by simp;omega) n p;rw[EC,EC]at D;simp only[Op.eqFields,ne_eq,q,not_false_eq_true,if_true];rw[aU,r];simp only[Dj];rw[aU,u];simp only[Dj];rw[aU,G];simp only[Dj];rw[oZ (by omega)];cases D_ g i with
   |true=>simpa using D
   |false=>rfl
  .cases h
def gz(d:Nat)(t:TP)(c:Array Field)(xs ys:Tl)(i:P.underlying t=some (.struct c))(k:P.stoodInHeld t=false) :
  CB P (Op.equalIn (d+1) t (.agg xs) (.agg ys))=CB P (Op.eqFields d xs ys c.toList):=by
 simp only[Op.equalIn,aU,bi i,Dj,mE,k,D5,if_false];rw[←Array.forIn_toList];generalize c.toList=c;clear i
 induction c with
 |nil=>simp only[List.forIn_nil,Op.eqFields];rfl
 |cons f c j=>
  simp only[qds,Op.eqFields,aU,Jd];split
  .cases e:CB P (part f.type xs f.offset)with
   |none=>simp
   |some a=>
    cases g:CB P (part f.type ys f.offset)with
    |none=>simp[e,g]
    |some b=>
     cases h:CB P (Op.equalIn d f.type a b)with
     |none=>simp[e,g,h]
     |some r=>
      cases r
      .simp[e,g,h,gW]
      .simpa[e,g,h,gW]using j
  .simpa[gW]using j
def eW(d n:Nat)(e:TP)(xs ys:Tl):TC->Sem Bool
 | []=>pure true
 |i :: is=>do
  let a ←part e xs (i*n)
  let b ←part e ys (i*n)
  let r ←Op.equalIn d e a b
  if (!r)=true then pure false else eW d n e xs ys is
def ik(d:Nat)(t e:TP)(n:Nat)(xs ys:Tl)(g:P.underlying t=some (.array n e))(f:∃k,P.underlying e=some k) :
  CB P (Op.equalIn (d+1) t (.agg xs) (.agg ys))=CB P (eW d (P.cellsOf e) e xs ys (range n)):=by
 obtain⟨k,f⟩:=f;simp only[Op.equalIn,aU,bi g,Dj,lu f];rw[Std.Legacy.Range.forIn_eq_forIn_range'];simp only[Std.Legacy.Range.size,Nat.sub_zero,Nat.add_sub_cancel,Nat.div_one];rw[Yv];generalize List.range' 0 n=is;clear g
 induction is with
 |nil=>simp only[List.forIn_nil,eW];rfl
 |cons i is h=>
  simp only[qds,eW,aU,Jd];cases j:CB P (part e xs (i*P.cellsOf e))with
  |none=>simp
  |some a=>
   cases l:CB P (part e ys (i*P.cellsOf e))with
   |none=>simp
   |some b=>
    cases c:CB P (Op.equalIn d e a b)with
    |none=>simp[c]
    |some r=>
     cases r
     .simp[c,gW]
     .simpa[c,gW]using h
def rJ{d:Nat}{e:TP}{p:TJ}(E:p1 P d e p)(l:p.length=P.cellsOf e):∀(n i:Nat) (c a f b:List SL),c.length=i*P.cellsOf e->f.length=i*P.cellsOf e->
  aZ a (replicate n p).flatten=true->aZ b (replicate n p).flatten=true->
   CB P (eW d (P.cellsOf e) e ⟨(c++a).map SL.val⟩ ⟨(f++b).map SL.val⟩ (List.range' i n))=some (D_ a b)
 |0,i,c,a,f,b,_,_,m,o=>by
  cases a with
  |cons _ _=>cases m
  |nil=>cases b with
   |cons _ _=>cases o
   |nil=>rfl
 |n+1,i,c,a,f,b,la,lb,m,o=>by
  rw[o5,w5]at m o;obtain⟨C,h1,D,A⟩:=E;obtain⟨g,w,rfl,j,q⟩:=gH m;obtain⟨h,z,rfl,k,r⟩:=gH o;have G:=bR j;have H:=bR k;obtain⟨x,s,t⟩:=mz h1 (cs:=(c++(g++w)).map SL.val) (off:=i*P.cellsOf e) (ds:=g.map SL.val) (by rw[←EC];exact sA la.symm (by omega));obtain⟨y,u,v⟩:=mz h1 (cs:=(f++(h++z)).map SL.val) (off:=i*P.cellsOf e) (ds:=h.map SL.val) (by rw[←EC];exact sA lb.symm (by omega));have F:=A g h x y j k t v;have B:=rJ ⟨C,h1,D,A⟩ l n (i+1) (c++g) w (f++h) z (by grind) (by grind) q r;rw[EC,EC]at B;simp only[r4,eW];rw[aU,s];simp only[Dj];rw[aU,u];simp only[Dj];rw[aU,F];simp only[Dj];rw[oZ (by omega)];cases D_ g h with
  |true=>simpa using B
  |false=>rfl
def J_{k:LK}(g:k≠.v){a b:List SL}(d:aZ a [k]=true)(e:aZ b [k]=true):∃x y,a=[x]/\b=[y]/\x.is k=true/\y.is k=true:=by
 cases a with
 |nil=>cases d
 |cons x c=>cases c with
  |cons _ _=>simp[aZ]at d
  |nil=>cases b with
   |nil=>cases e
   |cons y f=>cases f with
    |cons _ _=>simp[aZ]at e
    |nil=>simp only[aZ,qdz]at d e;simp_all
def nZ:∀(d:Nat) (t:TP) (ks:TJ),Cz P d t=some ks->p1 P d t ks
 |0,t,ks,h=>by cases h
 |d+1,t,ks,h=>by
  simp only[Cz]at h;split at h
  next k e=>
   cases h;refine⟨false,by simp[x6,e],by simp,λa b x y i j f g=>?_⟩;obtain⟨u,v,rfl,rfl,m,o⟩:=J_ (by simp) i j;rcases f with⟨c,_⟩|⟨_,f⟩
   .cases c
   rcases g with⟨c,_⟩|⟨_,g⟩
   .cases c
   simp only[DD,H6,Hq,and_true]at f g;subst f;subst g;cases u<;>simp only[SL.is,D5]at m;cases v<;>simp only[SL.is,D5]at o;have w:=dJ m;have z:=dJ o;subst w;subst z;simp only[SL.val];rw[rG e];simp[D_,ch,SL.lf,iq]
  next e=>
   cases h;refine⟨false,by simp[x6,e],by simp,λa b x y i j f g=>?_⟩;obtain⟨u,v,rfl,rfl,m,o⟩:=J_ (by simp) i j;rcases f with⟨c,_⟩|⟨_,f⟩
   .cases c
   rcases g with⟨c,_⟩|⟨_,g⟩
   .cases c
   simp only[DD,H6,Hq,and_true]at f g;subst f;subst g;cases u<;>simp only[SL.is,D5]at m<;>cases v<;>simp only[SL.is,D5]at o<;>
   .simp only[SL.val];rw[pS e];simp[D_,ch,SL.lf,iq]
  next r e=>
   split at h
   next H E B=>
    split at h
    next l=>
     cases h;have l:=Dp l;refine⟨true,by simp[x6,e],by simp[l],λa b x y i j f g=>?_⟩;rcases f with⟨_,rfl⟩|⟨c,_⟩
     .rcases g with⟨_,rfl⟩|⟨c,_⟩
      .rw[gz d t r _ _ e E];exact pW (nZ d) r.toList 0 _ B [] a [] b rfl rfl i j
      .cases c
     .cases c
    .cases h
   .cases h
  next n p e=>
   split at h
   next F C=>
    split at h
    next l=>
     simp only[te]at l;have q:=Dp l.1;have D:=Dp l.2;cases h;refine⟨true,by simp[x6,e],by simp_all,λa b x y i j f g=>?_⟩;rcases f with⟨_,rfl⟩|⟨c,_⟩
     .rcases g with⟨_,rfl⟩|⟨c,_⟩
      .have s:=nZ d p F C;have m:∃k,P.underlying p=some k:=by
        obtain⟨G,A,_⟩:=s;unfold x6 at A
        grind
       rw[ik d t p n _ _ e m,Yv];exact rJ s q n 0 [] a [] b (by simp) (by simp) i j
      .cases c
     .cases c
    .cases h
   .cases h
  .cases h
end
section
variable {P:TI}
def J3{a b:Bool}:OU a b=(a==b):=by cases a<;>cases b<;>rfl
def wI{a b:Int}:UL a b=(a==b):=by
 rw[Wm,beq_iff_eq];cases a<;>cases b<;>simp only[UL]
 .rw[Nat.beq_eq];grind
 .simp_all
 .simp_all
 simp_all
def nV:∀ {ks:TJ} {xs ys:Tn} {r:Bool},fF ks xs ys=some r->∃a b:List SL,a.map SL.val=xs/\b.map SL.val=ys/\aZ a ks=true/\aZ b ks=true/\D_ a b=r
 | [],[],[],r,h=>by cases h;exact⟨[],[],rfl,rfl,rfl,rfl,rfl⟩
 | .i k :: ks,.int a x :: xs,.int b y :: ys,r,h=>by
  simp only[fF]at h;split at h
  next r' m n e3=>
   obtain⟨c,d,h1,e,f,g,j⟩:=nV e3;refine⟨.i a x :: c,.i b y :: d,by simp[SL.val,h1],by simp[SL.val,e],by simp[aZ,SL.is,m,f],by simp[aZ,SL.is,n,g],?_⟩;have l:D_ (.i a x :: c) (.i b y :: d)=((x==y)&&D_ c d):=by simp[D_,ch,iq,SL.lf]
   rw[l,j,←wI]
   grind
  .cases h
 | .b :: ks,.bool x :: xs,.bool y :: ys,r,h=>by
  simp only[fF]at h;split at h
  next r' e3=>
   obtain⟨c,d,h1,e,f,g,j⟩:=nV e3;refine⟨.b x :: c,.b y :: d,by simp[SL.val,h1],by simp[SL.val,e],by simp[aZ,SL.is,f],by simp[aZ,SL.is,g],?_⟩;have l:D_ (.b x :: c) (.b y :: d)=((x==y)&&D_ c d):=by simp[D_,ch,iq,SL.lf]
   rw[l,j,←J3]
   grind
  .cases h
def iK:∀ {ks:TJ} {xs ys:Tn} {r:Bool},fF ks xs ys=some r->xs.all scalar=true
 | [],[],[],r,h=>rfl
 | .i k :: ks,.int a x :: xs,.int b y :: ys,r,h=>by
  simp only[fF]at h;split at h
  next r' c d e3=>
   simp only[SC,te];exact⟨rfl,iK e3⟩
  .cases h
 | .b :: ks,.bool x :: xs,.bool y :: ys,r,h=>by
  simp only[fF]at h;split at h
  next r' e3=>
   simp only[SC,te];exact⟨rfl,iK e3⟩
  .cases h
def Mw:∀ {ks:TJ} {xs ys:Tn} {r:Bool},fF ks xs ys=some r->xs.length=ks.length:=by
 intro ks xs ys r h;obtain⟨a,b,c,e,d,f,g⟩:=nV h;rw[←c,FM];exact bR d
def lU:∀ {ks:TJ} {xs:Tn} {r:Bool},fF ks xs xs=some r->r=true
 | [],[],r,h=>by cases h;rfl
 | .i k :: ks,.int a x :: xs,r,h=>by
  simp only[fF]at h;split at h
  next r' c d e3=>
   have:UL x x=true:=by rw[wI];simp
   rw[this]at h;simp only[FL]at h;rw[←h];exact lU e3
  .cases h
 | .b :: ks,.bool x :: xs,r,h=>by
  simp only[fF]at h;split at h
  next r' e3=>
   have:OU x x=true:=by cases x<;>rfl
   rw[this]at h;simp only[FL]at h;rw[←h];exact lU e3
  .cases h
def tQ{i6:Type}{g:i6->PUnit->Sem (ForInStep PUnit)}:∀(l:List i6),(∀x∈l,CB P (g x PUnit.unit)=some (.yield PUnit.unit))->CB P (forIn l PUnit.unit g)=some PUnit.unit
 | [],_=>rfl
 |x :: l,h=>by
  rw[qds,aU,h x M9];exact tQ l λy a=>h y (E2 _ a)
def b6(P:TI)(d:Nat)(t:TP)(ks:TJ):Prop:=∃a,x6 P t=some a/\(if a then P.cellsOf t else 1)=ks.length/\∀(b:Bool) (m:Nat) (cs:Tn) (v:Value),d<=m->cs.length=ks.length->VB a cs v->CB P (Instr.checkKey b m t v)=some ()
def ve{F:TP->Option (TJ)}:∀(d:List Field) (off:Nat) (ks:TJ),mY F d off=some ks->∀f∈d,∃k1,F f.type=some k1/\f.offset+k1.length<=off+ks.length
 | [],off,ks,h,f,c=>by cases c
 |j :: d,off,ks,h,f,c=>by
  simp only[mY]at h;split at h
  next k1 l e k=>
   have e:=Dp e;obtain⟨i,g,rfl⟩:=Dv.1 h;rcases Dy.1 c with rfl|c
   .simp_all
   .obtain⟨m,a,b⟩:=ve d _ i g f c
    grind
  .cases h
def IB:∀(d:Nat) (t:TP) (ks:TJ),Cz P d t=some ks->b6 P d t ks
 |0,t,ks,h=>by cases h
 |d+1,t,ks,h=>by
  simp only[Cz]at h;split at h
  next k e=>
   cases h;refine⟨false,by simp[x6,e],by simp,λb m cs v E _ _=>?_⟩;obtain⟨m,rfl⟩ : ∃l,m=l+1:=⟨m - 1,by omega⟩;unfold Instr.checkKey;rw[aU,bi e];rfl
  next e=>
   cases h;refine⟨false,by simp[x6,e],by simp,λb m cs v E _ _=>?_⟩;obtain⟨m,rfl⟩ : ∃l,m=l+1:=⟨m - 1,by omega⟩;unfold Instr.checkKey;rw[aU,bi e];rfl
  next J e=>
   split at h
   next R Q L=>
    split at h
    next c=>
     cases h;have c:=Dp c;refine⟨true,by simp[x6,e],by simp[c],λb m cs v E y G=>?_⟩;obtain⟨m,rfl⟩ : ∃l,m=l+1:=⟨m - 1,by omega⟩;rcases G with⟨_,rfl⟩|⟨u,_⟩
     case inr=>cases u
     unfold Instr.checkKey;rw[aU,bi e];simp only[Dj];rw[←Array.forIn_toList];have:=tQ (P:=P) (g:=λf _=>if f.name ≠ "_" then(do Instr.checkKey b m f.type (←part f.type ⟨cs⟩ f.offset);pure (ForInStep.yield PUnit.unit))else pure (ForInStep.yield PUnit.unit)) J.toList (λf z=>by
      obtain⟨K,B,O⟩:=ve J.toList 0 _ L f z;rw[Jd];split
      .obtain⟨s,q,I,r⟩:=IB d f.type K B;have w:cut cs f.offset (if s then P.cellsOf f.type else 1)=some ((cs.drop f.offset).take K.length):=by
        unfold cut
        simp_all
       obtain⟨x,H,j⟩:=mz q w;rw[aU];rw[H];simp only[Dj];rw[aU,r b m _ x (by omega) (by simp;omega) j];rfl
      .rfl)
     simp_all
    .cases h
   .cases h
  next n a e=>
   split at h
   next p B=>
    split at h
    next c=>
     simp only[te]at c;have C:=Dp c.1;have M:=Dp c.2;cases h;refine⟨true,by simp[x6,e],by simp_all,λb m cs v E y G=>?_⟩;obtain⟨m,rfl⟩ : ∃l,m=l+1:=⟨m - 1,by omega⟩;rcases G with⟨_,rfl⟩|⟨u,_⟩
     case inr=>cases u
     obtain⟨s,q,I,r⟩:=IB d a p B;have F:∃k,P.underlying a=some k:=by
      unfold x6 at q
      grind
     obtain⟨N,F⟩:=F;unfold Instr.checkKey;rw[aU,bi e];simp only[Dj];rw[Std.Legacy.Range.forIn_eq_forIn_range'];simp only[Std.Legacy.Range.size,Nat.sub_zero,Nat.add_sub_cancel,Nat.div_one];have o:cs.length=n*p.length:=by simp_all
     have:=tQ (P:=P) (g:=λi _=>(do Instr.checkKey b m a (←part a ⟨cs⟩ (i*(←sizeOf a)));pure (ForInStep.yield PUnit.unit))) (List.range' 0 n) (λi A=>by
      have A:i<n:=by simpa using A
      have D:i*P.cellsOf a+p.length<=cs.length:=by
       rw[o,←C];have:=QS p.length (Nat.succ_le_of_lt A)
       grind
      have w:cut cs (i*P.cellsOf a) (if s then P.cellsOf a else 1)=some ((cs.drop (i*P.cellsOf a)).take p.length):=by
       unfold cut;rw[I,n_ D]
      obtain⟨x,H,j⟩:=mz q w;rw[aU,lu F];simp only[Dj];rw[aU,H];simp only[Dj];rw[aU,r b m _ x (by omega) (by simp;omega) j];rfl)
     simp_all
    .cases h
   .cases h
  .cases h
def Ky{kt:TP}{k:TR}(h:HQ P kt k=true):jC P kt k=true:=by
 unfold HQ at h;split at h
 next b=>
  split at h
  next B=>
   split at h
   next g n=>
    split at h
    next r i=>
     have o:=Mw i;have s:=lU i;subst s;obtain⟨p,z,A,q⟩:=nZ 10000 kt g n;have l:p=true:=by
      simp_all
     subst l;obtain⟨a,c,t,u,v,w,x⟩:=nV i;have e:=q a c (.agg b) (.agg b) v w (.inl ⟨rfl,by rw[t]⟩) (.inl ⟨rfl,by rw[u]⟩);rw[x]at e;have f:CB P (Op.equal kt (.agg b) (.agg b))=some true:=e;obtain⟨j,y,_,m⟩:=IB 10000 kt g n;have d:j=true:=by
      simp_all
     subst d;unfold jC;rw[m true 10000 b.toList (.agg b) (x5 _) o (.inl ⟨rfl,rfl⟩),m false 10000 b.toList (.agg b) (x5 _) o (.inl ⟨rfl,rfl⟩),f];have:gk (.agg b)=true:=iK i;rw[this];rfl
    .exact h
   .exact h
  .exact h
 .exact h
def HP(a:Bool)(xs:Tn)(x:Value):Prop:=(a=true/\x = .agg ⟨xs⟩)∨(a=false/\∃b,xs=x :: b)
def SN(P:TI)(d:Nat)(t:TP)(ks:TJ):Prop:=
 ∃a,x6 P t=some a/\(if a then P.cellsOf t else 1)=ks.length/\∀(xs ys:Tn) (x y:Value) (r:Bool),v_ ks xs ys=some r->HP a xs x->HP a ys y->CB P (Op.equalIn d t x y)=some r
def lR:∀ {k1 a:TJ} {xs ys:Tn} {r:Bool},v_ (k1++a) xs ys=some r->
  ∃c,v_ k1 (xs.take k1.length) (ys.take k1.length)=some c/\(c=false->r=false)/\(c=true->v_ a (xs.drop k1.length) (ys.drop k1.length)=some r)
 | [],a,xs,ys,r,h=>by
  refine⟨true,by simp only[v_],(λq=>Bool.noConfusion q),λ_=>?_⟩;simpa using h
 | .i k :: k1,a,xs,ys,r,h=>by
  cases xs with
  |nil=>simp[v_]at h
  |cons x xs=>cases ys with
   |nil=>cases x<;>simp[v_]at h
   |cons y ys=>
    cases x<;>first|(simp[v_]at h;done)|skip
    cases y<;>first|(simp[v_]at h;done)|skip
    simp only[DC,v_]at h;simp only[Wk,ih,f2,v_];split at h
    next d e=>
     split at h
     next e3=>
      exact lR h
     simp_all
    .cases h
 | .b :: k1,a,xs,ys,r,h=>by
  cases xs with
  |nil=>simp[v_]at h
  |cons x xs=>cases ys with
   |nil=>cases x<;>simp[v_]at h
   |cons y ys=>
    cases x<;>first|(simp[v_]at h;done)|skip
    cases y<;>first|(simp[v_]at h;done)|skip
    simp only[DC,v_]at h;simp only[Wk,ih,f2,v_];split at h
    next e3=>
     exact lR h
    simp_all
 | .v :: k1,a,xs,ys,r,h=>by simp[v_]at h
def Uw{k:LK}{ks:TJ}{xs ys:Tn}{r:Bool}(h:v_ (k :: ks) xs ys=some r):∃x b y a,xs=x :: b/\ys=y :: a:=by
 cases xs with
 |nil=>cases k<;>simp[v_]at h
 |cons x xs=>cases ys with
  |nil=>cases k<;>cases x<;>simp[v_]at h
  |cons y ys=>simp_all
def La{t:TP}{a:Bool}(h:x6 P t=some a){cs:Tn}{off n:Nat}(b:(if a then P.cellsOf t else 1)=n)(c:a=false->∃x f,(cs.drop off).take n=x :: f) :
  ∃v,CB P (part t ⟨cs⟩ off)=some v/\HP a ((cs.drop off).take n) v:=by
 have e:∃d,P.underlying t=some d:=by
  unfold x6 at h
  grind
 obtain⟨d,e⟩:=e;unfold part;rw[aU,Ab h];simp only[Dj];cases a with
 |true=>
  simp only[if_true]at b ⊢;subst b;refine⟨.agg ⟨(cs.drop off).take (P.cellsOf t)⟩,?_,.inl ⟨rfl,rfl⟩⟩;rw[aU,lu e];simp only[Dj,gW,FL,Value.agg.injEq]
  simp_all
 |false=>
  obtain⟨x,f,i⟩:=c rfl;simp only[D5,if_false]at b ⊢;subst b;refine⟨x,?_,.inr ⟨rfl,f,i⟩⟩;have g:(cs.drop off)[0]?=some x:=by
   have:((cs.drop off).take 1)[0]?=some x:=by rw[i];rfl
   grind
  rw[t1,u2]at g;have:(⟨cs⟩ : Array Value)[off]?=some x:=by simpa using g
  rw[this];rfl
def yG{d:Nat}{t:TP}{k1 l:TJ}(u:SN P d t k1){xs ys:Tn}{off:Nat}{r:Bool}(h:v_ (k1++l) (xs.drop off) (ys.drop off)=some r)(s:Bool->Sem Bool){r':Bool}
  (E:v_ l (xs.drop (off+k1.length)) (ys.drop (off+k1.length))=some r->CB P (s true)=some r) (v:CB P (s false)=some false) (w:r'=r) :
  (CB P (part t ⟨xs⟩ off)).bind (λa=>(CB P (part t ⟨ys⟩ off)).bind λb=>(CB P (Op.equalIn d t a b)).bind λq=>CB P (s q))=some r':=by
 subst w;obtain⟨n,j,e,p⟩:=u;obtain⟨m,i,o,e3⟩:=lR h;have c:n=false->(∃x f,(xs.drop off).take k1.length=x :: f)/\∃x f,(ys.drop off).take k1.length=x :: f:=by
  intro g;subst g;simp only[D5,if_false]at e;cases k1 with
  |nil=>cases e
  |cons k F=>
   obtain⟨x,f,y,z,G,H⟩:=Uw i
   grind
 obtain⟨x,A,B⟩:=La j (cs:=xs) (off:=off) e λh=>(c h).1;obtain⟨y,C,D⟩:=La j (cs:=ys) (off:=off) e λh=>(c h).2;rw[A];simp only[Dj];rw[C];simp only[Dj];rw[p _ _ x y m i B D];simp only[Dj];cases m with
 |true=>
  simp_all
 |false=>rw[o rfl];exact v
def nm{d:Nat}{F:TP->Option (TJ)}(g:∀t ks,F t=some ks->SN P d t ks):∀(a:List Field) (off:Nat) (ks:TJ),mY F a off=some ks->
  ∀(xs ys:Tn) (r:Bool),v_ ks (xs.drop off) (ys.drop off)=some r->CB P (Op.eqFields d ⟨xs⟩ ⟨ys⟩ a)=some r
 | [],off,ks,h,xs,ys,r,b=>by
  cases h;simp only[v_,FL]at b;subst b;rfl
 |f :: a,off,ks,h,xs,ys,r,b=>by
  simp only[mY]at h;split at h
  next k1 c e i=>
   have c:¬f.name = "_":=of_decide_eq_false c
   have e:=Dp e;obtain⟨k,j,rfl⟩:=Dv.1 h;simp only[Op.eqFields,ne_eq,c,not_false_eq_true,if_true,aU];rw[e];exact yG (g _ _ i) b (λq=>if (!q)=true then pure false else Op.eqFields d ⟨xs⟩ ⟨ys⟩ a) (λh=>by simpa using nm g a _ k j xs ys r h) rfl rfl
  .cases h
def pV{d:Nat}{e:TP}{c:TJ}(f:SN P d e c)(b:c.length=P.cellsOf e):∀(n i:Nat) (xs ys:Tn) (r:Bool),
  v_ (replicate n c).flatten (xs.drop (i*P.cellsOf e)) (ys.drop (i*P.cellsOf e))=some r->CB P (eW d (P.cellsOf e) e ⟨xs⟩ ⟨ys⟩ (List.range' i n))=some r
 |0,i,xs,ys,r,a=>by
  simp only[List.replicate_zero,List.flatten_nil,v_,FL]at a;subst a;rfl
 |n+1,i,xs,ys,r,a=>by
  rw[o5,w5]at a;simp only[r4,eW,aU];refine yG f a (λq=>if (!q)=true then pure false else eW d (P.cellsOf e) e ⟨xs⟩ ⟨ys⟩ (List.range' (i+1) n)) (λh=>?_) rfl rfl;have:=pV f b n (i+1) xs ys r (by grind);simpa using this
def ph:∀(d:Nat) (t:TP) (ks:TJ),Cz P d t=some ks->SN P d t ks
 |0,t,ks,h=>by cases h
 |d+1,t,ks,h=>by
  simp only[Cz]at h;split at h
  next k e=>
   cases h;refine⟨false,by simp[x6,e],by simp,λxs ys x y r a c f=>?_⟩;rcases c with⟨h0,_⟩|⟨_,A,rfl⟩
   .cases h0
   rcases f with⟨h0,_⟩|⟨_,ty,rfl⟩
   .cases h0
   cases x<;>first|(simp[v_]at a;done)|skip
   cases y<;>first|(simp[v_]at a;done)|skip
   simp only[v_]at a;split at a
   next g i=>
    have g:=dJ g;have i:=dJ i;subst g;subst i;rw[rG e,←wI]
    grind
   .cases a
  next e=>
   cases h;refine⟨false,by simp[x6,e],by simp,λxs ys x y r a c f=>?_⟩;rcases c with⟨h0,_⟩|⟨_,A,rfl⟩
   .cases h0
   rcases f with⟨h0,_⟩|⟨_,ty,rfl⟩
   .cases h0
   cases x<;>first|(simp[v_]at a;done)|skip
   cases y<;>first|(simp[v_]at a;done)|skip
   simp only[v_]at a;rw[pS e,←J3]
   grind
  next m e=>
   split at h
   next C v q=>
    split at h
    next b=>
     cases h;have b:=Dp b;refine⟨true,by simp[x6,e],by simp[b],λxs ys x y r a c f=>?_⟩;rcases c with⟨_,rfl⟩|⟨h0,_⟩
     .rcases f with⟨_,rfl⟩|⟨h0,_⟩
      .rw[gz d t m _ _ e v];exact nm (ph d) m.toList 0 _ q xs ys r a
      .cases h0
     .cases h0
    .cases h
   .cases h
  next n j e=>
   split at h
   next z s=>
    split at h
    next b=>
     simp only[te]at b;have l:=Dp b.1;have u:=Dp b.2;cases h;refine⟨true,by simp[x6,e],by simp_all,λxs ys x y r a c f=>?_⟩;rcases c with⟨_,rfl⟩|⟨h0,_⟩
     .rcases f with⟨_,rfl⟩|⟨h0,_⟩
      .have o:=ph d j z s;have w:∃k,P.underlying j=some k:=by
        obtain⟨B,p,_⟩:=o;unfold x6 at p
        grind
       rw[ik d t j n _ _ e w,Yv];exact pV o l n 0 xs ys r (by simpa using a)
      .cases h0
     .cases h0
    .cases h
   .cases h
  .cases h
def uX{kt:TP}{ks:TJ}{cs:Tl}(d:∀(xs ys:Tn) (x y:TR) (r:Bool),v_ ks xs ys=some r->HP true xs x->HP true ys y->CB P (Op.equalIn 10000 kt x y)=some r) :
  ∀(a:Tj) (i:Nat) (r:Ts),jA ks cs.toList a i=some r->∃q,CB P (Instr.findAsking kt (.agg cs) (a.map bB) i)=some q/\q.map (·.1)=r
 | [],i,r,h=>by cases h;exact⟨none,rfl,rfl⟩
 |e :: a,i,r,h=>by
  simp only[jA]at h;split at h
  next ds f=>
   have g:∀b,v_ ks cs.toList ds.toList=some b->CB P (Op.equal kt (.agg cs) (bB e).key)=some b:=by
    intro b c;have:=d cs.toList ds.toList (.agg cs) (.agg ds) b c (.inl ⟨rfl,rfl⟩) (.inl ⟨rfl,rfl⟩);show CB P (Op.equalIn 10000 kt (.agg cs) e.key)=some b;rw[f];exact this
   have j:CB P (Instr.findAsking kt (.agg cs) ((e :: a).map bB) i)=(CB P (Op.equal kt (.agg cs) (bB e).key)).bind λb=>CB P (if b then pure (some (i,(bB e).val))else Instr.findAsking kt (.agg cs) (a.map bB) (i+1)):=by
    show CB P (Op.equal kt (.agg cs) (bB e).key >>= λb=>if b then pure (some (i,(bB e).val))else Instr.findAsking kt (.agg cs) (a.map bB) (i+1))=_;rw[aU]
   split at h
   next c=>
    cases h;refine⟨some (i,(bB e).val),?_,rfl⟩;rw[j,g true c];rfl
   next c=>
    obtain⟨q,k,l⟩:=uX d a (i+1) r h
    simp_all
   .cases h
  .cases h
def yR(kt:TP)(k:TR)(b:Tj):uW P kt k b=sQ P kt k b:=by
 unfold uW;split
 next f=>
  simp only[nX];split
  next o a j=>
   split
   next r h=>
    obtain⟨p,g,u,i⟩:=ph 10000 kt o j;rw[a]at g;cases g;obtain⟨q,v,w⟩:=uX (P:=P) (kt:=kt) i b 0 r h;have c:∃d,P.underlying kt=some d/\∀x,Instr.sameNow d (.agg f) x=none:=by
     unfold x6 at a;split at a
     next t e=>exact⟨_,e,λx=>by simp[Instr.sameNow]⟩
     next n s e=>exact⟨_,e,λx=>by simp[Instr.sameNow]⟩
     .cases a
     .cases a
    obtain⟨d,c,m⟩:=c;unfold sQ Instr.findKey;rw[aU,bi c];simp only[Dj];cases b with
    |nil=>
     cases h;rfl
    |cons e l=>
     have:Instr.findNow d (.agg f) ((e :: l).map bB) 0=none:=by
      simp only[DD];unfold Instr.findNow;rw[m]
     simp_all
   .rfl
  .rfl
 .rfl
end
section
variable [Cf] [C8] {R HT:Type} {A:A_ R HT} {X:Cv} {Sg:Td} {holds:R->Prop} {abs:HT->Tu}
variable {ev:Env} {g9:St} {h:HT} {o:Oper} {K:KN R HT}
def SL.nv:SL->Prop
 | .v _=>False
 |_=>True
def SL.MU{l:SL}(h:l.nv):scalar l.val=true:=by cases l<;>first|rfl|exact h.elim
def SL.nv_den{l:SL}(h:l.nv):F0 l.val=l.val:=by cases l<;>first|rfl|exact h.elim
def tE{x:S0}(h:∀l∈x.cells,l.nv):plain x.val=true/\FS x.val=x.val:=by
 cases x with
 |leaf l=>
  have a:=h l (by simp[S0.cells]);cases l<;>first|exact⟨rfl,rfl⟩|exact a.elim
 |agg b=>
  refine⟨?_,?_⟩
  .simp only[S0.val,plain,A5,CH];rintro _ ⟨l,a,rfl⟩;simp[jL,SL.MU (h l a)]
  .simp only[S0.val,FS,Value.agg.injEq];apply u9.1;rw[qdl,SD];refine Yy λl a=>?_;exact SL.nv_den (h l a)
def sc:∀ {cs:List SL} {ks:TJ},aZ cs ks=true->se ks=true->∀l∈cs,l.nv
 | [],[],_,_,l,a=>by cases a
 |c :: cs,k :: ks,h1,b,l,a=>by
  simp only[aZ,te]at h1;simp only[se,SC,te]at b;rcases Dy.1 a with rfl|a
  .cases l<;>first|trivial|(cases k<;>first|(simp at b;done)|(simp[SL.is]at h1;done))
  .exact sc h1.2 b.2 l a
 | [],_ :: _,h,_,_,_=>by cases h
 |_ :: _,[],h,_,_,_=>by cases h
def gI{d:BinOp}{t m:TP}{x y:TK}{a b u:TR}(c:o.op = .binOp d t x y m)(e:h9 g9.tmps x=a)(f:h9 g9.tmps y=b)(g:plain a=true/\FS a=a)(i:plain b=true/\FS b=b)
  (j:plain u=true/\FS u=u) (k:∀w,(eqGuard d t x y a b).run X.C.P w = .ok () w) (l:∀w,(binOp d t a b).run X.C.P w = .ok u w):nu X.C g9.tmps o u:=by
 refine⟨by rw[c];rfl,?_,j.1,λw=>?_⟩
 .rw[c];simp[Op.operands,e,f,g.1,i.1]
 .simp only[execOp,c,e,f,g.2,i.2,Sem.run_bind,k w,Result.andThen_ok,l w,Sem.run_pure,j.2]
def px{d:BinOp}{t:TP}{x y:TK}{k c:TL}{a b:Int}{P:TI}(w:TS):(eqGuard d t x y (.int k a) (.int c b)).run P w = .ok () w:=by
 unfold eqGuard;split<;>rfl
def qW{c:BinOp}{t:TP}{x y:TK}{a b:Bool}{P:TI}(w:TS):(eqGuard c t x y (.bool a) (.bool b)).run P w = .ok () w:=by
 unfold eqGuard;split<;>rfl
def vn{c:BinOp}{t:TP}{x y:TK}{a b:ByteArray}{P:TI}(w:TS):(eqGuard c t x y (.string a) (.string b)).run P w = .ok () w:=by
 unfold eqGuard;split<;>rfl
def LD(a b:ByteArray):(a.toList==b.toList)=Mp a.data.toList b.data.toList:=by
 rw[Wm,yM,beq_iff_eq,ByteArray.toList_eq,ByteArray.toList_eq]
def qi{x y:TR}{t:Bool}(h:LC x y=some t):∃a b,x = .string a/\y = .string b/\t=Mp a.data.toList b.data.toList:=by
 unfold LC at h
 grind
def Uq{P:TI}{c:BinOp}{k:TL}{a b:Int}{t:Bool}(h:qL c a b=some t)(d:Kt c=false)(ty:TP)(w:TS):(binOp c ty (.int k a) (.int k b)).run P w = .ok (.bool t) w:=by
 cases c<;>simp only[qL,reduceCtorEq,FL]at h<;>subst h<;>simp[binOp,Op.intCmp]
def aB{l:SL}(h:l.g_):(S0.leaf l).g_:=λm a=>by
 simp only[S0.cells,Fm]at a;subst a;exact h
def Zb(hA:nc A X.C Sg X.T holds abs)(q:Rp ev g9)(z:abs h=g9.heap){W:BinOp}{t yt:TP}{x y:TK}{a b:S0}(D:o.op = .binOp W t x y yt)
  (hx:BN ev x=some a) (hy:BN ev y=some b) (g:holds (Za A X o.dst W t a b ev h K)):Cy X holds abs o g9 K:=by
 obtain⟨j,ga⟩:=q.BN hx;obtain⟨p,gb⟩:=q.BN hy;unfold Za at g;split at g
 next k n k' m=>
  simp only[S0.val,SL.val]at j p;have F:∀(k:TL) (n:Int),plain (.int k n)=true/\FS (.int k n) = .int k n:=λ_ _=>⟨rfl,rfl⟩;split at g
  .obtain⟨r,S,f⟩:=hA.E5 _ _ _ _ _ _ g;exact cD q z (s:=.st (.leaf (.i k r))) (aB trivial) (gI D j p (F _ _) (F _ _) (F _ _) (λw=>px w) (λw=>S _ _ w)) f
  next hs G V=>
   have e:=dJ G;subst e;obtain⟨r,S,f⟩:=hA.cmp _ _ _ _ g;exact cD q z (s:=.st (.leaf (.b r))) (aB trivial) (gI D j p (F _ _) (F _ _) ⟨rfl,rfl⟩ (λw=>px w) (λw=>Uq S hs _ w)) f
  next hs G V=>
   have e:=dJ G;subst e;obtain⟨r,S,f⟩:=hA.w7 _ _ _ _ _ g;exact cD q z (s:=.st (.leaf (.i k r))) (aB trivial) (gI D j p (F _ _) (F _ _) (F _ _) (λw=>px w) (λw=>S _ _ w)) f
  .exact absurd g hA.fail
 next Y Z=>
  split at g
  next ks hf al an=>
   split at g
   next V=>
    simp only[te]at V;obtain⟨⟨I,J⟩,L⟩:=V;have O:=tE (x:=.agg Y) (sc I L);have Q:=tE (x:=.agg Z) (sc J L);obtain⟨ag,g1,g2,g3⟩:=nZ 10000 t ks hf;have N:∀w,(eqGuard W t x y (S0.val (.agg Y)) (S0.val (.agg Z))).run X.C.P w = .ok () w:=λw=>run_eqGuard_agg w W t x y _ _ al;have ad:ag=true:=by
     simp_all
    subst ad;have M:=g3 Y Z _ _ I J (.inl ⟨rfl,rfl⟩) (.inl ⟨rfl,rfl⟩);split at g
    .have f:=hA.eqs _ _ g;refine cD q z (s:=.st (.leaf (.b _))) (aB trivial) (gI D j p O Q ⟨rfl,rfl⟩ N λw=>?_) f;rw[S0.val,S0.val,run_eql_struct,gT M];rfl
    .have f:=hA.eqs _ _ g;refine cD q z (s:=.st (.leaf (.b _))) (aB trivial) (gI D j p O Q ⟨rfl,rfl⟩ N λw=>?_) f;rw[S0.val,S0.val,run_neq_struct,gT M];rfl
    .exact absurd g hA.fail
   .exact absurd g hA.fail
  .exact absurd g hA.fail
 next u v=>
  simp only[S0.val,SL.val]at j p;split at g
  next hu=>
   split at g
   .obtain⟨U,B,f⟩:=hA.h_ _ _ g;obtain⟨c,d,rfl,rfl,rfl⟩:=qi B;refine cD q z (s:=.st (.leaf (.b _))) (aB trivial) (gI D j p ⟨rfl,rfl⟩ ⟨rfl,rfl⟩ ⟨rfl,rfl⟩ (λw=>vn w) λw=>?_) f;simp only[binOp,Op.stringOp,LD];rfl
   .obtain⟨U,B,f⟩:=hA.h_ _ _ g;obtain⟨c,d,rfl,rfl,rfl⟩:=qi B;refine cD q z (s:=.st (.leaf (.b _))) (aB trivial) (gI D j p ⟨rfl,rfl⟩ ⟨rfl,rfl⟩ ⟨rfl,rfl⟩ (λw=>vn w) λw=>?_) f;simp only[binOp,Op.stringOp,LD];rfl
   .exact absurd g hA.fail
  .split at g
   .obtain⟨U,B,f⟩:=hA.h_ _ _ g;obtain⟨B,H⟩:=vK ‹X.C.P.underlying t=some _› B;refine aC q z (s:=.st (.leaf (.b U))) (aB trivial) ?_ f;simp only[ar,D,j,p,B,H,if_true];rfl
   .obtain⟨U,B,f⟩:=hA.h_ _ _ g;obtain⟨B,H⟩:=vK ‹X.C.P.underlying t=some _› B;refine aC q z (s:=.st (.leaf (.b (!U)))) (aB trivial) ?_ f;simp only[ar,D,j,p,B,H,if_true];rfl
   .exact absurd g hA.fail
  .exact absurd g hA.fail
 next u v _ _=>
  split at g
  next hb hu=>
   simp only[te]at hb;have E:∀ {l:SL},l.is .b=true->∃c,l.val = .bool c/\l.lf = .b c:=by
    intro l hl;cases l<;>simp only[SL.is,D5]at hl<;>exact⟨_,rfl,rfl⟩
   obtain⟨c,c1,c2⟩:=E hb.1;obtain⟨d,d1,d2⟩:=E hb.2;simp only[S0.val]at j p;rw[c1]at j;rw[d1]at p;have hq:∀w,(Op.equal t (.bool c) (.bool d)).run X.C.P w = .ok (c==d) w:=λw=>run_equal_bool w t c d hu;split at g
   .have f:=hA.eqs _ _ g;rw[c2,d2]at f;refine cD q z (s:=.st (.leaf (.b _))) (aB trivial) (gI D j p ⟨rfl,rfl⟩ ⟨rfl,rfl⟩ ⟨rfl,rfl⟩ (λw=>qW w) λw=>?_) f;simp only[binOp,Sem.run_bind,hq w,Result.andThen_ok,Sem.run_pure];simp[SV.val,S0.val,SL.val,ch,iq]
   .have f:=hA.eqs _ _ g;rw[c2,d2]at f;refine cD q z (s:=.st (.leaf (.b _))) (aB trivial) (gI D j p ⟨rfl,rfl⟩ ⟨rfl,rfl⟩ ⟨rfl,rfl⟩ (λw=>qW w) λw=>?_) f;simp only[binOp,Sem.run_bind,hq w,Result.andThen_ok,Sem.run_pure];simp[SV.val,S0.val,SL.val,ch,iq]
   .exact absurd g hA.fail
  .exact absurd g hA.fail
 .exact absurd g hA.fail
def j1(hA:nc A X.C Sg X.T holds abs)(d:Rp ev g9)(j:abs h=g9.heap){v:UnOp}{t:TP}{x:TK}(p:o.op = .unOp v t x)
  (g:holds (match (generalizing:=false) v,jw ev x with
  | .not,.st (.leaf (.b t))=>kb o.dst (.st (.leaf (.b (!t)))) ev h K
  | .not,.st (.leaf (.l t))=>kb o.dst (.st (.leaf (.l (!t)))) ev h K
  | .neg,.st (.leaf (.i k n))=>A.w7 .sub k 0 n λn=>kb o.dst (.st (.leaf (.i k n))) ev h K
  |_,_=>A.fail)):Cy X holds abs o g9 K:=by
 have c:∀ {a u:TR},h9 g9.tmps x=a->(plain a=true/\FS a=a)->(plain u=true/\FS u=u)->(∀w,(Op.unary v a).run X.C.P w = .ok u w)->nu X.C g9.tmps o u:=by
  intro a u z B D q;refine⟨by rw[p];rfl,by rw[p];simp[Op.operands,z,B.1],D.1,λw=>?_⟩;simp only[execOp,p,z,B.2,Sem.run_bind,q w,Result.andThen_ok,Sem.run_pure,D.2]
 split at g
 next y e=>
  obtain⟨f,_⟩:=d.jw e (by simp);refine cD d j (s:=.st (.leaf (.b (!y)))) (aB trivial) (c f ⟨rfl,rfl⟩ ⟨rfl,rfl⟩ λw=>?_) g;simp[SV.val,S0.val,SL.val,Op.unary]
 next y e=>
  obtain⟨f,_⟩:=d.jw e (by simp);refine cD d j (s:=.st (.leaf (.l (!y)))) (aB trivial) (c f ⟨rfl,rfl⟩ ⟨rfl,rfl⟩ λw=>?_) g;simp[SV.val,S0.val,SL.val,Op.unary]
 next k n e=>
  obtain⟨f,_⟩:=d.jw e (by simp);obtain⟨r,q,m⟩:=hA.w7 _ _ _ _ _ g;refine cD d j (s:=.st (.leaf (.i k r))) (aB trivial) (c f ⟨rfl,rfl⟩ ⟨rfl,rfl⟩ λw=>?_) m;have:=q X.C.P t w;simp[SV.val,S0.val,SL.val,Op.unary,binOp,Op.intArith]at this ⊢;exact this
 .exact absurd g hA.fail
def Us(hA:nc A X.C Sg X.T holds abs)(g:Rp ev g9)(l:abs h=g9.heap){j f:TP}{x:TK}(d:o.op = .convert j f x)
  (b:holds (match X.C.P.underlying j,X.C.P.underlying f,jw ev x with
  |some (.int _),some (.int k),.st (.leaf (.i _ n))=>A.conv k n λn=>kb o.dst (.st (.leaf (.i k n))) ev h K
  |_,_,_=>A.fail)):Cy X holds abs o g9 K:=by
 split at b
 next r k q n m p e=>
  obtain⟨a,_⟩:=g.jw e (by simp);have c:=hA.conv _ _ _ b
  simp only[SV.val,S0.val,SL.val]at a;refine cD g l (s:=.st (.leaf (.i k _))) (aB trivial) ⟨by rw[d];rfl,by rw[d];simp[Op.operands,a];rfl,rfl,λw=>?_⟩ c;simp only[execOp,d,a];simp[FS,F0,convert,run_underlying m,run_underlying p,Conv.intToInt,SV.val,S0.val,SL.val]
 .exact absurd b hA.fail
end
namespace Sx
section
variable [Cf] [C8] {R HT:Type} {A:A_ R HT} {X:Cv} {Sg:Td} {holds:R->Prop} {abs:HT->Tu}
variable {ev:Env} {g9:St} {h:HT} {o:Oper} {K:KN R HT}
def pO:∀(ix:List (Int×Nat)) (a:Nat) (p:Int×Nat),CX a (ix++[p])=CX a ix+p.1.toNat*p.2
 | [],_,_=>rfl
 |q :: l,a,p=>pO l (a+q.1.toNat*q.2) p
def lm:∀(ix:List (Int×Nat)) (a n:Nat),CX (a+n) ix=CX a ix+n
 | [],_,_=>rfl
 |q :: l,a,n=>by
  simp only[CX];rw[show a+n+q.1.toNat*q.2=a+q.1.toNat*q.2+n by omega];exact lm l _ n
def xy(hA:nc A X.C Sg X.T holds abs)(b:Rp ev g9)(d:abs h=g9.heap){x:TK}(i:o.op = .nilCheck x)
  (c:holds (match jw ev x with
  | .st (.leaf (.v p))=>A.h_ (CW p) λq=>A.k_ q (kb o.dst (.st (.leaf (.v q))) ev h K)
  | .Gu s off=>kb o.dst (.Gu s off) ev h K
  | .Io s off=>kb o.dst (.Io s off) ev h K
  |_=>A.fail)):Cy X holds abs o g9 K:=by
 split at c
 next p e=>
  obtain⟨a,_⟩:=b.jw e (by simp);simp only[SV.val,S0.val,SL.val]at a;obtain⟨q,j,f⟩:=hA.h_ _ _ c;obtain⟨k,g⟩:=hA.k_ _ _ f;refine aC b d (s:=.st (.leaf (.v q))) (aB k) ?_ g;simp only[ar,i,a];unfold CW at j;split at j<;>cases j<;>rfl
 next s off e=>
  obtain⟨a,_⟩:=b.jw e (by simp);exact aC b d (s:=.Gu s off) trivial (by simp only[ar,i,a,SV.val]) c
 next s off e=>
  obtain⟨a,_⟩:=b.jw e (by simp);exact aC b d (s:=.Io s off) trivial (by simp only[ar,i,a,SV.val]) c
 .exact absurd c hA.fail
def uU(hA:nc A X.C Sg X.T holds abs)(l:Rp ev g9)(n:abs h=g9.heap){t:TP}{x:TK}{f:Nat}(E:o.op = .fieldAddr t x f)
  (i:holds (lV A X o.dst t x f ev h K)):Cy X holds abs o g9 K:=by
 unfold lV at i;split at i
 next H F=>
  split at i
  next m B=>
   have c:∀ {b d:Nat} {z:Ts},Nat.beq (X.C.P.cellsOf m.type) 0=false->h9 g9.tmps x = .pointer (some ⟨b,d,z⟩)->
     ar X.C X.a_ (h9 g9.tmps) o=some (.val (.pointer (some ⟨b,d+m.offset,z⟩))):=by
    intro b d z g G;have g:¬X.C.P.cellsOf m.type=0:=λe=>by rw[e]at g;cases g
    simp only[ar,E,G,gn,F,B,qs g,EA]
   split at i
   next s d g e=>
    obtain⟨k,_⟩:=l.jw e (by simp);exact aC l n (s:=.Gu s (d+m.offset)) trivial (c g k) i
   next s d g e=>
    obtain⟨k,_⟩:=l.jw e (by simp);exact aC l n (s:=.Io s (d+m.offset)) trivial (c g k) i
   next s j y g e=>
    obtain⟨k,_⟩:=l.jw e (by simp);refine aC l n (s:=.Iq s (j+m.offset) y) trivial ?_ i;rw[c g k,SV.val,lm]
   next s j y g e=>
    obtain⟨k,_⟩:=l.jw e (by simp);refine aC l n (s:=.Ki s (j+m.offset) y) trivial ?_ i;rw[c g k,SV.val,lm]
   next p g e=>
    obtain⟨k,_⟩:=l.jw e (by simp);simp only[SV.val,S0.val,SL.val]at k;obtain⟨q,r,u⟩:=hA.h_ _ _ i;obtain⟨D,w⟩:=hA.k_ _ _ u;refine aC l n (s:=.st (.leaf (.v q))) (aB D) ?_ w;unfold Dg at r;split at r
    next a=>
     cases r;exact c g k
    .cases r
   .exact absurd i hA.fail
  .exact absurd i hA.fail
 .exact absurd i hA.fail
def kK{i:TK}{n:Nat}(h:IG i=some n):intOf (h9 g9.tmps i)=some (n:Int):=by
 unfold IG at h;split at h
 .cases h;simp[h9,flat,gk,scalar,Am.intOf]
 .cases h
def vr{len:Nat}{j:Int}{u:Unit}(h:EU len j=some u):0<=j/\j<(len:Int):=by
 rw[Pr]at h
 simp_all
def ZZ{p_:Nat}{x q:TR}{i:Int}(h:A2 p_ x i=some q) :
  ∃a len cx,x = .slice (some a) len cx/\(0<=i/\i<(len:Int))/\q = .pointer (some ⟨a.block,a.off+i.toNat*p_,if a.spot=some 1 then some 1 else none⟩):=by
 rw[qY]at h
 grind
def vt(hA:nc A X.C Sg X.T holds abs)(w:Rp ev g9)(G:abs h=g9.heap){t:TP}{x i:TK}(W:o.op = .indexAddr t x i)
  (d:holds (lX A X o.dst t x i ev h K)):Cy X holds abs o g9 K:=by
 unfold lX at d;split at d
 next E e S=>
  have c:∀ {b r:Nat} {U:Ts} {j:Int},Nat.beq (X.C.P.cellsOf e) 0=false->h9 g9.tmps x = .pointer (some ⟨b,r,U⟩)->intOf (h9 g9.tmps i)=some j->0<=j->j<(E:Int)->
    ar X.C X.a_ (h9 g9.tmps) o=some (.val (.pointer (some ⟨b,r+j.toNat*X.C.P.cellsOf e,U⟩))):=by
   intro b r U j f hx hi Y g;have f:¬X.C.P.cellsOf e=0:=λe=>by rw[e]at f;cases f
   simp only[ar,W,hx,fm,hi,S,qs f,n_ (And.intro Y g),EA]
  have z:∀ {k:TL} {j:Int},jw ev i = .st (.leaf (.i k j))->intOf (h9 g9.tmps i)=some j:=by
   intro k j Q;obtain⟨g,_⟩:=w.jw Q (by simp);rw[g];rfl
  simp only at d;split at d
  next s r n f y L=>
   obtain⟨g,_⟩:=w.jw y (by simp);split at d
   next B=>
    have B:n<E:=by simp_all
    refine aC w G (s:=.Gu s (r+n*X.C.P.cellsOf e)) trivial ?_ d;rw[c f g (kK L) (by omega) (by omega)];simp[SV.val]
   .exact absurd d hA.fail
  next s r n f y L=>
   obtain⟨g,_⟩:=w.jw y (by simp);split at d
   next B=>
    have B:n<E:=by simp_all
    refine aC w G (s:=.Io s (r+n*X.C.P.cellsOf e)) trivial ?_ d;rw[c f g (kK L) (by omega) (by omega)];simp[SV.val]
   .exact absurd d hA.fail
  next s l M n f y L=>
   obtain⟨g,_⟩:=w.jw y (by simp);split at d
   next B=>
    have B:n<E:=by simp_all
    refine aC w G (s:=.Iq s (l+n*X.C.P.cellsOf e) M) trivial ?_ d;rw[c f g (kK L) (by omega) (by omega)];simp[SV.val,lm]
   .exact absurd d hA.fail
  next s l M n f y L=>
   obtain⟨g,_⟩:=w.jw y (by simp);split at d
   next B=>
    have B:n<E:=by simp_all
    refine aC w G (s:=.Ki s (l+n*X.C.P.cellsOf e) M) trivial ?_ d;rw[c f g (kK L) (by omega) (by omega)];simp[SV.val,lm]
   .exact absurd d hA.fail
  next s r k j f y F _=>
   obtain⟨g,_⟩:=w.jw y (by simp);obtain⟨u,D,m⟩:=hA.h_ _ _ d;obtain⟨I,J⟩:=vr D;exact aC w G (s:=.Iq s r [(j,X.C.P.cellsOf e)]) trivial (by rw[c f g (z F) I J];rfl) m
  next s r k j f y F _=>
   obtain⟨g,_⟩:=w.jw y (by simp);obtain⟨u,D,m⟩:=hA.h_ _ _ d;obtain⟨I,J⟩:=vr D;exact aC w G (s:=.Ki s r [(j,X.C.P.cellsOf e)]) trivial (by rw[c f g (z F) I J];rfl) m
  next s l M k j f y F _=>
   obtain⟨g,_⟩:=w.jw y (by simp);obtain⟨u,D,m⟩:=hA.h_ _ _ d;obtain⟨I,J⟩:=vr D;exact aC w G (s:=.Iq s l (M++[(j,X.C.P.cellsOf e)])) trivial (by rw[c f g (z F) I J,SV.val,pO]) m
  next s l M k j f y F _=>
   obtain⟨g,_⟩:=w.jw y (by simp);obtain⟨u,D,m⟩:=hA.h_ _ _ d;obtain⟨I,J⟩:=vr D;exact aC w G (s:=.Ki s l (M++[(j,X.C.P.cellsOf e)])) trivial (by rw[c f g (z F) I J,SV.val,pO]) m
  next p k j f y F=>
   obtain⟨g,_⟩:=w.jw y (by simp);simp only[SV.val,S0.val,SL.val]at g;obtain⟨q,H,m⟩:=hA.h_ _ _ d;obtain⟨Z,O⟩:=hA.k_ _ _ m;unfold Ph at H;split at H
   next a=>
    split at H
    next N=>
     cases H;exact aC w G (s:=.st (.leaf (.v _))) (aB Z) (c f g (z F) N.1 N.2) O
    .cases H
   .cases H
  .exact absurd d hA.fail
 next e S=>
  simp only at d;split at d
  next p k j f y F=>
   obtain⟨g,_⟩:=w.jw y (by simp);obtain⟨V,_⟩:=w.jw F (by simp);simp only[SV.val,S0.val,SL.val]at g V;obtain⟨q,H,m⟩:=hA.h_ _ _ d;have f:¬X.C.P.cellsOf e=0:=λe=>by rw[e]at f;cases f
   obtain⟨a,E,cx,rfl,N,rfl⟩:=ZZ H;refine aC w G (s:=.st (.leaf (.v _))) (aB ?_) ?_ m
   .show aJ _=true;by_cases Q:a.spot=some 1<;>simp[Q,aJ,l_,aV,bF,bo,aR,aD]
   .simp only[ar,W,g,V,fm,Am.intOf,S,qs f,n_ N,EA];rfl
  .exact absurd d hA.fail
 .exact absurd d hA.fail
def zM{C:ke}{t:TP}{i:Bool}{cs ds:List SL}{off:Nat}{x:S0}(a:x6 C.P t=some i)(b:DP cs off (if i then C.P.cellsOf t else 1)=some ds)(l:Gx i ds=some x) :
  xI C t ⟨cs.map SL.val⟩ off=some x.val/\x.cells=ds:=by
 obtain⟨k,c⟩:=pJ l;refine⟨?_,k⟩;unfold DP at b;unfold x6 at a;unfold xI;split at a
 next p e=>
  cases a;simp only[if_true]at b;split at b
  next g=>
   cases b;rcases c with⟨_,c⟩|⟨f,_⟩
   .simp_all
   .cases f
  .cases b
 next n m e=>
  cases a;simp only[if_true]at b;split at b
  next g=>
   cases b;rcases c with⟨_,c⟩|⟨f,_⟩
   .simp_all
   .cases f
  .cases b
 next d q r e=>
  cases a;simp only[D5,if_false]at b;split at b
  next g=>
   cases b;rcases c with⟨f,_⟩|⟨_,c⟩
   .cases f
   .rw[e];have j:off<cs.length:=by omega
    rw[SB j]at c
    grind
  .cases b
 .cases a
def O4(hA:nc A X.C Sg X.T holds abs)(j:Rp ev g9)(u:abs h=g9.heap){t:TP}{x:TK}{f:Nat}(w:o.op = .field t x f)
  (a:holds (match X.C.P.underlying t,jw ev x with
  |some (.struct i),.st (.agg cs)=>match i[f]? with
   |some c=>match (x6 X.C.P c.type).bind (λd=>(DP cs c.offset (if d then X.C.P.cellsOf c.type else 1)).bind (Gx d))with
    |some x=>kb o.dst (.st x) ev h K
    |none=>A.fail
   |none=>A.fail
  |_,_=>A.fail)):Cy X holds abs o g9 K:=by
 split at a
 next i cs y e=>
  obtain⟨p,n⟩:=j.jw e (by simp);split at a
  next c v=>
   split at a
   next z b=>
    obtain⟨d,g,b⟩:=EB.1 b;obtain⟨B,k,b⟩:=EB.1 b;obtain⟨q,r⟩:=zM g k b;refine aC j u (s:=.st z) (λl m=>?_) ?_ a
    .rw[r]at m;exact n l ((oQ k).2 l m)
    .simp only[ar,w,p,SV.val,S0.val,uT,y,v,Dj,q,EA]
   .exact absurd a hA.fail
  .exact absurd a hA.fail
 .exact absurd a hA.fail
def AS(hA:nc A X.C Sg X.T holds abs)(b:Rp ev g9)(f:abs h=g9.heap){t:TK}{i:Nat}(g:o.op = .extract t i)
  (a:holds (match jw ev t with
  | .Jz xs=>match xs[i]? with
   |some x=>kb o.dst (.st x) ev h K
   |none=>A.fail
  |_=>A.fail)):Cy X holds abs o g9 K:=by
 split at a
 next xs e=>
  obtain⟨d,c,k⟩:=b.jw e (by simp);split at a
  next x j=>
   refine aC b f (s:=.st x) (c x (Cb j)) ?_ a;simp only[ar,g,d,SV.val]
   grind
  .exact absurd a hA.fail
 .exact absurd a hA.fail
def xe(hA:nc A X.C Sg X.T holds abs)(c:Rp ev g9)(k:abs h=g9.heap){f:Fn}{first cap:Array Operand}(m:o.op = .makeFunc f first cap)
  (d:holds (match (generalizing:=false) f,CE ev first.toList,CE ev cap.toList with
  | .func g,some a,some b=>A.k_ (.func (.func g) ⟨ak a⟩ ⟨ak b⟩) (kb o.dst (.st (.leaf (.v (.func (.func g) ⟨ak a⟩ ⟨ak b⟩)))) ev h K)
  |_,_,_=>A.fail)):Cy X holds abs o g9 K:=by
 split at d
 next g a b _ i j=>
  obtain⟨n,_⟩:=c.CE i;obtain⟨p,_⟩:=c.CE j;obtain⟨l,e⟩:=hA.k_ _ _ d;refine aC c k (s:=.st (.leaf (.v _))) (aB l) ?_ e;simp only[ar,m,SV.val,S0.val,SL.val,FL,DM.val.injEq,Value.func.injEq,true_and]
  grind
 .exact absurd d hA.fail
def ml(b:Rp ev g9){r:Th}{x:Tt}(h:EX ev r=some x):(r=none/\x=none)∨∃y k n,r=some y/\h9 g9.tmps y = .int k n/\x=some n:=by
 unfold EX at h;split at h
 .simp_all
 next y=>
  split at h
  next k n e=>
   cases h;obtain⟨a,_⟩:=b.jw e (by simp);exact .inr ⟨y,k,n,rfl,a,rfl⟩
  .cases h
def dS(b:Rp ev g9){r:Th}{x:Tt}(h:EX ev r=some x):iy (r.map (h9 g9.tmps))=some x:=by
 rcases ml b h with⟨rfl,rfl⟩|⟨y,k,n,rfl,a,rfl⟩
 .rfl
 .simp[a,iy]
def me(hA:nc A X.C Sg X.T holds abs)(d:Rp ev g9)(j:abs h=g9.heap){t:TP}{r:Th}(l:o.op = .makeMap t r)
  (b:holds (match py X.C t (r.map λ_=>.int .i64 0),EX ev r with
  |true,some _=>A.new (.map [] 0) h λn h=>kb o.dst (.st (.leaf (.v (.map (some n))))) ev h K
  |_,_=>A.fail)):Cy X holds abs o g9 K:=by
 split at b
 next x g e=>
  obtain⟨m,c,a⟩:=hA.new _ _ _ b;rw[j]at c a;refine dh d c (s:=.st (.leaf (.v (.map (some g9.heap.length))))) (aB rfl) (f:=λH=>some (H++[.map [] 0],.map (some H.length))) ?_ rfl a;have:py X.C t (r.map (h9 g9.tmps))=true:=by
   rcases ml d e with⟨rfl,rfl⟩|⟨y,k,n,rfl,i,rfl⟩
   .rfl
   .simp only[EA,py,i]at g ⊢;exact g
  simp only[ar,l,this,if_true]
 .exact absurd b hA.fail
def cT(n p_ a b:Nat):aJ (.slice (some ⟨n,0,le p_⟩) a b)=true:=by
 simp[aJ,l_,aV,bF,bo,aR,aD,le]
def vD(hA:nc A X.C Sg X.T holds abs)(j:Rp ev g9)(I:abs h=g9.heap){t:TP}{l c:TK}(L:o.op = .makeSlice t l c)
  (b:holds (match X.C.P.underlying t,jw ev l,jw ev c with
  |some (.slice e),.st (.leaf (.i _ l)),.st (.leaf (.i _ c))=>match X.C.P.info? e with
   |some a=>match Nat.beq a.size 0||Nat.blt 4096 a.bytes,(lN a).bind Hd with
    |false,some z=>A.h_ (DS l c) λ_=>
      A.new (.cells (aN (z.cells.map SL.val) c.toNat) a.size true) h λn h=>kb o.dst (.st (.leaf (.v (.slice (some ⟨n,0,le a.size⟩) l.toNat (c.toNat+1))))) ev h K
    |_,_=>A.fail
   |none=>A.fail
  |_,_,_=>A.fail)):Cy X holds abs o g9 K:=by
 split at b
 next e N Q O D M E F=>
  obtain⟨G,_⟩:=j.jw E (by simp);obtain⟨H,_⟩:=j.jw F (by simp);split at b
  next a J=>
   split at b
   next z y r=>
    obtain⟨W,w,x⟩:=EB.1 r;obtain⟨S,U,_⟩:=tT x;obtain⟨u,p,m⟩:=hA.h_ _ _ b;obtain⟨V,B,g⟩:=hA.new _ _ _ m;rw[I]at B g;unfold DS at p;split at p
    next d=>
     simp only[F']at y;have q:¬a.size=0:=λe=>by simp_all
     have k:a.bytes<=4096:=by
      have:=y.2;rw[←Gb,Gf]at this;omega
     refine dh j B (s:=.st (.leaf (.v _))) (aB (cT _ _ _ _)) (f:=dz X.C t (.int N Q) (.int O D)) ?_ ?_ g
     .simp only[ar,L,G,H];rfl
     .simp only[dz,Am.intOf,M,J,qs q,w];rw[n_ ⟨d.1,d.2.1,d.2.2,k⟩,←S,S0.C_ U];rfl
    .cases p
   .exact absurd b hA.fail
  .exact absurd b hA.fail
 .exact absurd b hA.fail
def sq(hA:nc A X.C Sg X.T holds abs)(E:Rp ev g9)(O:abs h=g9.heap){t:TP}{n:Nat}{u:Array (Nat×Operand)}(U:o.op = .buildSlice t n u)
  (b:holds (match X.C.P.underlying t,CE ev (u.toList.map (·.2))with
  |some (.slice e),some xs=>match X.C.P.info? e with
   |some a=>match Nat.beq a.size 0||Nat.blt 16777216 (n*a.size),(lN a).bind Hd with
    |false,some z=>match sO (λi=>some (i*a.size,a.size)) (replicate n z.cells).flatten ((u.toList.map (·.1)).zip xs)with
     |some cs=>A.new (.cells (cs.map SL.val) a.size true) h λm h=>kb o.dst (.st (.leaf (.v (.slice (some ⟨m,0,le a.size⟩) n (n+1))))) ev h K
     |none=>A.fail
    |_,_=>A.fail
   |none=>A.fail
  |_,_=>A.fail)):Cy X holds abs o g9 K:=by
 split at b
 next e xs V N=>
  split at b
  next a S=>
   split at b
   next z J y=>
    obtain⟨zv,B,D⟩:=EB.1 y;obtain⟨z1,M,_⟩:=tT D;split at b
    next cs Q=>
     obtain⟨h',L,r⟩:=hA.new _ _ _ b;rw[O]at L r;obtain⟨W,F⟩:=E.CE N;have Z:∀c∈(replicate n z.cells).flatten,c.g_:=by
      intro c w;obtain⟨l,G,w⟩:=List.mem_flatten.1 w;rw[List.mem_replicate]at G;rw[G.2]at w;exact M c w
     have g:=sP _ _ _ _ (uq (is:=u.toList.map (·.1)) F) Q;simp only[F']at J;obtain⟨k,d⟩:=J;have k:¬a.size=0:=λe=>by simp_all
     have d:¬n*a.size > 16777216:=by rw[←Gb,Gf]at d;omega
     refine dh E L (s:=.st (.leaf (.v _))) (aB (cT _ _ _ _))
      (f:=λH=>some (H++[.cells (cs.map SL.val) a.size true],.slice (some ⟨H.length,0,le a.size⟩) n (n+1))) ?_ rfl r
     have q:(u.toList.all λp=>(h9 g9.tmps p.2).cells.toList.all bg)=true:=by
      rw[A5];intro p hp;have I:h9 g9.tmps p.2∈ak xs:=by
       grind
      simp only[ak,CH]at I;obtain⟨x,Y,e⟩:=I;rw[←e];exact S0.FY (F x Y)
     have j:(aN zv.cells.toList n).toArray=⟨((replicate n z.cells).flatten).map SL.val⟩:=by
      rw[←z1,S0.C_ M];simp[aN,List.map_flatten]
     simp only[ar,U,q,if_true,fz,V,S];rw[qs k,qs d];simp only[B];rw[rX W,j,g];rfl
    .exact absurd b hA.fail
   .exact absurd b hA.fail
  .exact absurd b hA.fail
 .exact absurd b hA.fail
end
end Sx
namespace Sx
section
variable [Cf] [C8] {R HT:Type} {A:A_ R HT} {X:Cv} {Sg:Td} {holds:R->Prop} {abs:HT->Tu}
variable {ev:Env} {g9:St} {h:HT} {o:Oper} {K:KN R HT}
def OI{cs ds:List SL}{off n:Nat}(h:DP cs off n=some ds):ds.length=n:=by
 unfold DP at h
 grind
def BW{a:Bool}{ds:List SL}{n:Nat}(b:ds.length=(if a then n else 1)):∃x,Gx a ds=some x:=by
 cases a with
 |true=>exact⟨_,rfl⟩
 |false=>
  simp only[D5,if_false]at b
  match ds,b with
  | [d],_=>exact⟨_,rfl⟩
def Ps(hA:nc A X.C Sg X.T holds abs)(m:Rp ev g9)(S:abs h=g9.heap){t:TP}{x i:TK}{w:TN}(V:o.op = .index t x i)
  (a:holds (match X.C.P.underlying t,jw ev x,jw ev i with
  |some (.array len e),.st (.agg cs),.st (.leaf (.i _ j))=>match x6 X.C.P e with
   |some n=>match OU n (kq (nI w))&&uw cs (Hh (nI w)) 0 [(j,X.C.P.cellsOf e)]&&Nat.beq (if n then X.C.P.cellsOf e else 1) (Hh (nI w)).length with
    |false=>A.fail
    |true=>A.h_ (EU len j) λ_=>A.h_ (jZ (cs.map SL.lf) 0 [(j,X.C.P.cellsOf e)] (if n then X.C.P.cellsOf e else 1)) λls=>H8 A o.dst (nI w) ls ev h K
   |none=>A.fail
  |some .string,.st (.leaf (.v (.string s))),.st (.leaf (.i _ j))=>A.h_ (Ia s j) λb=>kb o.dst (.st (.leaf (.i .u8 b))) ev h K
  |_,_,_=>A.fail)):Cy X holds abs o g9 K:=by
 split at a
 next len e cs k j M E F=>
  obtain⟨d,Q⟩:=m.jw E (by simp);obtain⟨f,_⟩:=m.jw F (by simp);split at a
  next n G=>
   split at a
   .exact absurd a hA.fail
   next r=>
    simp only[te]at r;obtain⟨⟨B,c2⟩,D⟩:=r;have B:=OV B;have D:=Dp D;obtain⟨u,H,g⟩:=hA.h_ _ _ a;obtain⟨b1,b2⟩:=vr H;obtain⟨ls,hp,J⟩:=hA.h_ _ _ g;obtain⟨ds,p,rfl⟩:=zQ hp;have q:ds.length=(if n then X.C.P.cellsOf e else 1):=OI p;obtain⟨y,W⟩:=BW q;obtain⟨Z,p2⟩:=zM G p W;obtain⟨m1,Y⟩:=pJ W;rw[D]at p;rw[B]at Y;obtain⟨z,N,O,L⟩:=Lp hA (nJ c2 p) (λc r=>Q c ((oQ p).2 c r)) Y J;refine aC m S (s:=.st z) O ?_ L;have I:mZ X.C t (.agg ⟨cs.map SL.val⟩) (.int k j)=some y.val:=by
     have:CX 0 [(j,X.C.P.cellsOf e)]=j.toNat*X.C.P.cellsOf e:=by simp[CX]
     rw[this]at Z;simp only[mZ,Am.intOf,M,n_ (And.intro b1 b2)];exact Z
    have d:h9 g9.tmps x = .agg ⟨cs.map SL.val⟩:=d;have f:h9 g9.tmps i = .int k j:=f;simp only[ar,V,d,f,I,EA];rw[←N];rfl
  .exact absurd a hA.fail
 next s k j M E F=>
  obtain⟨d,Q⟩:=m.jw E (by simp);obtain⟨f,_⟩:=m.jw F (by simp);obtain⟨b,H,g⟩:=hA.h_ _ _ a;obtain⟨q1,q2⟩:=RA H;have d:h9 g9.tmps x = .string s:=d;have f:h9 g9.tmps i = .int k j:=f;refine aC m S (s:=.st (.leaf (.i .u8 b))) (λl U=>?_) ?_ g
  .simp only[S0.cells,Fm]at U;subst U;trivial
  .have I:mZ X.C t (.string s) (.int k j)=some (.int .u8 b):=by
    simp only[mZ,Am.intOf,M,n_ q1];exact q2
   simp only[ar,V,d,f,I,EA];rfl
 .exact absurd a hA.fail
def ww{P:TI}{d b e:Tk}(h1:∀v,d=some v->∃k,v = .int k 0)(f:∀v,b=some v->∃k,v = .int k 0)(g:∀v,e=some v->∃k,v = .int k 0)(i:e=none∨b.isSome=true)(w:TS) :
  (Instr.sliceBounds true 0 0 d b e).run P w = .ok (0,0,0) w:=by
 have a:∀(k:TL) (c:BoundsCode),(Instr.sliceBound (.int k 0) 0 c).run P w = .ok 0 w:=λk c=>by
  simp[Instr.sliceBound,asIntOf]
 unfold Instr.sliceBounds;cases e with
 |none=>
  cases b with
  |none=>
   cases d with
   |none=>simp
   |some l=>obtain⟨k,rfl⟩:=h1 _ rfl;simp[a]
  |some u=>
   obtain⟨k,rfl⟩:=f _ rfl;cases d with
   |none=>simp[a]
   |some l=>obtain⟨k,rfl⟩:=h1 _ rfl;simp[a]
 |some m=>
  obtain⟨k,rfl⟩:=g _ rfl;cases b with
  |none=>simp_all
  |some u=>
   obtain⟨k,rfl⟩:=f _ rfl;cases d with
   |none=>simp[a]
   |some l=>obtain⟨k,rfl⟩:=h1 _ rfl;simp[a]
def Nk(hA:nc A X.C Sg X.T holds abs)(f:Rp ev g9)(O:abs h=g9.heap){t:TP}{x:TK}{H j D:Th}(E:o.op = .slice t x H j D)
  (p:holds (match X.C.P.underlying t,jw ev x,EX ev H,EX ev j,EX ev D with
  |some (.slice e),.st (.leaf (.v x)),some H,some j,some D=>match Nat.beq (X.C.P.cellsOf e) 0 with
   |true=>A.fail
   |false=>A.h_ (Et (X.C.P.cellsOf e) x H j D) λq=>A.k_ q (kb o.dst (.st (.leaf (.v q))) ev h K)
  |_,_,_,_,_=>A.fail)):Cy X holds abs o g9 K:=by
 split at p
 next e v al ad an Q Z I e3 e4=>
  obtain⟨g,_⟩:=f.jw Z (by simp);simp only[SV.val,S0.val,SL.val]at g;split at p
  .exact absurd p hA.fail
  next B=>
   have B:¬X.C.P.cellsOf e=0:=λe=>by rw[e]at B;cases B
   obtain⟨q,d,L⟩:=hA.h_ _ _ p;obtain⟨hg,u⟩:=hA.k_ _ _ L;have V:=dS f I;have W:=dS f e3;have Y:=dS f e4;unfold Et at d;split at d
   next a ag cx=>
    split at d
    .cases d
    next M=>
     split at d
     next l=>
      cases d;refine aC f O (s:=.st (.leaf (.v _))) (aB hg) ?_ u;simp only[ar,E,g,Ai,V,W,Y,Q,qs B,qs M,n_ l,pQ];rfl
     .cases d
   .split at d
    next l=>
     cases d;have c:∀ {r:Th} {x:Tt},EX ev r=some x->x.getD 0=0->∀v,r.map (h9 g9.tmps)=some v->∃k,v = .int k 0:=by
      intro r x G h0 v hv;rcases ml f G with⟨rfl,rfl⟩|⟨y,k,n,rfl,g,rfl⟩
      .cases hv
      grind
     have F:∀ {r:Th} {x:Tt},EX ev r=some x->∀y,r=some y->plain (h9 g9.tmps y)=true/\FS (h9 g9.tmps y)=h9 g9.tmps y:=by
      intro r x G y S;rcases ml f G with⟨rfl,rfl⟩|⟨U,k,n,rfl,g,rfl⟩
      .cases S
      .cases S;rw[g];exact⟨rfl,rfl⟩
     have b:∀ {r:Th} {x:Tt},EX ev r=some x->r.map (λy=>FS (h9 g9.tmps y))=r.map (h9 g9.tmps):=by
      intro r x G;cases r with
      |none=>rfl
      |some y=>grind
     refine cD f O (s:=.st (.leaf (.v (.slice none 0 0)))) (aB rfl) ⟨by rw[E];rfl,?_,rfl,λw=>?_⟩ u
     .rw[E];simp only[Op.operands,Yw,qdq,te];refine⟨⟨⟨by simp[g];rfl,?_⟩,?_⟩,?_⟩
      .grind
      .grind
      grind
     .have z:D.map (h9 g9.tmps)=none∨(j.map (h9 g9.tmps)).isSome=true:=by
       rcases l.2.2.2 with z|z
       .left;rcases ml f e4 with⟨rfl,rfl⟩|⟨U,k,n,rfl,g,rfl⟩
        .rfl
        .cases z
       .right;rcases ml f e3 with⟨rfl,rfl⟩|⟨U,k,n,rfl,g,rfl⟩
        .cases z
        .rfl
      have J:=ww (P:=X.C.P) (c I l.1) (c e3 l.2.1) (c e4 l.2.2.1) z w;have N:∃i,X.C.P.info? e=some i:=by
       unfold Program.cellsOf at B;cases j:X.C.P.info? e with
       |none=>simp_all
       |some i=>exact⟨i,rfl⟩
      obtain⟨i,j⟩:=N;have m:FS (.slice none 0 0) = .slice none 0 0:=rfl;simp only[execOp,E,g,b I,b e3,b e4,m,Instr.sliceAt,Instr.slice,Sem.run_bind,run_underlying Q,Result.andThen_ok,J,bK j,Sem.run_pure];simp only[SV.val,S0.val,SL.val,m];simp
    .cases d
   .cases d
 .exact absurd p hA.fail
def oL{a:Bool}{v:TR}{cs:Tn}(h:gm a v=some cs):VB a cs v:=by
 unfold gm at h;split at h
 .cases h;exact .inl ⟨rfl,rfl⟩
 .cases h
 .cases h
 .cases h;exact .inr ⟨rfl,rfl⟩
def KK(H:Tu)(id:Nat):G5 (λi=>H[i]?) id=Dq H id:=rfl
def PW{C:ke}{t kt l:TP}{j ok:Bool}{z m k:TR}{H:Tu}{cs:Tn}(q:C.P.underlying t=some (.map kt l))(r:eU C.P l=some z)
  (a:E7 C kt j z m k ok (λi=>H[i]?)=some cs):∃v b d,gm j v=some d/\cs=d++(if ok then [.bool b]else [])/\dK C t m k ok H=some (if ok then .tuple #[v,.bool b]else v):=by
 unfold E7 at a;simp only[yR]at a;unfold dK;rw[q];simp only;split at a
 .cases a
 next e=>
  have e:¬(!jC C.P kt k)=true:=by
   have:=Ky (P:=C.P) (kt:=kt) (k:=k) (by simpa using e);simpa using this
  rw[qs e];simp only[r];split at a
  .obtain⟨d,f,n⟩:=Dv.1 a
   grind
  next id=>
   rw[KK]at a;split at a
   .cases a
   next s c p=>
    simp only[p];split at a
    .cases a
    next g=>
     rw[g];obtain⟨d,f,n⟩:=Dv.1 a
     grind
    next i g=>
     rw[g];simp only;obtain⟨d,f,n⟩:=Dv.1 a;obtain⟨v,u,w⟩:=EB.1 f
     grind
  .cases a
def Be{C:ke}{a_:TC}{a:Tg}{t:TP}{m k:TK}{ok:Bool}(d:o.op = .lookup t m k ok)(H:Tu){v:TR}(b:dK C t (a m) (a k) ok H=some v) :
  ar C a_ a o=some (.val v)∨∃f,ar C a_ a o=some (.ET f)/\f H=some v:=by
 simp only[ar,d];split
 next c=>
  left;rw[c]at b;have:dK C t (.map none) (a k) ok []=dK C t (.map none) (a k) ok H:=rfl;rw[this,b];rfl
 simp_all
def uJ(b:Rp ev g9)(c:abs h=g9.heap){s:SV}(e:s.gd){t:TP}{m k:TK}{ok:Bool}(i:o.op = .lookup t m k ok)
  (j:dK X.C t (h9 g9.tmps m) (h9 g9.tmps k) ok g9.heap=some s.val) (d:holds (kb o.dst s ev h K)):Cy X holds abs o g9 K:=by
 rcases Be (a_:=X.a_) i g9.heap j with a|⟨f,a,g⟩
 .exact aC b c e a d
 .exact kL b c e a g d
def Vs(hA:nc A X.C Sg X.T holds abs)(p:Rp ev g9)(q:abs h=g9.heap){t:TP}{m k:TK}{ok:Bool}{U:TN}(J:o.op = .lookup t m k ok)
  (a:holds (match X.C.P.underlying t,jw ev m,BN ev k with
  |some (.map kt H),.st (.leaf (.v m)),some k=>match eU X.C.P H with
   |some z=>match (generalizing:=false) U,ok with
    | [g],false=>A.ka (.fn (E7 X.C kt (kq g) z m k.val false)) h λcs=>JB A g cs λx r=>A.ts r (kb o.dst (.st x) ev h K)
    | [g,.leaf .b],true=>A.ka (.fn (E7 X.C kt (kq g) z m k.val true)) h λcs=>JB A g cs λx r=>A.DV r λt r=>A.ts r (kb o.dst (.Jz [x,.leaf (.b t)]) ev h K)
    |_,_=>A.fail
   |none=>A.fail
  |_,_,_=>A.fail)):Cy X holds abs o g9 K:=by
 split at a
 next kt H Z kv L Q S=>
  obtain⟨w,_⟩:=p.jw Q (by simp);obtain⟨I,_⟩:=p.BN S;simp only[SV.val,S0.val,SL.val]at w;split at a
  next z N=>
   split at a
   next g=>
    obtain⟨cs,f,c⟩:=hA.ka _ _ _ a;simp only[Pk.run]at f;rw[q]at f;obtain⟨v,b,u,E,j,l⟩:=PW L N f;obtain⟨x,r,n,F,G,d⟩:=rV hA c;obtain⟨D,e⟩:=hA.ts _ _ d;rw[D,GM]at n;simp only[D5,if_false,GM]at j l;have i:=oL E;rw[←j,n]at i;refine uJ p q (s:=.st x) G J ?_ e;rw[w,I,l,←rp F i];rfl
   next g=>
    obtain⟨cs,f,c⟩:=hA.ka _ _ _ a;simp only[Pk.run]at f;rw[q]at f;obtain⟨v,b,u,E,j,l⟩:=PW L N f;obtain⟨x,r,n,F,G,d⟩:=rV hA c;obtain⟨W,r',V,e⟩:=hA.DV _ _ d;obtain⟨D,B⟩:=hA.ts _ _ e;simp only[if_true]at j l;rw[V,D,j]at n;obtain⟨Y,O⟩:=List.append_inj' n rfl;simp only[Hq,Value.bool.injEq,and_true]at O;have i:=oL E;rw[Y]at i;refine uJ p q (s:=.Jz [x,.leaf (.b W)]) ⟨λy M=>?_,x5 2⟩ J ?_ B
    .simp only[Dy,Wl,or_false]at M;rcases M with rfl|rfl
     .exact G
     .exact aB trivial
    .rw[w,I,l,←rp F i,O];rfl
   .exact absurd a hA.fail
  .exact absurd a hA.fail
 .exact absurd a hA.fail
def sT{C:ke}{t kt j:TP}{m k v:TR}{H:Tu}{n:Nat}{b:List Cq}{cs:Tn}(q:C.P.underlying t=some (.map kt j))(f:l_ v=true)(g:aD v=false)
  (a:FH C kt m k v (λi=>H[i]?) n=some (b,cs)):cG C t m k v H=some (ig H b,undef):=by
 unfold FH at a;simp only[yR]at a;unfold cG;split at a
 next id=>
  rw[q];simp only;split at a
  .cases a
  next d=>
   have d:jC C.P kt k=true:=Ky (by simpa using d);rw[qs (by simp[d,f,g])];rw[KK]at a;split at a
   .cases a
   next r c p=>
    simp only[p];split at a
    .cases a
    next e=>
     rw[e];cases a;rfl
    next i e=>
     rw[e];simp only;split at a
     next l=>
      rw[n_ l];cases a;rfl
     .cases a
 .cases a
def zn(hA:nc A X.C Sg X.T holds abs)(a:Rp ev g9)(r:abs h=g9.heap){t:TP}{m k v:TK}(ho:o.op = .mapUpdate t m k v∨o.op = .insert t m k v)
  (b:holds (match X.C.P.underlying t,jw ev m,BN ev k,BN ev v with
  |some (.map kt _),.st (.leaf (.v m)),some k,some v=>A.heap (.fn (FH X.C kt m k.val v.val)) h λ_ h=>kb o.dst .un ev h K
  |_,_,_,_=>A.fail)):Cy X holds abs o g9 K:=by
 split at b
 next kt z w kv x u l n e3=>
  obtain⟨i,_⟩:=a.jw l (by simp);obtain⟨p,_⟩:=a.BN n;obtain⟨q,g⟩:=a.BN e3;simp only[SV.val,S0.val,SL.val]at i;obtain⟨e,y,B,d,j,c⟩:=hA.heap _ _ _ b;simp only[Hp.run]at d;rw[r]at d j;refine dh a j (s:=.un) trivial (f:=cG X.C t w kv.val x.val) ?_ (sT u (S0.l_ g) (S0.DT g) d) c;rcases ho with ho|ho<;>simp only[ar,ho,i,p,q]
 .exact absurd b hA.fail
def BP{C:ke}{t kt e:TP}{d:Bool}{z m k:TR}{H:Tu}{n:Nat}{a:List Cq}{cs:Tn}(g:C.P.underlying t=some (.map kt e))(j:eU C.P e=some z)
  (f:b1 C kt d z m k (λi=>H[i]?) n=some (a,cs)):∃v b c,gm d v=some b/\cs=b++[.int .i64 c]/\iQ C t m k H=some (ig H a,.tuple #[v,.int .i64 c]):=by
 cases f
def PY(hA:nc A X.C Sg X.T holds abs)(b:Rp ev g9)(M:abs h=g9.heap){t:TP}{m k:TK}{Q:TN}(N:o.op = .mapEntry t m k)
  (a:holds (match X.C.P.underlying t,jw ev m,BN ev k with
  |some (.map kt u),.st (.leaf (.v m)),some k=>match eU X.C.P u with
   |some z=>match Q with
    | [p,.leaf (.i .i64)]=>A.heap (.fn (b1 X.C kt (kq p) z m k.val)) h λcs h=>JB A p cs λx r=>A.rv .i64 r λn r=>A.ts r (kb o.dst (.Jz [x,.leaf (.i .i64 n)]) ev h K)
    |_=>A.fail
   |none=>A.fail
  |_,_,_=>A.fail)):Cy X holds abs o g9 K:=by
 split at a
 next kt u V kv S I J=>
  obtain⟨w,_⟩:=b.jw I (by simp);obtain⟨L,_⟩:=b.BN J;simp only[SV.val,S0.val,SL.val]at w;split at a
  next z U=>
   split at a
   next p=>
    obtain⟨q,cs,h',l,E,d⟩:=hA.heap _ _ _ a;simp only[Hp.run]at l;rw[M]at l E;obtain⟨v,H,c,w1,w2,w3⟩:=BP S U l;obtain⟨x,r,F,W,Y,e⟩:=rV hA d;obtain⟨n,r',Z,g⟩:=hA.rv _ _ _ e;obtain⟨O,j⟩:=hA.ts _ _ g;rw[Z,O,w2]at F;obtain⟨u1,G⟩:=List.append_inj' F rfl;simp only[Hq,Value.int.injEq,true_and,and_true]at G;have B:=oL w1;rw[u1]at B;refine dh b E (s:=.Jz [x,.leaf (.i .i64 n)]) ⟨λy D=>?_,x5 2⟩ (f:=iQ X.C t V kv.val) ?_ ?_ j
    .simp only[Dy,Wl,or_false]at D;rcases D with rfl|rfl
     .exact Y
     .exact aB trivial
    .simp only[ar,N,w,L]
    .rw[w3,←rp W B,G];rfl
   .exact absurd a hA.fail
  .exact absurd a hA.fail
 .exact absurd a hA.fail
def ZG{m v:TR}{b:Int}{k:TL}{H:Tu}{n:Nat}{a:List Cq}{cs:Tn}(d:l_ v=true)(e:aD v=false)
  (c:g4 m b v (λi=>H[i]?) n=some (a,cs)):fE m (.int k b) v H=some (ig H a,undef):=by
 cases c
def OT(hA:nc A X.C Sg X.T holds abs)(a:Rp ev g9)(w:abs h=g9.heap){t:TP}{m s v:TK}(x:o.op = .entryStore t m s v)
  (c:holds (match jw ev m,jw ev s,BN ev v with
  | .st (.leaf (.v m)),.st (.leaf (.i _ b)),some v=>A.heap (.fn (g4 m b v.val)) h λ_ h=>kb o.dst .un ev h K
  |_,_,_=>A.fail)):Cy X holds abs o g9 K:=by
 split at c
 next y k b z q r e3=>
  obtain⟨l,_⟩:=a.jw q (by simp);obtain⟨n,_⟩:=a.jw r (by simp);obtain⟨u,j⟩:=a.BN e3;simp only[SV.val,S0.val,SL.val]at l n;obtain⟨g,B,D,e,p,d⟩:=hA.heap _ _ _ c;simp only[Hp.run]at e;rw[w]at e p;refine dh a p (s:=.un) trivial (f:=fE y (.int k b) z.val) ?_ (ZG (S0.l_ j) (S0.DT j) e) d;simp only[ar,x,l,n,u]
 .exact absurd c hA.fail
def Zs{C:ke}{t kt b:TP}{m k:TR}{H:Tu}{n:Nat}{a:List Cq}{cs:Tn}(d:C.P.underlying t=some (.map kt b))
  (c:deG C kt m k (λi=>H[i]?) n=some (a,cs)):oR C t m k H=some (ig H a,undef):=by
 cases c
end
end Sx
namespace Sx
section
variable [Cf] [C8] {R HT:Type} {A:A_ R HT} {X:Cv} {Sg:Td} {holds:R->Prop} {abs:HT->Tu}
variable {ev:Env} {g9:St} {h:HT} {o:Oper} {K:KN R HT}
def oH(C:ke)(p_:Nat)(H:Tu)(x:TR):NH C p_ (λi=>H[i]?) x=dU C H p_ x:=rfl
def YY{C:ke}{t e:TP}{c:TypeInfo}{s x:TR}{H:Tu}{f:List Cq}{cs:Tn}(z:C.P.underlying t=some (.slice e))(w:C.P.info? e=some c)(h0:¬c.size=0)
  (B:(lN c).isNone=false) (b:Ei C c.size c.bytes s x (λi=>H[i]?) H.length=some (f,cs)):∃v,cs=[v]/\gj C t s x H=some (ig H f,v):=by
 unfold Ei at b;unfold gj;simp only[z,w,qs h0,B,D5,if_false];rw[oH]at b;split at b
 .cases b
 next E n q=>
  simp only[q];split at b
  .split at b
   next d=>
    simp only[n_ d];cases b;exact⟨_,rfl,rfl⟩
   next d=>
    simp only[qs d];split at b
    next y=>
     simp only[n_ y];cases b;exact⟨_,rfl,rfl⟩
    .cases b
  next a D M=>
   split at b
   .cases b
   next m=>
    simp only[qs m];split at b
    next O N J u=>
     simp only[u];split at b
     .cases b
     next r=>
      simp only[qs r];split at b
      .cases b
      next F k=>
       simp only[k];split at b
       .split at b
        next d=>
         simp only[n_ d];cases b;exact⟨_,rfl,rfl⟩
        next d=>
         simp only[qs d];split at b
         next l=>
          simp only[n_ l];cases b;refine⟨_,rfl,?_⟩;simp[ig,Cq.on]
         .cases b
       next p=>
        split at b
        next g=>
         simp only[n_ g];split at b
         next j=>
          simp only[n_ j];obtain⟨L,G,I⟩:=Dv.1 b;cases I;exact⟨_,rfl,by simp only[G];rfl⟩
         next j=>
          simp only[qs j];split at b
          next d=>
           simp only[n_ d];cases b;exact⟨_,rfl,rfl⟩
          .cases b
        next g=>
         simp only[qs g];split at b
         next l=>
          simp only[n_ l];cases b;exact⟨_,rfl,rfl⟩
         .cases b
    .cases b
  .cases b
def Zp{C:ke}{t e:TP}{d x:TR}{H:Tu}{n:Nat}{a:List Cq}{cs:Tn}(c:C.P.underlying t=some (.slice e))(h0:¬C.P.cellsOf e=0)
  (b:cpG C (C.P.cellsOf e) d x (λi=>H[i]?) n=some (a,cs)):∃v,cs=[v]/\HD C t d x H=some (ig H a,v):=by
 cases b
def Zj{C:ke}{t e:TP}{x:TR}{z:S0}{H:Tu}{n:Nat}{a:List Cq}{cs:Tn}(c:C.P.underlying t=some (.slice e))(h0:¬C.P.cellsOf e=0)(d:yp C.P e=some z)
  (b:clG (C.P.cellsOf e) (z.cells.map SL.val) x (λi=>H[i]?) n=some (a,cs)):uD C t x H=some (ig H a,undef):=by
 cases b
def tY(hA:nc A X.C Sg X.T holds abs){dst:Tq}{a:SK}(c:kq a=false){v:TR}(b:holds (He A dst a [v] ev h K)):∃x:S0,x.val=v/\x.g_/\holds (kb dst (.st x) ev h K):=
 mJ hA (.inr ⟨c,rfl⟩) b
def AH(hA:nc A X.C Sg X.T holds abs)(G:Rp ev g9)(I:abs h=g9.heap){c:Call}{b:Builtin}{xs:List S0}{sk:SK}(Q:o.op = .call c)(W:c.callee = .builtin b)(hx:CE ev c.args.toList=some xs)
  (d:holds (nM A X o.dst sk b xs c.argTypes ev h K)):Cy X holds abs o g9 K:=by
 obtain⟨hv,hg⟩:=G.CE hx;have q:ar X.C X.a_ (h9 g9.tmps) o=aX X.C (h9 g9.tmps) b (ak xs) c.argTypes o:=by
  simp only[ar,Q,gJ,W,hv]
 have L:∀ys:List S0,(∀y∈ys,∀l∈y.cells,l.nv)->ys=xs->c.args.toList.all (λx=>plain (h9 g9.tmps x))=true/\c.args.map (λx=>FS (h9 g9.tmps x))=⟨ak xs⟩:=by
  intro ys O e;subst e;have S:∀v∈c.args.toList.map (h9 g9.tmps),plain v=true/\FS v=v:=by
   rw[hv];intro v hm;simp only[ak,CH]at hm;obtain⟨y,hm,rfl⟩:=hm;exact tE (O y hm)
  grind
 unfold nM at d;split at d
 next s x t D=>
  split at d
  next e u=>
   split at d
   next Z hi=>
    split at d
    .exact absurd d hA.fail
    next hc=>
     simp only[F']at hc;obtain⟨⟨⟨c1,c2⟩,c3⟩,c4⟩:=hc;have c1:¬Z.size=0:=λe=>by rw[e]at c1;cases c1
     obtain⟨J,cs,h',E,M,j⟩:=hA.heap _ _ _ d;simp only[Hp.run]at E;rw[I]at E M;obtain⟨v,rfl,q3⟩:=YY u hi c1 c2 E;obtain⟨y,rfl,g,r⟩:=tY hA rfl j;refine dh G M (s:=.st y) g (f:=gj X.C t s x) ?_ q3 r;rw[q];simp only[aX,ak,DD,H6,S0.val,SL.val,D]
     grind
   .exact absurd d hA.fail
  .exact absurd d hA.fail
 next x t D=>
  split at d
  next e x' u=>
   obtain⟨n,N,j⟩:=hA.h_ _ _ d;unfold G3 at N;split at N
   next a m cx=>
    cases N;refine aC G I (s:=.st (.leaf (.i .i64 _))) (aB trivial) ?_ j;rw[q];simp only[aX,ak,DD,H6,S0.val,SL.val,D,u];rfl
   .cases N
  next kt et x' u=>
   obtain⟨cs,F,j⟩:=hA.ka _ _ _ d;simp only[Pk.run]at F;rw[I]at F;unfold p0 at F;split at F
   next id=>
    split at F
    next es ck ad=>
     cases F;obtain⟨y,O,g,r⟩:=tY hA rfl j;refine kL G I (s:=.st y) g (f:=λH=>(Dq H id).map λp=>.int .i64 p.1.length) ?_ ?_ r
     .rw[q];simp only[aX,ak,DD,H6,S0.val,SL.val,D,u]
     .simp only[Dq,ad,EA,SV.val,O]
    .cases F
   .cases F
  next n el u=>
   refine aC G I (s:=.st (.leaf (.i .i64 _))) (aB trivial) ?_ d;rw[q];simp only[aX,ak,DD,H6,D,u];rfl
  .exact absurd d hA.fail
 next x t D=>
  split at d
  next e x' u=>
   obtain⟨n,N,j⟩:=hA.h_ _ _ d;unfold Oq at N;split at N
   .cases N;refine aC G I (s:=.st (.leaf (.i .i64 _))) (aB trivial) ?_ j;rw[q];simp only[aX,ak,DD,H6,S0.val,SL.val,D,u];rfl
   .cases N;refine aC G I (s:=.st (.leaf (.i .i64 _))) (aB trivial) ?_ j;rw[q];simp only[aX,ak,DD,H6,S0.val,SL.val,D,u];rfl
   .cases N
  next n el u=>
   refine aC G I (s:=.st (.leaf (.i .i64 _))) (aB trivial) ?_ d;rw[q];simp only[aX,ak,DD,H6,D,u];rfl
  .exact absurd d hA.fail
 next s x t D=>
  split at d
  next e u=>
   split at d
   .exact absurd d hA.fail
   next U=>
    have U:¬X.C.P.cellsOf e=0:=λe=>by rw[e]at U;cases U
    obtain⟨J,cs,h',E,M,j⟩:=hA.heap _ _ _ d;simp only[Hp.run]at E;rw[I]at E M;obtain⟨v,rfl,q3⟩:=Zp u U E;obtain⟨y,rfl,g,r⟩:=tY hA rfl j;refine dh G M (s:=.st y) g (f:=HD X.C t s x) ?_ q3 r;rw[q];simp only[aX,ak,DD,H6,S0.val,SL.val,D]
  .exact absurd d hA.fail
 next m k t D=>
  split at d
  next kt et u=>
   obtain⟨J,cs,h',E,M,j⟩:=hA.heap _ _ _ d;simp only[Hp.run]at E;rw[I]at E M;refine dh G M (s:=.un) trivial (f:=oR X.C t m k.val) ?_ (Zs u E) j;rw[q];simp only[aX,ak,DD,H6,S0.val,SL.val,D]
  .exact absurd d hA.fail
 next s t D=>
  split at d
  next e u=>
   split at d
   next z Y U=>
    have Y:¬X.C.P.cellsOf e=0:=λe=>by simp_all
    obtain⟨J,cs,h',E,M,j⟩:=hA.heap _ _ _ d;simp only[Hp.run]at E;rw[I]at E M;refine dh G M (s:=.un) trivial (f:=uD X.C t s) ?_ (Zj u Y U E) j;rw[q];simp only[aX,ak,DD,H6,S0.val,SL.val,D]
   .exact absurd d hA.fail
  .exact absurd d hA.fail
 next k a k' V=>
  split at d
  next B=>
   have B:=dJ B;subst B;obtain⟨t,S,j⟩:=hA.cmp _ _ _ _ d;have r:=hA.FO _ _ _ _ j;simp only[qL,FL]at S;subst S;obtain⟨p1,p2⟩:=L _ (λy O l F=>by
    simp only[Dy,Wl,or_false]at O;rcases O with rfl|rfl<;>(simp only[S0.cells,Fm]at F;subst F;trivial)) rfl
   refine cD G I (s:=.st (.leaf (.i k _))) (aB trivial) ⟨by rw[Q];rfl,?_,rfl,λw=>?_⟩ r
   .rw[Q];simp only[Op.operands,Call.operands,W];simpa using p1
   .simp only[execOp,Q,resolve,W,Sem.run_bind,p2];simp only[Sem.run_pure,Result.andThen_ok,invoke,builtin,ak,DD,H6,S0.val,SL.val,Sem.run_bind];rw[show(⟨[Value.int k a,Value.int k V]⟩ : Array Value) = #[Value.int k a,Value.int k V]from rfl,run_min_int2];simp[SV.val,S0.val,SL.val,FS,F0]
  .exact absurd d hA.fail
 next k a k' V=>
  split at d
  next B=>
   have B:=dJ B;subst B;obtain⟨t,S,j⟩:=hA.cmp _ _ _ _ d;have r:=hA.FO _ _ _ _ j;simp only[qL,FL]at S;subst S;obtain⟨p1,p2⟩:=L _ (λy O l F=>by
    simp only[Dy,Wl,or_false]at O;rcases O with rfl|rfl<;>(simp only[S0.cells,Fm]at F;subst F;trivial)) rfl
   refine cD G I (s:=.st (.leaf (.i k _))) (aB trivial) ⟨by rw[Q];rfl,?_,rfl,λw=>?_⟩ r
   .rw[Q];simp only[Op.operands,Call.operands,W];simpa using p1
   .simp only[execOp,Q,resolve,W,Sem.run_bind,p2];simp only[Sem.run_pure,Result.andThen_ok,invoke,builtin,ak,DD,H6,S0.val,SL.val,Sem.run_bind];rw[show(⟨[Value.int k a,Value.int k V]⟩ : Array Value) = #[Value.int k a,Value.int k V]from rfl,run_max_int2];simp[SV.val,S0.val,SL.val,FS,F0]
  .exact absurd d hA.fail
 .exact absurd d hA.fail
end
end Sx
namespace Sx
section
variable [Cf] [C8] {R HT:Type} {A:A_ R HT} {X:Cv} {Sg:Td} {holds:R->Prop} {abs:HT->Tu}
variable {ev:Env} {g9:St} {h:HT} {o:Oper} {K:KN R HT}
def MK(x:S0):cN [x]=x.cells.map SL.lf:=by simp[cN]
def ya(hA:nc A X.C Sg X.T holds abs)(p:Rp ev g9){sks:TN}{w:TG}{ys:List S0}(D:Told sks w ys){H':Tu}(q:abs h=H')
  (i:NY X.C X.a_ o g9 (({ g9 with heap:=H' }:St).put o.dst (gl (ak ys)))) (k:holds (Nh A o.dst sks w ev h K)):Cy X holds abs o g9 K:=by
 obtain⟨c,rfl,z⟩:=D;unfold Nh at k;split at k
 next E=>
  obtain⟨x,r,j,e,d⟩:=JC hA k;obtain⟨n,g⟩:=hA.u4 _ _ d;rw[n,GM]at j
  match ys,c with
  | [y],c=>
   simp only[cE,qdz]at c;rw[MK]at j;obtain⟨t,u⟩:=S0.Px c e j;refine dH p H' q (s:=.st x) (u (z y (by simp))) ?_ g;rw[show(SV.st x).val=gl (ak [y])from by simp[SV.val,ak,gl,t]];exact i
  | [],c=>cases c
  |_ :: _ :: _,c=>simp[cE]at c
 .obtain⟨n,d⟩:=hA.u4 _ _ k
  match ys,c with
  | [],_=>exact dH p H' q (s:=.un) trivial i d
  |_ :: _,c=>cases c
 next B v=>
  obtain⟨m,r,j,e,d⟩:=qk hA k;obtain⟨n,g⟩:=hA.u4 _ _ d;rw[n,GM]at j;obtain⟨t,u⟩:=cV c e j;have f:2<=m.length:=by
   match m,e with
   | [],e=>cases sks with
    |nil=>exact absurd rfl v
    |cons _ _=>cases e
   | [x],e=>cases sks with
    |nil=>exact absurd rfl v
    |cons a l=>cases l with
     |nil=>exact absurd rfl (B _)
     |cons _ _=>simp[cE]at e
   |_ :: _ :: _,_=>simp
  refine dH p H' q (s:=.Jz m) ⟨u z,f⟩ ?_ g;have:(SV.Jz m).val=gl (ak ys):=by
   rw[t]
   match m,f with
   |a :: b :: l,_=>rfl
  rw[this];exact i
def L3{xs:List S0}(a:∀x∈xs,x.g_):(ak xs).all l_=true:=by
 simp only[ak,A5,CH];rintro _ ⟨x,b,rfl⟩;exact S0.l_ (a x b)
def Uh(hA:nc A X.C Sg X.T holds abs)(n:Rp ev g9)(w:abs h=g9.heap){c:Call}{z:TN}(x:o.op = .call c)
  (a:holds (match CE ev c.args.toList with
  |some xs=>match c.callee with
   | .builtin b=>nM A X o.dst (nI z) b xs c.argTypes ev h K
   | .value f=>match jw ev f with
    | .st (.leaf (.v v))=>match f with
     | .func g=>match Sg g with
      |some sg=>match cE xs sg.ps with
       |true=>A.call g (cN xs) h λr h=>Nh A o.dst sg.rs r ev h K
       |false=>A.fail
      |none=>A.fail
     |_=>A.A7 v (ak xs) z h λr h=>Nh A o.dst z r ev h K
    |_=>A.fail
   |_=>A.fail
  |none=>A.fail)):Cy X holds abs o g9 K:=by
 split at a
 next xs G=>
  obtain⟨F,O⟩:=n.CE G;have q:=L3 O;split at a
  next b M=>
   exact AH hA n w x M G a
  next f E=>
   split at a
   next v N=>
    obtain⟨t,J⟩:=n.jw N (by simp);simp only[SV.val,S0.val,SL.val]at t;have L:aJ v=true:=J (.v v) (by simp[S0.cells]);have k:∀ {g:TQ} {first d:Tl},v = .func (.func g) first d->ar X.C X.a_ (h9 g9.tmps) o=some (.call g (first.toList++ak xs++d.toList)):=by
     intro g first d e
     subst e;simp only[ar,x,gJ,E,F,q,t,(eG.1 L).1,DJ,D5,if_false,if_true]
    split at a
    next g=>
     have e:v = .func (.func g) #[] #[]:=by
      have:=t;simp only[h9]at this;exact this.symm
     split at a
     next sg B=>
      split at a
      next y=>
       obtain⟨r,s,⟨P,S,u,p,⟨j,H,U⟩,I,D⟩,i⟩:=hA.call _ _ _ _ a;rw[B]at p;cases p;obtain⟨Q,_⟩:=cV y j H.symm;rw[w]at D;refine ya hA n I rfl (.inl ⟨_,k e,gl (ak u),abs s,?_,rfl⟩) i;rw[Q];show jE X.C g _ _ _ _;simpa using D
      .exact absurd a hA.fail
     .exact absurd a hA.fail
    .obtain⟨r,s,⟨u,p,j⟩,i⟩:=hA.A7 _ _ _ _ _ a;rw[w]at j;rcases j with⟨g,first,d,e,j⟩|⟨l,e,j⟩
     .exact ya hA n p rfl (.inl ⟨_,k e,gl (ak u),abs s,j,rfl⟩) i
     .have m:ar X.C X.a_ (h9 g9.tmps) o=some (.yield l (ak xs)):=by
       subst e;simp only[ar,x,gJ,E,F,q,t,DJ,D5,if_false];rfl
      exact ya hA n p rfl (.inl ⟨_,m,gl (ak u),abs s,j,rfl⟩) i
   .exact absurd a hA.fail
  .exact absurd a hA.fail
 .exact absurd a hA.fail
def s6(hA:nc A X.C Sg X.T holds abs)(j:Rp ev g9)(p:abs h=g9.heap){L:TN}(g:holds (R' A X Sg o L ev h K)):Cy X holds abs o g9 K:=by
 unfold R' at g;split at g
 next x d=>
  split at g
  .exact absurd g hA.fail
  next D=>exact KO j p (.inl d) rfl (λe=>D e) g
 next x d=>
  split at g
  .exact absurd g hA.fail
  next D=>exact KO j p (.inr d) rfl (λe=>D e) g
 next c a b d=>exact V9 hA j p d g
 next t d=>
  split at g
  next x q=>
   obtain⟨z,u,w,I⟩:=AB q;exact KR hA j p I (by simp only[ar,d,u,Dj,w]) (.inr d) g
  .exact absurd g hA.fail
 next t y d=>
  split at g
  next x q=>
   obtain⟨u,w⟩:=j.jw q (by simp);exact KR hA j p w (by simp only[ar,d,u];rfl) (.inl ⟨y,d⟩) g
  .exact absurd g hA.fail
 next t N d=>exact Oo hA j p d g
 next t n N d=>exact sq hA j p d g
 next t a d=>
  split at g
  next E B=>
   split at g
   next J=>exact Vq hA j p d B (OV J) g
   .exact absurd g hA.fail
  .exact absurd g hA.fail
 next t a y d=>
  split at g
  next x q=>exact Rz hA j p d q g
  .exact absurd g hA.fail
 next x d=>exact xy hA j p d g
 next M t x y Y d=>
  split at g
  next a b G H=>exact Zb hA j p d G H g
  .exact absurd g hA.fail
 next M t x d=>exact j1 hA j p d g
 next W O x d=>exact Us hA j p d g
 next P first F d=>exact xe hA j p d g
 next t r d=>exact me hA j p d g
 next t l c d=>exact vD hA j p d g
 next t x S Q U d=>exact Nk hA j p d g
 next t x f d=>exact uU hA j p d g
 next t x i d=>exact vt hA j p d g
 next t x f d=>exact O4 hA j p d g
 next t x i d=>exact Ps hA j p d g
 next t m k V d=>exact Vs hA j p d g
 next t m k v d=>exact zn hA j p (.inl d) g
 next t m k v d=>exact zn hA j p (.inr d) g
 next t m k d=>exact PY hA j p d g
 next t m s v d=>exact OT hA j p d g
 next t i d=>exact AS hA j p d g
 next c d=>exact Uh hA j p d g
 .exact absurd g hA.fail
def NM(X:Cv)(holds:R->Prop)(abs:HT->Tu)(ops:To)(i:Nat)(o:Oper)(g9:St)(K:KN R HT):Prop:=
 ∃b a h',ao X.C (uB X.C) X.a_ ops i g9 b/\Rp a b/\abs h'=b.heap/\Fr o.dst.toList (vL X.a_ o).toList (jY X.a_ o).toList g9 b/\holds (K a h')
def Q4(c:Rp ev g9){d:Nat}{t:Bool}(f:ev.tm.getD d .no = .st (.leaf (.b t))):Rp ⟨ev.tm.set d (.st (.leaf (.l t))),ev.lc⟩ g9:=by
 obtain⟨e,_⟩:=c.at f (by simp);refine⟨by simp[c.len],λi x a=>?_,c.Ea,c.row⟩;simp only[GC]at a;split at a
 next g=>
  subst g;split at a
  .cases a;exact⟨e,aB trivial⟩
  .cases a
 .exact c.val i x a
def zF(hA:nc A X.C Sg X.T holds abs)(f:Rp ev g9)(v:abs h=g9.heap){ops:To}{i:Nat}{x:TN}(w:ops[i]?=some o)(a:holds (hQ A X Sg ops o x ev h K)):NM X holds abs ops i o g9 K:=by
 have g:∀ {ev:Env},Rp ev g9->cv ops g9.tmps o=some true->holds (R' A X Sg o x ev h K)->NM X holds abs ops i o g9 K:=by
  intro ev f n a;obtain⟨D,l,y,E,F,G,H,I⟩:=s6 hA f v a;exact⟨D,l,y,by unfold ao;simp only[w,n];exact E,F,G,H,I⟩
 have e:∀ {ev:Env},Rp ev g9->cv ops g9.tmps o=some false->holds (kb o.dst .un ev h K)->NM X holds abs ops i o g9 K:=by
  intro ev f n a;obtain⟨l,m,z⟩:=xY f (s:=.un) trivial a;refine⟨g9.put o.dst undef,l,h,by unfold ao;simp only[w,n],m,?_,.put _ _ _ _,z⟩;rw[v];cases o.dst<;>rfl
 unfold hQ at a;split at a
 next q=>
  exact g f (by simp only[cv,q]) a
 next j k q=>
  split at a
  next d r=>
   split at a
   next b p=>
    obtain⟨m,_⟩:=f.at p (by simp);have n:cv ops g9.tmps o=some (b==k):=by
     simp only[cv,q,r,Dj,m];rfl
    grind
   next p=>
    obtain⟨m,_⟩:=f.at p (by simp);have n:cv ops g9.tmps o=some false:=by
     simp only[cv,q,r,Dj,m];rfl
    exact e f n a
   next t p=>
    obtain⟨m,_⟩:=f.at p (by simp);have n:cv ops g9.tmps o=some (t==k):=by
     simp only[cv,q,r,Dj,m];rfl
    have B:=Q4 f p;split at a
    .rcases hA.cond _ _ _ a with⟨u,c⟩|⟨u,c⟩
     .rw[eS]at c
      grind
     .rw[eS]at c
      grind
    .rcases hA.cond _ _ _ a with⟨u,c⟩|⟨u,c⟩
     .rw[eS]at c
      grind
     .rw[eS]at c
      grind
   .exact absurd a hA.fail
  .exact absurd a hA.fail
def RR(l:TA):TC:=l.filterMap (·.dst)
def PD(a_:TC)(l:TA):TC:=l.filterMap (vL a_)
def Q5(a_:TC)(l:TA):TC:=l.filterMap (jY a_)
def bw{f:Oper->Ts}{o:Oper}{l:TA}(a:o∈l):∀i∈(f o).toList,i∈l.filterMap f:=by
 grind
def ot(hA:nc A X.C Sg X.T holds abs){ops:To}:∀(l:TA) (i:Nat) (e:List (TN)) (ev:Env) (h:HT) (g9:St),l <+: ops.toList.drop i->Rp ev g9->abs h=g9.heap->holds (MZ A X Sg ops l e ev h K)->
  ∃d a h',bp X.C (uB X.C) X.a_ ops (List.range' i l.length) g9 d/\Rp a d/\abs h'=d.heap/\Fr (RR l) (PD X.a_ l) (Q5 X.a_ l) g9 d/\holds (K a h')
 | [],i,e,ev,h,g9,_,g,j,k=>⟨g9,ev,h,rfl,g,j,.refl _ _ _ _,k⟩
 |o :: l,i,e,ev,h,g9,c,g,j,k=>by
  have q:ops[i]?=some o:=by
   obtain⟨t,c⟩:=c;have:(ops.toList.drop i)[0]?=some o:=by rw[←c];rfl
   simpa using this
  obtain⟨n,F,E,x,y,z,B,D⟩:=zF (K:=λev h=>MZ A X Sg ops l e.tail ev h K) hA g j q k;have m:l <+: ops.toList.drop (i+1):=by
   obtain⟨t,c⟩:=c;exact⟨t,by rw[←FF,←c];rfl⟩
  obtain⟨d,a,h',r,s,u,v,w⟩:=ot hA l (i+1) e.tail F E n m y z D;refine⟨d,a,h',⟨n,x,r⟩,s,u,?_,w⟩;have p:Fr (RR (o :: l)) (PD X.a_ (o :: l)) (Q5 X.a_ (o :: l)) g9 n:=B.mono (bw (by simp)) (bw (by simp)) (bw (by simp));have b:∀(f:Oper->Ts) (i:Nat),i∈l.filterMap f->i∈(o :: l).filterMap f:=by
   simp_all
  exact p.trans (v.mono (b _) (b _) (b _))
def VV(hA:nc A X.C Sg X.T holds abs){ops:To}(l:TA)(i:Nat)(c:List (TN))(ev:Env)(h:HT)(g9:St)(g:ops.toList.drop i=l)(d:Rp ev g9)(e:abs h=g9.heap)(f:holds (MZ A X Sg ops l c ev h K)) :
  ∃b a h',bp X.C (uB X.C) X.a_ ops (List.range' i l.length) g9 b/\Rp a b/\abs h'=b.heap/\Fr (RR l) (PD X.a_ l) (Q5 X.a_ l) g9 b/\holds (K a h'):=
 ot hA l i c ev h g9 (g▸List.prefix_refl _) d e f
end
end Sx
namespace Sx
section
variable [Cf] [C8] {R HT:Type} {A:A_ R HT} {X:Cv} {Sg:Td} {holds:R->Prop} {abs:HT->Tu}
def JZ(a ks:TC):∀(l:List SV) (i:Nat) (K:List SV->R),∃l',Zl a ks l i K=K l'/\l'.length=l.length/\
  ∀(j:Nat) s,l'[j]?=some s->s = .no∨(l[j]?=some s/\¬a.contains (i+j)=true/\s.D3 ks=false)
 | [],i,K=>⟨[],rfl,rfl,λj s h=>by simp at h⟩
 |x :: l,i,K=>by
  obtain⟨l',h1,c,f⟩:=JZ a ks l (i+1) λl=>match a.contains i||x.D3 ks with
   |true=>K (.no :: l)
   |false=>K (x :: l)
  have g:∀(j:Nat) s,l'[j]?=some s->s = .no∨((x :: l)[j+1]?=some s/\¬a.contains (i+(j+1))=true/\s.D3 ks=false):=by
   grind
  have b:Zl a ks (x :: l) i K=(match a.contains i||x.D3 ks with
   |true=>K (.no :: l')
   |false=>K (x :: l')):=h1
  cases d:a.contains i||x.D3 ks with
  |true=>
   refine⟨.no :: l',by rw[b,d],by simp[c],λj s e=>?_⟩;cases j with
   |zero=>simp_all
   |succ j=>simp_all
  |false=>
   simp only[F']at d;refine⟨x :: l',by simp_all,by simp[c],λj s e=>?_⟩;cases j with
   |zero=>
    simp_all
   |succ j=>simp_all
def tS(r a:LR):Prop:=r = .Ih∨(∃n,r = .any n/\(a = .any n∨∃cs,a = .row cs/\cs.length=n))
def JY(a ks:TC)(e:LR):∀(l:List LR) (i:Nat) (K:List LR->R),∃l',OA a ks e l i K=K l'/\l'.length=l.length/\
  ∀(j:Nat) r,l'[j]?=some r->(ks.contains (i+j)=true/\r=e)∨(ks.contains (i+j)=false/\a.contains (i+j)=true/\∃f,l[j]?=some f/\tS r f)∨
   (ks.contains (i+j)=false/\a.contains (i+j)=false/\l[j]?=some r)
 | [],i,K=>⟨[],rfl,rfl,λj s h=>by simp at h⟩
 |x :: l,i,K=>by
  obtain⟨l',h1,k,o⟩:=JY a ks e l (i+1) λl=>match ks.contains i,a.contains i with
   |true,_=>K (e :: l)
   |false,true=>(match x with
    | .row g=>sV g.length λn=>K (.any n :: l)
    | .any n=>K (.any n :: l)
    |_=>K (.Ih :: l))
   |false,false=>K (x :: l)
  have q:∀(j:Nat) r,l'[j]?=some r->(ks.contains (i+(j+1))=true/\r=e)∨(ks.contains (i+(j+1))=false/\a.contains (i+(j+1))=true/\∃f,(x :: l)[j+1]?=some f/\tS r f)∨
   (ks.contains (i+(j+1))=false/\a.contains (i+(j+1))=false/\(x :: l)[j+1]?=some r):=by
   grind
  have b:∀y:LR,OA a ks e (x :: l) i K=K (y :: l')->((ks.contains i=true/\y=e)∨(ks.contains i=false/\a.contains i=true/\tS y x)∨(ks.contains i=false/\a.contains i=false/\y=x))->
    ∃l',OA a ks e (x :: l) i K=K l'/\l'.length=(x :: l).length/\∀(j:Nat) r,l'[j]?=some r->(ks.contains (i+j)=true/\r=e)∨(ks.contains (i+j)=false/\a.contains (i+j)=true/\∃f,(x :: l)[j]?=some f/\tS r f)∨
     (ks.contains (i+j)=false/\a.contains (i+j)=false/\(x :: l)[j]?=some r):=by
   intro y m p;refine⟨y :: l',m,by simp[k],λj r t=>?_⟩;cases j with
   |zero=>
    grind
   |succ j=>simp_all
  cases c:ks.contains i with
  |true=>exact b e (by show _=_;refine h1.trans ?_;simp only[c]) (.inl ⟨c,rfl⟩)
  |false=>
   cases d:a.contains i with
   |false=>exact b x (by refine h1.trans ?_;simp only[c,d]) (.inr (.inr ⟨c,d,rfl⟩))
   |true=>
    cases x with
    |row g=>exact b (.any g.length) (by refine h1.trans ?_;simp only[c,d,wP]) (.inr (.inl ⟨c,d,.inr ⟨_,rfl,.inr ⟨g,rfl,rfl⟩⟩⟩))
    |any n=>exact b (.any n) (by refine h1.trans ?_;simp only[c,d]) (.inr (.inl ⟨c,d,.inr ⟨_,rfl,.inl rfl⟩⟩))
    |Ih=>exact b .Ih (by refine h1.trans ?_;simp only[c,d]) (.inr (.inl ⟨c,d,.inl rfl⟩))
    |nil=>exact b .Ih (by refine h1.trans ?_;simp only[c,d]) (.inr (.inl ⟨c,d,.inl rfl⟩))
def RN{C:ke}{T:Tv}(hA:nc A C Sg T holds abs):∀(lv:List (Nat×SK)) (xs:List S0) (tm:List SV) (K:List SV->R),holds (p' A lv xs tm K)->cE xs (lv.map (·.2))=true->
  ∃a,holds (K a)/\a.length=tm.length/\∀(j:Nat) s,a[j]?=some s->tm[j]?=some s∨∃e x,(j,e)∈lv/\s = .st x/\((j,e),x)∈lv.zip xs
 | [],xs,tm,K,d,_=>⟨tm,d,rfl,λj s f=>.inl f⟩
 |p :: lv,[],tm,K,d,h=>by cases h
 |p :: lv,x :: xs,tm,K,d,h=>by
  simp only[DD,cE,te]at h;have c:holds (E3 (.st x) tm p.1 λtm=>p' A lv xs tm K):=d;rw[eS]at c;obtain⟨a,g,i,k⟩:=RN hA lv xs _ K c h.2;refine⟨a,g,by rw[i];simp,λj s f=>?_⟩;rcases k j s f with b|⟨e,y,b,l,m⟩
  .simp only[GC]at b;split at b
   next n=>
    split at b
    .cases b;subst n;exact .inr ⟨p.2,x,by simp,rfl,by simp⟩
    .cases b
   .exact .inl b
  .exact .inr ⟨e,y,by simp[b],l,by simp[m]⟩
def RM{C:ke}{T:Tv}(hA:nc A C Sg T holds abs):∀(lv:List (Nat×List LK)) (ls:TG) (c:List LR) (K:List LR->TG->R),holds (j2 A lv ls c K)->
  ∃(b:List LR) (r:TG) (a:List (List SL)),holds (K b r)/\ls=(a.map (·.map SL.lf)).flatten++r/\a.length=lv.length/\(∀(i:Nat) p cs,lv[i]?=some p->a[i]?=some cs->aZ cs p.2=true)/\b.length=c.length/\
   ∀(j:Nat) s,b[j]?=some s->c[j]?=some s∨∃(i:Nat) (ks:TJ) (cs:List SL),lv[i]?=some (j,ks)/\a[i]?=some cs/\s = .row cs
 | [],ls,c,K,f=>⟨c,ls,[],f,rfl,rfl,λ_ _ _ h=>by simp at h,rfl,λj s k=>.inl k⟩
 |p :: lv,ls,c,K,f=>by
  have g:holds (NI A p.2 ls λcs r=>E3 (.row cs) c p.1 λc=>j2 A lv r c K):=f;obtain⟨cs,r,m,B,e⟩:=rW hA g;rw[eS]at e;obtain⟨b,z,a,n,o,t,D,u,v⟩:=RM hA lv r _ K e;refine⟨b,z,cs :: a,n,by rw[m,o];simp,by simp[t],λi q l F E=>?_,by rw[u];simp,λj s k=>?_⟩
  .grind
  .rcases v j s k with d|⟨i,ks,l,d,w,x⟩
   .simp only[GC]at d;split at d
    next y=>
     split at d
     .cases d;subst y;exact .inr ⟨0,p.2,cs,rfl,rfl,rfl⟩
     .cases d
    .exact .inl d
   .exact .inr ⟨i+1,ks,l,by simpa using d,by simpa using w,x⟩
def QE{b:Env}{g9:St}(c:Rp b g9):∀ {lv:List (Nat×SK)} {ls:TG},g' b.tm lv=some ls->
  ∃xs,cN xs=ls/\cE xs (lv.map (·.2))=true/\(∀x∈xs,x.g_)/\∀p∈lv.zip xs,g9.tmps[p.1.1]?=some p.2.val
 | [],ls,h=>by cases h;exact⟨[],rfl,rfl,by simp,by simp⟩
 |(t,m) :: lv,ls,h=>by
  simp only[g']at h;split at h
  next x l k j=>
   split at h
   next a=>
    cases h;obtain⟨xs,h1,f,g,i⟩:=QE c j;obtain⟨d,e⟩:=c.at k (by simp);refine⟨x :: xs,by simp[cN,h1],by simp[cE,a,f],Hx.2 ⟨e,g⟩,λp hp=>?_⟩;simp only[a7,Dy]at hp;rcases hp with rfl|hp
    .exact d
    .exact i p hp
   .cases h
  .cases h
def QD{b:Env}{g9:St}(d:Rp b g9):∀ {lv:List (Nat×List LK)} {ls:TG},cy b.lc lv=some ls->
  ∃a:List (List SL),(a.map (·.map SL.lf)).flatten=ls/\a.length=lv.length/\(∀(i:Nat) p cs,lv[i]?=some p->a[i]?=some cs->aZ cs p.2=true/\(∀c∈cs,c.g_)/\g9.loc[p.1]?=some (some (cs.map SL.val)))
 | [],ls,h=>by cases h;simp_all
 |(s,ks) :: lv,ls,h=>by
  simp only[cy]at h;split at h
  next cs l k g=>
   split at h
   next f=>
    cases h;obtain⟨a,h1,e,q⟩:=QD d g;have j:tR b s=some cs:=by unfold tR;rw[k]
    obtain⟨n,o,_⟩:=lz d j;refine⟨cs :: a,by simp[h1],by simp[e],λi p m t r=>?_⟩
    grind
   .cases h
  .cases h
def OH:∀ {lv:List (Nat×List LK)} {a b:List (List SL)} {r:TG},a.length=lv.length->b.length=lv.length->
  (∀(i:Nat) p c,lv[i]?=some p->a[i]?=some c->aZ c p.2=true)->(∀(i:Nat) p c,lv[i]?=some p->b[i]?=some c->aZ c p.2=true)->
  (a.map (·.map SL.lf)).flatten=(b.map (·.map SL.lf)).flatten++r->r=[]/\∀(i:Nat) x y,a[i]?=some x->b[i]?=some y->x.map SL.lf=y.map SL.lf
 | [],a,b,r,la,lb,_,_,h=>by
  simp_all
 |p :: lv,a,b,r,la,lb,f,g,h=>by
  cases a with
  |nil=>simp at la
  |cons x a=>cases b with
   |nil=>simp at lb
   |cons y b=>
    simp only[DD,w5,EC]at h;have k:=bR (f 0 p x rfl rfl);have l:=bR (g 0 p y rfl rfl);obtain⟨m,j⟩:=qdr h (by simp[k,l]);obtain⟨n,o⟩:=OH (lv:=lv) (by simpa using la) (by simpa using lb) (λi q c e d=>f (i+1) q c (by simpa using e) (by simpa using d))
     (λi q c e d=>g (i+1) q c (by simpa using e) (by simpa using d)) j
    grind
def Bg{i6 b:Type}{l:List i6}{m:List b}{p:i6×b}(h:p∈l.zip m):∃i:Nat,l[i]?=some p.1/\m[i]?=some p.2:=by
 obtain⟨i,a⟩:=DZ h;rw[qda]at a;exact⟨i,a⟩
def rh:∀ {a b:List S0} {sks:TN},cE a sks=true->cE b sks=true->(cN a).length=(cN b).length
 | [],[],[],_,_=>rfl
 |x :: a,y :: b,k :: sks,c,d=>by
  simp only[cE,te]at c d;obtain⟨n,e,f⟩:=S0.Pw c.1;simp only[cN,GA,FM,e,f y d.1,rh c.2 d.2]
 | [],_ :: _,[],_,d=>by cases d
 | [],_,_ :: _,c,_=>by cases c
 |_ :: _,_,[],c,_=>by cases c
 |_ :: _,[],_ :: _,_,d=>by cases d
structure Like(ks:TC)(nw:LR)(i5 i7:St):Prop where
 Ic:i7.tmps.length=i5.tmps.length
 Ea:i7.loc.length=i5.loc.length
 tm:∀(i:Nat) v,i5.tmps[i]?=some v->l_ v=true->i7.tmps[i]?=some v
 tp:∀(i s off:Nat),i5.tmps[i]?=some (.pointer (some ⟨s,off,some 0⟩))->s∉ks->i7.tmps[i]?=some (.pointer (some ⟨s,off,some 0⟩))
 row:∀(s:Nat) x,i5.loc[s]?=some x->s∉ks->i7.loc[s]?=some x
 new:∀s,s∈ks->s<i7.loc.length->nw.ok i7.loc s
theorem Like.refl(ks:TC)(g9:St):Like ks .Ih g9 g9:=⟨rfl,rfl,λ_ _ h _=>h,λ_ _ _ h _=>h,λ_ _ h _=>h,λ_ _ _=>trivial⟩
def QZ{C:ke}{T:Tv}(hA:nc A C Sg T holds abs){a_:TC}{c:Code}{nw:LR}{lv:Live}{M N:Env}{g9 i5 i7:St}{ls:TG}{K:Env->R}
  (H:Rp M g9) (P:Rp N i5) (z:Fr (Ht c) (aQ a_ c) (Fp a_ c) g9 i5) (hp:pk N lv=some ls) (o:Like (aQ a_ c) nw i5 i7)
  (h:i7=i5∨∀p∈lv.rows,p.1∉aQ a_ c) (hk:holds (dC A a_ c nw lv M ls K)):∃O,Rp O i7/\holds (K O):=by
 unfold dC at hk;obtain⟨a4,h1,h2,h3⟩:=JZ (Ht c) (aQ a_ c) M.tm 0 λtm=>OA (Fp a_ c) (aQ a_ c) nw M.lc 0 λF=>
  Ig A (lv.tm.map (·.2)) ls λJ r=>p' A lv.tm J tm λtm=>j2 A lv.rows r F λF r=>A.u4 r (K ⟨tm,F⟩)
 rw[h1]at hk;obtain⟨a8,g1,g2,g3⟩:=JY (Fp a_ c) (aQ a_ c) nw M.lc 0 λF=>
  Ig A (lv.tm.map (·.2)) ls λJ r=>p' A lv.tm J a4 λtm=>j2 A lv.rows r F λF r=>A.u4 r (K ⟨tm,F⟩)
 rw[g1]at hk;obtain⟨J,r,e1,e2,ag⟩:=qk hA hk;obtain⟨V,al,u1,u2⟩:=RN hA _ _ _ _ ag e2;obtain⟨U,r2,a6,an,v1,v2,v3,v4,v5⟩:=RM hA _ _ _ _ al;obtain⟨aE,ap⟩:=hA.u4 _ _ an;subst aE;rw[GM]at v1;unfold pk at hp;split at hp
 next la lb ax ay=>
  cases hp;obtain⟨ys,y1,y2,y3,y4⟩:=QE P ax;obtain⟨ad,d1,d2,d3⟩:=QD P ay;rw[←y1,←d1]at e1;obtain⟨s1,s2⟩:=qdr e1 (rh y2 e2);obtain⟨w1,w2⟩:=cV y2 e2 s1;have B:=w2 y3;obtain⟨_,z2⟩:=OH (r:=[]) d2 v2 (λi p G a b=>(d3 i p G a b).1) v3 (by simp_all);refine⟨⟨V,U⟩,⟨?_,λi s hs=>?_,?_,λi s hs=>?_⟩,ap⟩
  .show V.length=_;rw[u1,h2,H.len,o.Ic,z.Ic]
  .rcases u2 i s hs with D|⟨sk,x,W,rfl,a3⟩
   .rcases h3 i s D with rfl|⟨m,q,u⟩
    .trivial
    .have e:=H.val i s m;rw[EM]at q;have q:i∉Ht c:=by simpa using q
     have d:∀v,g9.tmps[i]?=some v->l_ v=true->i7.tmps[i]?=some v:=λv E Q=>o.tm i v (z.tm i v E q Q) Q;have l:∀s f,g9.tmps[i]?=some (.pointer (some ⟨s,f,some 0⟩))->s∉aQ a_ c->i7.tmps[i]?=some (.pointer (some ⟨s,f,some 0⟩)):=λs f E Q=>
      o.tp i s f (z.tp i s f E q Q) Q
     cases s with
     |no=>trivial
     |st x=>exact⟨d _ e.1 (S0.l_ e.2),e.2⟩
     |Jz J=>simp[SV.D3]at u
     |un=>exact⟨d _ e.1 rfl,trivial⟩
     |Io g f=>exact⟨d _ e.1 rfl,trivial⟩
     |Ki g L ix=>exact⟨d _ e.1 rfl,trivial⟩
     |Gu s f=>exact⟨l s f e.1 (by simpa[SV.D3]using u),trivial⟩
     |Iq s L ix=>exact⟨l s _ e.1 (by simpa[SV.D3]using u),trivial⟩
   .obtain⟨k,q1,q2⟩:=Bg a3;simp only at q1 q2;have S:(ak J)[k]?=some x.val:=by simp[ak,q2]
    rw[←w1]at S;simp only[ak,EL,Dv]at S;obtain⟨y,a7,a0⟩:=S;have hm:((i,sk),y)∈lv.tm.zip ys:=by
     apply Cb (i:=k)
     grind
    have E:=y4 _ hm;simp only at E;rw[a0]at E;have gx:=B x (Cb q2);exact⟨o.tm i _ E (S0.l_ gx),gx⟩
  .show U.length=_;rw[v4,g2,H.Ea,o.Ea,z.Ea]
  .rcases v5 i s hs with D|⟨k,ks,G,W,a2,rfl⟩
   .rcases g3 i s D with⟨m,rfl⟩|⟨m,q,r0,u,b4⟩|⟨m,q,u⟩
    .rw[EM]at m;refine o.new i (by simpa using m) ?_;rw[o.Ea,z.Ea,←H.Ea,←g2]
     grind
    .rw[EM]at m;have t:i∉aQ a_ c:=by simpa using m
     have w:=H.row i r0 u;rcases b4 with rfl|⟨n,rfl,b4⟩
     .trivial
     .have:∃I,g9.loc[i]?=some (some I)/\I.length=n:=by
       rcases b4 with rfl|⟨G,rfl,hl⟩
       .exact w
       .exact⟨_,w.1,by simpa using hl⟩
      obtain⟨I,c1,c2⟩:=this;obtain⟨a5,c3,c4⟩:=z.Na i I c1 t;exact⟨a5,o.row i _ c3 t,c4.trans c2⟩
    .rw[EM]at m q;have t:i∉aQ a_ c:=by simpa using m
     have av:i∉Fp a_ c:=by simpa using q
     have w:=H.row i s u;have j:∀x,g9.loc[i]?=some x->i7.loc[i]?=some x:=λx S=>o.row i x (z.row i x S av) t;cases s with
     |Ih=>trivial
     |nil=>exact j _ w
     |any n=>obtain⟨I,c1,c2⟩:=w;exact⟨I,j _ c1,c2⟩
     |row G=>exact⟨j _ w.1,w.2⟩
   .have Z:∃Y,ad[k]?=some Y:=by
     grind
    obtain⟨Y,Z⟩:=Z;obtain⟨f1,f2,f3⟩:=d3 k _ Y W Z;have f4:=v3 k _ G W a2;obtain⟨m1,m2⟩:=iw f1 f4 (z2 k Y G Z a2);simp only at f3;rw[m1]at f3;refine⟨?_,m2 f2⟩;rcases h with rfl|h
    .exact f3
    .exact o.row i _ f3 (h (i,ks) (Cb W))
 .cases hp
end
end Sx
namespace Sx
section
variable [Cf] [C8] {R HT:Type} {A:A_ R HT} {X:Cv} {Sg:Td} {holds:R->Prop} {abs:HT->Tu}
def er(X:Cv)(c:AC):Code:=c.erase λa t=>gh (X.T a) t
def n7(X:Cv)(holds:R->Prop)(abs:HT->Tu)(c:Code)(g9:St)(d:KN R HT)(f:Exit->KN R HT):Prop:=
 ∃e b a h',Dl X.C X.a_ c g9 e b/\Rp a b/\abs h'=b.heap/\Fr (Ht c) (aQ X.a_ c) (Fp X.a_ c) g9 b/\((e = .normal/\holds (d a h'))∨(e≠.normal/\holds (f e a h')))
def tk(hA:nc A X.C Sg X.T holds abs){c:Code}{j:Option Live}{l:Env}{g9:St}{d:KN R HT}{b:KN R HT->R}{s:Exit->KN R HT}{f:Code}
  (z:Ht f=Ht c) (w:aQ X.a_ f=aQ X.a_ c) (y:Fp X.a_ f=Fp X.a_ c)
  (v:Rp l g9) (q:∀d,holds (b d)->n7 X holds abs f g9 d s) (k:holds (vw A X.a_ c j l d b)):n7 X holds abs f g9 d s:=by
 unfold vw at k;cases j with
 |none=>exact q d k
 |some lv=>
  obtain⟨e,r,g,m,n,o,p,i,a⟩:=q _ (hA.join _ _ k);rcases a with⟨rfl,a⟩|a
  .simp only at a;split at a
   next B x=>
    rw[z,w,y]at i;obtain⟨h,t,u⟩:=QZ hA v o i x (.refl _ _) (.inl rfl) a;exact⟨.normal,r,h,m,n,t,p,by simp_all,.inl ⟨rfl,u⟩⟩
   .exact absurd a hA.fail
  .exact⟨e,r,g,m,n,o,p,i,.inr a⟩
def Ug(a_:TC):∀c:Code,∀s∈aQ a_ c,s∈Fp a_ c:=by
 intro c
 induction c with
 |region id k i=>
  intro s d;simp only[aQ,QT]at d;simp only[Fp,QT];obtain⟨o,j,d⟩:=d;refine⟨o,j,?_⟩;unfold jY
  grind
 |seq a b g h=>intro s d;simp only[aQ,Fp,Ed]at d ⊢;grind
 |cond c a b g h=>intro s d;simp only[aQ,Fp,Ed]at d ⊢;grind
 |block id b e=>exact e
 |loop b e=>exact e
 |scope b e=>exact e
 |rangeFunc f l a b g h=>intro s d;simp only[aQ,Fp,Ed]at d ⊢;grind
 |_=>intro s d;cases d
def uF{b:TC}{v:TR}(h:l_ v=true):jG b v=v:=by
 unfold jG;split
 next a=>
  split
  next c=>
   simp only[te,Es]at c;simp[l_,aV,bF,bo,c.1]at h
  .rfl
 .rw[n_ h]
def uE{a:TC}{s off:Nat}(h:s∉a):jG a (.pointer (some ⟨s,off,some 0⟩)) = .pointer (some ⟨s,off,some 0⟩):=by
 unfold jG;simp[h]
def jg{g9:St}{a:TC}{i:Nat}{v:TR}(c:g9.tmps[i]?=some v)(b:jG a v=v):(g9.clear a).tmps[i]?=some v:=by
 unfold St.clear
 grind
def oN{g9:St}{a:TC}{s:Nat}{x:Option (Tn)}(b:g9.loc[s]?=some x)(c:s∉a):(g9.clear a).loc[s]?=some x:=by
 unfold St.clear;split
 .exact b
 .simp only;rw[fB,EM,qs (by simpa using c)];exact b
def Mg{g9:St}{a:TC}{s:Nat}(c:s∈a)(b:s<g9.loc.length):(g9.clear a).loc[s]?=some none:=by
 unfold St.clear;split
 .simp_all
 .simp only;rw[fB,EM,n_ (by simpa using c)];simp[b]
def qK{g9:St}{a:TC}:(g9.clear a).tmps.length=g9.tmps.length:=by unfold St.clear;split<;>simp
def jF(a:TC):∀(l:List (Option (Tn))) (i:Nat),(iE a l i).length=l.length
 | [],_=>rfl
 |_ :: l,i=>by simp[iE,jF a l]
def lP{g9:St}{a:TC}:(g9.clear a).loc.length=g9.loc.length:=by unfold St.clear;split<;>simp[jF]
def AL{g9:St}{a:TC}:(g9.clear a).heap=g9.heap:=by unfold St.clear;split<;>rfl
def AM(g9:St)(a:TC):Like a .nil g9 (g9.clear a):=
 ⟨qK,lP,λ_ _ h b=>jg h (uF b),λ_ _ _ h b=>jg h (uE b),λ_ _ h b=>oN h b,λ_ h c=>Mg h (by rw[lP]at c;exact c)⟩
def Oy{g9:St}{g a d:TC}(c:∀s∈a,s∈d):Fr g a d g9 (g9.clear a):=
 ⟨qK,lP,λ_ _ h _ b=>jg h (uF b),λ_ _ _ h _ b=>jg h (uE b),λs _ h b=>oN h λe=>b (c s e),
  λs f h b=>⟨f,oN h b,rfl⟩⟩
def qI{d:Env}{g9:St}(e:Rp d g9):∀ {caps:List (Nat×SK)} {vs:Tn},oK d.tm caps=some vs->∀(b:Nat) (tm:Tn),
  (∀(i:Nat) x,tm[i]?=some x->x=vc∨(g9.tmps[i]?=some x/\l_ x=true))->∀(i:Nat) x,(qt b caps vs tm)[i]?=some x->x=vc∨(g9.tmps[i]?=some x/\l_ x=true)
 | [],vs,h,b,tm,c=>by cases h;exact c
 |(t,n) :: caps,vs,h,b,tm,c=>by
  simp only[oK]at h;split at h
  next x m l k=>
   split at h
   .cases h;obtain⟨f,g⟩:=e.at l (by simp);refine qI e k b _ λi y a=>?_;simp only[GC]at a;split at a
    next j=>
     subst j;split at a
     .cases a;exact .inr ⟨f,S0.l_ g⟩
     .cases a
    .exact c i y a
   .cases h
  .cases h
def mR:∀(nt:Nat) (caps:List (Nat×SK)) (vs tm:Tn),(qt nt caps vs tm).length=tm.length
 |_,[],_,_=>rfl
 |_,_ :: _,[],_=>rfl
 |nt,(t,_) :: caps,v :: vs,tm=>by simp[qt,mR nt caps vs]
def KU(hA:nc A X.C Sg X.T holds abs){ops:To}:∀(l:TA) (i:Nat) (g:List (TN)) (c:Env) (h:HT) (g9:St) (K:Env->HT->List HT->R),l <+: ops.toList.drop i->Rp c g9->abs h=g9.heap->holds (opsM A X Sg ops l g c h K)->
  ∃e a h' b,Fk X.C (uB X.C) X.a_ ops (List.range' i l.length) g9 (b.map abs) e/\Rp a e/\abs h'=e.heap/\Fr (RR l) (PD X.a_ l) (Q5 X.a_ l) g9 e/\holds (K a h' b)
 | [],i,g,c,h,g9,K,_,j,k,m=>⟨g9,c,h,[],⟨rfl,rfl⟩,j,k,.refl _ _ _ _,m⟩
 |o :: l,i,g,c,h,g9,K,b,j,k,m=>by
  have v:ops[i]?=some o:=by
   obtain⟨t,b⟩:=b;have:(ops.toList.drop i)[0]?=some o:=by rw[←b];rfl
   simpa using this
  obtain⟨p,H,s,D,E,r,F,G⟩:=zF (K:=λc h=>opsM A X Sg ops l g.tail c h λa h' b=>K a h' (h :: b)) hA j k v m;have n:l <+: ops.toList.drop (i+1):=by
   obtain⟨t,b⟩:=b;exact⟨t,by rw[←FF,←b];rfl⟩
  obtain⟨e,a,h',q,w,x,y,z,B⟩:=KU hA l (i+1) g.tail H s p _ n E r G;refine⟨e,a,h',s :: q,⟨p,q.map abs,D,by rw[DD,r],w⟩,x,y,?_,B⟩;have u:Fr (RR (o :: l)) (PD X.a_ (o :: l)) (Q5 X.a_ (o :: l)) g9 p:=F.mono (bw (by simp)) (bw (by simp)) (bw (by simp));have d:∀(f:Oper->Ts) (i:Nat),i∈l.filterMap f->i∈(o :: l).filterMap f:=by
   simp_all
  exact u.trans (z.mono (d _) (d _) (d _))
def S8(h0:HT)(a:List HT)(p:Nat×Nat):abs (atM h0 a p)=atM (abs h0) (a.map abs) p:=by
 unfold atM
 grind
def Q0(hA:nc A X.C Sg X.T holds abs){ops:To}{g:List (TN)}{a:Env}{h0:HT}{c:List HT}{K:R}{g9 i:St}(f:Rp a i)(b:abs h0=g9.heap):∀ {l:List (Nat×Nat)},holds (reM A X Sg ops g a h0 c K l)->
  EN X.C (uB X.C) X.a_ ops g9 (c.map abs) i l/\holds K
 | [],h=>⟨λp hp=>(by cases hp),h⟩
 |q :: l,h=>by
  have h:holds (match ops[q.1]? with
   |some o=>match o.dst with
    |some d=>hQ A X Sg ops o (g.getD q.1 []) a (atM h0 c q) λe _=>samS A (a.tm.getD d .no) (e.tm.getD d .no) (reM A X Sg ops g a h0 c K l)
    |none=>A.fail
   |none=>A.fail):=h
  split at h
  next o j=>
   split at h
   next d k=>
    obtain⟨m,z,D,n,r,B,_,s⟩:=zF (g9:={ i with heap:=atM g9.heap (c.map abs) q }) hA (f.heap _) (by rw[S8 (abs:=abs),b]) j h;obtain⟨⟨x,v,w⟩,y⟩:=samS_ok hA f r s;obtain⟨t,u⟩:=Q0 hA f b y;refine⟨λp hp=>?_,u⟩;rcases Dy.1 hp with rfl|hp
    .exact⟨m,n,o,d,x,j,k,v,w⟩
    .exact t p hp
   .exact absurd h hA.fail
  .exact absurd h hA.fail
def wK(hA:nc A X.C Sg X.T holds abs){dr:Dr}
  (an:NN X.C dr) :
  ∀(c:AC) (k:Env) (h:HT) (g9:St) (z:KN R HT) (F:Exit->KN R HT),Rp k g9->abs h=g9.heap->holds (exec A X Sg dr c k h z F)->n7 X holds abs (er X c) g9 z F:=by
 intro c
 induction c with
 |skip=>intro k h g9 z F D I w;exact⟨.normal,g9,k,h,.skip,D,I,.refl _ _ _ _,.inl ⟨rfl,w⟩⟩
 |ret=>intro k h g9 z F D I w;exact⟨.ret,g9,k,h,.ret,D,I,.refl _ _ _ _,.inr ⟨by simp,w⟩⟩
 |exit id=>intro k h g9 z F D I w;exact⟨.exit id,g9,k,h,.exit,D,I,.refl _ _ _ _,.inr ⟨by simp,w⟩⟩
 |label l=>intro k h g9 z F D I w;exact⟨.normal,g9,k,h,.label,D,I,.refl _ _ _ _,.inl ⟨rfl,w⟩⟩
 |seq a b a1 a2=>
  intro k h g9 z F D I w;obtain⟨e,O,Q,P,V,Y,q3,q4,E⟩:=a1 k h g9 _ _ D I w;have m1:Fr (Ht (er X (.seq a b))) (aQ X.a_ (er X (.seq a b))) (Fp X.a_ (er X (.seq a b))) g9 O:=
   q4.mono (λi B=>Jf _ B) (λi B=>Jf _ B) (λi B=>Jf _ B)
  rcases E with⟨rfl,E⟩|⟨E,q6⟩
  .obtain⟨e',N,G,S,L,J,U,p4,M⟩:=a2 Q P O z F Y q3 E;exact⟨e',N,G,S,.seq V L,J,U,m1.trans (p4.mono (λi B=>SE _ B) (λi B=>SE _ B) (λi B=>SE _ B)),M⟩
  .exact⟨e,O,Q,P,.seqX V E,Y,q3,m1,.inr ⟨E,q6⟩⟩
 |scope b ih=>
  intro k h g9 z F D I w;obtain⟨e,O,Q,P,V,q⟩:=ih k h g9 z F D I w;exact⟨e,O,Q,P,.scope V,q⟩
 |region id H K hs j=>
  intro k h g9 z F D I w;have s:holds (match drX dr K X.a_ H with
   |none=>A.fail
   |some ps=>vw A X.a_ (.region id H K) j k z λz=>regE A X Sg H hs ps k h z):=w
  split at s
  .exact absurd s hA.fail
  next ps hd=>
   refine tk hA (c:=.region id H K) rfl rfl rfl D (λz w=>?_) s;unfold regE at w;cases W:Fe ps with
   |some l=>
    rw[W]at w;simp only at w;obtain⟨N,G,S,hl,L,J,U,p4,M⟩:=KU hA H.toList 0 hs k h g9 _ (by simp_all) D I w;obtain⟨M,p6⟩:=Q0 (g9:=g9) hA J I M;have L:Fk X.C (uB X.C) X.a_ H (range H.size) g9 (hl.map abs) N:=by
     rw[Yv];omega
    refine⟨.normal,N,G,S,?_,J,U,p4,.inl ⟨rfl,p6⟩⟩;cases K with
    |false=>cases hd;cases W
    |true=>
     have Z:=an _ _ _ hd;rw[W]at Z;obtain⟨n,g1⟩:=HW L;obtain⟨m,g2⟩:=again_at M;exact .drawA (Z (max n m) g9 N _ (g1 _ (t5 _ _)) (g2 _ (eC _ _)))
   |none=>
    rw[W]at w;simp only at w;cases ag:Gh ps with
    |none=>
     rw[ag]at w;simp only at w;obtain⟨N,G,S,L,J,U,p4,M⟩:=VV hA H.toList 0 hs k h g9 rfl D I w;obtain⟨M,p6⟩:=sepK_ok hA J M;have L:bp X.C (uB X.C) X.a_ H (range H.size) g9 N:=by
      rw[Yv];omega
     refine⟨.normal,N,G,S,?_,J,U,p4,.inl ⟨rfl,p6⟩⟩;cases K with
     |false=>exact .region L
     |true=>
      have Z:=an _ _ _ hd;rw[W]at Z;simp only at Z;rw[ag]at Z;exact .draw (λn hn=>Z n _ _ hn M) L
    |some q=>
     rw[ag]at w;simp only at w;obtain⟨O,Q,P,L,J,U,p4,M⟩:=ot hA (H.toList.take (q.2+1)) 0 hs k h g9 (by grind) D I w;unfold reK at M;split at M
     next o ho=>
      split at M
      next d bb=>
       obtain⟨n9,BQ,y8,V,Y,q3,_,E⟩:=zF hA J U ho M;simp only at E;split at E
       next x y hx hy=>
        obtain⟨u,e1,e2⟩:=hA.h_ _ _ E;have e1:=J4 e1;subst e1;have sm:GU H q.1 O n9:=⟨o,d,x,ho,bb,J1 J hx,J1 Y hy⟩;obtain⟨N,G,S,r1,r2,r3,r4,r5⟩:=ot hA (H.toList.drop (q.2+1)) (q.2+1) _ Q P O (List.prefix_refl _) J U e2;refine⟨.normal,N,G,S,?_,r2,r3,?_,.inl ⟨rfl,r5⟩⟩
        .cases K with
         |false=>cases hd;cases ag
         |true=>
          have Z:=an _ _ _ hd;rw[W]at Z;simp only at Z;rw[ag]at Z;exact .drawS (λn h1 h2 h3=>Z n _ _ _ _ h1 h2 sm h3) L V r1
        .refine(p4.mono (λi B=>?_) (λi B=>?_) (λi B=>?_)).trans (r4.mono (λi B=>?_) (λi B=>?_) (λi B=>?_))
         all_goals
          replace B:=QT.1 B
          obtain⟨o,ho,e⟩:=B;exact QT.2 ⟨o,(by grind),e⟩
       .exact absurd E hA.fail
      .exact absurd M hA.fail
     .exact absurd M hA.fail
 |cond c a b j a1 a2=>
  intro k h g9 z F D I w;have s:holds (match jw k c with
   | .st (.leaf (.l true))=>exec A X Sg dr a k h z F
   | .st (.leaf (.l false))=>exec A X Sg dr b k h z F
   | .st (.leaf (.b t))=>vw A X.a_ (er X (.cond c a b j)) j k z λz=>A.cond t (exec A X Sg dr a k h z F) (exec A X Sg dr b k h z F)
   |_=>A.fail):=w
  have ga:∀ {z},h9 g9.tmps c = .bool true->holds (exec A X Sg dr a k h z F)->n7 X holds abs (er X (.cond c a b j)) g9 z F:=by
   intro z hc w;obtain⟨e,O,Q,P,V,Y,q3,q4,E⟩:=a1 k h g9 z F D I w;exact⟨e,O,Q,P,.cond hc V,Y,q3,q4.mono (λi B=>Jf _ B) (λi B=>Jf _ B) (λi B=>Jf _ B),E⟩
  have gb:∀ {z},h9 g9.tmps c = .bool false->holds (exec A X Sg dr b k h z F)->n7 X holds abs (er X (.cond c a b j)) g9 z F:=by
   intro z hc w;obtain⟨e,O,Q,P,V,Y,q3,q4,E⟩:=a2 k h g9 z F D I w;exact⟨e,O,Q,P,.cond hc (show Dl X.C X.a_ (if false=true then er X a else er X b) g9 e O by simp_all),Y,q3,q4.mono (λi B=>SE _ B) (λi B=>SE _ B) (λi B=>SE _ B),E⟩
  split at s
  next e=>exact ga (D.jw e (by simp)).1 s
  next e=>exact gb (D.jw e (by simp)).1 s
  next t e=>
   have h1:=(D.jw e (by simp)).1;refine tk hA (c:=er X (.cond c a b j)) rfl rfl rfl D (λz w=>?_) s;rcases hA.cond _ _ _ w with⟨ht,av⟩|⟨ht,av⟩
   .exact ga (by rw[h1,ht];rfl) av
   .exact gb (by rw[h1,ht];rfl) av
  .exact absurd s hA.fail
 |block id b j ih=>
  intro k h g9 z F D I w;refine tk hA (c:=er X b) rfl rfl rfl D (λz w=>?_) (show holds (vw A X.a_ (er X b) j k z λz=>exec A X Sg dr b k h z λe=>match uR e id with
   |true=>z
   |false=>F e)from w)
  obtain⟨e,O,Q,P,V,Y,q3,q4,E⟩:=ih k h g9 _ _ D I w;refine⟨jS id e,O,Q,P,.block V,Y,q3,q4,?_⟩;rcases E with⟨rfl,E⟩|⟨E,q6⟩
  .exact .inl ⟨rfl,E⟩
  .cases e with
   |normal=>exact absurd rfl E
   |exit i=>
    by_cases B:i=id
    .subst B;left;simp only[jS,if_true,true_and];simpa[uR]using q6
    .right;simp only[jS,qs B];refine⟨by simp,?_⟩;have:Nat.beq i id=false:=by
      rw[←Gb];simp_all
     simpa[uR,this]using q6
   |_=>exact .inr ⟨by simp[jS],by simpa[uR,jS]using q6⟩
 |loop b lv ih=>
  intro k h g9 z F D I w;have s:holds (match pk k lv with
   |none=>A.fail
   |some ls=>match lv.rows.all λp=>!(aQ X.a_ (er X b)).contains p.1 with
    |false=>A.fail
    |true=>A.loop (λa6 ls h=>dC A X.a_ (er X b) .nil lv k ls λk=>exec A X Sg dr b k h (λk h=>match pk k lv with
     |some ls=>a6 ls h
     |none=>A.fail) F) ls h):=w
  split at s
  .exact absurd s hA.fail
  next bm bd=>
   split at s
   .exact absurd s hA.fail
   next bt=>
    have ax:∀p∈lv.rows,p.1∉aQ X.a_ (er X b):=by
     grind
    obtain⟨it,i0,i1,n,hn⟩:=hA.loop _ _ _ s;have a5:∀(n:Nat) (ls:TG) (h:HT) (i7:St) (A4:Env),Rp A4 i7->Fr (Ht (er X b)) (aQ X.a_ (er X b)) (Fp X.a_ (er X b)) g9 i7->pk A4 lv=some ls->abs h=i7.heap->holds (it n ls h)->
      ∃e N G S,Dl X.C X.a_ (.loop (er X b)) i7 e N/\e≠.normal/\Rp G N/\abs S=N.heap/\Fr (Ht (er X b)) (aQ X.a_ (er X b)) (Fp X.a_ (er X b)) g9 N/\holds (F e G S):=by
     intro n
     induction n with
     |zero=>simp_all
     |succ n bl=>
      intro ls h i7 A4 BZ hF hp B4 hh;rw[i1]at hh;obtain⟨a7,g1,g2⟩:=QZ hA D BZ hF hp (AM i7 _) (.inr ax) hh;obtain⟨e,O,Q,P,V,Y,q3,q4,E⟩:=ih a7 h (i7.clear (aQ X.a_ (er X b))) _ _ g1 (by rw[AL];exact B4) g2;have a3:Fr (Ht (er X b)) (aQ X.a_ (er X b)) (Fp X.a_ (er X b)) g9 O:=(hF.trans (Oy (Ug _ _))).trans q4;rcases E with⟨rfl,E⟩|⟨E,q6⟩
      .simp only at E;split at E
       next bn bk=>
        obtain⟨e',N,G,S,L,J,U,p4,M,p6⟩:=bl bn P O Q Y a3 bk q3 E;exact⟨e',N,G,S,.loop V L,J,U,p4,M,p6⟩
       .exact absurd E hA.fail
      .exact⟨e,O,Q,P,.loopX V E,E,Y,q3,a3,q6⟩
    obtain⟨e',N,G,S,L,J,U,p4,M,p6⟩:=a5 n bm h g9 k D (.refl _ _ _ _) bd I hn;exact⟨e',N,G,S,L,U,p4,M,.inr ⟨J,p6⟩⟩
 |rangeFunc f j7 a4=>
  intro k h g9 z F D I w;have s:holds (match (generalizing:=false) f,jw k f,X.a_ with
   | .tmp _,.st (.leaf (.v v)),_ :: _=>match Nat.beq k.tm.length (X.T j7).nt,oK k.tm (X.T j7).caps with
    |true,some vs=>A.Ec j7 v vs h λpd h=>A.D4 pd (z k h) (F .ret k h) (a4.map λid=>(id,F (.exit id) k h))
    |_,_=>A.fail
   |_,_,_=>A.fail):=w
  clear w;cases f with
  |tmp t=>
   cases ad:X.a_ with
   |nil=>rw[ad]at s;split at s<;>first|exact absurd s hA.fail|(rename_i e;cases e)
   |cons p0 pr=>
    rw[ad]at s;split at s
    next t2 v hd tl e0 e e1=>
     split at s
     next vs ay a8=>
      have ay:=Dp ay;obtain⟨h1,g1⟩:=D.jw e (by simp);have gv:aJ v=true:=g1 (.v v) (by simp[S0.cells]);obtain⟨g,first,bs,r,H1,lp,h2,r1,r2,r3,r4,r5,r6⟩:=hA.Ec _ _ _ _ _ s;subst r1;rw[I]at r2 r3 r5;have a0:yu g9.tmps (Em (X.T j7) j7 vs).tmps:=by
       refine⟨by simp only[Em,mR,qcJ];rw[←ay,D.len],qI D a8 _ _ λi x hx=>?_⟩
       grind
      have aE:=hA.D4 _ _ _ _ r6;have ap:∀ {e:Exit},yP lp.pending=some e->Dl X.C X.a_ (er X (.rangeFunc (.tmp t) j7 a4)) g9 e { g9 with heap:=H1.set g9.heap.length (.loop { lp with state:=.exhausted }) }:=by
       intro e he;have a9:X.a_≠[]:=by rw[ad];simp
       refine Dl.rangeFunc (r:=r) (x7:=j7) (tm:=(Em (X.T j7) j7 vs).tmps) a9 a0 h1 (eG.1 gv).1 ?_ r3 r4 he;simpa[Em]using r2
      have al:Rp k { g9 with heap:=H1.set g9.heap.length (.loop { lp with state:=.exhausted }) }:=D.heap _;rcases aE with⟨L,J⟩|⟨L,J⟩|⟨id,x,L,J,U⟩
      .exact⟨.normal,_,k,h2,ap (by rw[L];rfl),al,r5,(Fr.refl _ _ _ _).heap _,.inl ⟨rfl,J⟩⟩
      .exact⟨.ret,_,k,h2,ap (by rw[L];rfl),al,r5,(Fr.refl _ _ _ _).heap _,.inr ⟨by simp,J⟩⟩
      .obtain⟨bx,hY,he⟩:=CH.1 J;cases he;exact⟨.exit id,_,k,h2,ap (by rw[L];rfl),al,r5,(Fr.refl _ _ _ _).heap _,.inr ⟨by simp,U⟩⟩
     .exact absurd s hA.fail
    .exact absurd s hA.fail
  |_=>exact absurd s hA.fail
end
end Sx
namespace Sx
section
variable [Cf] [C8] {R HT:Type} {A:A_ R HT} {X:Cv} {Sg:Td} {holds:R->Prop} {abs:HT->Tu}
def dR(ls:TG):Prop:=∀l∈ls,match l with
 | .v x=>aJ x=true
 |_=>True
def AW{xs:List S0}(h:dR (cN xs)):∀x∈xs,x.g_:=by
 intro x a l b;have c:l.lf∈cN xs:=by
  induction xs with
  |nil=>cases a
  |cons y e d=>
   simp only[cN,Ed,CH];rcases Dy.1 a with rfl|a
   .grind
   .exact .inr (d (λl b=>h l (by simp only[cN,Ed];exact .inr b)) a)
 have:=h _ c;cases l<;>first|trivial|exact this
def rl:∀ {xs:List S0},(∀x∈xs,x.g_)->dR (cN xs)
 | [],_,l,a=>by cases a
 |x :: xs,h,l,a=>by
  simp only[cN,Ed,CH]at a;rcases a with⟨c,b,rfl⟩|a
  .have:=h x (by simp) c b;cases c<;>first|trivial|exact this
  .exact rl (λy d=>h y (by simp[d])) l a
def iD{C:ke}{T:Tv}(hA:nc A C Sg T holds abs):∀ {cs:List SL} {K:R},holds (IA A cs K)->(∀c∈cs,bF c.val=true)/\holds K
 | [],K,h=>⟨by simp,h⟩
 |c :: cs,K,h=>by
  cases c with
  |v x=>
   have h':holds (A.h_ (GY x) λ_=>IA A cs K):=h;obtain⟨u,e,f⟩:=hA.h_ _ _ h';obtain⟨a,d⟩:=iD hA f;refine⟨Hx.2 ⟨?_,a⟩,d⟩;unfold GY at e;split at e
   .assumption
   .cases e
  |i k n=>obtain⟨a,d⟩:=iD (cs:=cs) (K:=K) hA h;exact⟨Hx.2 ⟨rfl,a⟩,d⟩
  |b t=>obtain⟨a,d⟩:=iD (cs:=cs) (K:=K) hA h;exact⟨Hx.2 ⟨rfl,a⟩,d⟩
  |l t=>obtain⟨a,d⟩:=iD (cs:=cs) (K:=K) hA h;exact⟨Hx.2 ⟨rfl,a⟩,d⟩
def Mc{C:ke}{T:Tv}(hA:nc A C Sg T holds abs){a:Bool}{x:S0}{K:R}(e:x.g_)(h:holds (ii A a x K)):(a=true->aV x.val=true)/\holds K:=by
 unfold ii at h;split at h
 next b=>
  obtain⟨f,c⟩:=iD hA h;refine⟨λ_=>?_,c⟩;simp only[S0.val,aV,A5,CH]
  simp_all
 next d=>
  refine⟨λg=>?_,h⟩;cases x with
  |agg b=>simp_all
  |leaf l=>exact(eG.1 (SL.DW (e l (by simp[S0.cells])))).2.1
def Ld(hA:nc A X.C Sg X.T holds abs){i:Env}{g9:St}{h:HT}(F:Rp i g9)(Y:abs h=g9.heap){b:Bool}:∀(d:List ResultVar) (sks:TN) (e:TG) (K:TG->HT->R),holds (GF A X b i h d sks e K)->
  ∃ys,cE ys sks=true/\(∀y∈ys,y.g_)/\(b=true->∀y∈ys,aV y.val=true)/\ys.length=d.length/\dc X.C g9 d=some (ak ys)/\holds (K (e++cN ys) h)
 | [],sks,e,K,j=>by
  cases sks with
  |nil=>
   have c:holds (K e h):=j;exact⟨[],rfl,by simp,by simp,rfl,rfl,by rw[cN,GM];exact c⟩
  |cons _ _=>exact absurd j hA.fail
 |L :: d,sks,e,K,j=>by
  cases sks with
  |nil=>exact absurd j hA.fail
  |cons k sks=>
   have q:∀x:S0,x.is k=true->x.g_->fQ X.C g9 L=some x.val->holds (ii A b x (GF A X b i h d sks (e++x.cells.map SL.lf) K))->
     ∃ys,cE ys (k :: sks)=true/\(∀y∈ys,y.g_)/\(b=true->∀y∈ys,aV y.val=true)/\ys.length=(L :: d).length/\dc X.C g9 (L :: d)=some (ak ys)/\holds (K (e++cN ys) h):=by
    intro x o Z H j;obtain⟨h1,E⟩:=Mc hA Z j;obtain⟨ys,z,I,a3,a4,a5,a6⟩:=Ld hA F Y d sks _ K E;refine⟨x :: ys,by simp[cE,o,z],Hx.2 ⟨Z,I⟩,λhm=>Hx.2 ⟨h1 hm,a3 hm⟩,by simp[a4],?_,by simpa[cN]using a6⟩;simp only[dc,H,a5];rfl
   cases L with
   |tmp t=>
    have c:holds (match i.tm.getD t .no with
     | .st x=>match x.is k with
      |true=>ii A b x (GF A X b i h d sks (e++x.cells.map SL.lf) K)
      |false=>A.fail
     |_=>A.fail):=j
    split at c
    next x o=>
     obtain⟨D,g2⟩:=F.at o (by simp);split at c
     next u=>
      exact q x u g2 (by simp[fQ,List.getD_eq_getElem?_getD,D];rfl) c
     .exact absurd c hA.fail
    .exact absurd c hA.fail
   |cell a t=>
    have c:holds (match (generalizing:=false) x6 X.C.P t with
     |some g=>
      let n:=if g then X.C.P.cellsOf t else 1
      match (generalizing:=false) i.tm.getD a .no with
      | .Gu s w=>match (tR i s).bind (λm=>(DP m w n).bind (Gx g))with
       |some x=>match x.is k with
        |true=>ii A b x (GF A X b i h d sks (e++x.cells.map SL.lf) K)
        |false=>A.fail
       |none=>A.fail
      | .st (.leaf (.v p))=>match (generalizing:=false) g,k with
       |true,.agg _=>A.ka (.ld n p) h λm=>JB A k m λx r=>A.ts r (ii A b x (GF A X b i h d sks (e++x.cells.map SL.lf) K))
       |false,.leaf _=>A.ka (.ld n p) h λm=>JB A k m λx r=>A.ts r (ii A b x (GF A X b i h d sks (e++x.cells.map SL.lf) K))
       |_,_=>A.fail
      |_=>A.fail
     |none=>A.fail):=j
    clear j;split at c
    next g G=>
     simp only at c;split at c
     next s w J=>
      obtain⟨D,_⟩:=F.at J (by simp);split at c
      next x o=>
       obtain⟨m,S,o⟩:=EB.1 o;obtain⟨ds,hd,o⟩:=EB.1 o;obtain⟨r1,r2,_⟩:=lz F S;obtain⟨c1,c2⟩:=oQ hd;obtain⟨v,v1,v2⟩:=db G c1;obtain⟨m1,m2⟩:=pJ o;split at c
       next u=>
        have hv:x.val=v:=by
         rcases m2 with⟨z,I⟩|⟨z,I⟩<;>rcases v2 with⟨B,V⟩|⟨B,V⟩
         .rw[I,V]
         .rw[z]at B;cases B
         .rw[z]at B;cases B
         simp_all
        refine q x u (λl J=>?_) ?_ c
        .simp_all
        .simp only[fQ,List.getD_eq_getElem?_getD,D,QU,SV.val,r1,v1,hv]
       .exact absurd c hA.fail
      .exact absurd c hA.fail
     next p J=>
      obtain⟨D,_⟩:=F.at J (by simp);have f:g=kq k->holds (A.ka (.ld (if g then X.C.P.cellsOf t else 1) p) h λm=>JB A k m λx r=>A.ts r (ii A b x (GF A X b i h d sks (e++x.cells.map SL.lf) K)))->
        ∃ys,cE ys (k :: sks)=true/\(∀y∈ys,y.g_)/\(b=true->∀y∈ys,aV y.val=true)/\ys.length=(ResultVar.cell a t :: d).length/\dc X.C g9 (.cell a t :: d)=some (ak ys)/\holds (K (e++cN ys) h):=by
       intro U j;obtain⟨m,E,N⟩:=hA.ka _ _ _ j;simp only[Pk.run]at E;rw[Y]at E;obtain⟨id,w,vs,rfl,W,h4⟩:=Z8 E;rw[uz]at W;obtain⟨v,h5,M⟩:=db G h4;rw[U]at M;obtain⟨x,r,q1,q2,q3,O⟩:=rV hA N;obtain⟨S,Q⟩:=hA.ts _ _ O;rw[S,GM]at q1;rw[q1]at M;refine q x q2 q3 ?_ Q;rw[rp q2 M];simp only[fQ,List.getD_eq_getElem?_getD,D,QU,SV.val,S0.val,SL.val,W,Dj,h5]
      split at c
      .exact f rfl c
      .exact f rfl c
      .exact absurd c hA.fail
     .exact absurd c hA.fail
    .exact absurd c hA.fail
structure Gn(X:Cv)(Sg:Td)(f:TQ)(fn:Fn1):Prop where
 is:∃g,X.C.P.funcs[f]?=some g/\g.body=some (er X fn.code)/\((g.name == "runtime.NumGoroutine")||X.C.opq f)=false/\g.ntmps=fn.nt/\g.results.toList=fn.rvs
 a_:X.a_=X.C.a_ f
 sg:Sg f=some fn.sg
def xG{ys:List S0}(c:∀y∈ys,y.g_)(d:1<ys.length->∀y∈ys,aV y.val=true):l_ (gl (ak ys))=true:=by
 match ys with
 | []=>rfl
 | [y]=>exact S0.l_ (c y (by simp))
 |a :: b :: l=>
  have h:=d (by simp);have e:gl (ak (a :: b :: l)) = .tuple (ak (a :: b :: l)).toArray:=rfl;rw[e];simp only[Am.l_,A5];intro v f;simp only[ak,CH]at f
  grind
def mP:∀ {a:List S0} {sks:TN},cE a sks=true->a.length=sks.length
 | [],[],_=>rfl
 |x :: a,k :: sks,h=>by
  simp only[cE,te]at h;simp[mP h.2]
 | [],_ :: _,h=>by cases h
 |_ :: _,[],h=>by cases h
def Ru{xs:List S0}(f:∀x∈xs,x.g_)(d:Nat)(H:Tu) :
  Rp ⟨xs.map .st++replicate (d - xs.length) .no,replicate d .nil⟩ { tmps:=ak xs++replicate (d - (ak xs).length) undef,loc:=replicate d none,heap:=H }:=by
 refine⟨by simp[ak],λi s a=>?_,by simp,λi r c=>?_⟩
 .rw[n3]at a;split at a
  next b=>
   simp only[FM]at b;simp only[EL,Dv]at a;obtain⟨x,e,rfl⟩:=a;refine⟨?_,f x (Cb e)⟩;rw[GD (by simpa[ak]using b)];simp[ak,e,SV.val]
  .rw[Yu]at a;split at a
   .cases a;trivial
   .cases a
 .simp only[Yu]at c;split at c
  .rename_i b;cases c
   simp[LR.ok,b]
  .cases c
def sL(hA:nc A X.C Sg X.T holds abs){q:Dr}
  (i:NN X.C q)
  {f:TQ} {a:Fn1} (j:Gn X Sg f a) {ls:TG} {h:HT} {K:TG->HT->R} (n:dR ls) (k:holds (aw A X Sg q a ls h K)) :
  ∃b h',aI X.C Sg f ls (abs h) b (abs h')/\dR b/\holds (K b h'):=by
 obtain⟨g,F,G,f3,f4,H⟩:=j.is;obtain⟨x,r,s,E,l⟩:=qk hA k;obtain⟨L,m⟩:=hA.u4 _ _ l;rw[L,GM]at s;subst s;have t:=AW n;have I:=Ru t a.nt (abs h);obtain⟨e,Q,d,h',v,M,w,_,o⟩:=wK hA i a.code _ h _ _ _ I rfl m;have u:(e = .normal∨e = .ret)->holds (GF A X (Nat.blt 1 a.rvs.length) d h' a.rvs a.sg.rs [] K)->∃b h',aI X.C Sg f (cN x) (abs h) b (abs h')/\dR b/\holds (K b h'):=by
  intro J k;obtain⟨y,z,c,B,O,D,p⟩:=Ld hA M w a.rvs a.sg.rs [] K k;rw[Ds]at p;refine⟨cN y,h',⟨a.sg,x,y,j.sg,⟨E,rfl,t⟩,⟨z,rfl,c⟩,?_⟩,rl c,p⟩;rw[w];refine jE.intro F G f3 ?_ J (by rw[H];exact D) (xG c λP=>B (by rw[Gf];omega));rw[j.a_]at v;simpa[mW,f4]using v
 rcases o with⟨rfl,o⟩|⟨o,N⟩
 .simp_all
 .cases e with
  |ret=>simp_all
  |_=>exact absurd N hA.fail
def oJ:∀(caps:List (Nat×SK)) (xs:List S0) (tm:List SV) (a:Tn),tm.length=a.length->(∀x∈xs,x.g_)->(∀(i:Nat) s,tm[i]?=some s->s.ok a i)->
  (fW 0 caps xs tm).length=tm.length/\∀(i:Nat) s,(fW 0 caps xs tm)[i]?=some s->s.ok (cQ (caps.map (·.1)) (ak xs) a) i
 | [],xs,tm,a,_,_,h=>⟨by simp[fW],by simpa[fW,cQ]using h⟩
 |(t,j) :: caps,[],tm,a,_,_,h=>⟨by simp[fW],by simpa[fW,cQ,ak]using h⟩
 |(t,j) :: caps,x :: xs,tm,a,e,d,h=>by
  have:=oJ caps xs (tm.set t (.st x)) (a.set t x.val) (by simp[e]) (λy g=>d y (by simp[g])) (λi s b=>?_)
  .simpa[fW,cQ,ak]using this
  .simp only[GC]at b;split at b
   next c=>
    subst c;split at b
    next f=>
     cases b;exact⟨by rw[GL (by omega)];rfl,d x (by simp)⟩
    .cases b
   next c=>
    have:=h i s b;cases s<;>first|trivial|exact⟨by rw[Ha c];exact this.1,this.2⟩
def iA(b a:Nat):∀(caps:List (Nat×SK)) (xs:List S0) (tm:List SV),fW b caps xs tm=fW a caps xs tm
 | [],_,_=>rfl
 |_ :: _,[],_=>rfl
 |(t,_) :: caps,x :: xs,tm=>iA b a caps xs _
def mT(a:Nat):∀(caps:List (Nat×SK)) (vs tm:Tn),qt a caps vs tm=cQ (caps.map (·.1)) vs tm
 | [],_,_=>by simp[qt,cQ]
 |_ :: _,[],_=>by simp[qt,cQ]
 |(t,_) :: caps,v :: vs,tm=>by simp only[qt,DD,cQ];exact mT a caps vs _
def rx{T T':Nat->Tmp->Code}:∀ {c:AC},Fx c=true->c.erase T=c.erase T':=by
 intro c
 induction c with
 |seq a b d e=>intro h;simp only[Fx,te]at h;simp only[AC.erase,d h.1,e h.2]
 |scope b g=>intro h;simp only[AC.erase,g h]
 |cond c a b j d e=>intro h;simp only[Fx,te]at h;simp only[AC.erase,d h.1,e h.2]
 |block id b j g=>intro h;simp only[AC.erase,g h]
 |loop b lv g=>intro h;simp only[AC.erase,g h]
 |rangeFunc f k i=>intro h;cases h
 |_=>intro _;rfl
def vy:∀ {caps:List (Nat×SK)} {xs:List S0},tq caps=true->cE xs (caps.map (·.2))=true->nP xs=ak xs
 | [],[],_,_=>rfl
 |p :: caps,x :: xs,h1,a=>by
  simp only[tq,SC,te]at h1;simp only[DD,cE,te]at a;have b:=vy (caps:=caps) h1.2 a.2;obtain⟨t,c⟩:=p;cases c with
  |agg d=>cases h1.1
  |leaf k=>
   cases x with
   |agg _=>cases a.1
   |leaf l=>
    simp only[nP,SF,ak,DD]at b ⊢;rw[b];rfl
 | [],_ :: _,_,h=>by cases h
 |_ :: _,[],_,h=>by cases h
def yO(hA:nc A X.C Sg X.T holds abs){O:Dr}
  (k:NN X.C O)
  {st:Site} {vs:Tn} {l:Nat} {ls:TG} {h:HT} {K:TG->HT->R} {a:Fg} {ys:List S0} (h1:eH (abs h) l=some a) (h2:a.tmps=qt st.nt st.caps vs (replicate st.nt vc))
  (Q:a.params=st.params.map (·.1)) (h4:a.assign=st.assign.erase ry) (h5:a.body=st.body.erase ry) (hy:Told (st.params.map (·.2)) ls ys)
  (f:holds (uS A X Sg O st vs l ls h K)):∃b h',io X.C l (ak ys) (abs h) (.bool b) (abs h')/\holds (K [.b b] h'):=by
 unfold uS at f;split at f
 .exact absurd f hA.fail
 next S=>
  simp only[te]at S;obtain⟨⟨c1,c2⟩,c3⟩:=S;obtain⟨J,r,P,e2,e3,x⟩:=LQ hA f;obtain⟨D,y⟩:=hA.ts _ _ x;rw[D,GM,vy c1 e2]at P;subst P;obtain⟨L,r',N,d2,z⟩:=qk hA y;obtain⟨E,B⟩:=hA.u4 _ _ z;rw[E,GM]at N;obtain⟨Y,y2,y3⟩:=hy;obtain⟨w1,w2⟩:=cV Y d2 (y2.trans N);have F:=w2 y3
  let M:Cv:={ X with a_:=[] }
  let I:St:={ tmps:=cQ a.params (ak ys) a.tmps,loc:=[],heap:=abs h }
  have hR:Rp ⟨fW st.nt st.params L (fW st.nt st.caps J (replicate st.nt .no)),[]⟩ I:=by
   have u:=oJ st.caps J (replicate st.nt .no) (replicate st.nt vc) (by simp) e3 (λi s g=>by
    rw[Yu]at g;split at g
    .cases g;trivial
    .cases g)
   have c:∀(q:List Tmp) (vs tm:Tn),(cQ q vs tm).length=tm.length:=by
    intro q
    induction q with
    |nil=>intro vs tm;simp[cQ]
    |cons t q ih=>intro vs tm;cases vs with
     |nil=>simp[cQ]
     |cons v vs=>simp[cQ,ih]
   have a2:=oJ st.params L _ _ (by rw[u.1,c];simp) F u.2;have w:I.tmps=cQ (st.params.map (·.1)) (ak L) (cQ (st.caps.map (·.1)) (ak J) (replicate st.nt vc)):=by
    show cQ a.params (ak ys) a.tmps=_;rw[Q,h2,mT,w1]
   refine⟨?_,λi s g=>?_,rfl,λi r D=>by simp at D⟩
   .rw[w,c,c,iA st.nt 0,iA st.nt 0,a2.1,u.1];simp
   .rw[iA st.nt 0,iA st.nt 0]at g
    simp_all
  obtain⟨e,n,u6,u5,q1,q2,q3,_,o⟩:=wK (X:=M) hA k st.assign _ h I _ _ hR rfl B;rcases o with⟨rfl,o⟩|⟨_,o⟩
  .obtain⟨W,y8,U,p2,V,q6⟩:=hA.Ir _ _ _ o;rw[q3]at U V;obtain⟨e,n9,BQ,B5,s1,s2,s3,_,p⟩:=wK (X:=M) hA k st.body u6 y8 { n with heap:=n.heap.set l (.loop { W with state:=.busy }) } _ _ (q2.heap _) V q6;have u1:Dl X.C [] a.assign { tmps:=cQ a.params (ak ys) a.tmps,loc:=[],heap:=abs h } .normal n:=by
    rw[h4,rx (T':=λG t=>gh (X.T G) t) c2];exact q1
   have u2:Dl X.C [] a.body { n with heap:=n.heap.set l (.loop { W with state:=.busy }) } e n9:=by
    rw[h5,rx (T':=λG t=>gh (X.T G) t) c3];exact s1
   have m:(ak ys).length=a.params.length:=by
    rw[Q];have:=mP Y;simpa[ak]using this
   have d:∀(j:Tm) (b:Bool),IY e=some j->b=j.isNone->holds (A.Gw l j B5 λh=>K [.b b] h)->∃b h',io X.C l (ak ys) (abs h) (.bool b) (abs h')/\holds (K [.b b] h'):=by
    intro j b hj hb f;obtain⟨w9,B6,Z,z2,z3⟩:=hA.Gw _ _ _ _ f;rw[s3]at Z z2;refine⟨b,B6,?_,z3⟩;rw[z2,hb];exact io.intro h1 m u1 U p2 u2 hj Z
   rcases p with⟨rfl,p⟩|⟨p,H⟩
   .exact d none true rfl rfl p
   .cases e with
    |ret=>exact d (some .ret) false rfl rfl H
    |exit id=>exact d (some (.exit id)) false rfl rfl H
    |_=>exact absurd H hA.fail
  .exact absurd o hA.fail
end
end Sx
namespace Sx
section
variable {P:TI}
end
end Sx
end Go.Am
end

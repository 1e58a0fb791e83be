/-
  PART 3 OF THE PROOF (no conditions).
-/
import Derived.Test.YtoeibflkihlloaaGreatDoorCE2
import Derived.IntWalk
import Derived.Laws.Entries
import Derived.Laws.StructEq
set_option linter.unusedSectionVars false
set_option linter.unusedSimpArgs false
set_option linter.unusedVariables false
set_option linter.constructorNameAsVariable false
set_option linter.defProp false
noncomputable section
namespace Go.Am
def wm:∀(f n:Nat),n<=f->1<=n->(pthF f n).num=n
 |0,n,h,h1=>by omega
 |f+1,n,h,h1=>by
  unfold pthF
  by_cases hn:n<=1
  ·have:n=1:=by omega
   subst this
   rfl
  ·have h2:Nat.ble n 1=false:=by
    rw[←qbq,qbT];exact hn
   rw[h2]
   have ih:=wm f (n / 2) (by omega) (by omega)
   by_cases hm:n%2=0
   ·simp[hm,Pth.num,ih];omega
   ·simp[hm,Pth.num,ih];omega
def pM(n:Nat):(bD n).num=n+1:=wm _ _ (qaf _) (by omega)
def kL{a b:Nat}(h:bD a=bD b):a=b:=by
 have:=congrArg Pth.num h
 rw[pM,pM]at this
 omega
def Pth.set{α:Type}(d:α):Pth->Tr α->α->Tr α
 | .e,.leaf,x=>.node x .leaf .leaf
 | .e,.node _ l r,x=>.node x l r
 | .o p,.leaf,x=>.node d (Pth.set d p .leaf x) .leaf
 | .o p,.node v l r,x=>.node v (Pth.set d p l x) r
 | .i p,.leaf,x=>.node d .leaf (Pth.set d p .leaf x)
 | .i p,.node v l r,x=>.node v l (Pth.set d p r x)
def Pth.setK_eq{α:Type}(d:α):∀(p:Pth) (t:Tr α) (x:α) (k:Tr α->Bool),p.setK d t x k=k (p.set d t x)
 | .e,t,x,k=>by cases t<;>rfl
 | .o p,t,x,k=>by
  cases t with
  |leaf=>exact Pth.setK_eq d p .leaf x _
  |node v l r=>exact Pth.setK_eq d p l x _
 | .i p,t,x,k=>by
  cases t with
  |leaf=>exact Pth.setK_eq d p .leaf x _
  |node v l r=>exact Pth.setK_eq d p r x _
def Pth.get_leaf{α:Type}(d:α)(p:Pth):p.get d .leaf=d:=by cases p<;>rfl
def Pth.get_set{α:Type}(d:α):∀(p:Pth) (t:Tr α) (x:α),p.get d (p.set d t x)=x
 | .e,t,x=>by cases t<;>rfl
 | .o p,t,x=>by
  cases t with
  |leaf=>exact Pth.get_set d p .leaf x
  |node v l r=>exact Pth.get_set d p l x
 | .i p,t,x=>by
  cases t with
  |leaf=>exact Pth.get_set d p .leaf x
  |node v l r=>exact Pth.get_set d p r x
def Pth.get_set_ne{α:Type}(d:α):∀(p q:Pth) (t:Tr α) (x:α),q≠p->q.get d (p.set d t x)=q.get d t
 | .e,q,t,x,h=>by cases q<;>cases t<;>first|rfl|exact absurd rfl h|exact Pth.get_leaf d _
 | .o p,q,t,x,h=>by
  cases q with
  |e=>cases t<;>rfl
  |o q=>
   have hq:q≠p:=λe=>h (e▸rfl)
   cases t with
   |leaf=>exact(Pth.get_set_ne d p q .leaf x hq).trans (Pth.get_leaf d q)
   |node v l r=>exact Pth.get_set_ne d p q l x hq
  |i q=>
   cases t with
   |leaf=>exact Pth.get_leaf d q
   |node v l r=>rfl
 | .i p,q,t,x,h=>by
  cases q with
  |e=>cases t<;>rfl
  |i q=>
   have hq:q≠p:=λe=>h (e▸rfl)
   cases t with
   |leaf=>exact(Pth.get_set_ne d p q .leaf x hq).trans (Pth.get_leaf d q)
   |node v l r=>exact Pth.get_set_ne d p q r x hq
  |o q=>
   cases t with
   |leaf=>exact Pth.get_leaf d q
   |node v l r=>rfl
def Tr.map{α:Type}(f:α->α):Tr α->Tr α
 | .leaf=>.leaf
 | .node v l r=>.node (f v) (l.map f) (r.map f)
def eqI_iff{a b:Int}:eqI a b=true↔a=b:=by
 cases a<;>cases b<;>simp[eqI]<;>omega
def fits_iff{k:TI}{c:Int}(h:fits k c=true):(k.signed=true->-(kmax k:Int) - 1<=c)/\(k.signed=false->0<=c)/\c<=kmax k:=by
 cases c with
 |ofNat n=>
  simp only[fits,qbT]at h
  refine⟨λ_=>?_,λ_=>?_,?_⟩<;>simp<;>omega
 |negSucc n=>
  simp only[fits,qaa,qbT]at h
  refine⟨λ_=>?_,λhs=>?_,?_⟩
  ·omega
  ·rw[h.1]at hs;cases hs
  ·omega
def sO{k:TI}{c:Int}(h:fits k c=true):k.wrap c=c:=by
 obtain⟨h1,h2,h3⟩:=fits_iff h
 cases k<;>simp only[IntKind.signed,kmax,forall_const,reduceCtorEq,false_implies]at h1 h2 h3
 ·exact Go.IntWalk.i8_in c (by omega)
 ·exact Go.IntWalk.i16_in c (by omega)
 ·exact Go.IntWalk.i32_in c (by omega)
 ·exact Go.IntWalk.i64_in c (by omega)
 ·exact Go.IntWalk.u8_in c (by omega)
 ·exact Go.IntWalk.u16_in c (by omega)
 ·exact Go.IntWalk.u32_in c (by omega)
 ·exact Go.IntWalk.u64_in c (by omega)
section
variable [Val] {ρ:List Int}
def oP(op:BinOp)(x y:Int):Option Bool:=
 match op with
 | .eql=>some (x==y)
 | .neq=>some (x != y)
 | .lss=>some (decide (x<y))
 | .leq=>some (decide (x<=y))
 | .gtr=>some (decide (x > y))
 | .geq=>some (decide (x ≥ y))
 |_=>none
def qi(op:BinOp)(k:TI)(x y n:Int):Prop:=∀(P:TF) (t:TM) (w:World),(binOp op t (.int k x) (.int k y)).run P w = .ok (.int k n) w
def bits_one{k:TI}(x:Int):((BitVec.ofInt k.bits x &&& BitVec.ofInt k.bits 1).toNat:Int)=x%2:=by
 have hb:k.bits=k.bits - 1+1:=by cases k<;>rfl
 generalize k.bits - 1=n at hb
 rw[hb]
 have h1:(BitVec.ofInt (n+1) 1).toNat=1:=by
  simp
 rw[BitVec.toNat_and,h1,Nat.and_one_is_mod,BitVec.toNat_ofInt]
 have hp:(0:Int)<2 ^ (n+1):=Int.pow_pos (by omega)
 have e:(2:Int) ^ (n+1)=2*2 ^ n:=by rw[Int.pow_succ];omega
 have h0:0<=x%(2 ^ (n+1):Int):=Int.emod_nonneg _ (by omega)
 have:((x%((2 ^ (n+1):Nat):Int)).toNat%2:Nat)=((x%(2 ^ (n+1):Int))%2:Int):=by
  have e2:((2 ^ (n+1):Nat):Int)=(2 ^ (n+1):Int):=by simp
  rw[e2]
  omega
 rw[this,e,Int.emod_emod_of_dvd _ ⟨2 ^ n,rfl⟩]
def nR{k:TI}{x n:Int}(hn:x%2=n):qi .and k x 1 n:=by
 intro P t w
 have hw:k.wrap n=n:=sO (by
  have h0:0<=n:=by omega
  have h1:n<=1:=by omega
  obtain⟨m,rfl⟩ : ∃m:Nat,n=m:=⟨n.toNat,by omega⟩
  show Nat.ble m (kmax k)=true
  rw[qbT]
  cases k<;>simp only[kmax]<;>omega)
 have hb:=bits_one (k:=k) x
 simp only[binOp,ne_eq,not_true_eq_false,if_false,Op.intBits]
 show Result.ok (Value.int k (k.wrap _)) w=_
 rw[hb,hn,hw]
end
section
variable [Val] {ρ:List Int}
structure Rep(pts:TB)(nt:Nat)(tm:TV)(lc:TL)(σ:St):Prop where
 len:σ.tmps.length=nt
 val:∀(i:Nat) v,σ.tmps[i]?=some v->(bD i).get undef tm=v
 llen:pts≠[]->σ.loc.length=nt
 loc:∀(i:Nat) x,σ.loc[i]?=some x->(bD i).get none lc=x
def ValStep(C:Cfg)(pts:TB)(σ:St)(o:Oper)(v:Value):Prop:=
 (∃e,am C pts (oval σ.tmps) o=some e/\aQ σ e=some (σ,v))∨iH C σ.tmps o v
def ValStep.val{C:Cfg}{pts:TB}{σ:St}{o:Oper}{v:Value}(h:am C pts (oval σ.tmps) o=some (.val v)):ValStep C pts σ o v:=.inl ⟨_,h,rfl⟩
def og(k:TI)(x:Int):k.wrap (x%(2 ^ k.bits:Int))=k.wrap x:=by
 unfold IntKind.wrap
 rw[Int.emod_emod_of_dvd _ (Int.dvd_refl _)]
def uP{k:TI}(m n:Nat):qi .and k m n (k.wrap (Nat.land m n:Nat)):=by
 intro P t w
 simp only[binOp,ne_eq,not_true_eq_false,if_false,Op.intBits]
 show Result.ok (Value.int k (k.wrap _)) w=_
 rw[←og k (Nat.land m n:Nat)]
 congr 3
 have h2:∀x:Nat,(BitVec.ofInt k.bits (x:Int)).toNat=x%2 ^ k.bits:=λx=>by
  rw[BitVec.toNat_ofInt]
  have:((x:Int)%((2 ^ k.bits:Nat):Int))=((x%2 ^ k.bits:Nat):Int):=by simp
  rw[this,qdg]
 have h3:(BitVec.ofInt k.bits (m:Int) &&& BitVec.ofInt k.bits (n:Int)).toNat=(m &&& n)%2 ^ k.bits:=by
  rw[BitVec.toNat_and,h2,h2,Nat.and_mod_two_pow]
 rw[h3]
 simp
def uS{k:TI}(m n:Nat):qi .xor k m n (k.wrap (Nat.xor m n:Nat)):=by
 intro P t w
 simp only[binOp,ne_eq,not_true_eq_false,if_false,Op.intBits]
 show Result.ok (Value.int k (k.wrap _)) w=_
 rw[←og k (Nat.xor m n:Nat)]
 congr 3
 have h2:∀x:Nat,(BitVec.ofInt k.bits (x:Int)).toNat=x%2 ^ k.bits:=λx=>by
  rw[BitVec.toNat_ofInt]
  have:((x:Int)%((2 ^ k.bits:Nat):Int))=((x%2 ^ k.bits:Nat):Int):=by simp
  rw[this,qdg]
 have h3:(BitVec.ofInt k.bits (m:Int) ^^^ BitVec.ofInt k.bits (n:Int)).toNat=(m ^^^ n)%2 ^ k.bits:=by
  rw[BitVec.toNat_xor,h2,h2,Nat.xor_mod_two_pow]
 rw[h3]
 simp
def xL{k:TI}(m n:Nat):qi .or k m n (k.wrap (Nat.lor m n:Nat)):=by
 intro P t w
 simp only[binOp,ne_eq,not_true_eq_false,if_false,Op.intBits]
 show Result.ok (Value.int k (k.wrap _)) w=_
 rw[←og k (Nat.lor m n:Nat)]
 congr 3
 have h2:∀x:Nat,(BitVec.ofInt k.bits (x:Int)).toNat=x%2 ^ k.bits:=λx=>by
  rw[BitVec.toNat_ofInt]
  have:((x:Int)%((2 ^ k.bits:Nat):Int))=((x%2 ^ k.bits:Nat):Int):=by simp
  rw[this,qdg]
 have h3:(BitVec.ofInt k.bits (m:Int) ||| BitVec.ofInt k.bits (n:Int)).toNat=(m ||| n)%2 ^ k.bits:=by
  rw[BitVec.toNat_or,h2,h2,Nat.or_mod_two_pow]
 rw[h3]
 simp
end
section
variable {R:Type}
def setK_eq{α:Type}(x:α):∀(l:List α) (i:Nat) (k:List α->R),setK x l i k=k (l.set i x)
 | [],_,_=>rfl
 |_ :: _,0,_=>rfl
 |a :: l,i+1,k=>setK_eq x l i λl=>k (a :: l)
def ux(n:Nat)(K:Nat->R):qP n K=K n:=by cases n<;>rfl
end
def SL.good:SL->Prop
 | .v x=>aS x=true
 |_=>True
def S0.good(x:S0):Prop:=∀l∈x.cells,l.good
def SV.gd:SV->Prop
 | .st x=>x.good
 | .tup xs=>(∀x∈xs,x.good)/\2<=xs.length
 | .no=>False
 |_=>True
def dR{x:Value}:aS x=true↔noLoc x=true/\aZ x=true/\aR x=true/\aI x=false:=by
 unfold aS
 cases noLoc x<;>cases aZ x<;>cases aR x<;>cases aI x<;>simp
def oZ{x:Value}(h:aS x=true):aU x=true:=by
 obtain⟨h1,_,h2,_⟩:=dR.1 h
 simp[aU,h1,h2]
def uA{x:Value}(h:aS x=true):x.cells = #[x]:=dV (dR.1 h).2.2.1
def SL.val_good{l:SL}(h:l.good):aS l.val=true:=by
 cases l with
 |v x=>exact h
 |_=>rfl
def S0.cells_val{x:S0}(h:x.good):x.val.cells=⟨x.cells.map SL.val⟩:=by
 cases x with
 |leaf l=>exact uA (SL.val_good (h l (by simp[S0.cells])))
 |agg cs=>rfl
def S0.noLoc{x:S0}(h:x.good):noLoc x.val=true:=by
 cases x with
 |leaf l=>exact(dR.1 (SL.val_good (h l (by simp[S0.cells])))).1
 |agg cs=>
  simp only[S0.val,Am.noLoc,qag,qaU]
  rintro _ ⟨l,hl,rfl⟩
  exact(dR.1 (SL.val_good (h l hl))).2.1
def S0.not_tuple{x:S0}(h:x.good):aI x.val=false:=by
 cases x with
 |leaf l=>exact(dR.1 (SL.val_good (h l (by simp[S0.cells])))).2.2.2
 |agg cs=>rfl
def S0.cells_ok{x:S0}(h:x.good):x.val.cells.toList.all aU=true:=by
 rw[S0.cells_val h]
 simp only[qag,qaU]
 rintro _ ⟨l,hl,rfl⟩
 exact oZ (SL.val_good (h l hl))
def cells_ok'{cs:List SL}(h:∀l∈cs,l.good):(cs.map SL.val).all aU=true:=by
 simp only[qag,qaU]
 rintro _ ⟨l,hl,rfl⟩
 exact oZ (SL.val_good (h l hl))
def uT{v:Value}(h:scalar v=true):aS v=true:=by
 cases v<;>first|rfl|(simp[scalar]at h;done)|skip
 case pointer a=>cases a<;>first|rfl|simp[scalar]at h
 case slice a l c=>
  cases a with
  |none=>rfl
  |some a=>cases l<;>cases c<;>simp[scalar]at h
def rL(v:Value):(slOf v).val=v:=by cases v<;>rfl
def nW{v:Value}(h:scalar v=true):(slOf v).good:=by
 cases v<;>first|trivial|exact uT h
def rH{v:Value}{x:S0}(h:s0Of v=some x):x.val=v/\x.good/\eO v=true:=by
 unfold s0Of at h
 split at h
 next cs=>
  split at h
  next ha=>
   cases h
   refine⟨?_,?_,ha⟩
   ·simp only[S0.val,qcW,Value.agg.injEq]
    have:(SL.val ∘ slOf)=id:=funext rL
    rw[this,List.map_id]
   ·intro l hl
    simp only[S0.cells,qaU]at hl
    obtain⟨v,hv,rfl⟩:=hl
    exact nW (qag.1 ha v hv)
  ·cases h
 next hne=>
  split at h
  next hs=>
   cases h
   refine⟨rL v,?_,?_⟩
   ·intro l hl
    simp only[S0.cells,qam]at hl
    subst hl
    exact nW hs
   ·cases v<;>first|exact hs|exact absurd rfl (hne _)
  ·cases h
def dA{a b:TI}(h:cS a b=true):a=b:=by
 cases a<;>cases b<;>first|rfl|cases h
def dI(a:TI):cS a a=true:=by cases a<;>rfl
section
variable [Val] [Kno]
def Told(sks:TJ)(ls:TE)(xs:List S0):Prop:=bZ xs sks=true/\cb xs=ls/\∀x∈xs,x.good
def aw(C:Cfg)(Sg:Tb)(g:TN)(ls:TE)(H:Ts)(rs:TE)(H':Ts):Prop:=
 ∃sg xs ys,Sg g=some sg/\Told sg.ps ls xs/\Told sg.rs rs ys/\iy C g (ai xs) H (fz (ai ys)) H'
def tY(C:Cfg)(v:Value)(args:Tl)(hs:TJ)(H:Ts)(rs:TE)(H':Ts):Prop:=
 ∃ys,Told hs rs ys/\((∃g first cap,v = .func (.func g) first cap/\iy C g (first.toList++args++cap.toList) H (fz (ai ys)) H')∨
  (∃l,v = .func (.yield l) #[] #[]/\jM C l args H (fz (ai ys)) H'))
def ot(nt:Nat):List (Nat×SK)->Tl->Tl->List Value
 |(t,_) :: l,v :: vs,tm=>ot nt l vs (tm.set t v)
 |_,_,tm=>tm
def lpOf(s:Site)(κ:Nat)(vals:Tl):ALoop:=
 { state:=.ready,pending:=none,fn:=κ,tmps:=ot s.nt s.caps vals (List.replicate s.nt poison),params:=s.params.map (·.1),assign:=s.assign.erase pE,body:=s.body.erase pE }
def gF:Lf->Lf->Bool
 | .i a,.i b=>a==b
 | .b a,.b b=>a==b
 |_,_=>false
def ch(l:List (Lf×Lf)):Bool:=l.all λp=>gF p.1 p.2
def ShRun(op:BinOp)(k:TI)(x:Int)(k':TI)(y n:Int):Prop:=∀(P:TF) (t:TM) (w:World),(binOp op t (.int k x) (.int k' y)).run P w = .ok (.int k n) w
abbrev _root_.Tt:=Nat->Site
structure AlgOk{R HT:Type}(A:Alg R HT)(C:Cfg)(Sg:Tb)(T:Tt)(holds:R->Prop)(abs:HT->Ts):Prop where
 fail:¬holds A.fail
 cond:∀b x y,holds (A.cond b x y)->(b=true/\holds x)∨(b=false/\holds y)
 ari:∀op k a b K,holds (A.ari op k a b K)->∃n,qi op k a b n/\holds (K n)
 shf:∀op k a k' b K,holds (A.shf op k a k' b K)->∃n,ShRun op k a k' b n/\holds (K n)
 cmp:∀op a b K,holds (A.cmp op a b K)->∃t,oP op a b=some t/\holds (K t)
 eqs:∀l K,holds (A.eqs l K)->holds (K (ch l))
 conv:∀k a K,holds (A.conv k a K)->holds (K (k.wrap a))
 sel:∀t a b K,holds (A.sel t a b K)->holds (K (if t then a else b))
 opt:∀ {α:Type} (o:Option α) K,holds (A.opt o K)->∃x,o=some x/\holds (K x)
 chk:∀v K,holds (A.chk v K)->aS v=true/\holds K
 unI:∀ls K,holds (A.unI ls K)->∃n r,ls = .i n :: r/\holds (K n r)
 unB:∀ls K,holds (A.unB ls K)->∃t r,ls = .b t :: r/\holds (K t r)
 unV:∀ls K,holds (A.unV ls K)->∃x r,ls = .v x :: r/\holds (K x r)
 un0:∀ls K,holds (A.un0 ls K)->ls=[]/\holds K
 ucI:∀k ls K,holds (A.ucI k ls K)->∃n r,ls = .int k n :: r/\holds (K n r)
 ucB:∀ls K,holds (A.ucB ls K)->∃t r,ls = .bool t :: r/\holds (K t r)
 ucV:∀ls K,holds (A.ucV ls K)->∃x r,ls=x :: r/\holds (K x r)
 uc0:∀ls K,holds (A.uc0 ls K)->ls=[]/\holds K
 peek:∀f h K,holds (A.peek f h K)->∃cs,f.run (λi=>(abs h)[i]?)=some cs/\holds (K cs)
 heap:∀f h K,holds (A.heap f h K)->∃acts cs h',f.run (λi=>(abs h)[i]?) (abs h).length=some (acts,cs)/\abs h'=ge (abs h) acts/\holds (K cs h')
 new:∀o h K,holds (A.new o h K)->∃h',abs h'=abs h++[o]/\holds (K (abs h).length h')
 call:∀g ls h K,holds (A.call g ls h K)->∃rs h',aw C Sg g ls (abs h) rs (abs h')/\holds (K rs h')
 callv:∀v args hs h K,holds (A.callv v args hs h K)->∃rs h',tY C v args hs (abs h) rs (abs h')/\holds (K rs h')
 join:∀b m,holds (A.join b m)->holds (m b)
 loop:∀F ls h,holds (A.loop F ls h)->∃it:Nat->TE->HT->R,(∀ls h,¬holds (it 0 ls h))/\(∀n ls h,it (n+1) ls h=F (it n) ls h)/\∃n,holds (it n ls h)
 rfun:∀κ v vals h K,holds (A.rfun κ v vals h K)->∃g first cap r H1 lp h2,v = .func (.func g) first cap/\
  iy C g (first.toList++[.func (.yield (abs h).length) #[] #[]]++cap.toList) (abs h++[.loop (lpOf (T κ) κ vals)]) r H1/\
  ed H1 (abs h).length=some lp/\lp.state≠.busy/\abs h2=H1.set (abs h).length (.loop { lp with state:=.exhausted })/\holds (K lp.pending h2)
 pend:∀pd kn kr ks,holds (A.pend pd kn kr ks)->(pd=none/\holds kn)∨(pd=some .ret/\holds kr)∨∃id x,pd=some (.exit id)/\(id,x)∈ks/\holds x
 lp1:∀l h K,holds (A.lp1 l h K)->∃lp h',ed (abs h) l=some lp/\lp.state = .ready/\abs h'=(abs h).set l (.loop { lp with state:=.busy })/\holds (K h')
 lp2:∀l j h K,holds (A.lp2 l j h K)->∃lp h',ed (abs h) l=some lp/\abs h'=(abs h).set l (.loop { lp with state:=if j.isNone then .ready else .done,pending:=j })/\holds (K h')
def SV.ok(tmps:Tl)(i:Nat)(s:SV):Prop:=
 match s with
 | .no=>True
 |s=>tmps[i]?=some s.val/\s.gd
def LR.ok(loc:List (Option (Tl)))(i:Nat):LR->Prop
 | .unk=>True
 | .nil=>loc[i]?=some none
 | .any n=>∃vs,loc[i]?=some (some vs)/\vs.length=n
 | .row cs=>loc[i]?=some (some (cs.map SL.val))/\∀c∈cs,c.good
structure Rp(ev:Env)(σ:St):Prop where
 len:ev.tm.length=σ.tmps.length
 val:∀(i:Nat) s,ev.tm[i]?=some s->s.ok σ.tmps i
 llen:ev.lc.length=σ.loc.length
 row:∀(i:Nat) r,ev.lc[i]?=some r->r.ok σ.loc i
def SV.ok_gd{tmps:Tl}{i:Nat}{s:SV}(h:s.gd)(hv:tmps[i]?=some s.val):s.ok tmps i:=by
 cases s<;>first|trivial|exact⟨hv,h⟩
def Rp.at{ev:Env}{σ:St}(h:Rp ev σ){t:Nat}{s:SV}(hs:ev.tm.getD t .no=s)(hn:s≠.no):σ.tmps[t]?=some s.val/\s.gd:=by
 rw[List.getD_eq_getElem?_getD]at hs
 cases he:ev.tm[t]? with
 |none=>rw[he]at hs;exact absurd hs.symm hn
 |some x=>
  rw[he]at hs
  simp only[qby]at hs
  subst hs
  have:=h.val t x he
  cases x<;>first|exact this|exact absurd rfl hn
def Rp.sval{ev:Env}{σ:St}(h:Rp ev σ){x:TH}{s:SV}(hs:sval ev x=s)(hn:s≠.no):oval σ.tmps x=s.val/\s.gd:=by
 cases x with
 |tmp t=>
  obtain⟨h1,h2⟩:=h.at (t:=t) hs hn
  exact⟨by simp[oval,List.getD_eq_getElem?_getD,h1],h2⟩
 |const v=>
  simp only[Am.sval]at hs
  cases hv:s0Of v with
  |none=>rw[hv]at hs;exact absurd hs.symm hn
  |some x=>
   rw[hv]at hs
   subst hs
   obtain⟨h1,h2,h3⟩:=rH hv
   refine⟨?_,h2⟩
   have:flat v=true:=by cases v<;>first|exact h3|(simp[eO,scalar]at h3)
   simp[oval,this,SV.val,h1]
 |global g=>
  subst hs
  simp only[Am.sval,oval]
  cases hb:Nat.blt g gB with
  |true=>exact⟨rfl,trivial⟩
  |false=>exact absurd (by simp only[Am.sval,hb]) hn
 |func f=>
  subst hs
  refine⟨rfl,λl hl=>?_⟩
  simp only[S0.cells,qam]at hl
  subst hl
  rfl
def Rp.sval0{ev:Env}{σ:St}(h:Rp ev σ){x:TH}{s:S0}(hs:sval0 ev x=some s):oval σ.tmps x=s.val/\s.good:=by
 unfold Am.sval0 at hs
 split at hs
 next y e=>
  cases hs
  exact h.sval e (by simp)
 ·cases hs
def Rp.svals{ev:Env}{σ:St}(h:Rp ev σ):∀ {l:List Operand} {xs:List S0},svals ev l=some xs->l.map (oval σ.tmps)=ai xs/\∀x∈xs,x.good
 | [],xs,hs=>by cases hs;exact⟨rfl,by simp⟩
 |o :: l,xs,hs=>by
  simp only[Am.svals]at hs
  split at hs
  next x ys e1 e2=>
   cases hs
   obtain⟨h1,h2⟩:=h.sval0 e1
   obtain⟨h3,h4⟩:=h.svals e2
   refine⟨by simp[ai,h1];exact h3,λy hy=>?_⟩
   rcases qal.1 hy with rfl|hy
   ·exact h2
   ·exact h4 y hy
  ·cases hs
def Rp.put{ev:Env}{σ:St}(h:Rp ev σ)(d:Nat){s:SV}(hs:s.gd):Rp ⟨ev.tm.set d s,ev.lc⟩ (σ.put (some d) s.val):=by
 refine⟨by simp[St.put,h.len],λi x hx=>?_,h.llen,h.row⟩
 simp only[qa2]at hx
 split at hx
 next hi=>
  subst hi
  split at hx
  next hlt=>
   cases hx
   refine SV.ok_gd hs ?_
   simp only[St.put,List.getElem?_set_self']
   rw[qai (by rw[←h.len];exact hlt)]
   rfl
  ·cases hx
 next hi=>
  have:=h.val i x hx
  cases x<;>first|trivial|exact⟨by simp only[St.put];rw[qaA hi];exact this.1,this.2⟩
def Rp.heap{ev:Env}{σ:St}(h:Rp ev σ)(H:Ts):Rp ev { σ with heap:=H }:=⟨h.len,h.val,h.llen,h.row⟩
structure Fr(ws ks rs:TB)(σ σ':St):Prop where
 tlen:σ'.tmps.length=σ.tmps.length
 llen:σ'.loc.length=σ.loc.length
 tm:∀(i:Nat) v,σ.tmps[i]?=some v->i∉ws->noLoc v=true->σ'.tmps[i]?=some v
 tp:∀(i s off:Nat),σ.tmps[i]?=some (.pointer (some ⟨s,off,some 0⟩))->i∉ws->s∉ks->σ'.tmps[i]?=some (.pointer (some ⟨s,off,some 0⟩))
 row:∀(s:Nat) x,σ.loc[s]?=some x->s∉rs->σ'.loc[s]?=some x
 rlen:∀(s:Nat) vs,σ.loc[s]?=some (some vs)->s∉ks->∃vs',σ'.loc[s]?=some (some vs')/\vs'.length=vs.length
def Fr.refl(ws ks rs:TB)(σ:St):Fr ws ks rs σ σ:=⟨rfl,rfl,λ_ _ h _ _=>h,λ_ _ _ h _ _=>h,λ_ _ h _=>h,λ_ vs h _=>⟨vs,h,rfl⟩⟩
def Fr.trans{ws ks rs:TB}{σ σ₁ σ':St}(h:Fr ws ks rs σ σ₁)(h':Fr ws ks rs σ₁ σ'):Fr ws ks rs σ σ':=
 ⟨h'.tlen.trans h.tlen,h'.llen.trans h.llen,λi v a b c=>h'.tm i v (h.tm i v a b c) b c,λi s off a b c=>h'.tp i s off (h.tp i s off a b c) b c,
  λs x a b=>h'.row s x (h.row s x a b) b,λs vs a b=>let ⟨v1,c1,d1⟩:=h.rlen s vs a b;let ⟨v2,c2,d2⟩:=h'.rlen s v1 c1 b;⟨v2,c2,d2.trans d1⟩⟩
def Fr.mono{ws ks rs ws' ks' rs':TB}{σ σ':St}(h:Fr ws ks rs σ σ')(h1:∀i∈ws,i∈ws')(h2:∀i∈ks,i∈ks')(h3:∀i∈rs,i∈rs'):Fr ws' ks' rs' σ σ':=
 ⟨h.tlen,h.llen,λi v a b c=>h.tm i v a (λhi=>b (h1 i hi)) c,λi s off a b c=>h.tp i s off a (λhi=>b (h1 i hi)) (λhi=>c (h2 s hi)),
  λs x a b=>h.row s x a (λhi=>b (h3 s hi)),λs vs a b=>h.rlen s vs a (λhi=>b (h2 s hi))⟩
def Fr.heap{ws ks rs:TB}{σ σ':St}(h:Fr ws ks rs σ σ')(H:Ts):Fr ws ks rs σ { σ' with heap:=H }:=⟨h.tlen,h.llen,h.tm,h.tp,h.row,h.rlen⟩
def Fr.put{σ:St}(dst:To)(v:Value)(ks rs:TB):Fr dst.toList ks rs σ (σ.put dst v):=by
 cases dst with
 |none=>exact .refl _ _ _ _
 |some d=>
  refine⟨by simp[St.put],rfl,λi x h hi _=>?_,λi s off h hi _=>?_,λ_ _ h _=>h,λ_ vs h _=>⟨vs,h,rfl⟩⟩<;>
  ·simp only[qdc,qam]at hi
   simp only[St.put]
   rw[qaA (λe=>hi e.symm)]
   exact h
end
inductive HO where
 |o (x:HObj)
 |lp (κ:Nat) (st:LoopState) (pd:Tk) (vs:Tl)
abbrev HL:=List HO
inductive CK where
 |f (g:TN)
 |y (κ:Nat) (vs:Tl) (l:Nat)
def absO(T:Tt):HO->HObj
 | .o x=>x
 | .lp κ st pd vs=>.loop { lpOf (T κ) κ vs with state:=st,pending:=pd }
def absH(T:Tt)(h:HL):Ts:=h.map (absO T)
namespace Sx
inductive HOT where
 |o (x:HObj)
 |lp (κ:Nat) (st:LoopState) (pd:Tk) (vs:Tl)
 |t (n e:Nat) (rw:Bool) (c:Tr Value)
def nilV:Value:=.bool false
def bS(c:Tr Value)(n:Nat):Tl:=(List.range n).map λi=>(bD i).get nilV c
def HOT.ho:HOT->HO
 | .o x=>.o x
 | .lp κ st pd vs=>.lp κ st pd vs
 | .t n e rw c=>.o (.cells (bS c n) e rw)
structure HTr where
 n:Nat
 t:Tr HOT
def noO:HOT:=.o .dead
def HTr.empty:HTr:=⟨0,.leaf⟩
def HTr.at(h:HTr)(i:Nat):Option HOT:=match Nat.blt i h.n with
 |true=>some ((bD i).get noO h.t)
 |false=>none
def toL(h:HTr):HL:=(List.range h.n).map λi=>((bD i).get noO h.t).ho
def cU(h:HTr):(toL h).length=h.n:=by simp[toL]
def ja(h:HTr)(i:Nat):(toL h)[i]?=(h.at i).map HOT.ho:=by
 unfold toL HTr.at
 rw[qaz]
 cases e:Nat.blt i h.n with
 |true=>
  rw[qbd]at e
  rw[qcn e];rfl
 |false=>
  have:h.n<=i:=by
   rcases qaQ i h.n with h1|h1
   ·rw[←qbd,e]at h1;cases h1
   ·exact h1
  rw[qaj (by simpa using this)];rfl
def HTr.put(h:HTr)(i:Nat)(o:HOT):HTr:=match Nat.blt i h.n with
 |true=>⟨h.n,(bD i).set noO h.t o⟩
 |false=>h
def HTr.push(h:HTr)(o:HOT):HTr:=⟨h.n+1,(bD h.n).set noO h.t o⟩
def gX(h:HTr)(i:Nat)(o:HOT):toL (h.put i o)=(toL h).set i o.ho:=by
 apply qa0
 intro j
 unfold HTr.put
 cases e:Nat.blt i h.n with
 |true=>
  rw[qbd]at e
  simp only
  rw[ja]
  by_cases hj:i=j
  ·subst hj
   rw[qaH (by rw[cU];exact e)]
   unfold HTr.at
   simp only[(qbd▸e:Nat.blt i h.n=true)]
   rw[Pth.get_set];rfl
  ·rw[qaA hj,ja]
   unfold HTr.at
   simp only
   rw[Pth.get_set_ne _ _ _ _ _ (λh=>hj (kL h).symm)]
 |false=>
  simp only
  have:h.n<=i:=by
   rcases qaQ i h.n with h1|h1
   ·rw[←qbd,e]at h1;cases h1
   ·exact h1
  rw[List.set_eq_of_length_le (by rw[cU];exact this)]
def fe(h:HTr)(o:HOT):toL (h.push o)=toL h++[o.ho]:=by
 apply qa0
 intro j
 rw[ja]
 unfold HTr.push HTr.at
 simp only
 by_cases h1:j<h.n
 ·rw[qah (by rw[cU];exact h1),ja]
  unfold HTr.at
  have e1:Nat.blt j (h.n+1)=true:=by rw[qbd];omega
  have e2:Nat.blt j h.n=true:=by rw[qbd];omega
  simp only[e1,e2]
  rw[Pth.get_set_ne _ _ _ _ _ (λh=>by have:=kL h;omega)]
 ·rw[qan (by rw[cU];omega),cU]
  by_cases h2:j=h.n
  ·subst h2
   have e1:Nat.blt h.n (h.n+1)=true:=by rw[qbd];omega
   simp only[e1,qbu,qaR]
   rw[Pth.get_set];rfl
  ·have e1:Nat.blt j (h.n+1)=false:=by rw[←qbq,qbd];omega
   simp only[e1]
   rw[qaj (by simp;omega)];rfl
def ba(c:Tr Value)(n:Nat):(bS c n).length=n:=by simp[bS]
def dG(c:Tr Value){n i:Nat}(h:i<n):(bS c n)[i]?=some ((bD i).get nilV c):=by
 unfold bS
 rw[qaz,qcn h];rfl
def insT:Tl->Nat->Tr Value->Tr Value
 | [],_,c=>c
 |v :: l,i,c=>insT l (i+1) ((bD i).set nilV c v)
def qV:∀(l:Tl) (i:Nat) (c:Tr Value) (j:Nat),(bD j).get nilV (insT l i c)=if i<=j/\j<i+l.length then l[j - i]?.getD nilV else(bD j).get nilV c
 | [],i,c,j=>by
  have h:¬(i<=j/\j<i+([]:Tl).length):=by intro h;have:=h.2;simp at this;omega
  rw[qdE h];rfl
 |v :: l,i,c,j=>by
  show(bD j).get nilV (insT l (i+1) _)=_
  rw[qV l (i+1)]
  by_cases h:i+1<=j/\j<i+1+l.length
  ·rw[qdD h,qdD (by simp;omega)]
   have:j - i=(j - (i+1))+1:=by omega
   rw[this,qbf]
  ·rw[qdE h]
   by_cases h2:j=i
   ·subst h2
    rw[Pth.get_set,qdD (by simp)];simp
   ·rw[Pth.get_set_ne _ _ _ _ _ (λe=>h2 (kL e)),qdE (by simp;omega)]
def oM{l:Tl}{i n:Nat}{c:Tr Value}(h:i+l.length<=n):bS (insT l i c) n=(bS c n).take i++l++(bS c n).drop (i+l.length):=by
 apply qa0
 intro j
 by_cases hj:j<n
 ·rw[dG _ hj,qV]
  by_cases h1:j<i
  ·rw[qdE (by omega),qaJ,qah (by rw[qaG,ba];omega),List.getElem?_take_of_lt h1,dG _ hj]
  ·have hl:((bS c n).take i).length=i:=by rw[qaG,ba];omega
   by_cases h2:j<i+l.length
   ·rw[qdD ⟨by omega,h2⟩,qaJ,qan (by omega),hl,qah (by omega)]
    rw[qai (by omega)];rfl
   ·rw[qdE (by omega),qan (by rw[qaB,hl];omega),qaB,hl,qaX,show i+l.length+(j - (i+l.length))=j by omega,dG _ hj]
 ·rw[qaj (by rw[ba];omega),qaj (by simp[ba];omega)]
def mF{l:Tl}{n:Nat}{c:Tr Value}:bS (insT l n c) (n+l.length)=bS c n++l:=by
 apply qa0
 intro j
 by_cases hj:j<n+l.length
 ·rw[dG _ hj,qV]
  by_cases h1:j<n
  ·rw[qdE (by omega),qah (by rw[ba];exact h1),dG _ h1]
  ·rw[qdD ⟨by omega,hj⟩,qan (by rw[ba];omega),ba,qai (by omega)];rfl
 ·rw[qaj (by rw[ba];omega),qaj (by simp[ba];omega)]
def wX(l:Tl):bS (insT l 0 .leaf) l.length=l:=by
 have:=mF (l:=l) (n:=0) (c:=.leaf)
 simpa[bS]using this
def xC(c:Tr Value)(n:Nat):Nat->Tl:=Nat.rec (motive:=λ_=>Nat->Tl) (λ_=>[]) (λ_ ih off=>(bD off).get nilV c :: fN (Nat.succ off) ih) n
def jC(c:Tr Value):∀(n off m:Nat),off+n<=m->xC c n off=((bS c m).drop off).take n
 |0,_,_,_=>by rw[qbb];rfl
 |n+1,off,m,h=>by
  show(bD off).get nilV c :: xC c n (off+1)=_
  rw[jC c n (off+1) m (by omega)]
  have h1:off<(bS c m).length:=by rw[ba];omega
  rw[qa9 h1,qaW]
  congr 1
  have:=dG c (n:=m) (i:=off) (by omega)
  rw[qai h1]at this
  exact(qae this).symm
section
variable {R:Type}
def putR{α:Type}(d:α)(p:Pth):Tr α->α->(Tr α->R)->R:=
 Pth.rec (motive:=λ_=>Tr α->α->(Tr α->R)->R)
  (λt x k=>Tr.casesOn t (k (.node x .leaf .leaf)) λ_ l r=>k (.node x l r))
  (λ_ ih t x k=>Tr.casesOn t (ih .leaf x λl=>k (.node d l .leaf)) λv l r=>ih l x λl=>k (.node v l r))
  (λ_ ih t x k=>Tr.casesOn t (ih .leaf x λr=>k (.node d .leaf r)) λv l r=>ih r x λr=>k (.node v l r)) p
def iU{α:Type}(d:α):∀(p:Pth) (t:Tr α) (x:α) (k:Tr α->R),putR d p t x k=k (p.set d t x)
 | .e,t,x,k=>by cases t<;>rfl
 | .o p,t,x,k=>by
  cases t with
  |leaf=>exact iU d p .leaf x _
  |node v l r=>exact iU d p l x _
 | .i p,t,x,k=>by
  cases t with
  |leaf=>exact iU d p .leaf x _
  |node v l r=>exact iU d p r x _
def putK(h:HTr)(i:Nat)(o:HOT)(k:HTr->R):R:=match Nat.blt i h.n with
 |true=>putR noO (bD i) h.t o λt=>k ⟨h.n,t⟩
 |false=>k h
def gR(h:HTr)(o:HOT)(k:HTr->R):R:=putR noO (bD h.n) h.t o λt=>fN (Nat.succ h.n) λn=>k ⟨n,t⟩
def gS(h:HTr)(i:Nat)(o:HOT)(k:HTr->R):putK h i o k=k (h.put i o):=by
 unfold putK HTr.put
 split
 next e=>rw[iU]
 ·rfl
def eZ(h:HTr)(o:HOT)(k:HTr->R):gR h o k=k (h.push o):=by
 unfold gR HTr.push
 rw[iU,df]
def wi{α:Type}(l:List α):(List α->R)->R:=
 List.rec (motive:=λ_=>(List α->R)->R) (λk=>k []) (λx _ ih k=>ih λl=>k (x :: l)) l
def nL{α:Type}:∀(l:List α) (k:List α->R),wi l k=k l
 | [],_=>rfl
 |x :: l,k=>nL l λl=>k (x :: l)
def wj(v:Value)(k:Value->R):R:=match v with
 | .int kd n=>fI n λn=>k (.int kd n)
 | .bool b=>Bool.rec (k (.bool false)) (k (.bool true)) b
 |v=>k v
def plainV_eq(v:Value)(k:Value->R):wj v k=k v:=by
 unfold wj
 split
 ·exact jm _ _
 next b=>cases b<;>rfl
 ·rfl
def insK(l:Tl):Nat->Tr Value->(Tr Value->R)->R:=
 List.rec (motive:=λ_=>Nat->Tr Value->(Tr Value->R)->R) (λ_ c k=>k c) (λv _ ih i c k=>wj v λv=>putR nilV (bD i) c v λc=>fN (Nat.succ i) λi=>ih i c k) l
def nj:∀(l:Tl) (i:Nat) (c:Tr Value) (k:Tr Value->R),insK l i c k=k (insT l i c)
 | [],_,_,_=>rfl
 |v :: l,i,c,k=>by
  show(wj v λv=>putR nilV (bD i) c v λc=>fN (Nat.succ i) λi=>insK l i c k)=_
  rw[plainV_eq,iU,df,nj l];rfl
def oA(o:HObj)(k:HOT->R):R:=match o with
 | .cells vs e rw=>fN vs.length λn=>insK vs 0 .leaf λc=>k (.t n e rw c)
 | .map es c=>wi es λes=>fN c λc=>k (.o (.map es c))
 |o=>k (.o o)
def ig{o:HObj}{k:HOT->R}:∃x:HOT,x.ho = .o o/\oA o k=k x:=by
 cases o with
 |cells vs e rw=>
  refine⟨.t vs.length e rw (insT vs 0 .leaf),by simp only[HOT.ho,wX],?_⟩
  show(fN vs.length λn=>insK vs 0 .leaf λc=>k (.t n e rw c))=_
  rw[df,nj]
 |map es c=>
  refine⟨.o (.map es c),rfl,?_⟩
  show(wi es λes=>fN c λc=>k (.o (.map es c)))=_
  rw[nL,df]
 |_=>exact⟨.o _,rfl,rfl⟩
def rt(l:TE):(TE->R)->R:=
 List.rec (motive:=λ_=>(TE->R)->R) (λk=>k []) (λx _ ih k=>match x with
  | .i n=>fI n λn=>ih λl=>k (.i n :: l)
  | .b t=>Bool.rec (ih λl=>k (.b false :: l)) (ih λl=>k (.b true :: l)) t
  | .v v=>ih λl=>k (.v v :: l)) l
def eu:∀(l:TE) (k:TE->R),rt l k=k l
 | [],_=>rfl
 | .i n :: l,k=>(jm n λn=>rt l λl=>k (.i n :: l)).trans (eu l _)
 | .b true :: l,k=>eu l λl=>k (.b true :: l)
 | .b false :: l,k=>eu l λl=>k (.b false :: l)
 | .v v :: l,k=>eu l λl=>k (.v v :: l)
end
end Sx
section
open Sx
abbrev RT:=Option (TE)
abbrev yes:RT:=some []
def ans(b:Bool):RT:=match b with|true=>yes|false=>none
abbrev ae:=CK->TE->HTr->(TE->HTr->RT)->RT
def Act1.onH(h:HL):Act1->HL
 | .set i o=>h.set i (.o o)
 | .push o=>h++[.o o]
def cz(h:HL)(l:List Act1):HL:=l.foldl Act1.onH h
def getH(T:Tt)(h:HL):bU:=λi=>match h[i]? with
 |some x=>some (absO T x)
 |none=>none
def getT(T:Tt)(h:HTr):bU:=λi=>match h.at i with
 |some x=>some (absO T x.ho)
 |none=>none
def wS(l:List Act1):HTr->(HTr->RT)->RT:=
 List.rec (motive:=λ_=>HTr->(HTr->RT)->RT) (λh k=>k h) (λa _ ih h k=>match a with
  | .set i o=>oA o λo=>putK h i o λh=>ih h k
  | .push o=>oA o λo=>gR h o λh=>ih h k) l
def condB(b:Bool)(x y:RT):RT:=Bool.rec y x b
def outG(k:TI)(c:Int)(K:Int->RT):RT:=Bool.rec (fI (k.wrap c) K) (K c) (fits k c)
def out64(c:Int)(K:Int->RT):RT:=@Bool.rec (λ_=>RT) (fI (IntKind.wrap .i64 c) K) (K c) (@Int.rec (λ_=>Bool) (λn=>Nat.ble n 9223372036854775807) (λn=>Nat.ble n 9223372036854775807) c)
def outU8(c:Int)(K:Int->RT):RT:=@Bool.rec (λ_=>RT) (fI (IntKind.wrap .u8 c) K) (K c) (@Int.rec (λ_=>Bool) (λn=>Nat.ble n 255) (λ_=>false) c)
def outK(k:TI)(c:Int)(K:Int->RT):RT:=@IntKind.rec (λ_=>RT) (outG .i8 c K) (outG .i16 c K) (outG .i32 c K) (out64 c K) (outU8 c K) (outG .u16 c K) (outG .u32 c K) (outG .u64 c K) k
def addK(a b:Int)(K:Int->RT):RT:=
 Int.rec (λm=>Int.rec (λn=>fN (Nat.add m n) λc=>K (.ofNat c)) (λn=>Bool.rec (fN (Nat.sub n m) λc=>K (.negSucc c)) (fN (Nat.sub m (Nat.succ n)) λc=>K (.ofNat c)) (Nat.blt n m)) b)
  (λm=>Int.rec (λn=>Bool.rec (fN (Nat.sub m n) λc=>K (.negSucc c)) (fN (Nat.sub n (Nat.succ m)) λc=>K (.ofNat c)) (Nat.blt m n)) (λn=>fN (Nat.succ (Nat.add m n)) λc=>K (.negSucc c)) b) a
def subK(a b:Int)(K:Int->RT):RT:=
 Int.rec (λm=>Int.rec (λn=>Bool.rec (fN (Nat.sub n (Nat.succ m)) λc=>K (.negSucc c)) (fN (Nat.sub m n) λc=>K (.ofNat c)) (Nat.ble n m)) (λn=>fN (Nat.succ (Nat.add m n)) λc=>K (.ofNat c)) b)
  (λm=>Int.rec (λn=>fN (Nat.add m n) λc=>K (.negSucc c)) (λn=>Bool.rec (fN (Nat.sub m (Nat.succ n)) λc=>K (.negSucc c)) (fN (Nat.sub n m) λc=>K (.ofNat c)) (Nat.ble m n)) b) a
def mulK(a b:Int)(K:Int->RT):RT:=
 Int.rec (λm=>Int.rec (λn=>fN (Nat.mul m n) λc=>K (.ofNat c)) (λn=>Nat.rec (K (.ofNat 0)) (λm' _=>fN (Nat.add (Nat.mul m n) m') λc=>K (.negSucc c)) m) b)
  (λm=>Int.rec (λn=>Nat.rec (K (.ofNat 0)) (λn' _=>fN (Nat.add (Nat.mul m n) n') λc=>K (.negSucc c)) n) (λn=>fN (Nat.mul (Nat.succ m) (Nat.succ n)) λc=>K (.ofNat c)) b) a
def quoK(a b:Int)(K:Int->RT):RT:=
 Int.rec (λm=>Int.rec (λn=>fN (Nat.div m n) λc=>K (.ofNat c)) (λ_=>fI (Int.tdiv a b) K) b) (λ_=>fI (Int.tdiv a b) K) a
def remK(a b:Int)(K:Int->RT):RT:=
 Int.rec (λm=>Int.rec (λn=>fN (Nat.mod m n) λc=>K (.ofNat c)) (λ_=>fI (Int.tmod a b) K) b) (λ_=>fI (Int.tmod a b) K) a
def isZ(b:Int):Bool:=Int.rec (λn=>Nat.beq n 0) (λ_=>false) b
def ariB(op:BinOp)(k:TI)(a b:Int)(K:Int->RT):RT:=
 match op with
 | .add=>addK a b λc=>outK k c K
 | .sub=>subK a b λc=>outK k c K
 | .mul=>mulK a b λc=>outK k c K
 | .quo=>Bool.rec (quoK a b λc=>outK k c K) none (isZ b)
 | .rem=>Bool.rec (remK a b K) none (isZ b)
 | .and=>match eqI b 1 with
  |true=>fI (Int.emod a 2) K
  |false=>match a,b with
   | .ofNat m,.ofNat n=>fI (.ofNat (Nat.land m n)) λc=>outK k c K
   |_,_=>none
 | .xor=>match a,b with
  | .ofNat m,.ofNat n=>fI (.ofNat (Nat.xor m n)) λc=>outK k c K
  |_,_=>none
 | .or=>match a,b with
  | .ofNat m,.ofNat n=>fI (.ofNat (Nat.lor m n)) λc=>outK k c K
  |_,_=>none
 |_=>none
def eqZK(a b:Int):Bool:=Int.rec (λm=>Int.rec (λn=>Nat.beq m n) (λ_=>false) b) (λm=>Int.rec (λ_=>false) (λn=>Nat.beq m n) b) a
def notK(b:Bool):Bool:=Bool.rec true false b
def cmpB(op:BinOp)(a b:Int)(K:Bool->RT):RT:=
 match op with
 | .eql=>K (eqZK a b)
 | .neq=>K (notK (eqZK a b))
 | .lss=>K (notK (leZ b a))
 | .leq=>K (leZ a b)
 | .gtr=>K (notK (leZ a b))
 | .geq=>K (leZ b a)
 |_=>none
def eqBK(a b:Bool):Bool:=Bool.rec (notK b) b a
def eqLf(x y:Lf):Bool:=Lf.rec (λa=>Lf.rec (λb=>eqZK a b) (λ_=>false) (λ_=>false) y) (λa=>Lf.rec (λ_=>false) (λb=>eqBK a b) (λ_=>false) y) (λ_=>false) x
def eqsV(l:List (Lf×Lf)):Bool:=List.rec true (λp _ ih=>Bool.rec false ih (eqLf p.1 p.2)) l
def eqsB(l:List (Lf×Lf))(K:Bool->RT):RT:=K (eqsV l)
def convB(k:TI)(a:Int)(K:Int->RT):RT:=outK k a K
def selB(t:Bool)(a b:Int)(K:Int->RT):RT:=Bool.rec (K b) (K a) t
def optB{α:Type}(o:Option α)(K:α->RT):RT:=Option.rec none K o
def unIB(ls:TE)(K:Int->TE->RT):RT:=List.rec none (λx r _=>Lf.rec (λn=>K n r) (λ_=>none) (λ_=>none) x) ls
def unBB(ls:TE)(K:Bool->TE->RT):RT:=List.rec none (λx r _=>Lf.rec (λ_=>none) (λn=>K n r) (λ_=>none) x) ls
def unVB(ls:TE)(K:Value->TE->RT):RT:=List.rec none (λx r _=>Lf.rec (λ_=>none) (λ_=>none) (λn=>K n r) x) ls
def un0B(ls:TE)(K:RT):RT:=List.rec K (λ_ _ _=>none) ls
def ucIB(k:TI)(ls:Tl)(K:Int->Tl->RT):RT:=match ls with | .int k' n :: r=>(match cS k k' with|true=>K n r|false=>none)|_=>none
def ucBB(ls:Tl)(K:Bool->Tl->RT):RT:=match ls with | .bool n :: r=>K n r|_=>none
def ucVB(ls:Tl)(K:Value->Tl->RT):RT:=match ls with|n :: r=>K n r|_=>none
def uc0B(ls:Tl)(K:RT):RT:=match ls with | []=>K|_=>none
def spot0(s:Tp):Bool:=match s with
 |none=>true
 |some k=>match k with
  |0=>false
  |_=>true
def goodF(v:Value):Bool:=match v with
 | .pointer (some a)=>spot0 a.spot
 | .slice (some a) _ _=>spot0 a.spot
 |v=>aS v
def chkB(v:Value)(K:RT):RT:=match goodF v with|true=>K|false=>none
def lenR{α:Type}(l:List α):Nat:=List.rec 0 (λ_ _ n=>Nat.succ n) l
def ldB(n:Nat)(p:Value)(h:HTr)(K:Tl->RT):RT:=match p with
 | .pointer (some a)=>match a.spot with
  |none=>match h.at a.block with
   |some (.t m _ _ c)=>match Nat.ble (Nat.add a.off n) m with
    |true=>K (xC c n a.off)
    |false=>none
   |_=>none
  |some _=>none
 |_=>none
def lgB(C:Cfg)(n:Nat)(p:Value)(h:HTr)(K:Tl->RT):RT:=match p with
 | .pointer (some a)=>match a.spot with
  |none=>match h.at a.block with
   |some (.t m _ _ c)=>match Nat.ble (Nat.add a.off n) m with
    |true=>K (xC c n a.off)
    |false=>none
   |_=>none
  |some k=>match Nat.beq k 1 with
   |true=>match C.G a.block with
    |some vs=>match cutL vs a.off n with
     |some cs=>K cs
     |none=>none
    |none=>none
   |false=>none
 |_=>none
def peekB(T:Tt)(f:Pk)(h:HTr)(K:Tl->RT):RT:=match f with
 | .ld n p=>ldB n p h K
 | .lg C n p=>lgB C n p h K
 | .fn f=>match f (getT T h)with|some x=>K x|none=>none
def stB(p:Value)(new:Tl)(h:HTr)(K:Tl->HTr->RT):RT:=match p with
 | .pointer (some a)=>match a.spot with
  |none=>match h.at a.block with
   |some (.t m e true c)=>match Nat.ble (Nat.add a.off (lenR new)) m with
    |true=>insK new a.off c λc=>putK h a.block (.t m e true c) λh=>K [] h
    |false=>none
   |_=>none
  |some _=>none
 |_=>none
def tagB(s:Tp)(esz:Nat):Bool:=match s with
 |none=>false
 |some k=>Nat.beq k (Nat.add esz 10)
def slB(C:Cfg)(T:Tt)(esz:Nat)(x:Value)(h:HTr)(K:Tl->Nat->RT):RT:=match x with
 | .slice (some a) len _=>match tagB a.spot esz with
  |true=>match h.at a.block with
   |some (.t m e _ c)=>match Nat.beq e esz,Nat.ble (Nat.add a.off (Nat.mul len esz)) m with
    |true,true=>K (xC c (Nat.mul len esz) a.off) len
    |_,_=>none
   |_=>none
  |false=>match slG C esz (getT T h) x with
   |some p=>K p.1 p.2
   |none=>none
 |x=>match slG C esz (getT T h) x with
  |some p=>K p.1 p.2
  |none=>none
def growB(c:Tr Value)(m off w esz:Nat)(new:Tl)(k:HOT->RT):RT:=match Nat.beq off 0,Nat.beq w m with
 |true,true=>insK new m c λc=>fN (Nat.add m (lenR new)) λm=>k (.t m esz true c)
 |_,_=>oA (.cells (xC c w off++new) esz true) k
def apB(T:Tt)(C:Cfg)(esz bytes:Nat)(s x:Value)(h:HTr)(K:Tl->HTr->RT):RT:=
 slB C T esz x h λnew n=>match s with
  | .slice none 0 0=>match n with
   |0=>K [.slice none 0 0] h
   |n+1=>match bJ (n+1) bytes with
    |true=>oA (.cells new esz true) λo=>gR h o λh'=>fN (n+1) λn=>K [.slice (some ⟨h.n,0,tag esz⟩) n 0] h'
    |false=>none
  | .slice (some a) len cx=>match tagB a.spot esz with
   |false=>none
   |true=>match h.at a.block with
    |some (.t m e rw c)=>match Nat.beq e esz,Nat.ble (Nat.add a.off (Nat.mul len esz)) m with
     |true,true=>match cx with
      |0=>match n with
       |0=>K [.slice (some a) len 0] h
       |n+1=>match rw,bJ (len+(n+1)) bytes with
        |true,true=>growB c m a.off (Nat.mul len esz) esz new λo=>putK h a.block (.o .dead) λh'=>gR h' o λh''=>fN (len+(n+1)) λl=>K [.slice (some ⟨h.n,0,tag esz⟩) l 0] h''
        |_,_=>none
      |cap+1=>match Nat.ble (len+n) cap with
       |true=>match rw,Nat.ble (Nat.add (Nat.add a.off (Nat.mul len esz)) (lenR new)) m with
        |true,true=>insK new (Nat.add a.off (Nat.mul len esz)) c λc=>putK h a.block (.t m e true c) λh'=>fN (len+n) λl=>K [.slice (some a) l (cap+1)] h'
        |_,_=>none
       |false=>match bJ (len+n) bytes with
        |true=>growB c m a.off (Nat.mul len esz) esz new λo=>gR h o λh'=>fN (len+n) λl=>K [.slice (some ⟨h.n,0,tag esz⟩) l 0] h'
        |false=>none
     |_,_=>none
    |_=>none
  |_=>none
def heapB(T:Tt)(f:Hp)(h:HTr)(K:Tl->HTr->RT):RT:=match f with
 | .st p new=>stB p new h K
 | .ap C esz bytes s x=>apB T C esz bytes s x h K
 | .fn f=>match f (getT T h) h.n with|some p=>wi p.2 λcs=>wS p.1 h λh=>K cs h|none=>none
def newB(o:HObj)(h:HTr)(K:Nat->HTr->RT):RT:=oA o λo=>gR h o λh'=>K h.n h'
def toSL(k:LK)(v:Value):Option SL:=
 match k with
 | .i k=>match v with
  | .int k' n=>match cS k' k with
   |true=>some (.i k' n)
   |false=>none
  |_=>none
 | .b=>match v with
  | .bool t=>some (.b t)
  |_=>none
 | .v=>match aS v with
  |true=>some (.v v)
  |false=>none
def toSLs:TG->Tl->Option (List SL)
 | [],[]=>some []
 |k :: ks,v :: vs=>match toSL k v with
  |some x=>match toSLs ks vs with
   |some xs=>some (x :: xs)
   |none=>none
  |none=>none
 |_,_=>none
def toS0(sk:SK)(v:Value):Option S0:=
 match sk with
 | .leaf k=>(toSL k v).map .leaf
 | .agg ks=>match v with
  | .agg cs=>(toSLs ks cs.toList).map .agg
  |_=>none
def toS0s:TJ->Tl->Option (List S0)
 | [],[]=>some []
 |k :: ks,v :: vs=>match toS0 k v with
  |some x=>match toS0s ks vs with
   |some xs=>some (x :: xs)
   |none=>none
  |none=>none
 |_,_=>none
def eqLK:LK->LK->Bool
 | .i a,.i b=>cS a b
 | .b,.b=>true
 | .v,.v=>true
 |_,_=>false
def eqLKs:TG->TG->Bool
 | [],[]=>true
 |a :: l,b :: m=>eqLK a b&&eqLKs l m
 |_,_=>false
def eqSK:SK->SK->Bool
 | .leaf a,.leaf b=>eqLK a b
 | .agg a,.agg b=>eqLKs a b
 |_,_=>false
def eqSKs:TJ->TJ->Bool
 | [],[]=>true
 |a :: l,b :: m=>eqSK a b&&eqSKs l m
 |_,_=>false
def gN(ls:TE):Bool:=List.rec true (λl _ ih=>match l with
 | .v x=>(match goodF x with
  |true=>ih
  |false=>false)
 |_=>ih) ls
section
variable (Sg:Tb) (T:Tt) (call:ae)
def callB(g:TN)(ls:TE)(h:HTr)(K:TE->HTr->RT):RT:=match gN ls with|true=>call (.f g) ls h K|false=>none
def lS(g:TN)(hs:Option (TJ))(vals:Tl)(h:HTr)(K:TE->HTr->RT):RT:=
 match Sg g with
 |none=>none
 |some sg=>match (match hs with|none=>true|some hs=>eqSKs sg.rs hs)with
  |false=>none
  |true=>match toS0s sg.ps vals with
   |none=>none
   |some xs=>callB call g (cb xs) h K
def callvB(v:Value)(args:Tl)(hs:TJ)(h:HTr)(K:TE->HTr->RT):RT:=
 match v with
 | .func fn first cap=>match fn with
  | .func g=>lS Sg call g (some hs) (first.toList++args++cap.toList) h K
  | .yield l=>match first.toList,cap.toList with
   | [],[]=>match h.at l with
    |some (.lp κ _ _ vs)=>match eqSKs [.leaf .b] hs with
     |false=>none
     |true=>match toS0s ((T κ).params.map (·.2)) args with
      |none=>none
      |some xs=>match gN (cb xs)with
       |true=>call (.y κ vs l) (cb xs) h K
       |false=>none
    |_=>none
   |_,_=>none
  |_=>none
 |_=>none
def rfunB(κ:Nat)(v:Value)(vals:Tl)(h:HTr)(K:Tk->HTr->RT):RT:=
 match v with
 | .func fn first cap=>match fn with
  | .func g=>gR h (.lp κ .ready none vals) λh0=>lS Sg call g none (first.toList++[.func (.yield h.n) #[] #[]]++cap.toList) h0 λ_ h1=>match h1.at h.n with
   |some (.lp κ' st pd vs)=>match st with
    | .busy=>none
    |_=>putK h1 h.n (.lp κ' .exhausted pd vs) λh2=>K pd h2
   |_=>none
  |_=>none
 |_=>none
def pendB(pd:Tk)(kn kr:RT)(ks:List (Nat×RT)):RT:=
 match pd with
 |none=>kn
 |some c=>match c with
  | .ret=>kr
  | .exit id=>List.rec none (λp _ ih=>match Nat.beq p.1 id with|true=>p.2|false=>ih) ks
  |_=>none
def lp1B(l:Nat)(h:HTr)(K:HTr->RT):RT:=
 match h.at l with
 |some (.lp κ st pd vs)=>match st with
  | .ready=>putK h l (.lp κ .busy pd vs) K
  |_=>none
 |_=>none
def lp2B(l:Nat)(j:Tk)(h:HTr)(K:HTr->RT):RT:=
 match h.at l with
 |some (.lp κ _ _ vs)=>match j with
  |none=>putK h l (.lp κ .ready none vs) K
  |some c=>putK h l (.lp κ .done (some c) vs) K
 |_=>none
end
def loopB(F:(TE->HTr->RT)->TE->HTr->RT)(ls:TE)(h:HTr):RT:=
 Nat.rec (motive:=λ_=>TE->HTr->RT) (λ_ _=>none) (λ_ ih ls h=>F ih ls h) 1000000 ls h
def joinB(b:TE->HTr->RT)(m:(TE->HTr->RT)->RT):RT:=m b
def shfB(op:BinOp)(k:TI)(a:Int)(_:TI)(b:Int)(K:Int->RT):RT:=match leZ 0 b with
 |true=>match op with
  | .shl=>fI (k.wrap (a*2 ^ min b.toNat k.bits)) K
  | .shr=>fI (a.fdiv (2 ^ min b.toNat k.bits)) K
  |_=>none
 |false=>none
def BA(Sg:Tb)(T:Tt)(call:ae):Alg RT HTr where
 fail:=none
 cond:=condB
 ari:=ariB
 shf:=shfB
 cmp:=cmpB
 eqs:=eqsB
 conv:=convB
 sel:=selB
 opt:=optB
 chk:=chkB
 unI:=unIB
 unB:=unBB
 unV:=unVB
 un0:=un0B
 ucI:=ucIB
 ucB:=ucBB
 ucV:=ucVB
 uc0:=uc0B
 peek:=peekB T
 heap:=heapB T
 new:=newB
 call:=callB call
 callv:=callvB Sg T call
 join:=joinB
 loop:=loopB
 rfun:=rfunB Sg call
 pend:=pendB
 lp1:=lp1B
 lp2:=lp2B
end
namespace Sx
section
variable [Val] [Kno]
def wAt(pts:TB)(tm:Tl)(o:Oper):TB:=(wOps pts o).flatMap λx=>adr (oval tm x)
def fAt(pts:TB)(tm:Tl)(o:Oper):TB:=(cV pts o).1.flatMap λx=>adrK (cV pts o).2 (oval tm x)
def dstIn(pts:TB)(tm:Tl)(o:Oper):Prop:=∀d,o.dst=some d->hCls pts o=2->∃v,tm[d]?=some v
def SepAt(pts:TB)(ops:Tm)(tm:Tl)(ps:List (Nat×Nat)):Prop:=
 ∀p∈ps,∃a b,ops[p.1]?=some a/\ops[p.2]?=some b/\(∀x∈wAt pts tm a,x∉fAt pts tm b)/\(∀x∈wAt pts tm a,x∉wAt pts tm b)/\(∀x∈wAt pts tm b,x∉fAt pts tm a)/\dstIn pts tm a/\dstIn pts tm b
def SameAt(ops:Tm)(k:Nat)(σ σ':St):Prop:=∃o d x,ops[k]?=some o/\o.dst=some d/\σ.tmps[d]?=some x/\σ'.tmps[d]?=some x
def DrOk(C:Cfg)(dr:Dr):Prop:=∀pts ops ps,dr pts ops=some ps->match splOf ps with
 |none=>∀(n:Nat) (σ σ':St),bk C (sm C n).toBelow pts ops (List.range ops.size) σ σ'->SepAt pts ops σ'.tmps ps->eS C (sm C n).toBelow pts ops σ σ'
 |some p=>∀(n:Nat) (σ σ₁ σ₂ σ':St),bk C (sm C n).toBelow pts ops (List.range' 0 (ops.toList.take (p.2+1)).length) σ σ₁->aj C (sm C n).toBelow pts ops p.1 σ₁ σ₂->SameAt ops p.1 σ₁ σ₂->
   bk C (sm C n).toBelow pts ops (List.range' (p.2+1) (ops.toList.drop (p.2+1)).length) σ₁ σ'->eS C (sm C n).toBelow pts ops σ σ'
def vP{x:Nat}:∀ {l:TB},memN x l=true↔x∈l
 | []=>by simp[memN]
 |y :: l=>by
  unfold memN
  cases h:Nat.beq x y with
  |true=>simp[qac h]
  |false=>
   have:x≠y:=λe=>by subst e;rw[show Nat.beq x x=true from qcv x]at h;cases h
   simp only[qal,this,false_or]
   exact vP
def vp:∀ {l m:TB},sA l m=true->∀x∈l,x∉m
 | [],_,_,_,h=>by cases h
 |y :: l,m,h,x,hx=>by
  unfold sA at h
  cases hm:memN y m with
  |true=>rw[hm]at h;cases h
  |false=>
   rw[hm]at h
   rcases qal.1 hx with rfl|hx
   ·intro e;rw[vP.2 e]at hm;cases hm
   ·exact vp h x hx
def sepL_ok:∀ {l:List (Value×Nat×Value)} {u:Unit},sepL l=some u->∀p∈l,∀r∈adr p.1,r∉adrK p.2.1 p.2.2
 | [],_,_,_,h=>by cases h
 |q :: l,u,h,p,hp=>by
  unfold sepL at h
  split at h
  next hd=>
   rcases qal.1 hp with rfl|hp
   ·exact vp hd
   ·exact sepL_ok h p hp
  ·cases h
def entV_ok{ev:Env}{σ:St}(hR:Rp ev σ){x:TH}{us:Tl}(h:entV (sval ev x)=some us)(k r:Nat)(hr:r∈adrK k (oval σ.tmps x)):∃u∈us,r∈adrK k u:=by
 have hn:sval ev x≠.no:=λe=>by rw[e]at h;cases h
 have hv:=(hR.sval rfl hn).1
 rw[hv]at hr
 generalize sval ev x=s at *
 have none:adrK k s.val=[]->∃u∈us,r∈adrK k u:=λe=>by rw[e]at hr;cases hr
 cases s with
 |st y=>
  cases y with
  |leaf l=>
   cases l with
   |v u=>
    cases h
    exact⟨u,by simp,hr⟩
   |_=>exact none (by cases k with|zero=>rfl|succ k=>cases k<;>rfl)
  |agg cs=>exact none (by cases k with|zero=>rfl|succ k=>cases k<;>rfl)
 |no=>exact absurd rfl hn
 |_=>exact none (by cases k with|zero=>rfl|succ k=>cases k<;>rfl)
def fL{ev:Env}{σ:St}(hR:Rp ev σ):∀ {l:List Operand} {us:Tl},qE ev l=some us->∀(k r:Nat),r∈l.flatMap (λx=>adrK k (oval σ.tmps x))->∃u∈us,r∈adrK k u
 | [],_,_,_,_,h=>by cases h
 |x :: l,us,h,k,r,hr=>by
  unfold qE at h
  split at h
  next a b ha hb=>
   cases h
   rw[qbz,qau]at hr
   rcases hr with hr|hr
   ·obtain⟨u,h1,h2⟩:=entV_ok hR ha k r hr
    exact⟨u,qaF _ h1,h2⟩
   ·obtain⟨u,h1,h2⟩:=fL hR hb k r hr
    exact⟨u,qaK _ h1,h2⟩
  ·cases h
def mQ{ev:Env}{σ:St}(hR:Rp ev σ){d:Nat}:∀ {l:List Operand} {us:Tl},qE ev l=some us->Operand.tmp d∈l->∃v,σ.tmps[d]?=some v
 |x :: l,us,h,hm=>by
  unfold qE at h
  split at h
  next a b ha hb=>
   rcases qal.1 hm with rfl|hm
   ·have hn:sval ev (.tmp d)≠.no:=λe=>by rw[e]at ha;cases ha
    exact⟨_,(hR.at (s:=ev.tm.getD d .no) rfl hn).1⟩
   ·exact mQ hR hb hm
  ·cases h
def rS{pts:TB}{o:Oper}{d:Nat}(hd:o.dst=some d)(h:hCls pts o=2):Operand.tmp d∈wOps pts o:=by
 unfold wOps
 rw[h,hd]
 simp
def mK{us vs:Tl}{k:Nat}{u v:Value}(hu:u∈us)(hv:v∈vs):(u,k,v)∈cross us k vs:=by
 unfold cross
 exact qbI.2 ⟨u,hu,qaU.2 ⟨v,hv,rfl⟩⟩
def sepOne_ok{pts:TB}{ev:Env}{σ:St}(hR:Rp ev σ){a b:Oper}{l:List (Value×Nat×Value)}(h:sepOne pts ev a b=some l)(hs:∀p∈l,∀r∈adr p.1,r∉adrK p.2.1 p.2.2) :
  (∀x∈wAt pts σ.tmps a,x∉fAt pts σ.tmps b)/\(∀x∈wAt pts σ.tmps a,x∉wAt pts σ.tmps b)/\(∀x∈wAt pts σ.tmps b,x∉fAt pts σ.tmps a)/\dstIn pts σ.tmps a/\dstIn pts σ.tmps b:=by
 unfold sepOne at h
 split at h
 next wa wb fa fb h1 h2 h3 h4=>
  cases h
  refine⟨λx hx hy=>?_,λx hx hy=>?_,λx hx hy=>?_,λd hd hc=>mQ hR h1 (rS hd hc),λd hd hc=>mQ hR h2 (rS hd hc)⟩
  ·obtain⟨u,u1,u2⟩:=fL hR h1 0 x hx
   obtain⟨v,v1,v2⟩:=fL hR h4 _ x hy
   exact hs (u,_,v) (qaF _ (qaF _ (mK u1 v1))) x u2 v2
  ·obtain⟨u,u1,u2⟩:=fL hR h1 0 x hx
   obtain⟨v,v1,v2⟩:=fL hR h2 0 x hy
   exact hs (u,0,v) (qaF _ (qaK _ (mK u1 v1))) x u2 v2
  ·obtain⟨u,u1,u2⟩:=fL hR h2 0 x hx
   obtain⟨v,v1,v2⟩:=fL hR h3 _ x hy
   exact hs (u,_,v) (qaK _ (mK u1 v1)) x u2 v2
 ·cases h
def pU{pts:TB}{ops:Tm}{ev:Env}{σ:St}(hR:Rp ev σ):∀ {ps:List (Nat×Nat)} {l:List (Value×Nat×Value)},rJ pts ops ev ps=some l->(∀p∈l,∀r∈adr p.1,r∉adrK p.2.1 p.2.2)->SepAt pts ops σ.tmps ps
 | [],_,_,_,_,h=>by cases h
 |q :: ps,l,h,hs,p,hp=>by
  unfold rJ at h
  split at h
  next a b r ha hb hr=>
   obtain⟨x,hx,rfl⟩:=qad.1 h
   rcases qal.1 hp with rfl|hp
   ·exact⟨a,b,ha,hb,sepOne_ok hR hx λp hp=>hs p (qaF _ hp)⟩
   ·exact pU hR hr (λp hp=>hs p (qaK _ hp)) p hp
  ·cases h
def eqFn_ok{x y:Value}{u:Unit}(h:eqFn x y=some u):x=y:=by
 unfold eqFn at h
 split at h
 ·split at h
  ·split at h
   next l a b _ m c d e1 e2 e3 e4 e5=>
    have e1:=qac e1
    have f:∀ {a:Tj},a.toList=[]->a = #[]:=λh=>qa7.1 h
    rw[e1,f e2,f e3,f e4,f e5]
   ·cases h
  ·cases h
 ·cases h
def entF_ok{ev:Env}{σ:St}(hR:Rp ev σ){d:Nat}{x:Value}(h:entF (ev.tm.getD d .no)=some x):σ.tmps[d]?=some x:=by
 unfold entF at h
 split at h
 next y hy=>
  cases h
  exact(hR.at hy (by simp)).1
 ·cases h
def sepK_ok{R HT:Type}{A:Alg R HT}{C:Cfg}{Sg:Tb}{T:Tt}{holds:R->Prop}{abs:HT->Ts}(hA:AlgOk A C Sg T holds abs){pts:TB}{ops:Tm}{ps:List (Nat×Nat)}{kn:KN R HT}{ev:Env}{σ:St}(hR:Rp ev σ){h:HT}(hk:holds (sepK A pts ops ps kn ev h)) :
  SepAt pts ops σ.tmps ps/\holds (kn ev h):=by
 unfold sepK at hk
 split at hk
 ·exact⟨λp hp=>(by cases hp),hk⟩
 ·simp only at hk
  split at hk
  next l hl=>
   obtain⟨u,h1,h2⟩:=hA.opt _ _ hk
   exact⟨pU hR hl (sepL_ok h1),h2⟩
  ·exact absurd hk hA.fail
end
end Sx
section
variable [Val] [Kno] {R HT:Type} {A:Alg R HT} {X:Ctxt} {Sg:Tb} {holds:R->Prop} {abs:HT->Ts}
variable {ev:Env} {σ:St} {h:HT} {o:Oper} {K:KN R HT}
def StepO(C:Cfg)(pts:TB)(o:Oper)(σ σ':St):Prop:=
 (∃e,am C pts (oval σ.tmps) o=some e/\jj (uB C) e o.dst σ σ')∨(∃v,iH C σ.tmps o v/\σ'=σ.put o.dst v)
def tB(pts:TB)(o:Oper):Tp:=
 match o.op,o.dst with
 | .box ..,some d=>if pts.getD d 0=d+2 then some d else none
 | .alloc _,some d=>if pts.getD d 0=d+2 then some d else none
 |_,_=>none
def Done(X:Ctxt)(holds:R->Prop)(abs:HT->Ts)(o:Oper)(σ:St)(K:KN R HT):Prop:=
 ∃σ' ev' h',StepO X.C X.pts o σ σ'/\Rp ev' σ'/\abs h'=σ'.heap/\Fr o.dst.toList (tB X.pts o).toList (iT X.pts o).toList σ σ'/\holds (K ev' h')
def uU(hR:Rp ev σ){dst:To}{s:SV}(hs:s.gd)(hk:holds (setD dst s ev h K)):∃ev',Rp ev' (σ.put dst s.val)/\holds (K ev' h):=by
 unfold setD at hk
 cases dst with
 |none=>exact⟨ev,hR,hk⟩
 |some d=>
  simp only[setK_eq]at hk
  exact⟨_,hR.put d hs,hk⟩
def dw(hR:Rp ev σ)(H':Ts)(ha:abs h=H'){s:SV}(hs:s.gd)
  (hst:StepO X.C X.pts o σ (({ σ with heap:=H' }:St).put o.dst s.val)) (hk:holds (setD o.dst s ev h K)):Done X holds abs o σ K:=by
 obtain⟨ev',h1,h2⟩:=uU (hR.heap H') hs hk
 refine⟨_,ev',h,hst,h1,?_,?_,h2⟩
 ·rw[ha];cases o.dst<;>rfl
 ·have:=Fr.put (σ:=({ σ with heap:=H' }:St)) o.dst s.val (tB X.pts o).toList (iT X.pts o).toList
  exact⟨this.tlen,this.llen,this.tm,this.tp,this.row,this.rlen⟩
def aB(hR:Rp ev σ)(ha:abs h=σ.heap){s:SV}(hs:s.gd)(he:am X.C X.pts (oval σ.tmps) o=some (.val s.val))(hk:holds (setD o.dst s ev h K)) :
  Done X holds abs o σ K:=
 dw hR σ.heap ha hs (.inl ⟨_,he,_,rfl,rfl⟩) hk
def cj(hR:Rp ev σ)(ha:abs h=σ.heap){s:SV}(hs:s.gd)(he:iH X.C σ.tmps o s.val)(hk:holds (setD o.dst s ev h K)) :
  Done X holds abs o σ K:=
 dw hR σ.heap ha hs (.inr ⟨_,he,rfl⟩) hk
def gD(hR:Rp ev σ)(ha:abs h=σ.heap){s:SV}(hs:s.gd){f:Ts->Ti}(he:am X.C X.pts (oval σ.tmps) o=some (.hget f))(hf:f σ.heap=some s.val)
  (hk:holds (setD o.dst s ev h K)):Done X holds abs o σ K:=
 dw hR σ.heap ha hs (.inl ⟨_,he,(σ,s.val),by simp[aQ,hf],rfl⟩) hk
def cY(hR:Rp ev σ){H':Ts}(ha:abs h=H'){s:SV}(hs:s.gd){f:Ts->Option (List HObj×Value)}(he:am X.C X.pts (oval σ.tmps) o=some (.hop f))
  (hf:f σ.heap=some (H',s.val)) (hk:holds (setD o.dst s ev h K)):Done X holds abs o σ K:=
 dw hR H' ha hs (.inl ⟨_,he,({ σ with heap:=H' },s.val),by simp[aQ,hf],rfl⟩) hk
def move_ok(hR:Rp ev σ)(ha:abs h=σ.heap){x:TH}(ho:o.op = .move x∨o.op = .assign x){y:SV}(hy:sval ev x=y)(hn:y≠.no)(hk:holds (setD o.dst y ev h K)):Done X holds abs o σ K:=by
 obtain⟨h1,h2⟩:=hR.sval hy hn
 refine aB hR ha h2 ?_ hk
 rcases ho with ho|ho<;>simp only[am,ho,h1]
def pick_ok(hA:AlgOk A X.C Sg X.T holds abs)(hR:Rp ev σ)(ha:abs h=σ.heap){c a b:TH}(ho:o.op = .pick c a b)
  (hk:holds (match sval ev c,sval ev a,sval ev b with
  | .st (.leaf (.l true)),.st y,_=>setD o.dst (.st y) ev h K
  | .st (.leaf (.l false)),_,.st y=>setD o.dst (.st y) ev h K
  | .st (.leaf (.b t)),.st y,.st z=>A.cond t (setD o.dst (.st y) ev h K) (setD o.dst (.st z) ev h K)
  |_,_,_=>A.fail)):Done X holds abs o σ K:=by
 split at hk
 next y e1 e2=>
  obtain⟨h1,_⟩:=hR.sval e1 (by simp)
  obtain⟨h2,g2⟩:=hR.sval e2 (by simp)
  refine aB hR ha g2 ?_ hk
  simp only[am,ho,h1,SV.val,S0.val,SL.val,if_true,h2]
 next y e1 e2=>
  obtain⟨h1,_⟩:=hR.sval e1 (by simp)
  obtain⟨h2,g2⟩:=hR.sval e2 (by simp)
  refine aB hR ha g2 ?_ hk
  simp only[am,ho,h1,SV.val,S0.val,SL.val,h2,qao,if_false]
 next t y z e1 e2 e3=>
  obtain⟨h1,_⟩:=hR.sval e1 (by simp)
  obtain⟨h2,g2⟩:=hR.sval e2 (by simp)
  obtain⟨h3,g3⟩:=hR.sval e3 (by simp)
  rcases hA.cond _ _ _ hk with⟨ht,hk⟩|⟨ht,hk⟩
  ·refine aB hR ha g2 ?_ hk
   simp only[am,ho,h1,SV.val,S0.val,SL.val,ht,if_true,h2]
  ·refine aB hR ha g3 ?_ hk
   simp only[am,ho,h1,SV.val,S0.val,SL.val,ht,h3,qao,if_false]
 ·exact absurd hk hA.fail
def newV_ok(hA:AlgOk A X.C Sg X.T holds abs)(hR:Rp ev σ)(ha:abs h=σ.heap){t:TM}{x:S0}(hx:x.good)(he:am X.C X.pts (oval σ.tmps) o=cr X.C X.pts o.dst t x.val)
  (hb:(∃y,o.op = .box t y)∨o.op = .alloc t) (hk:holds (newV A X o.dst t x ev h K)):Done X holds abs o σ K:=by
 unfold newV at hk
 split at hk
 ·exact absurd hk hA.fail
 next d hd=>
  have dz:=S0.cells_val hx
  have hok:=S0.cells_ok hx
  have hnt:=S0.not_tuple hx
  split at hk
  next hp=>
   have hp:X.pts.getD d 0=d+2:=by simpa using hp
   split at hk
   next hl=>
    rw[setK_eq,setK_eq]at hk
    have hrow:ev.lc[d]?=some .nil:=by
     rw[List.getD_eq_getElem?_getD]at hl
     cases he:ev.lc[d]? with
     |none=>rw[he]at hl;cases hl
     |some r=>rw[he]at hl;simp at hl;rw[hl]
    have hloc:σ.loc[d]?=some none:=hR.row d _ hrow
    have heff:am X.C X.pts (oval σ.tmps) o=some (.lnew d (x.cells.map SL.val)):=by
     rw[he,hd]
     unfold cr
     simp only[hnt,qao,if_false,dz,cells_ok' hx,qaI,hp,if_true]
    let σ₁:St:={ σ with loc:=σ.loc.set d (some (x.cells.map SL.val)) }
    have hR1:Rp ⟨ev.tm,ev.lc.set d (.row x.cells)⟩ σ₁:=by
     refine⟨hR.len,hR.val,by simp[σ₁,hR.llen],λi r hr=>?_⟩
     simp only[qa2]at hr
     split at hr
     next hi=>
      subst hi
      split at hr
      next hlt=>
       cases hr
       exact⟨by simp only[σ₁];rw[qaH (by rw[←hR.llen];exact hlt)],hx⟩
      ·cases hr
     next hi=>
      have:=hR.row i r hr
      have hne:σ₁.loc[i]?=σ.loc[i]?:=by simp only[σ₁];rw[qaA hi]
      cases r<;>first|trivial|(simp only[LR.ok]at this ⊢;rw[hne];exact this)
    have hkey:tB X.pts o=some d:=by
     rcases hb with⟨y,hb⟩|hb<;>(simp only[tB,hb,hd];rw[qdD hp])
    have hrow':iT X.pts o=some d:=by
     rcases hb with⟨y,hb⟩|hb<;>(simp only[iT,hb,hd];rw[qdD hp])
    refine⟨σ₁.put o.dst (.pointer (some ⟨d,0,some 0⟩)),_,h,.inl ⟨_,heff,(σ₁,.pointer (some ⟨d,0,some 0⟩)),by simp[aQ,hloc,σ₁],rfl⟩,?_,?_,?_,hk⟩
    ·rw[hd];exact hR1.put d (s:=.lad d 0) trivial
    ·rw[ha];cases o.dst<;>rfl
    ·have hf:=Fr.put (σ:=σ₁) o.dst (.pointer (some ⟨d,0,some 0⟩)) [d] [d]
     have h0:Fr o.dst.toList [d] [d] σ σ₁:=by
      refine⟨rfl,by simp[σ₁],λ_ _ h _ _=>h,λ_ _ _ h _ _=>h,λs y hs hn=>?_,λs vs hs hn=>?_⟩
      ·simp only[qam]at hn
       simp only[σ₁]
       rw[qaA (λe=>hn e.symm)];exact hs
      ·simp only[qam]at hn
       refine⟨vs,?_,rfl⟩
       simp only[σ₁]
       rw[qaA (λe=>hn e.symm)];exact hs
     rw[hkey,hrow']
     exact h0.trans hf
   ·exact absurd hk hA.fail
  next hp=>
   have hp:¬X.pts.getD d 0=d+2:=λe=>by rw[e]at hp;simp at hp
   obtain⟨h',e1,e2⟩:=hA.new _ _ _ hk
   rw[ha]at e1 e2
   have heff:am X.C X.pts (oval σ.tmps) o=some (.hop λH=>some (H++[.cells x.val.cells.toList (kR X.C.P t) true],.pointer (some ⟨H.length,0,none⟩))):=by
    rw[he,hd]
    unfold cr
    simp only[hnt,qao,if_false,hok,qaI,hp]
   rw[←hd]at e2
   refine cY (s:=.st (.leaf (.v (.pointer (some ⟨σ.heap.length,0,none⟩))))) hR e1 (λl hl=>?_) heff ?_ e2
   ·simp only[S0.cells,qam]at hl
    subst hl;rfl
   ·simp only[dz];rfl
def vf(new:Tl):∀(off k:Nat) (cs:Tl),off+k+new.length<=cs.length->
  ((new.zipIdx k).foldl (λ(acc:Tj) (p:Value×Nat)=>acc.setIfInBounds (off+p.2) p.1) cs.toArray).toList=cs.take (off+k)++new++cs.drop (off+k+new.length):=by
 induction new with
 |nil=>intro off k cs h;simp
 |cons a l ih=>
  intro off k cs h
  simp only[qaD]at h
  simp only[List.zipIdx_cons,qcu]
  have hset:(cs.toArray.setIfInBounds (off+k) a)=(cs.set (off+k) a).toArray:=by simp
  rw[hset,ih off (k+1) (cs.set (off+k) a) (by simp;omega)]
  rw[List.take_set,List.drop_set]
  have h1:(cs.take (off+(k+1))).set (off+k) a=cs.take (off+k)++[a]:=by
   rw[show off+(k+1)=(off+k)+1 from by omega]
   rw[List.take_succ_eq_append_getElem (by omega),List.set_append]
   simp[qa5 (show off+k<=cs.length by omega)]
  rw[h1]
  rw[qdD (show off+k<off+(k+1)+l.length by omega),show off+(k+1)+l.length=off+k+(l.length+1)by omega]
  simp only[qaJ,qa8,qa3,qaD]
def qN(pl:Nat->Option (Nat×Nat)):∀(ps:List (Nat×S0)) (cs r:List SL),(∀p∈ps,p.2.good)->qM pl cs ps=some r->
  Instr.fill pl ⟨cs.map SL.val⟩ (ps.map λp=>(p.1,p.2.val))=some ⟨r.map SL.val⟩
 | [],cs,r,_,hf=>by cases hf;rfl
 |(i,x) :: ps,cs,r,hg,hf=>by
  simp only[qM]at hf
  split at hf
  next off n hpl=>
   split at hf
   next hn=>
    split at hf
    next cs1 hs=>
     have hn:x.cells.length=n:=by simpa using hn
     have hx:x.good:=hg (i,x) (by simp)
     have hc:=S0.cells_val hx
     unfold gW at hs
     split at hs
     next hle=>
      cases hs
      have ih:=qN pl ps _ r (λp hp=>hg p (by simp[hp])) hf
      simp only[qas,Instr.fill,hpl,hc]
      have hsz:(⟨x.cells.map SL.val⟩ : Array Value).size=n:=by simp[hn]
      rw[qdE (by
       have h2:(⟨cs.map SL.val⟩ : Array Value).size=cs.length:=by simp
       rw[hsz,h2];simp;omega)]
      rw[←ih]
      congr 1
      have hfold:=vf (x.cells.map SL.val) off 0 (cs.map SL.val) (by simp;omega)
      apply qa7.1
      rw[←qct,qc4]
      refine Eq.trans hfold ?_
      simp[qcf,qcy]
     ·cases hs
    ·cases hf
   ·cases hf
  ·cases hf
def oW(pl:Nat->Option (Nat×Nat)):∀(ps:List (Nat×S0)) (cs r:List SL),(∀c∈cs,c.good)->(∀p∈ps,p.2.good)->qM pl cs ps=some r->∀c∈r,c.good
 | [],cs,r,hc,_,hf=>by cases hf;exact hc
 |(i,x) :: ps,cs,r,hc,hg,hf=>by
  simp only[qM]at hf
  split at hf
  ·split at hf
   ·split at hf
    next cs1 hs=>
     refine oW pl ps cs1 r (λc hm=>?_) (λp hp=>hg p (by simp[hp])) hf
     unfold gW at hs
     split at hs
     ·cases hs
      simp only[qau]at hm
      rcases hm with(hm|hm)|hm
      ·exact hc c (qbm hm)
      ·exact hg (i,x) (by simp) c hm
      ·exact hc c (qbQ hm)
     ·cases hs
    ·cases hf
   ·cases hf
  ·cases hf
def qh{ps:List (Nat×Operand)}{xs:List S0}(hv:(ps.map (·.2)).map (oval σ.tmps)=ai xs) :
  ps.map (λp=>(p.1,oval σ.tmps p.2))=((ps.map (·.1)).zip xs).map λp=>(p.1,p.2.val):=by
 induction ps generalizing xs with
 |nil=>simp
 |cons p ps ih=>
  cases xs with
  |nil=>simp[ai]at hv
  |cons x xs=>
   simp only[qas,ai,qax]at hv
   simp only[qas,qcK,hv.1]
   rw[ih (xs:=xs) hv.2]
def rW{is:TB}{xs:List S0}(hg:∀x∈xs,x.good):∀p∈is.zip xs,p.2.good:=λ_ hp=>hg _ (List.of_mem_zip hp).2
def rU{P:TF}{t:TM}{x:S0}(hz:ve P t=some x):∃z,dE P t=some z/\x.val=z/\x.good:=by
 unfold ve at hz
 obtain⟨z,h1,h2⟩:=qar.1 hz
 obtain⟨h3,h4,_⟩:=rH h2
 exact⟨z,h1,h3,h4⟩
def build_ok(hA:AlgOk A X.C Sg X.T holds abs)(hR:Rp ev σ)(ha:abs h=σ.heap){t:TM}{ps:Array (Nat×Operand)}(ho:o.op = .build t ps)
  (hk:holds (match ve X.C.P t,mm X.C.P t,svals ev (ps.toList.map (·.2))with
  |some z,some pl,some xs=>match qM pl z.cells ((ps.toList.map (·.1)).zip xs)with
   |some cs=>setD o.dst (.st (.agg cs)) ev h K
   |none=>A.fail
  |_,_,_=>A.fail)):Done X holds abs o σ K:=by
 split at hk
 next z pl xs e1 e2 e3=>
  split at hk
  next cs e4=>
   obtain⟨zv,hz1,hz2,hz3⟩:=rU e1
   obtain⟨hv,hg⟩:=hR.svals e3
   have hzc:=S0.cells_val hz3
   have hfill:=qN pl _ _ _ (rW (is:=ps.toList.map (·.1)) hg) e4
   have hgood:=oW pl _ _ _ (λc hc=>hz3 c hc) (rW (is:=ps.toList.map (·.1)) hg) e4
   refine aB hR ha (s:=.st (.agg cs)) hgood ?_ hk
   have hall:(ps.toList.all λp=>!aI (oval σ.tmps p.2))=true:=by
    simp only[qag,qb1]
    intro p hp
    have hm:oval σ.tmps p.2∈ai xs:=by
     rw[←hv]
     exact qaU.2 ⟨p.2,qaU.2 ⟨p,hp,rfl⟩,rfl⟩
    simp only[ai,qaU]at hm
    obtain⟨x,hx,e⟩:=hm
    rw[←e]
    exact S0.not_tuple (hg x hx)
   simp only[am,ho,hall,if_true,si,hz1,e2]
   rw[qh hv,←hz2,hzc,hfill]
   rfl
  ·exact absurd hk hA.fail
 ·exact absurd hk hA.fail
end
def SL.lf_val{a b:SL}{k:LK}(ha:a.is k=true)(hb:b.is k=true)(he:a.lf=b.lf):a.val=b.val/\(a.good->b.good):=by
 cases a<;>cases b<;>cases k<;>simp only[SL.lf,Lf.i.injEq,Lf.b.injEq,Lf.v.injEq,reduceCtorEq,SL.is,qao]at he ha hb ⊢<;>try (subst he;exact⟨rfl,id⟩)
 subst he
 exact⟨by simp only[SL.val];rw[dA ha,dA hb],id⟩
def bM:∀ {cs:List SL} {ks:TG},aT cs ks=true->cs.length=ks.length
 | [],[],_=>rfl
 |c :: cs,k :: ks,h=>by
  simp only[aT,qaa]at h
  simp[bM h.2]
 | [],_ :: _,h=>by cases h
 |_ :: _,[],h=>by cases h
def gm:∀ {a b:List SL} {ks:TG},aT a ks=true->aT b ks=true->a.map SL.lf=b.map SL.lf->a.map SL.val=b.map SL.val/\((∀c∈a,c.good)->∀c∈b,c.good)
 | [],[],[],_,_,_=>⟨rfl,λ_ _ h=>by cases h⟩
 |a :: as0,b :: bs,k :: ks,ha,hb,he=>by
  simp only[aT,qaa]at ha hb
  simp only[qas,qax]at he
  obtain⟨h1,h2⟩:=SL.lf_val ha.1 hb.1 he.1
  obtain⟨h3,h4⟩:=gm ha.2 hb.2 he.2
  refine⟨by simp[h1,h3],λhg c hc=>?_⟩
  rcases qal.1 hc with rfl|hc
  ·exact h2 (hg a (by simp))
  ·exact h4 (λc hc=>hg c (by simp[hc])) c hc
 | [],_ :: _,[],_,hb,_=>by cases hb
 | [],_,_ :: _,ha,_,_=>by cases ha
 |_ :: _,_,[],ha,_,_=>by cases ha
 |_ :: _,[],_ :: _,_,hb,_=>by cases hb
def S0.is_val{a b:S0}{sk:SK}(ha:a.is sk=true)(hb:b.is sk=true)(he:a.cells.map SL.lf=b.cells.map SL.lf):a.val=b.val/\(a.good->b.good):=by
 cases sk with
 |leaf k=>
  cases a with
  |agg _=>cases ha
  |leaf a=>
   cases b with
   |agg _=>cases hb
   |leaf b=>
    simp only[S0.cells,qas,qbk,qax,and_true]at he
    obtain⟨h1,h2⟩:=SL.lf_val ha hb he
    refine⟨h1,λhg l hl=>?_⟩
    simp only[S0.cells,qam]at hl
    subst hl
    exact h2 (hg a (by simp[S0.cells]))
 |agg ks=>
  cases a with
  |leaf _=>cases ha
  |agg a=>
   cases b with
   |leaf _=>cases hb
   |agg b=>
    obtain⟨h1,h2⟩:=gm ha hb he
    exact⟨by simp only[S0.val,h1],h2⟩
def S0.is_len{a:S0}{sk:SK}(ha:a.is sk=true):∃n,a.cells.length=n/\∀b:S0,b.is sk=true->b.cells.length=n:=by
 refine⟨_,rfl,λb hb=>?_⟩
 cases sk with
 |leaf k=>
  cases a with
  |agg _=>cases ha
  |leaf a=>cases b with
   |agg _=>cases hb
   |leaf b=>rfl
 |agg ks=>
  cases a with
  |leaf _=>cases ha
  |agg a=>cases b with
   |leaf _=>cases hb
   |agg b=>exact(bM hb).trans (bM ha).symm
def cF:∀ {a b:List S0} {sks:TJ},bZ a sks=true->bZ b sks=true->cb a=cb b->ai a=ai b/\((∀c∈a,c.good)->∀c∈b,c.good)
 | [],[],[],_,_,_=>⟨rfl,λ_ _ h=>by cases h⟩
 |a :: as0,b :: bs,k :: ks,ha,hb,he=>by
  simp only[bZ,qaa]at ha hb
  obtain⟨n,hn1,hn2⟩:=S0.is_len ha.1
  have hn2:=hn2 b hb.1
  simp only[cb]at he
  obtain⟨he1,he2⟩:=qdt he (by simp[hn1,hn2])
  obtain⟨h1,h2⟩:=S0.is_val ha.1 hb.1 he1
  obtain⟨h3,h4⟩:=cF ha.2 hb.2 he2
  refine⟨by simp only[ai,qas,h1]at h3 ⊢;rw[h3],λhg c hc=>?_⟩
  rcases qal.1 hc with rfl|hc
  ·exact h2 (hg a (by simp))
  ·exact h4 (λc hc=>hg c (by simp[hc])) c hc
 | [],_ :: _,[],_,hb,_=>by cases hb
 | [],_,_ :: _,ha,_,_=>by cases ha
 |_ :: _,_,[],ha,_,_=>by cases ha
 |_ :: _,[],_ :: _,_,hb,_=>by cases hb
section
variable [Val] [Kno] {R HT:Type} {A:Alg R HT} {X:Ctxt} {Sg:Tb} {holds:R->Prop} {abs:HT->Ts}
variable {ev:Env} {σ:St} {h:HT} {o:Oper} {K:KN R HT}
def qf{C:Cfg}{T:Tt}(hA:AlgOk A C Sg T holds abs):∀ {ks:TG} {ls:TE} {K:List SL->TE->R},holds (unL A ks ls K)->
  ∃cs r,ls=cs.map SL.lf++r/\aT cs ks=true/\holds (K cs r)
 | [],ls,K,hk=>⟨[],ls,rfl,rfl,hk⟩
 | .i k :: ks,ls,K,hk=>by
  obtain⟨n,r,rfl,hk1⟩:=hA.unI _ _ hk
  obtain⟨cs,r',rfl,h2,h3⟩:=qf hA (ks:=ks) hk1
  exact⟨.i k n :: cs,r',rfl,by simp[aT,SL.is,dI,h2],h3⟩
 | .b :: ks,ls,K,hk=>by
  obtain⟨n,r,rfl,hk1⟩:=hA.unB _ _ hk
  obtain⟨cs,r',rfl,h2,h3⟩:=qf hA (ks:=ks) hk1
  exact⟨.b n :: cs,r',rfl,by simp[aT,SL.is,h2],h3⟩
 | .v :: ks,ls,K,hk=>by
  obtain⟨n,r,rfl,hk1⟩:=hA.unV _ _ hk
  obtain⟨cs,r',rfl,h2,h3⟩:=qf hA (ks:=ks) hk1
  exact⟨.v n :: cs,r',rfl,by simp[aT,SL.is,h2],h3⟩
def unS_ok{C:Cfg}{T:Tt}(hA:AlgOk A C Sg T holds abs){sk:SK}{ls:TE}{K:S0->TE->R}(hk:holds (unS A sk ls K)) :
  ∃x r,ls=x.cells.map SL.lf++r/\x.is sk=true/\holds (K x r):=by
 cases sk with
 |leaf k=>
  cases k with
  |i k=>
   obtain⟨n,r,rfl,hk1⟩:=hA.unI _ _ hk
   exact⟨.leaf (.i k n),r,rfl,by simp[S0.is,SL.is,dI],hk1⟩
  |b=>
   obtain⟨n,r,rfl,hk1⟩:=hA.unB _ _ hk
   exact⟨.leaf (.b n),r,rfl,rfl,hk1⟩
  |v=>
   obtain⟨n,r,rfl,hk1⟩:=hA.unV _ _ hk
   exact⟨.leaf (.v n),r,rfl,rfl,hk1⟩
 |agg ks=>
  obtain⟨cs,r,h1,h2,h3⟩:=qf hA hk
  exact⟨.agg cs,r,h1,h2,h3⟩
def oe{C:Cfg}{T:Tt}(hA:AlgOk A C Sg T holds abs):∀ {sks:TJ} {ls:TE} {K:List S0->TE->R},holds (unSs A sks ls K)->
  ∃xs r,ls=cb xs++r/\bZ xs sks=true/\holds (K xs r)
 | [],ls,K,hk=>⟨[],ls,rfl,rfl,hk⟩
 |sk :: sks,ls,K,hk=>by
  have hk0:holds (unS A sk ls λx r=>unSs A sks r λxs r=>K (x :: xs) r):=hk
  obtain⟨x,r,rfl,h1,hk1⟩:=unS_ok hA hk0
  obtain⟨xs,r',rfl,h2,h3⟩:=oe hA (sks:=sks) hk1
  exact⟨x :: xs,r',by simp[cb],by simp[bZ,h1,h2],h3⟩
def wJ{C:Cfg}{T:Tt}(hA:AlgOk A C Sg T holds abs):∀ {ks:TG} {ls:Tl} {K:List SL->Tl->R},holds (ucL A ks ls K)->
  ∃cs r,ls=cs.map SL.val++r/\aT cs ks=true/\(∀c∈cs,c.good)/\holds (K cs r)
 | [],ls,K,hk=>⟨[],ls,rfl,rfl,by simp,hk⟩
 | .i k :: ks,ls,K,hk=>by
  obtain⟨n,r,rfl,hk1⟩:=hA.ucI _ _ _ hk
  obtain⟨cs,r',rfl,h2,h3,h4⟩:=wJ hA (ks:=ks) hk1
  exact⟨.i k n :: cs,r',rfl,by simp[aT,SL.is,dI,h2],qbv.2 ⟨trivial,h3⟩,h4⟩
 | .b :: ks,ls,K,hk=>by
  obtain⟨n,r,rfl,hk1⟩:=hA.ucB _ _ hk
  obtain⟨cs,r',rfl,h2,h3,h4⟩:=wJ hA (ks:=ks) hk1
  exact⟨.b n :: cs,r',rfl,by simp[aT,SL.is,h2],qbv.2 ⟨trivial,h3⟩,h4⟩
 | .v :: ks,ls,K,hk=>by
  obtain⟨n,r,rfl,hk1⟩:=hA.ucV _ _ hk
  obtain⟨hg,hk2⟩:=hA.chk _ _ hk1
  obtain⟨cs,r',rfl,h2,h3,h4⟩:=wJ hA (ks:=ks) hk2
  exact⟨.v n :: cs,r',rfl,by simp[aT,SL.is,h2],qbv.2 ⟨hg,h3⟩,h4⟩
def od{C:Cfg}{T:Tt}(hA:AlgOk A C Sg T holds abs){sk:SK}{ls:Tl}{K:S0->Tl->R}(hk:holds (ucS A sk ls K)) :
  ∃x r,ls=x.cells.map SL.val++r/\x.is sk=true/\x.good/\holds (K x r):=by
 cases sk with
 |leaf k=>
  cases k with
  |i k=>
   obtain⟨n,r,rfl,hk1⟩:=hA.ucI _ _ _ hk
   exact⟨.leaf (.i k n),r,rfl,by simp[S0.is,SL.is,dI],λl hl=>by simp only[S0.cells,qam]at hl;subst hl;trivial,hk1⟩
  |b=>
   obtain⟨n,r,rfl,hk1⟩:=hA.ucB _ _ hk
   exact⟨.leaf (.b n),r,rfl,rfl,λl hl=>by simp only[S0.cells,qam]at hl;subst hl;trivial,hk1⟩
  |v=>
   obtain⟨n,r,rfl,hk1⟩:=hA.ucV _ _ hk
   obtain⟨hg,hk2⟩:=hA.chk _ _ hk1
   exact⟨.leaf (.v n),r,rfl,rfl,λl hl=>by simp only[S0.cells,qam]at hl;subst hl;exact hg,hk2⟩
 |agg ks=>
  obtain⟨cs,r,h1,h2,h3,h4⟩:=wJ hA hk
  exact⟨.agg cs,r,h1,h2,h3,h4⟩
def ucSs_ok{C:Cfg}{T:Tt}(hA:AlgOk A C Sg T holds abs):∀ {sks:TJ} {ls:Tl} {K:List S0->Tl->R},holds (ucSs A sks ls K)->
  ∃xs r,ls=lT xs++r/\bZ xs sks=true/\(∀x∈xs,x.good)/\holds (K xs r)
 | [],ls,K,hk=>⟨[],ls,rfl,rfl,by simp,hk⟩
 |sk :: sks,ls,K,hk=>by
  have hk0:holds (ucS A sk ls λx r=>ucSs A sks r λxs r=>K (x :: xs) r):=hk
  obtain⟨x,r,rfl,h1,hg,hk1⟩:=od hA hk0
  obtain⟨xs,r',rfl,h2,h3,h4⟩:=ucSs_ok hA (sks:=sks) hk1
  refine⟨x :: xs,r',by simp[lT],by simp[bZ,h1,h2],λc hc=>?_,h4⟩
  rcases qal.1 hc with rfl|hc
  ·exact hg
  ·exact h3 c hc
def mkV(agg:Bool)(cs:Tl)(v:Value):Prop:=(agg=true/\v = .agg ⟨cs⟩)∨(agg=false/\cs=[v])
def pA{x:S0}{sk:SK}(hx:x.is sk=true){v:Value}(hv:mkV (iW sk) (x.cells.map SL.val) v):x.val=v:=by
 cases sk with
 |leaf k=>
  cases x with
  |agg _=>cases hx
  |leaf l=>
   rcases hv with⟨h,_⟩|⟨_,h⟩
   ·cases h
   ·simp only[S0.cells,qas,qbk,qax,and_true]at h
    exact h
 |agg ks=>
  cases x with
  |leaf _=>cases hx
  |agg cs=>
   rcases hv with⟨_,h⟩|⟨h,_⟩
   ·exact h.symm
   ·cases h
def eqB_eq{a b:Bool}(h:eqB a b=true):a=b:=by cases a<;>cases b<;>first|rfl|cases h
def nu{agg:Bool}{cs:List SL}{x:S0}(hx:mkS0 agg cs=some x):x.cells=cs/\mkV agg (cs.map SL.val) x.val:=by
 unfold mkS0 at hx
 split at hx
 ·cases hx;exact⟨rfl,.inl ⟨rfl,rfl⟩⟩
 ·cases hx;exact⟨rfl,.inr ⟨rfl,rfl⟩⟩
 ·cases hx
def cN{P:TF}{t:TM}{agg:Bool}(hag:aggT P t=some agg){vs cs:Tl}{off:Nat}(hc:cut vs off (if agg then P.cellsOf t else 1)=some cs) :
  ∃v,dl P t vs off=some v/\mkV agg cs v:=by
 unfold aggT at hag
 unfold dl
 split at hag
 next fs e=>
  cases hag
  rw[e]
  simp only[if_true]at hc
  exact⟨.agg ⟨cs⟩,by simp[hc],.inl ⟨rfl,rfl⟩⟩
 next fs e=>
  cases hag
  rw[e]
  simp only[if_true]at hc
  exact⟨.agg ⟨cs⟩,by simp[hc],.inl ⟨rfl,rfl⟩⟩
 next d h1 h2 e=>
  cases hag
  rw[e]
  simp only[qao,if_false]at hc
  unfold cut at hc
  split at hc
  next hle=>
   cases hc
   have hlt:off<vs.length:=by omega
   have hcs:(vs.drop off).take 1=[vs[off]]:=by
    rw[qa9 hlt];rfl
   refine⟨vs[off],?_,.inr ⟨rfl,hcs⟩⟩
   simp[hlt]
  ·cases hc
 ·cases hag
def kT(hA:AlgOk A X.C Sg X.T holds abs){dst:To}{sk:SK}{cs:Tl}{v:Value}(hv:mkV (iW sk) cs v)(hk:holds (setC A dst sk cs ev h K)) :
  ∃x:S0,x.val=v/\x.good/\holds (setD dst (.st x) ev h K):=by
 obtain⟨x,r,h1,h2,h3,hk1⟩:=od hA hk
 obtain⟨hr,hk2⟩:=hA.uc0 _ _ hk1
 rw[hr,qa6]at h1
 subst h1
 exact⟨x,pA h2 hv,h3,hk2⟩
def mM{cs ds:List SL}{off n:Nat}(hc:cutS cs off n=some ds):cut (cs.map SL.val) off n=some (ds.map SL.val)/\(∀d∈ds,d∈cs):=by
 unfold cutS at hc
 unfold cut
 split at hc
 next hle=>
  cases hc
  rw[qdD (by simpa using hle)]
  exact⟨by simp[qcy,qcf],λd hd=>qbQ (qbm hd)⟩
 ·cases hc
def jG(hR:Rp ev σ){s:Nat}{cs:List SL}(hr:rF ev s=some cs):σ.loc[s]?=some (some (cs.map SL.val))/\(∀c∈cs,c.good)/\ev.lc[s]?=some (.row cs):=by
 unfold rF at hr
 split at hr
 next ds e=>
  cases hr
  rw[List.getD_eq_getElem?_getD]at e
  cases he:ev.lc[s]? with
  |none=>rw[he]at e;cases e
  |some r=>
   rw[he]at e
   simp only[qby]at e
   subst e
   have:=hR.row s _ he
   exact⟨this.1,this.2,rfl⟩
 ·cases hr
def wh{cs:List SL}{base:Nat}{ix:List (Int×Nat)}{n:Nat}{ls:TE}(hp:rr (cs.map SL.lf) base ix n=some ls) :
  ∃ds,cutS cs (offX base ix) n=some ds/\ls=ds.map SL.lf:=by
 rw[pickL_eq]at hp
 split at hp
 next hle=>
  cases hp
  refine⟨_,by unfold cutS;rw[qdD (by simpa using hle)],by simp[qcy,qcf]⟩
 ·cases hp
def offX_le:∀(ix:List (Int×Nat)) (base:Nat),base<=offX base ix
 | [],base=>qaf _
 |p :: l,base=>qbh (Nat.le_add_right _ _) (offX_le l _)
def lN{cs ds:List SL}{ks:TG}:∀ {ix:List (Int×Nat)} {base:Nat},sa cs ks base ix=true->cutS cs (offX base ix) ks.length=some ds->aT ds ks=true
 | [],base,h1,h2=>by
  simp only[sa,offX]at h1 h2
  rw[h2]at h1
  exact h1
 |p :: l,base,h1,h2=>by
  simp only[sa,qaa,qag,qb1,offX]at h1 h2
  obtain⟨h0,h1⟩:=h1
  refine lN (ix:=l) (h1 p.1.toNat ?_) h2
  have hp:p.2≠0:=λe=>by rw[e]at h0;cases h0
  have hle:offX (base+p.1.toNat*p.2) l<=cs.length:=by
   unfold cutS at h2
   split at h2
   ·omega
   ·cases h2
  have:=offX_le l (base+p.1.toNat*p.2)
  have h3:p.1.toNat<=p.1.toNat*p.2:=Nat.le_mul_of_pos_right _ (Nat.pos_of_ne_zero hp)
  simp only[qaN]
  omega
def is_skKs{x:S0}{sk:SK}(hx:x.is sk=true):aT x.cells (skKs sk)=true:=by
 cases sk with
 |leaf k=>
  cases x with
  |agg _=>cases hx
  |leaf l=>simp[S0.cells,skKs,aT];exact hx
 |agg ks=>
  cases x with
  |leaf _=>cases hx
  |agg cs=>exact hx
def setL_ok(hA:AlgOk A X.C Sg X.T holds abs){dst:To}{sk:SK}{ds:List SL}{v:Value}(hd:aT ds (skKs sk)=true)(hg:∀c∈ds,c.good)(hv:mkV (iW sk) (ds.map SL.val) v)
  (hk:holds (setL A dst sk (ds.map SL.lf) ev h K)):∃x:S0,x.val=v/\x.good/\holds (setD dst (.st x) ev h K):=by
 obtain⟨x,r,e1,e2,hk1⟩:=unS_ok hA hk
 obtain⟨hr0,hk2⟩:=hA.un0 _ _ hk1
 rw[hr0,qa6]at e1
 obtain⟨h1,h2⟩:=gm hd (is_skKs e2) e1
 rw[h1]at hv
 exact⟨x,pA e2 hv,h2 hg,hk2⟩
def is_lk(c:SL):c.is c.lk=true:=by cases c<;>first|rfl|exact dI _
def lO:∀cs:List SL,aT cs (cs.map SL.lk)=true
 | []=>rfl
 |c :: cs=>by simp[aT,is_lk,lO cs]
def gk:∀ {a b:List SL} {ka kb:TG},aT a ka=true->aT b kb=true->aT (a++b) (ka++kb)=true
 | [],b,[],kb,_,h=>h
 |a :: as0,b,k :: ka,kb,h1,h2=>by
  simp only[aT,qaa,qa8]at h1 ⊢
  exact⟨h1.1,gk h1.2 h2⟩
 | [],_,_ :: _,_,h,_=>by cases h
 |_ :: _,_,[],_,h,_=>by cases h
end
section
variable [Val] [Kno] {R HT:Type} {A:Alg R HT} {X:Ctxt} {Sg:Tb} {holds:R->Prop} {abs:HT->Ts}
variable {ev:Env} {σ:St} {h:HT} {o:Oper} {K:KN R HT}
def so(H:Ts)(id:Nat):gw (λi=>H[i]?) id=dz H id:=rfl
def ldP_ok{n:Nat}{p:Value}{g:bU}{cs:Tl}(h:ldP n p g=some cs):∃id off vs,p = .pointer (some ⟨id,off,none⟩)/\gw g id=some vs/\cut vs off n=some cs:=by
 unfold ldP at h
 split at h
 next a=>
  split at h
  next hs=>
   obtain⟨vs,h1,h2⟩:=qar.1 h
   obtain⟨b,f,sp⟩:=a
   simp only at hs
   subst hs
   exact⟨b,f,vs,rfl,h1,h2⟩
  ·cases h
 ·cases h
def lgP_ok{C:Cfg}{n:Nat}{p:Value}{g:bU}{cs:Tl}(h:lgP C n p g=some cs):(∃id off vs,p = .pointer (some ⟨id,off,none⟩)/\gw g id=some vs/\cut vs off n=some cs)∨∃id off vs,p = .pointer (some ⟨id,off,some 1⟩)/\C.G id=some vs/\cut vs off n=some cs:=by
 unfold lgP at h
 split at h
 next a=>
  split at h
  next hs=>
   obtain⟨vs,h1,h2⟩:=qar.1 h
   obtain⟨b,f,sp⟩:=a
   simp only at hs
   subst hs
   exact .inl ⟨b,f,vs,rfl,h1,h2⟩
  next k hs=>
   split at h
   next hb=>
    obtain⟨vs,h1,h2⟩:=qar.1 h
    obtain⟨b,f,sp⟩:=a
    simp only at hs
    subst hs
    rw[qac hb]
    exact .inr ⟨b,f,vs,rfl,h1,h2⟩
   ·cases h
 ·cases h
def load_ok(hA:AlgOk A X.C Sg X.T holds abs)(hR:Rp ev σ)(ha:abs h=σ.heap){t:TM}{a:TH}{sk:SK}{agg:Bool}(ho:o.op = .load t a)(hag:aggT X.C.P t=some agg)
  (hsk:agg=iW sk) (hk:holds (loadE A X o.dst sk agg (if agg then X.C.P.cellsOf t else 1) a ev h K)):Done X holds abs o σ K:=by
 have heff:am X.C X.pts (oval σ.tmps) o=dJ X.C X.pts t a (oval σ.tmps a):=by simp only[am,ho]
 unfold loadE at hk
 split at hk
 next p hkey he=>
  obtain⟨h1,_⟩:=hR.sval he (by simp)
  obtain⟨cs,h2,hk1⟩:=hA.peek _ _ _ hk
  simp only[Pk.run]at h2
  rw[ha]at h2
  rcases lgP_ok h2 with⟨id,off,vs,rfl,h3,h4⟩|⟨id,off,vs,rfl,h3,h4⟩
  ·rw[so]at h3
   obtain⟨v,h5,h6⟩:=cN hag h4
   rw[hsk]at h6
   obtain⟨x,rfl,h7,hk2⟩:=kT hA h6 hk1
   refine gD hR ha (s:=.st x) h7 (f:=λH=>(dz H id).bind λvs=>dl X.C.P t vs off) ?_ ?_ hk2
   ·rw[heff,dJ,hkey,h1];rfl
   ·simp only[h3,qak,h5];rfl
  ·obtain⟨v,h5,h6⟩:=cN hag h4
   rw[hsk]at h6
   obtain⟨x,rfl,h7,hk2⟩:=kT hA h6 hk1
   refine gD hR ha (s:=.st x) h7 (f:=λ_=>(X.C.G id).bind λvs=>dl X.C.P t vs off) ?_ ?_ hk2
   ·rw[heff,dJ,hkey,h1];rfl
   ·simp only[h3,qak,h5];rfl
 next g off hkey he=>
  obtain⟨h1,_⟩:=hR.sval he (by simp)
  split at hk
  next vs hg=>
   split at hk
   next cs hc=>
    obtain⟨v,h5,h6⟩:=cN hag hc
    have hval:am X.C X.pts (oval σ.tmps) o=some (.val v):=by
     rw[heff,dJ,hkey,h1]
     simp only[SV.val,fO,if_true,qak,hg,h5,qaC]
    split at hk
    next x hsc hm=>
     obtain⟨hm1,hm2⟩:=nu hm
     have hcs:(cs.map slOf).map SL.val=cs:=by
      rw[qcW]
      have:(SL.val ∘ slOf)=id:=funext rL
      rw[this,List.map_id]
     rw[hcs]at hm2
     have hv:x.val=v:=by
      rcases hm2 with⟨a1,a2⟩|⟨a1,a2⟩<;>rcases h6 with⟨b1,b2⟩|⟨b1,b2⟩
      ·rw[a2,b2]
      ·rw[a1]at b1;cases b1
      ·rw[a1]at b1;cases b1
      ·rw[a2]at b2;simpa using b2
     subst hv
     refine aB hR ha (s:=.st x) (λl hl=>?_) hval hk
     rw[hm1]at hl
     obtain⟨c,hc1,rfl⟩:=qaU.1 hl
     exact nW (qag.1 hsc c hc1)
    ·rw[hsk]at h6
     obtain⟨x,rfl,h7,hk⟩:=kT hA h6 hk
     exact aB hR ha (s:=.st x) h7 hval hk
   ·exact absurd hk hA.fail
  ·exact absurd hk hA.fail
 next g base ix hkey he=>
  obtain⟨h1,_⟩:=hR.sval he (by simp)
  split at hk
  next vs hg=>
   obtain⟨cs,hc,hk⟩:=hA.opt _ _ hk
   obtain⟨v,h5,h6⟩:=cN hag (vs:=vs) (off:=offX base ix) ((pickV_eq _ _ _ _).symm.trans hc)
   have hval:am X.C X.pts (oval σ.tmps) o=some (.val v):=by
    rw[heff,dJ,hkey,h1]
    simp only[SV.val,fO,if_true,qak,hg,h5,qaC]
   rw[hsk]at h6
   obtain⟨x,rfl,h7,hk⟩:=kT hA h6 hk
   exact aB hR ha (s:=.st x) h7 hval hk
  ·exact absurd hk hA.fail
 next p hkey he=>
  obtain⟨h1,_⟩:=hR.sval he (by simp)
  obtain⟨cs,hc,hk1⟩:=hA.opt _ _ hk
  unfold ldGv at hc
  split at hc
  next ad=>
   split at hc
   next hsp=>
    obtain⟨vs,hg,hc⟩:=qar.1 hc
    obtain⟨v,h5,h6⟩:=cN hag hc
    have hval:am X.C X.pts (oval σ.tmps) o=some (.val v):=by
     rw[heff,dJ,hkey,h1]
     simp only[SV.val,S0.val,SL.val,fO,hsp,if_true,qak,hg,h5,qaC]
    rw[hsk]at h6
    obtain⟨x,rfl,h7,hk2⟩:=kT hA h6 hk1
    exact aB hR ha (s:=.st x) h7 hval hk2
   ·cases hc
  ·cases hc
 next s s' off hkey he=>
  obtain⟨h1,_⟩:=hR.sval he (by simp)
  split at hk
  next x hs hx=>
   have hs:s=s':=by simpa using hs
   subst hs
   obtain⟨cs,hr,hx⟩:=qar.1 hx
   obtain⟨ds,hd,hx⟩:=qar.1 hx
   obtain⟨r1,r2,_⟩:=jG hR hr
   obtain⟨c1,c2⟩:=mM hd
   obtain⟨v,h5,h6⟩:=cN hag c1
   obtain⟨hm1,hm2⟩:=nu hx
   have hv:x.val=v:=by
    rcases hm2 with⟨a1,a2⟩|⟨a1,a2⟩<;>rcases h6 with⟨b1,b2⟩|⟨b1,b2⟩
    ·rw[a2,b2]
    ·rw[a1]at b1;cases b1
    ·rw[a1]at b1;cases b1
    ·rw[a2]at b2;simpa using b2
   subst hv
   refine dw hR σ.heap ha (s:=.st x) (λl hl=>?_) (.inl ⟨.lget s λvs=>dl X.C.P t vs off,?_,(σ,x.val),?_,rfl⟩) hk
   ·rw[hm1]at hl;exact r2 l (c2 l hl)
   ·rw[heff,dJ,hkey,h1]
    simp[SV.val,iC]
   ·simp[aQ,r1,h5]
  ·exact absurd hk hA.fail
 next s s' base ix hkey he=>
  obtain⟨h1,_⟩:=hR.sval he (by simp)
  split at hk
  next cs hs hr=>
   have hs:s=s':=by simpa using hs
   subst hs
   split at hk
   next hat=>
    simp only[qaa]at hat
    obtain⟨hat,hn⟩:=hat
    have hn:=qac hn
    obtain⟨ls,hp,hk1⟩:=hA.opt _ _ hk
    obtain⟨ds,hd,rfl⟩:=wh hp
    obtain⟨r1,r2,_⟩:=jG hR hr
    obtain⟨c1,c2⟩:=mM hd
    obtain⟨v,h5,h6⟩:=cN hag c1
    rw[hsk]at h6
    rw[hn]at hd
    obtain⟨x,rfl,h7,hk2⟩:=setL_ok hA (lN hat hd) (λc hc=>r2 c (c2 c hc)) h6 hk1
    refine dw hR σ.heap ha (s:=.st x) h7 (.inl ⟨.lget s λvs=>dl X.C.P t vs (offX base ix),?_,(σ,x.val),?_,rfl⟩) hk2
    ·rw[heff,dJ,hkey,h1]
     simp[SV.val,iC]
    ·simp[aQ,r1,h5]
   ·exact absurd hk hA.fail
  ·exact absurd hk hA.fail
 ·exact absurd hk hA.fail
def pW{cs r new:List SL}{off:Nat}(hs:gW cs off new=some r):splice (cs.map SL.val) off (new.map SL.val)=some (r.map SL.val)/\r.length=cs.length/\((∀c∈cs,c.good)->(∀c∈new,c.good)->∀c∈r,c.good):=by
 unfold gW at hs
 unfold splice
 split at hs
 next hle=>
  cases hs
  rw[qdD (by simpa using hle)]
  refine⟨by simp[qcf,qcy],by simp;omega,λh1 h2 c hc=>?_⟩
  simp only[qau]at hc
  rcases hc with(hc|hc)|hc
  ·exact h1 c (qbm hc)
  ·exact h2 c hc
  ·exact h1 c (qbQ hc)
 ·cases hs
def vd{P:TF}{t:TM}{x:S0}(hx:x.good)(hlen:x.cells.length=P.cellsOf t)(hi:(P.info? t).isSome=true)(vs:Tl)(off:Nat) :
  eo P t x.val vs off=splice vs off (x.cells.map SL.val):=by
 unfold eo
 have h1:=S0.cells_val hx
 rw[qdD ⟨by rw[h1];simpa using hlen,hi⟩,qdD (S0.cells_ok hx),h1]
def qD(hR:Rp ev σ)(ha:abs h=σ.heap){s:Nat}{cs:List SL}{f:Tl->Option (Tl)}{vs:Tl}(he:am X.C X.pts (oval σ.tmps) o=some (.lset s f))(hloc:σ.loc[s]?=some (some vs))
  (hf:f vs=some (cs.map SL.val)) (hlen:(cs.map SL.val).length=vs.length) (hg:∀c∈cs,c.good) (hrow:iT X.pts o=some s)
  (hk:holds (setD o.dst .un ⟨ev.tm,ev.lc.set s (.row cs)⟩ h K)):Done X holds abs o σ K:=by
 let σ₁:St:={ σ with loc:=σ.loc.set s (some (cs.map SL.val)) }
 have hlt:s<σ.loc.length:=(qaP.1 hloc).1
 have hR1:Rp ⟨ev.tm,ev.lc.set s (.row cs)⟩ σ₁:=by
  refine⟨hR.len,hR.val,by simp[σ₁,hR.llen],λi r hr=>?_⟩
  simp only[qa2]at hr
  split at hr
  next hi=>
   subst hi
   split at hr
   ·cases hr
    exact⟨by simp only[σ₁];rw[qaH hlt],hg⟩
   ·cases hr
  next hi=>
   have:=hR.row i r hr
   have hne:σ₁.loc[i]?=σ.loc[i]?:=by simp only[σ₁];rw[qaA hi]
   cases r<;>first|trivial|(simp only[LR.ok]at this ⊢;rw[hne];exact this)
 obtain⟨ev',h1,h2⟩:=uU (dst:=o.dst) hR1 (s:=.un) trivial hk
 refine⟨σ₁.put o.dst undef,ev',h,.inl ⟨_,he,(σ₁,undef),by simp[aQ,hloc,hf,σ₁],rfl⟩,h1,?_,?_,h2⟩
 ·rw[ha];cases o.dst<;>rfl
 ·have hf:=Fr.put (σ:=σ₁) o.dst undef (tB X.pts o).toList (iT X.pts o).toList
  have h0:Fr o.dst.toList (tB X.pts o).toList (iT X.pts o).toList σ σ₁:=by
   refine⟨rfl,by simp[σ₁],λ_ _ h _ _=>h,λ_ _ _ h _ _=>h,λi y hs hn=>?_,λi ws hs hn=>?_⟩
   ·rw[hrow]at hn
    simp only[qdc,qam]at hn
    simp only[σ₁]
    rw[qaA (λe=>hn e.symm)];exact hs
   ·by_cases hi:i=s
    ·subst hi
     rw[hloc]at hs
     cases hs
     exact⟨_,by simp only[σ₁];rw[qaH hlt],hlen⟩
    ·exact⟨ws,by simp only[σ₁];rw[qaA (λe=>hi e.symm)];exact hs,rfl⟩
  exact h0.trans hf
def stP_ok{p:Value}{new:Tl}{g:bU}{n:Nat}{acts:List Act1}{cs:Tl}(h:stP p new g n=some (acts,cs)) :
  ∃id off vs vs' e,p = .pointer (some ⟨id,off,none⟩)/\g id=some (.cells vs e true)/\splice vs off new=some vs'/\acts=[.set id (.cells vs' e true)]:=by
 unfold stP at h
 split at h
 next a=>
  split at h
  next hs=>
   split at h
   next vs e hg=>
    obtain⟨vs',h1,h2⟩:=qad.1 h
    obtain⟨b,f,sp⟩:=a
    simp only at hs
    subst hs
    cases h2
    exact⟨b,f,vs,vs',e,rfl,hg,h1,rfl⟩
   ·cases h
  ·cases h
 ·cases h
def store_ok(hA:AlgOk A X.C Sg X.T holds abs)(hR:Rp ev σ)(ha:abs h=σ.heap){t:TM}{a y:TH}{x:S0}(ho:o.op = .store t a y)(hy:sval ev y = .st x)
  (hk:holds (storeE A X o.dst t a x ev h K)):Done X holds abs o σ K:=by
 obtain⟨hy1,hx⟩:=hR.sval hy (by simp)
 have hx:x.good:=hx
 have heff:am X.C X.pts (oval σ.tmps) o=em X.C X.pts t a (oval σ.tmps a) x.val:=by simp only[am,ho,hy1];rfl
 have hnt:=S0.not_tuple hx
 unfold storeE at hk
 split at hk
 ·exact absurd hk hA.fail
 next hc=>
  simp only[qaa]at hc
  obtain⟨hlen,hi⟩:=hc
  have hlen:=qac hlen
  have hw:=vd (P:=X.C.P) (t:=t) hx hlen hi
  split at hk
  next p hkey he=>
   obtain⟨h1,_⟩:=hR.sval he (by simp)
   obtain⟨acts,cs,h',h2,h3,hk1⟩:=hA.heap _ _ _ hk
   simp only[Hp.run]at h2
   rw[ha]at h2 h3
   obtain⟨id,off,vs,vs',e,rfl,g1,g2,rfl⟩:=stP_ok h2
   refine cY (s:=.un) hR (H':=σ.heap.set id (.cells vs' e true)) h3 trivial (f:=iP X.C t id off x.val) ?_ ?_ hk1
   ·rw[heff,em,hnt,hkey,h1];rfl
   ·simp only[iP,g1,hw,g2,qaC];rfl
  next s s' off hkey he=>
   obtain⟨h1,_⟩:=hR.sval he (by simp)
   have hrow:iT X.pts o=some s:=by simp only[iT,ho,hkey]
   split at hk
   next cs hs hst=>
    have hs:s=s':=by simpa using hs
    subst hs
    rw[setK_eq]at hk
    have heff2:am X.C X.pts (oval σ.tmps) o=some (.lset s λvs=>eo X.C.P t x.val vs off):=by
     rw[heff,em,hnt,hkey,h1]
     simp[SV.val,iC]
    have hrow0:ev.lc[s]?=some (ev.lc.getD s .unk)∨ev.lc.getD s .unk = .unk:=by
     rw[List.getD_eq_getElem?_getD]
     cases ev.lc[s]?<;>simp
    unfold storeR at hst
    split at hst
    next cs0 hl=>
     obtain⟨q1,q2,q3⟩:=pW hst
     have hlc:ev.lc[s]?=some (.row cs0):=by rcases hrow0 with h|h<;>rw[hl]at h<;>first|exact h|cases h
     have hr:=hR.row s _ hlc
     exact qD hR ha heff2 hr.1 (by rw[hw];exact q1) (by simp[q2]) (q3 hr.2 hx) hrow hk
    next n hl=>
     split at hst
     next hz=>
      cases hst
      simp only[qaa]at hz
      have hz1:=qac hz.1
      have hz2:=qac hz.2
      have hlc:ev.lc[s]?=some (.any n):=by rcases hrow0 with h|h<;>rw[hl]at h<;>first|exact h|cases h
      obtain⟨vs,hv1,hv2⟩:=hR.row s _ hlc
      refine qD hR ha heff2 hv1 ?_ (by rw[hv2,hz2];simp) hx hrow hk
      rw[hw,hz1,splice,qdD (by simp;omega)]
      simp[show vs.length<=x.cells.length by omega]
     ·cases hst
    ·cases hst
   ·exact absurd hk hA.fail
  next s s' base ix hkey he=>
   obtain⟨h1,_⟩:=hR.sval he (by simp)
   have hrow:iT X.pts o=some s:=by simp only[iT,ho,hkey]
   split at hk
   next cs hs hr=>
    have hs:s=s':=by simpa using hs
    subst hs
    split at hk
    ·exact absurd hk hA.fail
    next hat=>
     obtain⟨ls,hp,hk1⟩:=hA.opt _ _ hk
     obtain⟨cs',r,e1,e2,hk2⟩:=qf hA hk1
     obtain⟨hr0,hk3⟩:=hA.un0 _ _ hk2
     rw[hr0,qa6]at e1
     rw[setK_eq]at hk3
     obtain⟨r1,r2,_⟩:=jG hR hr
     have heff2:am X.C X.pts (oval σ.tmps) o=some (.lset s λvs=>eo X.C.P t x.val vs (offX base ix)):=by
      rw[heff,em,hnt,hkey,h1]
      simp[SV.val,iC]
     rw[putL_eq]at hp
     split at hp
     next hle=>
      simp only[qay]at hle
      let off:=offX base ix
      have hmid:cutS cs off x.cells.length=some ((cs.drop off).take x.cells.length):=by unfold cutS;rw[qdD hle]
      have hk0:aT ((cs.drop off).take x.cells.length) (x.cells.map SL.lk)=true:=lN hat (by rw[qay];exact hmid)
      let new:=cs.take off++x.cells++cs.drop (off+x.cells.length)
      have hsp:gW cs off x.cells=some new:=by unfold gW;rw[qdD hle]
      obtain⟨q1,q2,q3⟩:=pW hsp
      have hkinds:aT new (cs.map SL.lk)=true:=by
       have hsplit:cs=cs.take off++(cs.drop off).take x.cells.length++cs.drop (off+x.cells.length):=by
        rw[qaJ,←qbU,qbt,qbt]
       have hlk:∀ {a b:List SL},aT a (b.map SL.lk)=true->a.map SL.lk=b.map SL.lk:=by
        intro a b hab
        induction a generalizing b with
        |nil=>cases b with
         |nil=>rfl
         |cons _ _=>cases hab
        |cons a as0 ih=>cases b with
         |nil=>cases hab
         |cons b bs=>
          simp only[qas,aT,qaa]at hab
          simp only[qas,ih hab.2]
          have:a.lk=b.lk:=by
           have h0:=hab.1
           cases a<;>cases b<;>first|rfl|(simp[SL.is,SL.lk]at h0;done)|(simp only[SL.is,SL.lk]at h0 ⊢;rw[dA h0])
          rw[this]
       have hm:cs.map SL.lk=(cs.take off).map SL.lk++x.cells.map SL.lk++(cs.drop (off+x.cells.length)).map SL.lk:=by
        conv=>lhs;rw[hsplit]
        simp only[qbB]
        rw[hlk hk0]
       rw[hm]
       exact gk (gk (lO _) (lO _)) (lO _)
      have hlf:new.map SL.lf=cs'.map SL.lf:=by
       rw[←e1]
       cases hp
       simp[new,off,qcf,qcy]
      obtain⟨v1,v2⟩:=gm hkinds e2 hlf
      refine qD hR ha heff2 r1 (by rw[hw,←v1];exact q1) (by rw[←v1];simp[q2]) (v2 (q3 r2 hx)) hrow hk3
     ·cases hp
   ·exact absurd hk hA.fail
  ·exact absurd hk hA.fail
end
section
variable {P:TF}
def aM{α β:Type}(s:Sem α)(f:α->Sem β):pev P (s >>= f)=(pev P s).bind λa=>pev P (f a):=by
 show pev P (s.bind f)=_
 induction s with
 |pure a=>rfl
 |program k ih=>exact ih P
 |_=>rfl
def fm{α:Type}(a:α):pev P (pure a:Sem α)=some a:=rfl
def kP:pev P program=some P:=rfl
def bh{t:TM}{d:TypeDesc}(h:P.underlying t=some d):pev P (underlying t)=some d:=by
 unfold underlying
 rw[aM,kP]
 simp only[qak,h]
 rfl
def pN{d:Nat}{t:TM}{k k':TI}{a b:Int}(h:P.underlying t=some (.int k')):pev P (Op.equalIn (d+1) t (.int k a) (.int k b))=some (a==b):=by
 simp only[Op.equalIn,aM,bh h,qak,if_true,fm]
def nK{d:Nat}{t:TM}{a b:Bool}(h:P.underlying t=some .bool):pev P (Op.equalIn (d+1) t (.bool a) (.bool b))=some (a==b):=by
 simp only[Op.equalIn,aM,bh h,qak,fm]
def wt{t:TM}{ag:Bool}(h:aggT P t=some ag):pev P (isAgg t)=some ag:=by
 unfold isAgg
 unfold aggT at h
 split at h
 next fs e=>cases h;rw[aM,bh e];rfl
 next fs e=>cases h;rw[aM,bh e];rfl
 next d h1 h2 e=>
  cases h
  rw[aM,bh e]
  simp only[qak]
  rfl
 ·cases h
def jB{t:TM}{d:TypeDesc}(h:P.underlying t=some d):pev P (sizeOf t)=some (P.cellsOf t):=by
 unfold sizeOf typeInfo
 have hi:∃i,P.info? t=some i:=by
  unfold Program.underlying at h
  cases hi:P.info? t with
  |none=>simp[hi]at h
  |some i=>exact⟨i,rfl⟩
 obtain⟨i,hi⟩:=hi
 simp only[aM,kP,qak,hi]
 simp[pev,Program.cellsOf,hi]
 rfl
def kO{t:TM}{ag:Bool}(h:aggT P t=some ag){cs:Tl}{off:Nat}{ds:Tl}(hc:cut cs off (if ag then P.cellsOf t else 1)=some ds) :
  ∃v,pev P (part t ⟨cs⟩ off)=some v/\mkV ag ds v:=by
 have hu:∃d,P.underlying t=some d:=by
  unfold aggT at h
  cases hh:P.underlying t with
  |none=>rw[hh]at h;cases h
  |some d=>exact⟨d,rfl⟩
 obtain⟨d,hu⟩:=hu
 unfold part
 rw[aM,wt h]
 simp only[qak]
 unfold cut at hc
 cases ag with
 |true=>
  simp only[if_true]at hc ⊢
  split at hc
  next hle=>
   cases hc
   refine⟨.agg ⟨(cs.drop off).take (P.cellsOf t)⟩,?_,.inl ⟨rfl,rfl⟩⟩
   rw[aM,jB hu]
   simp only[qak,fm,qaq,Value.agg.injEq]
   apply qa7.1
   rw[qch]
   simp[List.extract]
  ·cases hc
 |false=>
  simp only[qao,if_false]at hc ⊢
  split at hc
  next hle=>
   cases hc
   have hlt:off<cs.length:=by omega
   refine⟨cs[off],?_,.inr ⟨rfl,by rw[qa9 hlt];rfl⟩⟩
   have:(⟨cs⟩ : Array Value)[off]?=some cs[off]:=by simp[hlt]
   rw[this]
   rfl
  ·cases hc
def eqSL(a b:List SL):Bool:=ch ((a.map SL.lf).zip (b.map SL.lf))
def sH(a b:List (Lf×Lf)):ch (a++b)=(ch a&&ch b):=by simp[ch]
def mT{a b c d:List SL}(h:a.length=b.length):eqSL (a++c) (b++d)=(eqSL a b&&eqSL c d):=by
 unfold eqSL
 rw[qbB,qbB,List.zip_append (by simpa using h),sH]
def flatV(ag:Bool)(cs:List SL)(v:Value):Prop:=mkV ag (cs.map SL.val) v
def EqD(P:TF)(d:Nat)(t:TM)(ks:TG):Prop:=
 ∃ag,aggT P t=some ag/\(if ag then P.cellsOf t else 1)=ks.length/\∀(a b:List SL) (x y:Value),aT a ks=true->aT b ks=true->flatV ag a x->flatV ag b y->pev P (Op.equalIn d t x y)=some (eqSL a b)
def fE{cs:List SL}{ka kb:TG}(h:aT cs (ka++kb)=true):∃a b,cs=a++b/\aT a ka=true/\aT b kb=true:=by
 induction ka generalizing cs with
 |nil=>exact⟨[],cs,rfl,rfl,h⟩
 |cons k ka ih=>
  cases cs with
  |nil=>cases h
  |cons c cs=>
   simp only[qa8,aT,qaa]at h
   obtain⟨a,b,rfl,h1,h2⟩:=ih h.2
   exact⟨c :: a,b,rfl,by simp[aT,h.1,h1],h2⟩
def qC{pre mid post:List SL}{n off:Nat}(ho:off=pre.length)(hn:n=mid.length):cut ((pre++mid++post).map SL.val) off n=some (mid.map SL.val):=by
 subst ho;subst hn
 unfold cut
 rw[qdD (by simp)]
 congr 1
 rw[qbB,qbB,qaJ,qcp,qcX]
 simp
def pv_ite{α:Type}{c:Prop} [Decidable c](a b:Sem α):pev P (if c then a else b)=if c then pev P a else pev P b:=by split<;>rfl
def nN{d:Nat}{F:TM->Option (TG)}(hF:∀t ks,F t=some ks->EqD P d t ks):∀(fs:List Field) (off:Nat) (ks:TG),lr F fs off=some ks->
  ∀(pa a pb b:List SL),pa.length=off->pb.length=off->aT a ks=true->aT b ks=true->
   pev P (Op.eqFields d ⟨(pa++a).map SL.val⟩ ⟨(pb++b).map SL.val⟩ fs)=some (eqSL a b)
 | [],off,ks,h,pa,a,pb,b,_,_,ha,hb=>by
  cases h
  cases a with
  |cons _ _=>cases ha
  |nil=>cases b with
   |cons _ _=>cases hb
   |nil=>rfl
 |f :: fs,off,ks,h,pa,a,pb,b,la,lb,ha,hb=>by
  simp only[lr]at h
  split at h
  next k1 hn ho hk=>
   have hn:¬f.name = "_":=of_decide_eq_false hn
   have ho:=qac ho
   obtain⟨k2,hr,rfl⟩:=qad.1 h
   obtain⟨ag,h1,h2,h3⟩:=hF _ _ hk
   obtain⟨a1,a2,rfl,ha1,ha2⟩:=fE ha
   obtain⟨b1,b2,rfl,hb1,hb2⟩:=fE hb
   have la1:=bM ha1
   have lb1:=bM hb1
   obtain⟨x,hx1,hx2⟩:=kO h1 (cs:=(pa++(a1++a2)).map SL.val) (off:=f.offset) (ds:=a1.map SL.val) (by rw[←qaJ];exact qC (by omega) (by omega))
   obtain⟨y,hy1,hy2⟩:=kO h1 (cs:=(pb++(b1++b2)).map SL.val) (off:=f.offset) (ds:=b1.map SL.val) (by rw[←qaJ];exact qC (by omega) (by omega))
   have he:=h3 a1 b1 x y ha1 hb1 hx2 hy2
   have ih:=nN hF fs (off+k1.length) k2 hr (pa++a1) a2 (pb++b1) b2 (by simp;omega) (by simp;omega) ha2 hb2
   rw[qaJ,qaJ]at ih
   simp only[Op.eqFields,ne_eq,hn,not_false_eq_true,if_true]
   rw[aM,hx1]
   simp only[qak]
   rw[aM,hy1]
   simp only[qak]
   rw[aM,he]
   simp only[qak]
   rw[mT (by omega)]
   cases eqSL a1 b1 with
   |true=>simpa using ih
   |false=>rfl
  ·cases h
def fA(d:Nat)(t:TM)(fs:Array Field)(xs ys:Tj)(ht:P.underlying t=some (.struct fs))(hp:P.stoodInHeld t=false) :
  pev P (Op.equalIn (d+1) t (.agg xs) (.agg ys))=pev P (Op.eqFields d xs ys fs.toList):=by
 simp only[Op.equalIn,aM,bh ht,qak,kP,hp,qao,if_false]
 rw[←Array.forIn_toList]
 generalize fs.toList=fs
 clear ht
 induction fs with
 |nil=>simp only[List.forIn_nil,Op.eqFields];rfl
 |cons f fs ih=>
  simp only[qdu,Op.eqFields,aM,pv_ite]
  split
  ·cases h1:pev P (part f.type xs f.offset)with
   |none=>simp
   |some a=>
    cases h2:pev P (part f.type ys f.offset)with
    |none=>simp[h1,h2]
    |some b=>
     cases h3:pev P (Op.equalIn d f.type a b)with
     |none=>simp[h1,h2,h3]
     |some r=>
      cases r
      ·simp[h1,h2,h3,fm]
      ·simpa[h1,h2,h3,fm]using ih
  ·simpa[fm]using ih
def dZ(d n:Nat)(e:TM)(xs ys:Tj):TB->Sem Bool
 | []=>pure true
 |i :: is=>do
  let a ←part e xs (i*n)
  let b ←part e ys (i*n)
  let r ←Op.equalIn d e a b
  if (!r)=true then pure false else dZ d n e xs ys is
def gg(d:Nat)(t e:TM)(n:Nat)(xs ys:Tj)(ht:P.underlying t=some (.array n e))(he:∃k,P.underlying e=some k) :
  pev P (Op.equalIn (d+1) t (.agg xs) (.agg ys))=pev P (dZ d (P.cellsOf e) e xs ys (List.range n)):=by
 obtain⟨k,he⟩:=he
 simp only[Op.equalIn,aM,bh ht,qak,jB he]
 rw[Std.Legacy.Range.forIn_eq_forIn_range']
 simp only[Std.Legacy.Range.size,Nat.sub_zero,qcL,Nat.div_one]
 rw[qcj]
 generalize List.range' 0 n=is
 clear ht
 induction is with
 |nil=>simp only[List.forIn_nil,dZ];rfl
 |cons i is ih=>
  simp only[qdu,dZ,aM,pv_ite]
  cases h1:pev P (part e xs (i*P.cellsOf e))with
  |none=>simp
  |some a=>
   cases h2:pev P (part e ys (i*P.cellsOf e))with
   |none=>simp
   |some b=>
    cases h3:pev P (Op.equalIn d e a b)with
    |none=>simp[h3]
    |some r=>
     cases r
     ·simp[h3,fm]
     ·simpa[h3,fm]using ih
def pP{d:Nat}{e:TM}{ke:TG}(hE:EqD P d e ke)(hlen:ke.length=P.cellsOf e):∀(n i:Nat) (pa a pb b:List SL),pa.length=i*P.cellsOf e->pb.length=i*P.cellsOf e->
  aT a (List.replicate n ke).flatten=true->aT b (List.replicate n ke).flatten=true->
   pev P (dZ d (P.cellsOf e) e ⟨(pa++a).map SL.val⟩ ⟨(pb++b).map SL.val⟩ (List.range' i n))=some (eqSL a b)
 |0,i,pa,a,pb,b,_,_,ha,hb=>by
  cases a with
  |cons _ _=>cases ha
  |nil=>cases b with
   |cons _ _=>cases hb
   |nil=>rfl
 |n+1,i,pa,a,pb,b,la,lb,ha,hb=>by
  rw[qb3,qck]at ha hb
  obtain⟨ag,h1,h2,h3⟩:=hE
  obtain⟨a1,a2,rfl,ha1,ha2⟩:=fE ha
  obtain⟨b1,b2,rfl,hb1,hb2⟩:=fE hb
  have la1:=bM ha1
  have lb1:=bM hb1
  obtain⟨x,hx1,hx2⟩:=kO h1 (cs:=(pa++(a1++a2)).map SL.val) (off:=i*P.cellsOf e) (ds:=a1.map SL.val) (by rw[←qaJ];exact qC la.symm (by omega))
  obtain⟨y,hy1,hy2⟩:=kO h1 (cs:=(pb++(b1++b2)).map SL.val) (off:=i*P.cellsOf e) (ds:=b1.map SL.val) (by rw[←qaJ];exact qC lb.symm (by omega))
  have he:=h3 a1 b1 x y ha1 hb1 hx2 hy2
  have ih:=pP ⟨ag,h1,h2,h3⟩ hlen n (i+1) (pa++a1) a2 (pb++b1) b2 (by simp[qbH];omega) (by simp[qbH];omega) ha2 hb2
  rw[qaJ,qaJ]at ih
  simp only[qdn,dZ]
  rw[aM,hx1]
  simp only[qak]
  rw[aM,hy1]
  simp only[qak]
  rw[aM,he]
  simp only[qak]
  rw[mT (by omega)]
  cases eqSL a1 b1 with
  |true=>simpa using ih
  |false=>rfl
def eq_leaf{k:LK}(hk:k≠.v){a b:List SL}(ha:aT a [k]=true)(hb:aT b [k]=true):∃x y,a=[x]/\b=[y]/\x.is k=true/\y.is k=true:=by
 cases a with
 |nil=>cases ha
 |cons x as0=>cases as0 with
  |cons _ _=>simp[aT]at ha
  |nil=>cases b with
   |nil=>cases hb
   |cons y bs=>cases bs with
    |cons _ _=>simp[aT]at hb
    |nil=>simp only[aT,qdz]at ha hb;exact⟨x,y,rfl,rfl,ha,hb⟩
def ma:∀(d:Nat) (t:TM) (ks:TG),flatK P d t=some ks->EqD P d t ks
 |0,t,ks,h=>by cases h
 |d+1,t,ks,h=>by
  simp only[flatK]at h
  split at h
  next k e=>
   cases h
   refine⟨false,by simp[aggT,e],by simp,λa b x y ha hb hx hy=>?_⟩
   obtain⟨u,v,rfl,rfl,hu,hv⟩:=eq_leaf (by simp) ha hb
   rcases hx with⟨h0,_⟩|⟨_,hx⟩
   ·cases h0
   rcases hy with⟨h0,_⟩|⟨_,hy⟩
   ·cases h0
   simp only[qas,qbk,qax,and_true]at hx hy
   subst hx;subst hy
   cases u<;>simp only[SL.is,qao]at hu
   cases v<;>simp only[SL.is,qao]at hv
   have e1:=dA hu
   have e2:=dA hv
   subst e1;subst e2
   simp only[SL.val]
   rw[pN e]
   simp[eqSL,ch,SL.lf,gF]
  next e=>
   cases h
   refine⟨false,by simp[aggT,e],by simp,λa b x y ha hb hx hy=>?_⟩
   obtain⟨u,v,rfl,rfl,hu,hv⟩:=eq_leaf (by simp) ha hb
   rcases hx with⟨h0,_⟩|⟨_,hx⟩
   ·cases h0
   rcases hy with⟨h0,_⟩|⟨_,hy⟩
   ·cases h0
   simp only[qas,qbk,qax,and_true]at hx hy
   subst hx;subst hy
   cases u<;>simp only[SL.is,qao]at hu<;>cases v<;>simp only[SL.is,qao]at hv<;>
   ·simp only[SL.val]
    rw[nK e]
    simp[eqSL,ch,SL.lf,gF]
  next fs e=>
   split at h
   next k1 hs hf=>
    split at h
    next hl=>
     cases h
     have hl:=qac hl
     refine⟨true,by simp[aggT,e],by simp[hl],λa b x y ha hb hx hy=>?_⟩
     rcases hx with⟨_,rfl⟩|⟨h0,_⟩
     ·rcases hy with⟨_,rfl⟩|⟨h0,_⟩
      ·rw[fA d t fs _ _ e hs]
       exact nN (ma d) fs.toList 0 _ hf [] a [] b rfl rfl ha hb
      ·cases h0
     ·cases h0
    ·cases h
   ·cases h
  next n el e=>
   split at h
   next ke hk=>
    split at h
    next hl=>
     simp only[qaa]at hl
     have hl1:=qac hl.1
     have hl2:=qac hl.2
     cases h
     refine⟨true,by simp[aggT,e],by simp only[if_true];exact hl2.symm,λa b x y ha hb hx hy=>?_⟩
     rcases hx with⟨_,rfl⟩|⟨h0,_⟩
     ·rcases hy with⟨_,rfl⟩|⟨h0,_⟩
      ·have hE:=ma d el ke hk
       have hu:∃k,P.underlying el=some k:=by
        obtain⟨ag,h1,_⟩:=hE
        unfold aggT at h1
        cases hh:P.underlying el with
        |none=>rw[hh]at h1;cases h1
        |some k=>exact⟨k,rfl⟩
       rw[gg d t el n _ _ e hu,qcj]
       exact pP hE hl1 n 0 [] a [] b (by simp) (by simp) ha hb
      ·cases h0
     ·cases h0
    ·cases h
   ·cases h
  ·cases h
end
section
variable {P:TF}
def eqB_iff{a b:Bool}:eqB a b=(a==b):=by cases a<;>cases b<;>rfl
def ur{a b:Int}:eqZ a b=(a==b):=by
 rw[qbM,beq_iff_eq]
 cases a<;>cases b<;>simp only[eqZ]
 ·rw[Nat.beq_eq];exact⟨λh=>by rw[h],λh=>qbP h⟩
 ·exact⟨λh=>(by cases h),λh=>(by cases h)⟩
 ·exact⟨λh=>(by cases h),λh=>(by cases h)⟩
 ·rw[Nat.beq_eq];exact⟨λh=>by rw[h],λh=>Int.negSucc.inj h⟩
def lY:∀ {ks:TG} {xs ys:Tl} {r:Bool},fq ks xs ys=some r->∃a b:List SL,a.map SL.val=xs/\b.map SL.val=ys/\aT a ks=true/\aT b ks=true/\eqSL a b=r
 | [],[],[],r,h=>by cases h;exact⟨[],[],rfl,rfl,rfl,rfl,rfl⟩
 | .i k :: ks,.int a x :: xs,.int b y :: ys,r,h=>by
  simp only[fq]at h
  split at h
  next r' e1 e2 e3=>
   obtain⟨as0',bs,h1,h2,h3,h4,h5⟩:=lY e3
   refine⟨.i a x :: as0',.i b y :: bs,by simp[SL.val,h1],by simp[SL.val,h2],by simp[aT,SL.is,e1,h3],by simp[aT,SL.is,e2,h4],?_⟩
   have he:eqSL (.i a x :: as0') (.i b y :: bs)=((x==y)&&eqSL as0' bs):=by simp[eqSL,ch,gF,SL.lf]
   rw[he,h5,←ur]
   split at h
   next e=>cases h;rw[e];rfl
   next e=>cases h;rw[e];rfl
  ·cases h
 | .b :: ks,.bool x :: xs,.bool y :: ys,r,h=>by
  simp only[fq]at h
  split at h
  next r' e3=>
   obtain⟨as0',bs,h1,h2,h3,h4,h5⟩:=lY e3
   refine⟨.b x :: as0',.b y :: bs,by simp[SL.val,h1],by simp[SL.val,h2],by simp[aT,SL.is,h3],by simp[aT,SL.is,h4],?_⟩
   have he:eqSL (.b x :: as0') (.b y :: bs)=((x==y)&&eqSL as0' bs):=by simp[eqSL,ch,gF,SL.lf]
   rw[he,h5,←eqB_iff]
   split at h
   next e=>cases h;rw[e];rfl
   next e=>cases h;rw[e];rfl
  ·cases h
def gG:∀ {ks:TG} {xs ys:Tl} {r:Bool},fq ks xs ys=some r->xs.all scalar=true
 | [],[],[],r,h=>rfl
 | .i k :: ks,.int a x :: xs,.int b y :: ys,r,h=>by
  simp only[fq]at h
  split at h
  next r' e1 e2 e3=>
   simp only[qbW,qaa]
   exact⟨rfl,gG e3⟩
  ·cases h
 | .b :: ks,.bool x :: xs,.bool y :: ys,r,h=>by
  simp only[fq]at h
  split at h
  next r' e3=>
   simp only[qbW,qaa]
   exact⟨rfl,gG e3⟩
  ·cases h
def fastK_len:∀ {ks:TG} {xs ys:Tl} {r:Bool},fq ks xs ys=some r->xs.length=ks.length:=by
 intro ks xs ys r h
 obtain⟨a,b,h1,h2,h3,h4,h5⟩:=lY h
 rw[←h1,qay]
 exact bM h3
def jY:∀ {ks:TG} {xs:Tl} {r:Bool},fq ks xs xs=some r->r=true
 | [],[],r,h=>by cases h;rfl
 | .i k :: ks,.int a x :: xs,r,h=>by
  simp only[fq]at h
  split at h
  next r' e1 e2 e3=>
   have:eqZ x x=true:=by rw[ur];simp
   rw[this]at h
   simp only[qaq]at h
   rw[←h];exact jY e3
  ·cases h
 | .b :: ks,.bool x :: xs,r,h=>by
  simp only[fq]at h
  split at h
  next r' e3=>
   have:eqB x x=true:=by cases x<;>rfl
   rw[this]at h
   simp only[qaq]at h
   rw[←h];exact jY e3
  ·cases h
def rA{α:Type}{g:α->PUnit->Sem (ForInStep PUnit)}:∀(l:List α),(∀x∈l,pev P (g x PUnit.unit)=some (.yield PUnit.unit))->pev P (forIn l PUnit.unit g)=some PUnit.unit
 | [],_=>rfl
 |x :: l,h=>by
  rw[qdu,aM,h x qaE]
  exact rA l λy hy=>h y (qap _ hy)
def ChkD(P:TF)(d:Nat)(t:TM)(ks:TG):Prop:=∃ag,aggT P t=some ag/\(if ag then P.cellsOf t else 1)=ks.length/\∀(b:Bool) (m:Nat) (cs:Tl) (v:Value),d<=m->cs.length=ks.length->mkV ag cs v->pev P (Instr.checkKey b m t v)=some ()
def sP{F:TM->Option (TG)}:∀(fs:List Field) (off:Nat) (ks:TG),lr F fs off=some ks->∀f∈fs,∃k1,F f.type=some k1/\f.offset+k1.length<=off+ks.length
 | [],off,ks,h,f,hf=>by cases hf
 |f0 :: fs,off,ks,h,f,hf=>by
  simp only[lr]at h
  split at h
  next k1 hn ho hk=>
   have ho:=qac ho
   obtain⟨k2,hr,rfl⟩:=qad.1 h
   rcases qal.1 hf with rfl|hf
   ·exact⟨k1,hk,by rw[qaB];omega⟩
   ·obtain⟨k3,a,b⟩:=sP fs _ k2 hr f hf
    exact⟨k3,a,by rw[qaB];omega⟩
  ·cases h
def chk_ok:∀(d:Nat) (t:TM) (ks:TG),flatK P d t=some ks->ChkD P d t ks
 |0,t,ks,h=>by cases h
 |d+1,t,ks,h=>by
  simp only[flatK]at h
  split at h
  next k e=>
   cases h
   refine⟨false,by simp[aggT,e],by simp,λb m cs v hm _ _=>?_⟩
   obtain⟨m,rfl⟩ : ∃m',m=m'+1:=⟨m - 1,by omega⟩
   unfold Instr.checkKey
   rw[aM,bh e]
   rfl
  next e=>
   cases h
   refine⟨false,by simp[aggT,e],by simp,λb m cs v hm _ _=>?_⟩
   obtain⟨m,rfl⟩ : ∃m',m=m'+1:=⟨m - 1,by omega⟩
   unfold Instr.checkKey
   rw[aM,bh e]
   rfl
  next fs e=>
   split at h
   next k1 hs hf=>
    split at h
    next hl=>
     cases h
     have hl:=qac hl
     refine⟨true,by simp[aggT,e],by simp[hl],λb m cs v hm hcl hv=>?_⟩
     obtain⟨m,rfl⟩ : ∃m',m=m'+1:=⟨m - 1,by omega⟩
     rcases hv with⟨_,rfl⟩|⟨h0,_⟩
     case inr=>cases h0
     unfold Instr.checkKey
     rw[aM,bh e]
     simp only[qak]
     rw[←Array.forIn_toList]
     have:=rA (P:=P) (g:=λf _=>if f.name ≠ "_" then(do Instr.checkKey b m f.type (←part f.type ⟨cs⟩ f.offset);pure (ForInStep.yield PUnit.unit))else pure (ForInStep.yield PUnit.unit)) fs.toList (λf hf'=>by
      obtain⟨k2,hk,ho⟩:=sP fs.toList 0 _ hf f hf'
      rw[pv_ite]
      split
      ·obtain⟨ag,a1,a2,a3⟩:=chk_ok d f.type k2 hk
       have hc:cut cs f.offset (if ag then P.cellsOf f.type else 1)=some ((cs.drop f.offset).take k2.length):=by
        unfold cut
        rw[a2,qdD (by omega)]
       obtain⟨x,hx,hmk⟩:=kO a1 hc
       rw[aM]
       rw[hx]
       simp only[qak]
       rw[aM,a3 b m _ x (by omega) (by simp;omega) hmk]
       rfl
      ·rfl)
     rw[aM,this]
     rfl
    ·cases h
   ·cases h
  next n el e=>
   split at h
   next ke hk=>
    split at h
    next hl=>
     simp only[qaa]at hl
     have hl1:=qac hl.1
     have hl2:=qac hl.2
     cases h
     refine⟨true,by simp[aggT,e],by simp only[if_true];exact hl2.symm,λb m cs v hm hcl hv=>?_⟩
     obtain⟨m,rfl⟩ : ∃m',m=m'+1:=⟨m - 1,by omega⟩
     rcases hv with⟨_,rfl⟩|⟨h0,_⟩
     case inr=>cases h0
     obtain⟨ag,a1,a2,a3⟩:=chk_ok d el ke hk
     have hu:∃k,P.underlying el=some k:=by
      unfold aggT at a1
      cases hh:P.underlying el with
      |none=>rw[hh]at a1;cases a1
      |some k=>exact⟨k,rfl⟩
     obtain⟨kel,hu⟩:=hu
     unfold Instr.checkKey
     rw[aM,bh e]
     simp only[qak]
     rw[Std.Legacy.Range.forIn_eq_forIn_range']
     simp only[Std.Legacy.Range.size,Nat.sub_zero,qcL,Nat.div_one]
     have hcl':cs.length=n*ke.length:=by rw[hcl,List.length_flatten];simp
     have:=rA (P:=P) (g:=λi _=>(do Instr.checkKey b m el (←part el ⟨cs⟩ (i*(←sizeOf el)));pure (ForInStep.yield PUnit.unit))) (List.range' 0 n) (λi hi=>by
      have hi:i<n:=by simpa using hi
      have hle:i*P.cellsOf el+ke.length<=cs.length:=by
       rw[hcl',←hl1]
       have:=qbn ke.length (Nat.succ_le_of_lt hi)
       rw[Nat.succ_mul]at this
       exact this
      have hc:cut cs (i*P.cellsOf el) (if ag then P.cellsOf el else 1)=some ((cs.drop (i*P.cellsOf el)).take ke.length):=by
       unfold cut
       rw[a2,qdD hle]
      obtain⟨x,hx,hmk⟩:=kO a1 hc
      rw[aM,jB hu]
      simp only[qak]
      rw[aM,hx]
      simp only[qak]
      rw[aM,a3 b m _ x (by omega) (by simp;omega) hmk]
      rfl)
     rw[aM,this]
     rfl
    ·cases h
   ·cases h
  ·cases h
def qX{kt:TM}{k:Value}(h:keyF P kt k=true):eP P kt k=true:=by
 unfold keyF at h
 split at h
 next cs=>
  split at h
  next ha=>
   split at h
   next ks' h2=>
    split at h
    next r e2=>
     have hl:=fastK_len e2
     have hr:=jY e2
     subst hr
     obtain⟨ag,g1,g2,g3⟩:=ma 10000 kt ks' h2
     have hag:ag=true:=by
      rw[ha]at g1;exact(qae g1).symm
     subst hag
     obtain⟨a,c,q1,q2,q3,q4,q5⟩:=lY e2
     have heq:=g3 a c (.agg cs) (.agg cs) q3 q4 (.inl ⟨rfl,by rw[q1]⟩) (.inl ⟨rfl,by rw[q2]⟩)
     rw[q5]at heq
     have heq':pev P (Op.equal kt (.agg cs) (.agg cs))=some true:=heq
     obtain⟨ag',c1,_,c3⟩:=chk_ok 10000 kt ks' h2
     have hag':ag'=true:=by
      rw[ha]at c1;exact(qae c1).symm
     subst hag'
     unfold eP
     rw[c3 true 10000 cs.toList (.agg cs) (qaf _) hl (.inl ⟨rfl,rfl⟩),c3 false 10000 cs.toList (.agg cs) (qaf _) hl (.inl ⟨rfl,rfl⟩),heq']
     have:eO (.agg cs)=true:=gG e2
     rw[this];rfl
    ·exact h
   ·exact h
  ·exact h
 ·exact h
def headV(ag:Bool)(xs:Tl)(x:Value):Prop:=(ag=true/\x = .agg ⟨xs⟩)∨(ag=false/\∃tl,xs=x :: tl)
def DifD(P:TF)(d:Nat)(t:TM)(ks:TG):Prop:=
 ∃ag,aggT P t=some ag/\(if ag then P.cellsOf t else 1)=ks.length/\∀(xs ys:Tl) (x y:Value) (r:Bool),difK ks xs ys=some r->headV ag xs x->headV ag ys y->pev P (Op.equalIn d t x y)=some r
def jU:∀ {k1 k2:TG} {xs ys:Tl} {r:Bool},difK (k1++k2) xs ys=some r->
  ∃r1,difK k1 (xs.take k1.length) (ys.take k1.length)=some r1/\(r1=false->r=false)/\(r1=true->difK k2 (xs.drop k1.length) (ys.drop k1.length)=some r)
 | [],k2,xs,ys,r,h=>by
  refine⟨true,by simp only[difK],(λq=>Bool.noConfusion q),λ_=>?_⟩
  simpa using h
 | .i k :: k1,k2,xs,ys,r,h=>by
  cases xs with
  |nil=>simp[difK]at h
  |cons x xs=>cases ys with
   |nil=>cases x<;>simp[difK]at h
   |cons y ys=>
    cases x<;>first|(simp[difK]at h;done)|skip
    cases y<;>first|(simp[difK]at h;done)|skip
    simp only[qa8,difK]at h
    simp only[qaD,qaW,qbr,difK]
    split at h
    next e1 e2=>
     split at h
     next e3=>
      exact jU h
     next e3=>
      cases h
      exact⟨false,rfl,λ_=>rfl,λq=>Bool.noConfusion q⟩
    ·cases h
 | .b :: k1,k2,xs,ys,r,h=>by
  cases xs with
  |nil=>simp[difK]at h
  |cons x xs=>cases ys with
   |nil=>cases x<;>simp[difK]at h
   |cons y ys=>
    cases x<;>first|(simp[difK]at h;done)|skip
    cases y<;>first|(simp[difK]at h;done)|skip
    simp only[qa8,difK]at h
    simp only[qaD,qaW,qbr,difK]
    split at h
    next e3=>
     exact jU h
    next e3=>
     cases h
     exact⟨false,rfl,λ_=>rfl,λq=>Bool.noConfusion q⟩
 | .v :: k1,k2,xs,ys,r,h=>by simp[difK]at h
def difK_ne{k:LK}{ks:TG}{xs ys:Tl}{r:Bool}(h:difK (k :: ks) xs ys=some r):∃x tl y tl',xs=x :: tl/\ys=y :: tl':=by
 cases xs with
 |nil=>cases k<;>simp[difK]at h
 |cons x xs=>cases ys with
  |nil=>cases k<;>cases x<;>simp[difK]at h
  |cons y ys=>exact⟨x,xs,y,ys,rfl,rfl⟩
def pv_head{t:TM}{ag:Bool}(h:aggT P t=some ag){cs:Tl}{off n:Nat}(hn:(if ag then P.cellsOf t else 1)=n)(hne:ag=false->∃x tl,(cs.drop off).take n=x :: tl) :
  ∃v,pev P (part t ⟨cs⟩ off)=some v/\headV ag ((cs.drop off).take n) v:=by
 have hu:∃d,P.underlying t=some d:=by
  unfold aggT at h
  cases hh:P.underlying t with
  |none=>rw[hh]at h;cases h
  |some d=>exact⟨d,rfl⟩
 obtain⟨d,hu⟩:=hu
 unfold part
 rw[aM,wt h]
 simp only[qak]
 cases ag with
 |true=>
  simp only[if_true]at hn ⊢
  subst hn
  refine⟨.agg ⟨(cs.drop off).take (P.cellsOf t)⟩,?_,.inl ⟨rfl,rfl⟩⟩
  rw[aM,jB hu]
  simp only[qak,fm,qaq,Value.agg.injEq]
  apply qa7.1
  rw[qch]
  simp[List.extract]
 |false=>
  obtain⟨x,tl,hx⟩:=hne rfl
  simp only[qao,if_false]at hn ⊢
  subst hn
  refine⟨x,?_,.inr ⟨rfl,tl,hx⟩⟩
  have h1:(cs.drop off)[0]?=some x:=by
   have:((cs.drop off).take 1)[0]?=some x:=by rw[hx];rfl
   rwa [qaT,qdD (by omega)]at this
  rw[qaX,qca]at h1
  have:(⟨cs⟩ : Array Value)[off]?=some x:=by simpa using h1
  rw[this]
  rfl
def vo{d:Nat}{t:TM}{k1 k2:TG}(hD:DifD P d t k1){xs ys:Tl}{off:Nat}{r:Bool}(h:difK (k1++k2) (xs.drop off) (ys.drop off)=some r)(s:Bool->Sem Bool){r':Bool}
  (hs:difK k2 (xs.drop (off+k1.length)) (ys.drop (off+k1.length))=some r->pev P (s true)=some r) (hf:pev P (s false)=some false) (hr:r'=r) :
  (pev P (part t ⟨xs⟩ off)).bind (λa=>(pev P (part t ⟨ys⟩ off)).bind λb=>(pev P (Op.equalIn d t a b)).bind λq=>pev P (s q))=some r':=by
 subst hr
 obtain⟨ag,h1,h2,h3⟩:=hD
 obtain⟨r1,e1,e2,e3⟩:=jU h
 have hne:ag=false->(∃x tl,(xs.drop off).take k1.length=x :: tl)/\∃x tl,(ys.drop off).take k1.length=x :: tl:=by
  intro hag
  subst hag
  simp only[qao,if_false]at h2
  cases k1 with
  |nil=>cases h2
  |cons k ks=>
   obtain⟨x,tl,y,tl',q1,q2⟩:=difK_ne e1
   exact⟨⟨x,tl,q1⟩,⟨y,tl',q2⟩⟩
 obtain⟨x,x1,x2⟩:=pv_head h1 (cs:=xs) (off:=off) h2 λh=>(hne h).1
 obtain⟨y,y1,y2⟩:=pv_head h1 (cs:=ys) (off:=off) h2 λh=>(hne h).2
 rw[x1]
 simp only[qak]
 rw[y1]
 simp only[qak]
 rw[h3 _ _ x y r1 e1 x2 y2]
 simp only[qak]
 cases r1 with
 |true=>
  refine hs ?_
  have:=e3 rfl
  rwa [qbU,qbU]at this
 |false=>rw[e2 rfl];exact hf
def lB{d:Nat}{F:TM->Option (TG)}(hF:∀t ks,F t=some ks->DifD P d t ks):∀(fs:List Field) (off:Nat) (ks:TG),lr F fs off=some ks->
  ∀(xs ys:Tl) (r:Bool),difK ks (xs.drop off) (ys.drop off)=some r->pev P (Op.eqFields d ⟨xs⟩ ⟨ys⟩ fs)=some r
 | [],off,ks,h,xs,ys,r,hd=>by
  cases h
  simp only[difK,qaq]at hd
  subst hd
  rfl
 |f :: fs,off,ks,h,xs,ys,r,hd=>by
  simp only[lr]at h
  split at h
  next k1 hn ho hk=>
   have hn:¬f.name = "_":=of_decide_eq_false hn
   have ho:=qac ho
   obtain⟨k2,hr,rfl⟩:=qad.1 h
   simp only[Op.eqFields,ne_eq,hn,not_false_eq_true,if_true,aM]
   rw[ho]
   exact vo (hF _ _ hk) hd (λq=>if (!q)=true then pure false else Op.eqFields d ⟨xs⟩ ⟨ys⟩ fs) (λh=>by simpa using lB hF fs _ k2 hr xs ys r h) rfl rfl
  ·cases h
def nM{d:Nat}{e:TM}{ke:TG}(hE:DifD P d e ke)(hlen:ke.length=P.cellsOf e):∀(n i:Nat) (xs ys:Tl) (r:Bool),
  difK (List.replicate n ke).flatten (xs.drop (i*P.cellsOf e)) (ys.drop (i*P.cellsOf e))=some r->pev P (dZ d (P.cellsOf e) e ⟨xs⟩ ⟨ys⟩ (List.range' i n))=some r
 |0,i,xs,ys,r,hd=>by
  simp only[List.replicate_zero,List.flatten_nil,difK,qaq]at hd
  subst hd
  rfl
 |n+1,i,xs,ys,r,hd=>by
  rw[qb3,qck]at hd
  simp only[qdn,dZ,aM]
  refine vo hE hd (λq=>if (!q)=true then pure false else dZ d (P.cellsOf e) e ⟨xs⟩ ⟨ys⟩ (List.range' (i+1) n)) (λh=>?_) rfl rfl
  have:=nM hE hlen n (i+1) xs ys r (by rw[qbH,qcd,←hlen];rwa [←hlen]at h)
  simpa using this
def mZ:∀(d:Nat) (t:TM) (ks:TG),flatK P d t=some ks->DifD P d t ks
 |0,t,ks,h=>by cases h
 |d+1,t,ks,h=>by
  simp only[flatK]at h
  split at h
  next k e=>
   cases h
   refine⟨false,by simp[aggT,e],by simp,λxs ys x y r hd hx hy=>?_⟩
   rcases hx with⟨h0,_⟩|⟨_,tx,rfl⟩
   ·cases h0
   rcases hy with⟨h0,_⟩|⟨_,ty,rfl⟩
   ·cases h0
   cases x<;>first|(simp[difK]at hd;done)|skip
   cases y<;>first|(simp[difK]at hd;done)|skip
   simp only[difK]at hd
   split at hd
   next e1 e2=>
    have e1:=dA e1
    have e2:=dA e2
    subst e1;subst e2
    rw[pN e,←ur]
    split at hd
    next e3=>rw[e3];exact hd
    next e3=>rw[e3];exact hd
   ·cases hd
  next e=>
   cases h
   refine⟨false,by simp[aggT,e],by simp,λxs ys x y r hd hx hy=>?_⟩
   rcases hx with⟨h0,_⟩|⟨_,tx,rfl⟩
   ·cases h0
   rcases hy with⟨h0,_⟩|⟨_,ty,rfl⟩
   ·cases h0
   cases x<;>first|(simp[difK]at hd;done)|skip
   cases y<;>first|(simp[difK]at hd;done)|skip
   simp only[difK]at hd
   rw[nK e,←eqB_iff]
   split at hd
   next e3=>rw[e3];exact hd
   next e3=>rw[e3];exact hd
  next fs e=>
   split at h
   next k1 hs hf=>
    split at h
    next hl=>
     cases h
     have hl:=qac hl
     refine⟨true,by simp[aggT,e],by simp[hl],λxs ys x y r hd hx hy=>?_⟩
     rcases hx with⟨_,rfl⟩|⟨h0,_⟩
     ·rcases hy with⟨_,rfl⟩|⟨h0,_⟩
      ·rw[fA d t fs _ _ e hs]
       exact lB (mZ d) fs.toList 0 _ hf xs ys r hd
      ·cases h0
     ·cases h0
    ·cases h
   ·cases h
  next n el e=>
   split at h
   next ke hk=>
    split at h
    next hl=>
     simp only[qaa]at hl
     have hl1:=qac hl.1
     have hl2:=qac hl.2
     cases h
     refine⟨true,by simp[aggT,e],by simp only[if_true];exact hl2.symm,λxs ys x y r hd hx hy=>?_⟩
     rcases hx with⟨_,rfl⟩|⟨h0,_⟩
     ·rcases hy with⟨_,rfl⟩|⟨h0,_⟩
      ·have hE:=mZ d el ke hk
       have hu:∃k,P.underlying el=some k:=by
        obtain⟨ag,h1,_⟩:=hE
        unfold aggT at h1
        cases hh:P.underlying el with
        |none=>rw[hh]at h1;cases h1
        |some k=>exact⟨k,rfl⟩
       rw[gg d t el n _ _ e hu,qcj]
       exact nM hE hl1 n 0 xs ys r (by simpa using hd)
      ·cases h0
     ·cases h0
    ·cases h
   ·cases h
  ·cases h
def sM{kt:TM}{ks:TG}{cs:Tj}(hE:∀(xs ys:Tl) (x y:Value) (r:Bool),difK ks xs ys=some r->headV true xs x->headV true ys y->pev P (Op.equalIn 10000 kt x y)=some r) :
  ∀(es:Th) (i:Nat) (r:Tp),fi ks cs.toList es i=some r->∃q,pev P (Instr.findAsking kt (.agg cs) (es.map be) i)=some q/\q.map (·.1)=r
 | [],i,r,h=>by cases h;exact⟨none,rfl,rfl⟩
 |e :: es,i,r,h=>by
  simp only[fi]at h
  split at h
  next ds hd=>
   have hq:∀b,difK ks cs.toList ds.toList=some b->pev P (Op.equal kt (.agg cs) (be e).key)=some b:=by
    intro b hb
    have:=hE cs.toList ds.toList (.agg cs) (.agg ds) b hb (.inl ⟨rfl,rfl⟩) (.inl ⟨rfl,rfl⟩)
    show pev P (Op.equalIn 10000 kt (.agg cs) e.key)=some b
    rw[hd];exact this
   have hs:pev P (Instr.findAsking kt (.agg cs) ((e :: es).map be) i)=(pev P (Op.equal kt (.agg cs) (be e).key)).bind λb=>pev P (if b then pure (some (i,(be e).val))else Instr.findAsking kt (.agg cs) (es.map be) (i+1)):=by
    show pev P (Op.equal kt (.agg cs) (be e).key >>= λb=>if b then pure (some (i,(be e).val))else Instr.findAsking kt (.agg cs) (es.map be) (i+1))=_
    rw[aM]
   split at h
   next hb=>
    cases h
    refine⟨some (i,(be e).val),?_,rfl⟩
    rw[hs,hq true hb];rfl
   next hb=>
    obtain⟨q,h1,h2⟩:=sM hE es (i+1) r h
    refine⟨q,?_,h2⟩
    rw[hs,hq false hb]
    simp only[qak,qao,if_false]
    exact h1
   ·cases h
  ·cases h
def lZ(kt:TM)(k:Value)(es:Th):lH P kt k es=jo P kt k es:=by
 unfold lH
 split
 next cs=>
  simp only[jp]
  split
  next ks ha hf=>
   split
   next r hq=>
    obtain⟨ag,g1,g2,g3⟩:=mZ 10000 kt ks hf
    rw[ha]at g1
    cases g1
    obtain⟨q,h1,h2⟩:=sM (P:=P) (kt:=kt) g3 es 0 r hq
    have hd:∃d,P.underlying kt=some d/\∀x,Instr.sameNow d (.agg cs) x=none:=by
     unfold aggT at ha
     split at ha
     next fs e=>exact⟨_,e,λx=>by simp[Instr.sameNow]⟩
     next n e' e=>exact⟨_,e,λx=>by simp[Instr.sameNow]⟩
     ·cases ha
     ·cases ha
    obtain⟨d,hd,hn⟩:=hd
    unfold jo Instr.findKey
    rw[aM,bh hd]
    simp only[qak]
    cases es with
    |nil=>
     cases hq
     rfl
    |cons e l=>
     have:Instr.findNow d (.agg cs) ((e :: l).map be) 0=none:=by
      simp only[qas]
      unfold Instr.findNow
      rw[hn]
     rw[this]
     simp only
     rw[h1]
     simp[h2]
   ·rfl
  ·rfl
 ·rfl
end
section
variable [Val] [Kno] {R HT:Type} {A:Alg R HT} {X:Ctxt} {Sg:Tb} {holds:R->Prop} {abs:HT->Ts}
variable {ev:Env} {σ:St} {h:HT} {o:Oper} {K:KN R HT}
def SL.nv:SL->Prop
 | .v _=>False
 |_=>True
def SL.nv_scalar{l:SL}(h:l.nv):scalar l.val=true:=by cases l<;>first|rfl|exact h.elim
def SL.nv_den{l:SL}(h:l.nv):den1 l.val=l.val:=by cases l<;>first|rfl|exact h.elim
def rj{x:S0}(h:∀l∈x.cells,l.nv):plain x.val=true/\den x.val=x.val:=by
 cases x with
 |leaf l=>
  have hl:=h l (by simp[S0.cells])
  cases l<;>first|exact⟨rfl,rfl⟩|exact hl.elim
 |agg cs=>
  refine⟨?_,?_⟩
  ·simp only[S0.val,plain,qag,qaU]
   rintro _ ⟨l,hl,rfl⟩
   simp[iE,SL.nv_scalar (h l hl)]
  ·simp only[S0.val,den,Value.agg.injEq]
   apply qa7.1
   rw[qbw,qcW]
   refine qbF λl hl=>?_
   exact SL.nv_den (h l hl)
def qn:∀ {cs:List SL} {ks:TG},aT cs ks=true->qo ks=true->∀l∈cs,l.nv
 | [],[],_,_,l,hl=>by cases hl
 |c :: cs,k :: ks,h1,h2,l,hl=>by
  simp only[aT,qaa]at h1
  simp only[qo,qbW,qaa]at h2
  rcases qal.1 hl with rfl|hl
  ·cases l<;>first|trivial|(cases k<;>first|(simp at h2;done)|(simp[SL.is]at h1;done))
  ·exact qn h1.2 h2.2 l hl
 | [],_ :: _,h,_,_,_=>by cases h
 |_ :: _,[],h,_,_,_=>by cases h
def fG{op:BinOp}{t yt:TM}{x y:TH}{a b u:Value}(ho:o.op = .binOp op t x y yt)(hx:oval σ.tmps x=a)(hy:oval σ.tmps y=b)(pa:plain a=true/\den a=a)(pb:plain b=true/\den b=b)
  (pu:plain u=true/\den u=u) (hg:∀w,(eqGuard op t x y a b).run X.C.P w = .ok () w) (hr:∀w,(binOp op t a b).run X.C.P w = .ok u w):iH X.C σ.tmps o u:=by
 refine⟨by rw[ho];rfl,?_,pu.1,λw=>?_⟩
 ·rw[ho];simp[Op.operands,hx,hy,pa.1,pb.1]
 ·simp only[execOp,ho,hx,hy,pa.2,pb.2,Sem.run_bind,hg w,Result.andThen_ok,hr w,Sem.run_pure,pu.2]
def nh{op:BinOp}{t:TM}{x y:TH}{k k':TI}{a b:Int}{P:TF}(w:World):(eqGuard op t x y (.int k a) (.int k' b)).run P w = .ok () w:=by
 unfold eqGuard
 split<;>rfl
def pc{op:BinOp}{t:TM}{x y:TH}{a b:Bool}{P:TF}(w:World):(eqGuard op t x y (.bool a) (.bool b)).run P w = .ok () w:=by
 unfold eqGuard
 split<;>rfl
def sR{op:BinOp}{t:TM}{x y:TH}{a b:ByteArray}{P:TF}(w:World):(eqGuard op t x y (.string a) (.string b)).run P w = .ok () w:=by
 unfold eqGuard
 split<;>rfl
def str_beq(a b:ByteArray):(a.toList==b.toList)=eqBs a.data.toList b.data.toList:=by
 rw[qbM,vx,beq_iff_eq,ByteArray.toList_eq,ByteArray.toList_eq]
def ob{x y:Value}{t:Bool}(h:strEq x y=some t):∃a b,x = .string a/\y = .string b/\t=eqBs a.data.toList b.data.toList:=by
 unfold strEq at h
 split at h
 ·split at h
  ·cases h;exact⟨_,_,rfl,rfl,rfl⟩
  ·cases h
 ·cases h
def cmp_run{P:TF}{op:BinOp}{k:TI}{a b:Int}{t:Bool}(h:oP op a b=some t)(hs:isShift op=false)(ty:TM)(w:World):(binOp op ty (.int k a) (.int k b)).run P w = .ok (.bool t) w:=by
 cases op<;>simp only[oP,reduceCtorEq,qaq]at h<;>subst h<;>simp[binOp,Op.intCmp]
def au{l:SL}(h:l.good):(S0.leaf l).good:=λm hm=>by
 simp only[S0.cells,qam]at hm
 subst hm;exact h
def bin_ok(hA:AlgOk A X.C Sg X.T holds abs)(hR:Rp ev σ)(ha:abs h=σ.heap){op:BinOp}{t yt:TM}{x y:TH}{a b:S0}(ho:o.op = .binOp op t x y yt)
  (hx:sval0 ev x=some a) (hy:sval0 ev y=some b) (hk:holds (binE A X o.dst op t a b ev h K)):Done X holds abs o σ K:=by
 obtain⟨h1,ga⟩:=hR.sval0 hx
 obtain⟨h2,gb⟩:=hR.sval0 hy
 unfold binE at hk
 split at hk
 next k n k' m=>
  simp only[S0.val,SL.val]at h1 h2
  have pi:∀(k:TI) (n:Int),plain (.int k n)=true/\den (.int k n) = .int k n:=λ_ _=>⟨rfl,rfl⟩
  split at hk
  ·obtain⟨r,hr,hk1⟩:=hA.shf _ _ _ _ _ _ hk
   exact cj hR ha (s:=.st (.leaf (.i k r))) (au trivial) (fG ho h1 h2 (pi _ _) (pi _ _) (pi _ _) (λw=>nh w) (λw=>hr _ _ w)) hk1
  next hs hk' hc=>
   have e:=dA hk'
   subst e
   obtain⟨r,hr,hk1⟩:=hA.cmp _ _ _ _ hk
   exact cj hR ha (s:=.st (.leaf (.b r))) (au trivial) (fG ho h1 h2 (pi _ _) (pi _ _) ⟨rfl,rfl⟩ (λw=>nh w) (λw=>cmp_run hr hs _ w)) hk1
  next hs hk' hc=>
   have e:=dA hk'
   subst e
   obtain⟨r,hr,hk1⟩:=hA.ari _ _ _ _ _ hk
   exact cj hR ha (s:=.st (.leaf (.i k r))) (au trivial) (fG ho h1 h2 (pi _ _) (pi _ _) (pi _ _) (λw=>nh w) (λw=>hr _ _ w)) hk1
  ·exact absurd hk hA.fail
 next cs es=>
  split at hk
  next ks hf hgt hga=>
   split at hk
   next hc=>
    simp only[qaa]at hc
    obtain⟨⟨hc1,hc2⟩,hc3⟩:=hc
    have hp1:=rj (x:=.agg cs) (qn hc1 hc3)
    have hp2:=rj (x:=.agg es) (qn hc2 hc3)
    obtain⟨ag,g1,g2,g3⟩:=ma 10000 t ks hf
    have hgd:∀w,(eqGuard op t x y (S0.val (.agg cs)) (S0.val (.agg es))).run X.C.P w = .ok () w:=λw=>run_eqGuard_agg w op t x y _ _ hgt
    have hag:ag=true:=by
     rw[hga]at g1;exact(qae g1).symm
    subst hag
    have heq:=g3 cs es _ _ hc1 hc2 (.inl ⟨rfl,rfl⟩) (.inl ⟨rfl,rfl⟩)
    split at hk
    ·have hk1:=hA.eqs _ _ hk
     refine cj hR ha (s:=.st (.leaf (.b _))) (au trivial) (fG ho h1 h2 hp1 hp2 ⟨rfl,rfl⟩ hgd λw=>?_) hk1
     rw[S0.val,S0.val,run_eql_struct,fU heq]
     rfl
    ·have hk1:=hA.eqs _ _ hk
     refine cj hR ha (s:=.st (.leaf (.b _))) (au trivial) (fG ho h1 h2 hp1 hp2 ⟨rfl,rfl⟩ hgd λw=>?_) hk1
     rw[S0.val,S0.val,run_neq_struct,fU heq]
     rfl
    ·exact absurd hk hA.fail
   ·exact absurd hk hA.fail
  ·exact absurd hk hA.fail
 next u v=>
  simp only[S0.val,SL.val]at h1 h2
  split at hk
  next hu=>
   split at hk
   ·obtain⟨t',hn,hk1⟩:=hA.opt _ _ hk
    obtain⟨c,d,rfl,rfl,rfl⟩:=ob hn
    refine cj hR ha (s:=.st (.leaf (.b _))) (au trivial) (fG ho h1 h2 ⟨rfl,rfl⟩ ⟨rfl,rfl⟩ ⟨rfl,rfl⟩ (λw=>sR w) λw=>?_) hk1
    simp only[binOp,Op.stringOp,str_beq]
    rfl
   ·obtain⟨t',hn,hk1⟩:=hA.opt _ _ hk
    obtain⟨c,d,rfl,rfl,rfl⟩:=ob hn
    refine cj hR ha (s:=.st (.leaf (.b _))) (au trivial) (fG ho h1 h2 ⟨rfl,rfl⟩ ⟨rfl,rfl⟩ ⟨rfl,rfl⟩ (λw=>sR w) λw=>?_) hk1
    simp only[binOp,Op.stringOp,str_beq]
    rfl
   ·exact absurd hk hA.fail
  ·split at hk
   ·obtain⟨t',hn,hk1⟩:=hA.opt _ _ hk
    obtain⟨hn,hok⟩:=tz ‹X.C.P.underlying t=some _› hn
    refine aB hR ha (s:=.st (.leaf (.b t'))) (au trivial) ?_ hk1
    simp only[am,ho,h1,h2,hn,hok,if_true];rfl
   ·obtain⟨t',hn,hk1⟩:=hA.opt _ _ hk
    obtain⟨hn,hok⟩:=tz ‹X.C.P.underlying t=some _› hn
    refine aB hR ha (s:=.st (.leaf (.b (!t')))) (au trivial) ?_ hk1
    simp only[am,ho,h1,h2,hn,hok,if_true];rfl
   ·exact absurd hk hA.fail
  ·exact absurd hk hA.fail
 next u v _ _=>
  split at hk
  next hb hu=>
   simp only[qaa]at hb
   have hval:∀ {l:SL},l.is .b=true->∃c,l.val = .bool c/\l.lf = .b c:=by
    intro l hl
    cases l<;>simp only[SL.is,qao]at hl<;>exact⟨_,rfl,rfl⟩
   obtain⟨c,c1,c2⟩:=hval hb.1
   obtain⟨d,d1,d2⟩:=hval hb.2
   simp only[S0.val]at h1 h2
   rw[c1]at h1
   rw[d1]at h2
   have hq:∀w,(Op.equal t (.bool c) (.bool d)).run X.C.P w = .ok (c==d) w:=λw=>run_equal_bool w t c d hu
   split at hk
   ·have hk1:=hA.eqs _ _ hk
    rw[c2,d2]at hk1
    refine cj hR ha (s:=.st (.leaf (.b _))) (au trivial) (fG ho h1 h2 ⟨rfl,rfl⟩ ⟨rfl,rfl⟩ ⟨rfl,rfl⟩ (λw=>pc w) λw=>?_) hk1
    simp only[binOp,Sem.run_bind,hq w,Result.andThen_ok,Sem.run_pure]
    simp[SV.val,S0.val,SL.val,ch,gF]
   ·have hk1:=hA.eqs _ _ hk
    rw[c2,d2]at hk1
    refine cj hR ha (s:=.st (.leaf (.b _))) (au trivial) (fG ho h1 h2 ⟨rfl,rfl⟩ ⟨rfl,rfl⟩ ⟨rfl,rfl⟩ (λw=>pc w) λw=>?_) hk1
    simp only[binOp,Sem.run_bind,hq w,Result.andThen_ok,Sem.run_pure]
    simp[SV.val,S0.val,SL.val,ch,gF]
   ·exact absurd hk hA.fail
  ·exact absurd hk hA.fail
 ·exact absurd hk hA.fail
def un_ok(hA:AlgOk A X.C Sg X.T holds abs)(hR:Rp ev σ)(ha:abs h=σ.heap){op:UnOp}{t:TM}{x:TH}(ho:o.op = .unOp op t x)
  (hk:holds (match (generalizing:=false) op,sval ev x with
  | .not,.st (.leaf (.b t))=>setD o.dst (.st (.leaf (.b (!t)))) ev h K
  | .not,.st (.leaf (.l t))=>setD o.dst (.st (.leaf (.l (!t)))) ev h K
  | .neg,.st (.leaf (.i k n))=>A.ari .sub k 0 n λn=>setD o.dst (.st (.leaf (.i k n))) ev h K
  |_,_=>A.fail)):Done X holds abs o σ K:=by
 have hsym:∀ {a u:Value},oval σ.tmps x=a->(plain a=true/\den a=a)->(plain u=true/\den u=u)->(∀w,(Op.unary op a).run X.C.P w = .ok u w)->iH X.C σ.tmps o u:=by
  intro a u hx pa pu hr
  refine⟨by rw[ho];rfl,by rw[ho];simp[Op.operands,hx,pa.1],pu.1,λw=>?_⟩
  simp only[execOp,ho,hx,pa.2,Sem.run_bind,hr w,Result.andThen_ok,Sem.run_pure,pu.2]
 split at hk
 next t' e=>
  obtain⟨h1,_⟩:=hR.sval e (by simp)
  refine cj hR ha (s:=.st (.leaf (.b (!t')))) (au trivial) (hsym h1 ⟨rfl,rfl⟩ ⟨rfl,rfl⟩ λw=>?_) hk
  simp[SV.val,S0.val,SL.val,Op.unary]
 next t' e=>
  obtain⟨h1,_⟩:=hR.sval e (by simp)
  refine cj hR ha (s:=.st (.leaf (.l (!t')))) (au trivial) (hsym h1 ⟨rfl,rfl⟩ ⟨rfl,rfl⟩ λw=>?_) hk
  simp[SV.val,S0.val,SL.val,Op.unary]
 next k n e=>
  obtain⟨h1,_⟩:=hR.sval e (by simp)
  obtain⟨r,hr,hk1⟩:=hA.ari _ _ _ _ _ hk
  refine cj hR ha (s:=.st (.leaf (.i k r))) (au trivial) (hsym h1 ⟨rfl,rfl⟩ ⟨rfl,rfl⟩ λw=>?_) hk1
  have:=hr X.C.P t w
  simp[SV.val,S0.val,SL.val,Op.unary,binOp,Op.intArith]at this ⊢
  exact this
 ·exact absurd hk hA.fail
def conv_ok(hA:AlgOk A X.C Sg X.T holds abs)(hR:Rp ev σ)(ha:abs h=σ.heap){sT dT:TM}{x:TH}(ho:o.op = .convert sT dT x)
  (hk:holds (match X.C.P.underlying sT,X.C.P.underlying dT,sval ev x with
  |some (.int _),some (.int k),.st (.leaf (.i _ n))=>A.conv k n λn=>setD o.dst (.st (.leaf (.i k n))) ev h K
  |_,_,_=>A.fail)):Done X holds abs o σ K:=by
 split at hk
 next ks k k' n hs hu e=>
  obtain⟨h1,_⟩:=hR.sval e (by simp)
  have hk1:=hA.conv _ _ _ hk
  simp only[SV.val,S0.val,SL.val]at h1
  refine cj hR ha (s:=.st (.leaf (.i k _))) (au trivial) ⟨by rw[ho];rfl,by rw[ho];simp[Op.operands,h1];rfl,rfl,λw=>?_⟩ hk1
  simp only[execOp,ho,h1]
  simp[den,den1,convert,run_underlying hs,run_underlying hu,Conv.intToInt,SV.val,S0.val,SL.val]
 ·exact absurd hk hA.fail
end
namespace Sx
section
variable [Val] [Kno] {R HT:Type} {A:Alg R HT} {X:Ctxt} {Sg:Tb} {holds:R->Prop} {abs:HT->Ts}
variable {ev:Env} {σ:St} {h:HT} {o:Oper} {K:KN R HT}
def nD:∀(ix:List (Int×Nat)) (base:Nat) (p:Int×Nat),offX base (ix++[p])=offX base ix+p.1.toNat*p.2
 | [],_,_=>rfl
 |q :: l,base,p=>nD l (base+q.1.toNat*q.2) p
def jz:∀(ix:List (Int×Nat)) (base n:Nat),offX (base+n) ix=offX base ix+n
 | [],_,_=>rfl
 |q :: l,base,n=>by
  simp only[offX]
  rw[show base+n+q.1.toNat*q.2=base+q.1.toNat*q.2+n by omega]
  exact jz l _ n
def uI(hA:AlgOk A X.C Sg X.T holds abs)(hR:Rp ev σ)(ha:abs h=σ.heap){x:TH}(ho:o.op = .nilCheck x)
  (hk:holds (match sval ev x with
  | .st (.leaf (.v p))=>A.opt (nilP p) λq=>A.chk q (setD o.dst (.st (.leaf (.v q))) ev h K)
  | .lad s off=>setD o.dst (.lad s off) ev h K
  | .gad s off=>setD o.dst (.gad s off) ev h K
  |_=>A.fail)):Done X holds abs o σ K:=by
 split at hk
 next p e=>
  obtain⟨h1,_⟩:=hR.sval e (by simp)
  simp only[SV.val,S0.val,SL.val]at h1
  obtain⟨q,hq,hk1⟩:=hA.opt _ _ hk
  obtain⟨hg,hk2⟩:=hA.chk _ _ hk1
  refine aB hR ha (s:=.st (.leaf (.v q))) (au hg) ?_ hk2
  simp only[am,ho,h1]
  unfold nilP at hq
  split at hq<;>cases hq<;>rfl
 next s off e=>
  obtain⟨h1,_⟩:=hR.sval e (by simp)
  exact aB hR ha (s:=.lad s off) trivial (by simp only[am,ho,h1,SV.val]) hk
 next s off e=>
  obtain⟨h1,_⟩:=hR.sval e (by simp)
  exact aB hR ha (s:=.gad s off) trivial (by simp only[am,ho,h1,SV.val]) hk
 ·exact absurd hk hA.fail
def sK(hA:AlgOk A X.C Sg X.T holds abs)(hR:Rp ev σ)(ha:abs h=σ.heap){t:TM}{x:TH}{f:Nat}(ho:o.op = .fieldAddr t x f)
  (hk:holds (jZ A X o.dst t x f ev h K)):Done X holds abs o σ K:=by
 unfold jZ at hk
 split at hk
 next fs hu=>
  split at hk
  next fd hf=>
   have heff:∀ {b off:Nat} {sp:Tp},Nat.beq (X.C.P.cellsOf fd.type) 0=false->oval σ.tmps x = .pointer (some ⟨b,off,sp⟩)->
     am X.C X.pts (oval σ.tmps) o=some (.val (.pointer (some ⟨b,off+fd.offset,sp⟩))):=by
    intro b off sp hz hx
    have hz:¬X.C.P.cellsOf fd.type=0:=λe=>by rw[e]at hz;cases hz
    simp only[am,ho,hx,ft,hu,hf,qdE hz,qaC]
   split at hk
   next s off hz e=>
    obtain⟨h1,_⟩:=hR.sval e (by simp)
    exact aB hR ha (s:=.lad s (off+fd.offset)) trivial (heff hz h1) hk
   next s off hz e=>
    obtain⟨h1,_⟩:=hR.sval e (by simp)
    exact aB hR ha (s:=.gad s (off+fd.offset)) trivial (heff hz h1) hk
   next s base ix hz e=>
    obtain⟨h1,_⟩:=hR.sval e (by simp)
    refine aB hR ha (s:=.ldx s (base+fd.offset) ix) trivial ?_ hk
    rw[heff hz h1,SV.val,jz]
   next s base ix hz e=>
    obtain⟨h1,_⟩:=hR.sval e (by simp)
    refine aB hR ha (s:=.gdx s (base+fd.offset) ix) trivial ?_ hk
    rw[heff hz h1,SV.val,jz]
   next p hz e=>
    obtain⟨h1,_⟩:=hR.sval e (by simp)
    simp only[SV.val,S0.val,SL.val]at h1
    obtain⟨q,hq,hk1⟩:=hA.opt _ _ hk
    obtain⟨hg,hk2⟩:=hA.chk _ _ hk1
    refine aB hR ha (s:=.st (.leaf (.v q))) (au hg) ?_ hk2
    unfold fdP at hq
    split at hq
    next a=>
     cases hq
     exact heff hz h1
    ·cases hq
   ·exact absurd hk hA.fail
  ·exact absurd hk hA.fail
 ·exact absurd hk hA.fail
def ji{i:TH}{n:Nat}(h:constI i=some n):intOf (oval σ.tmps i)=some (n:Int):=by
 unfold constI at h
 split at h
 ·cases h
  simp[oval,flat,eO,scalar,Am.intOf]
 ·cases h
def sU{len:Nat}{j:Int}{u:Unit}(h:inB len j=some u):0<=j/\j<(len:Int):=by
 rw[inB_eq]at h
 split at h
 ·assumption
 ·cases h
def idS_ok{esz:Nat}{x q:Value}{i:Int}(h:idS esz x i=some q) :
  ∃a len cx,x = .slice (some a) len cx/\(0<=i/\i<(len:Int))/\q = .pointer (some ⟨a.block,a.off+i.toNat*esz,if a.spot=some 1 then some 1 else none⟩):=by
 rw[pf]at h
 split at h
 next a len cx=>
  split at h
  next hb=>cases h;exact⟨a,len,cx,rfl,hb,rfl⟩
  ·cases h
 ·cases h
def sV(hA:AlgOk A X.C Sg X.T holds abs)(hR:Rp ev σ)(ha:abs h=σ.heap){t:TM}{x i:TH}(ho:o.op = .indexAddr t x i)
  (hk:holds (ku A X o.dst t x i ev h K)):Done X holds abs o σ K:=by
 unfold ku at hk
 split at hk
 next len e hu=>
  have heff:∀ {b off:Nat} {sp:Tp} {j:Int},Nat.beq (X.C.P.cellsOf e) 0=false->oval σ.tmps x = .pointer (some ⟨b,off,sp⟩)->intOf (oval σ.tmps i)=some j->0<=j->j<(len:Int)->
    am X.C X.pts (oval σ.tmps) o=some (.val (.pointer (some ⟨b,off+j.toNat*X.C.P.cellsOf e,sp⟩))):=by
   intro b off sp j hz hx hi h0 h1
   have hz:¬X.C.P.cellsOf e=0:=λe=>by rw[e]at hz;cases hz
   simp only[am,ho,hx,ep,hi,hu,qdE hz,qdD (And.intro h0 h1),qaC]
  have hint:∀ {k:TI} {j:Int},sval ev i = .st (.leaf (.i k j))->intOf (oval σ.tmps i)=some j:=by
   intro k j hs
   obtain⟨h1,_⟩:=hR.sval hs (by simp)
   rw[h1];rfl
  simp only at hk
  split at hk
  next s off n hz e1 hc=>
   obtain⟨h1,_⟩:=hR.sval e1 (by simp)
   split at hk
   next hlt=>
    have hlt:n<len:=by simpa[qbd]using hlt
    refine aB hR ha (s:=.lad s (off+n*X.C.P.cellsOf e)) trivial ?_ hk
    rw[heff hz h1 (ji hc) (by omega) (by omega)];simp[SV.val]
   ·exact absurd hk hA.fail
  next s off n hz e1 hc=>
   obtain⟨h1,_⟩:=hR.sval e1 (by simp)
   split at hk
   next hlt=>
    have hlt:n<len:=by simpa[qbd]using hlt
    refine aB hR ha (s:=.gad s (off+n*X.C.P.cellsOf e)) trivial ?_ hk
    rw[heff hz h1 (ji hc) (by omega) (by omega)];simp[SV.val]
   ·exact absurd hk hA.fail
  next s base ix n hz e1 hc=>
   obtain⟨h1,_⟩:=hR.sval e1 (by simp)
   split at hk
   next hlt=>
    have hlt:n<len:=by simpa[qbd]using hlt
    refine aB hR ha (s:=.ldx s (base+n*X.C.P.cellsOf e) ix) trivial ?_ hk
    rw[heff hz h1 (ji hc) (by omega) (by omega)];simp[SV.val,jz]
   ·exact absurd hk hA.fail
  next s base ix n hz e1 hc=>
   obtain⟨h1,_⟩:=hR.sval e1 (by simp)
   split at hk
   next hlt=>
    have hlt:n<len:=by simpa[qbd]using hlt
    refine aB hR ha (s:=.gdx s (base+n*X.C.P.cellsOf e) ix) trivial ?_ hk
    rw[heff hz h1 (ji hc) (by omega) (by omega)];simp[SV.val,jz]
   ·exact absurd hk hA.fail
  next s off k j hz e1 e2 _=>
   obtain⟨h1,_⟩:=hR.sval e1 (by simp)
   obtain⟨u,hu2,hk1⟩:=hA.opt _ _ hk
   obtain⟨b1,b2⟩:=sU hu2
   exact aB hR ha (s:=.ldx s off [(j,X.C.P.cellsOf e)]) trivial (by rw[heff hz h1 (hint e2) b1 b2];rfl) hk1
  next s off k j hz e1 e2 _=>
   obtain⟨h1,_⟩:=hR.sval e1 (by simp)
   obtain⟨u,hu2,hk1⟩:=hA.opt _ _ hk
   obtain⟨b1,b2⟩:=sU hu2
   exact aB hR ha (s:=.gdx s off [(j,X.C.P.cellsOf e)]) trivial (by rw[heff hz h1 (hint e2) b1 b2];rfl) hk1
  next s base ix k j hz e1 e2 _=>
   obtain⟨h1,_⟩:=hR.sval e1 (by simp)
   obtain⟨u,hu2,hk1⟩:=hA.opt _ _ hk
   obtain⟨b1,b2⟩:=sU hu2
   exact aB hR ha (s:=.ldx s base (ix++[(j,X.C.P.cellsOf e)])) trivial (by rw[heff hz h1 (hint e2) b1 b2,SV.val,nD]) hk1
  next s base ix k j hz e1 e2 _=>
   obtain⟨h1,_⟩:=hR.sval e1 (by simp)
   obtain⟨u,hu2,hk1⟩:=hA.opt _ _ hk
   obtain⟨b1,b2⟩:=sU hu2
   exact aB hR ha (s:=.gdx s base (ix++[(j,X.C.P.cellsOf e)])) trivial (by rw[heff hz h1 (hint e2) b1 b2,SV.val,nD]) hk1
  next p k j hz e1 e2=>
   obtain⟨h1,_⟩:=hR.sval e1 (by simp)
   simp only[SV.val,S0.val,SL.val]at h1
   obtain⟨q,hq,hk1⟩:=hA.opt _ _ hk
   obtain⟨hg,hk2⟩:=hA.chk _ _ hk1
   unfold idP at hq
   split at hq
   next a=>
    split at hq
    next hb=>
     cases hq
     exact aB hR ha (s:=.st (.leaf (.v _))) (au hg) (heff hz h1 (hint e2) hb.1 hb.2) hk2
    ·cases hq
   ·cases hq
  ·exact absurd hk hA.fail
 next e hu=>
  simp only at hk
  split at hk
  next p k j hz e1 e2=>
   obtain⟨h1,_⟩:=hR.sval e1 (by simp)
   obtain⟨h2,_⟩:=hR.sval e2 (by simp)
   simp only[SV.val,S0.val,SL.val]at h1 h2
   obtain⟨q,hq,hk1⟩:=hA.opt _ _ hk
   have hz:¬X.C.P.cellsOf e=0:=λe=>by rw[e]at hz;cases hz
   obtain⟨a,len,cx,rfl,hb,rfl⟩:=idS_ok hq
   refine aB hR ha (s:=.st (.leaf (.v _))) (au ?_) ?_ hk1
   ·show aS _=true
    by_cases hs:a.spot=some 1<;>simp[hs,aS,noLoc,aZ,bz,bp,aR,aI]
   ·simp only[am,ho,h1,h2,ep,Am.intOf,hu,qdE hz,qdD hb,qaC];rfl
  ·exact absurd hk hA.fail
 ·exact absurd hk hA.fail
def wg{C:Cfg}{t:TM}{ag:Bool}{cs ds:List SL}{off:Nat}{x:S0}(hag:aggT C.P t=some ag)(hc:cutS cs off (if ag then C.P.cellsOf t else 1)=some ds)(hx:mkS0 ag ds=some x) :
  uO C t ⟨cs.map SL.val⟩ off=some x.val/\x.cells=ds:=by
 obtain⟨h1,h2⟩:=nu hx
 refine⟨?_,h1⟩
 unfold cutS at hc
 unfold aggT at hag
 unfold uO
 split at hag
 next fs e=>
  cases hag
  simp only[if_true]at hc
  split at hc
  next hle=>
   cases hc
   rcases h2 with⟨_,h2⟩|⟨h0,_⟩
   ·rw[e]
    simp only[h2,qaq,Value.agg.injEq]
    apply qa7.1
    rw[qch]
    simp[List.extract,qcf,qcy]
   ·cases h0
  ·cases hc
 next n el e=>
  cases hag
  simp only[if_true]at hc
  split at hc
  next hle=>
   cases hc
   rcases h2 with⟨_,h2⟩|⟨h0,_⟩
   ·rw[e]
    simp only[h2,qaq,Value.agg.injEq]
    apply qa7.1
    rw[qch]
    simp[List.extract,qcf,qcy]
   ·cases h0
  ·cases hc
 next d h3 h4 e=>
  cases hag
  simp only[qao,if_false]at hc
  split at hc
  next hle=>
   cases hc
   rcases h2 with⟨h0,_⟩|⟨_,h2⟩
   ·cases h0
   ·rw[e]
    have hlt:off<cs.length:=by omega
    rw[qa9 hlt]at h2
    simp only[qaW,qbb,qas,qbk,qax,and_true]at h2
    rw[←h2]
    have hlt':off<(⟨cs.map SL.val⟩ : Array Value).size:=by simpa using hlt
    have hget:(⟨cs.map SL.val⟩ : Array Value)[off]?=some cs[off].val:=by
     rw[qbp hlt']
     simp
    rw[hget]
    split
    next fs e2=>exact absurd (qae e2) (h3 _)
    next a b e2=>exact absurd (qae e2) (h4 _ _)
    ·rfl
    next e2=>cases e2
  ·cases hc
 ·cases hag
def field_ok(hA:AlgOk A X.C Sg X.T holds abs)(hR:Rp ev σ)(ha:abs h=σ.heap){t:TM}{x:TH}{f:Nat}(ho:o.op = .field t x f)
  (hk:holds (match X.C.P.underlying t,sval ev x with
  |some (.struct fs),.st (.agg cs)=>match fs[f]? with
   |some fd=>match (aggT X.C.P fd.type).bind (λag=>(cutS cs fd.offset (if ag then X.C.P.cellsOf fd.type else 1)).bind (mkS0 ag))with
    |some x=>setD o.dst (.st x) ev h K
    |none=>A.fail
   |none=>A.fail
  |_,_=>A.fail)):Done X holds abs o σ K:=by
 split at hk
 next fs cs hu e=>
  obtain⟨h1,g1⟩:=hR.sval e (by simp)
  split at hk
  next fd hf=>
   split at hk
   next x' hx=>
    obtain⟨ag,hag,hx⟩:=qar.1 hx
    obtain⟨ds,hc,hx⟩:=qar.1 hx
    obtain⟨h2,h3⟩:=wg hag hc hx
    refine aB hR ha (s:=.st x') (λl hl=>?_) ?_ hk
    ·rw[h3]at hl
     exact g1 l ((mM hc).2 l hl)
    ·simp only[am,ho,h1,SV.val,S0.val,sJ,hu,hf,qak,h2,qaC]
   ·exact absurd hk hA.fail
  ·exact absurd hk hA.fail
 ·exact absurd hk hA.fail
def xi(hA:AlgOk A X.C Sg X.T holds abs)(hR:Rp ev σ)(ha:abs h=σ.heap){t:TH}{i:Nat}(ho:o.op = .extract t i)
  (hk:holds (match sval ev t with
  | .tup xs=>match xs[i]? with
   |some x=>setD o.dst (.st x) ev h K
   |none=>A.fail
  |_=>A.fail)):Done X holds abs o σ K:=by
 split at hk
 next xs e=>
  obtain⟨h1,g1,g2⟩:=hR.sval e (by simp)
  split at hk
  next x hx=>
   refine aB hR ha (s:=.st x) (g1 x (qab hx)) ?_ hk
   simp only[am,ho,h1,SV.val]
   rw[qdE (by simp;omega)]
   have:(⟨xs.map S0.val⟩ : Array Value)[i]?=some x.val:=by simp[hx]
   rw[this];rfl
  ·exact absurd hk hA.fail
 ·exact absurd hk hA.fail
def uG(hA:AlgOk A X.C Sg X.T holds abs)(hR:Rp ev σ)(ha:abs h=σ.heap){fn:Fn}{first cap:Array Operand}(ho:o.op = .makeFunc fn first cap)
  (hk:holds (match (generalizing:=false) fn,svals ev first.toList,svals ev cap.toList with
  | .func g,some a,some b=>A.chk (.func (.func g) ⟨ai a⟩ ⟨ai b⟩) (setD o.dst (.st (.leaf (.v (.func (.func g) ⟨ai a⟩ ⟨ai b⟩)))) ev h K)
  |_,_,_=>A.fail)):Done X holds abs o σ K:=by
 split at hk
 next g a b _ e1 e2=>
  obtain⟨h1,_⟩:=hR.svals e1
  obtain⟨h2,_⟩:=hR.svals e2
  obtain⟨hg,hk1⟩:=hA.chk _ _ hk
  refine aB hR ha (s:=.st (.leaf (.v _))) (au hg) ?_ hk1
  simp only[am,ho,SV.val,S0.val,SL.val,qaq,Eff.val.injEq,Value.func.injEq,true_and]
  refine⟨?_,?_⟩<;>apply qa7.1<;>simp[h1,h2]
 ·exact absurd hk hA.fail
def kJ(hR:Rp ev σ){r:Tg}{x:Tq}(h:optI ev r=some x):(r=none/\x=none)∨∃y k n,r=some y/\oval σ.tmps y = .int k n/\x=some n:=by
 unfold optI at h
 split at h
 ·cases h;exact .inl ⟨rfl,rfl⟩
 next y=>
  split at h
  next k n e=>
   cases h
   obtain⟨h1,_⟩:=hR.sval e (by simp)
   exact .inr ⟨y,k,n,rfl,h1,rfl⟩
  ·cases h
def bT(hR:Rp ev σ){r:Tg}{x:Tq}(h:optI ev r=some x):de (r.map (oval σ.tmps))=some x:=by
 rcases kJ hR h with⟨rfl,rfl⟩|⟨y,k,n,rfl,h1,rfl⟩
 ·rfl
 ·simp[h1,de]
def kC(hA:AlgOk A X.C Sg X.T holds abs)(hR:Rp ev σ)(ha:abs h=σ.heap){t:TM}{r:Tg}(ho:o.op = .makeMap t r)
  (hk:holds (match ni X.C t (r.map λ_=>.int .i64 0),optI ev r with
  |true,some _=>A.new (.map [] 0) h λn h=>setD o.dst (.st (.leaf (.v (.map (some n))))) ev h K
  |_,_=>A.fail)):Done X holds abs o σ K:=by
 split at hk
 next x hh e=>
  obtain⟨h',e1,hk1⟩:=hA.new _ _ _ hk
  rw[ha]at e1 hk1
  refine cY hR e1 (s:=.st (.leaf (.v (.map (some σ.heap.length))))) (au rfl) (f:=λH=>some (H++[.map [] 0],.map (some H.length))) ?_ rfl hk1
  have:ni X.C t (r.map (oval σ.tmps))=true:=by
   rcases kJ hR e with⟨rfl,rfl⟩|⟨y,k,n,rfl,h1,rfl⟩
   ·rfl
   ·simp only[qaC,ni,h1]at hh ⊢
    exact hh
  simp only[am,ho,this,if_true]
 ·exact absurd hk hA.fail
def wG(n esz a b:Nat):aS (.slice (some ⟨n,0,tag esz⟩) a b)=true:=by
 simp[aS,noLoc,aZ,bz,bp,aR,aI,tag]
def tr(hA:AlgOk A X.C Sg X.T holds abs)(hR:Rp ev σ)(ha:abs h=σ.heap){t:TM}{l c:TH}(ho:o.op = .makeSlice t l c)
  (hk:holds (match X.C.P.underlying t,sval ev l,sval ev c with
  |some (.slice e),.st (.leaf (.i _ l)),.st (.leaf (.i _ c))=>match X.C.P.info? e with
   |some info=>match Nat.beq info.size 0||Nat.blt 4096 info.bytes,(jc info).bind s0Of with
    |false,some z=>A.opt (mkOk l c) λ_=>
      A.new (.cells (bi (z.cells.map SL.val) c.toNat) info.size true) h λn h=>setD o.dst (.st (.leaf (.v (.slice (some ⟨n,0,tag info.size⟩) l.toNat (c.toNat+1))))) ev h K
    |_,_=>A.fail
   |none=>A.fail
  |_,_,_=>A.fail)):Done X holds abs o σ K:=by
 split at hk
 next e k1 l' k2 c' hu e1 e2=>
  obtain⟨h1,_⟩:=hR.sval e1 (by simp)
  obtain⟨h2,_⟩:=hR.sval e2 (by simp)
  split at hk
  next info hi=>
   split at hk
   next z hz hz0=>
    obtain⟨zv,hz1,hz2⟩:=qar.1 hz0
    obtain⟨z1,z2,_⟩:=rH hz2
    obtain⟨u,hm,hk1⟩:=hA.opt _ _ hk
    obtain⟨h',n1,hk2⟩:=hA.new _ _ _ hk1
    rw[ha]at n1 hk2
    unfold mkOk at hm
    split at hm
    next hmm=>
     simp only[qb8]at hz
     have hs0:¬info.size=0:=λe=>by rw[e]at hz;cases hz.1
     have hby:info.bytes<=4096:=by
      have:=hz.2
      rw[←qbq,qbd]at this
      omega
     refine cY hR n1 (s:=.st (.leaf (.v _))) (au (wG _ _ _ _)) (f:=dq X.C t (.int k1 l') (.int k2 c')) ?_ ?_ hk2
     ·simp only[am,ho,h1,h2];rfl
     ·simp only[dq,Am.intOf,hu,hi,qdE hs0,hz1]
      rw[qdD ⟨hmm.1,hmm.2.1,hmm.2.2,hby⟩,←z1,S0.cells_val z2]
      rfl
    ·cases hm
   ·exact absurd hk hA.fail
  ·exact absurd hk hA.fail
 ·exact absurd hk hA.fail
def qx(hA:AlgOk A X.C Sg X.T holds abs)(hR:Rp ev σ)(ha:abs h=σ.heap){t:TM}{n:Nat}{ps:Array (Nat×Operand)}(ho:o.op = .buildSlice t n ps)
  (hk:holds (match X.C.P.underlying t,svals ev (ps.toList.map (·.2))with
  |some (.slice e),some xs=>match X.C.P.info? e with
   |some info=>match Nat.beq info.size 0||Nat.blt 16777216 (n*info.size),(jc info).bind s0Of with
    |false,some z=>match qM (λi=>some (i*info.size,info.size)) (List.replicate n z.cells).flatten ((ps.toList.map (·.1)).zip xs)with
     |some cs=>A.new (.cells (cs.map SL.val) info.size true) h λm h=>setD o.dst (.st (.leaf (.v (.slice (some ⟨m,0,tag info.size⟩) n (n+1))))) ev h K
     |none=>A.fail
    |_,_=>A.fail
   |none=>A.fail
  |_,_=>A.fail)):Done X holds abs o σ K:=by
 split at hk
 next e xs hu e1=>
  split at hk
  next info hi=>
   split at hk
   next z hz hz0=>
    obtain⟨zv,hz1,hz2⟩:=qar.1 hz0
    obtain⟨z1,z2,_⟩:=rH hz2
    split at hk
    next cs hf=>
     obtain⟨h',n1,hk1⟩:=hA.new _ _ _ hk
     rw[ha]at n1 hk1
     obtain⟨hv,hg⟩:=hR.svals e1
     have hzg:∀c∈(List.replicate n z.cells).flatten,c.good:=by
      intro c hc
      obtain⟨l,hl,hc⟩:=List.mem_flatten.1 hc
      rw[List.mem_replicate]at hl
      rw[hl.2]at hc
      exact z2 c hc
     have hfill:=qN _ _ _ _ (rW (is:=ps.toList.map (·.1)) hg) hf
     simp only[qb8]at hz
     obtain⟨ha1,ha3⟩:=hz
     have ha1:¬info.size=0:=λe=>by rw[e]at ha1;cases ha1
     have ha3:¬n*info.size > 16777216:=by rw[←qbq,qbd]at ha3;omega
     refine cY hR n1 (s:=.st (.leaf (.v _))) (au (wG _ _ _ _))
      (f:=λH=>some (H++[.cells (cs.map SL.val) info.size true],.slice (some ⟨H.length,0,tag info.size⟩) n (n+1))) ?_ rfl hk1
     have hall:(ps.toList.all λp=>(oval σ.tmps p.2).cells.toList.all aU)=true:=by
      rw[qag]
      intro p hp
      have hm:oval σ.tmps p.2∈ai xs:=by
       rw[←hv]
       exact qaU.2 ⟨p.2,qaU.2 ⟨p,hp,rfl⟩,rfl⟩
      simp only[ai,qaU]at hm
      obtain⟨x,hx,e⟩:=hm
      rw[←e]
      exact S0.cells_ok (hg x hx)
     have hflat:(bi zv.cells.toList n).toArray=⟨((List.replicate n z.cells).flatten).map SL.val⟩:=by
      rw[←z1,S0.cells_val z2]
      simp[bi,List.map_flatten]
     simp only[am,ho,hall,if_true,ey,hu,hi]
     rw[qdE ha1,qdE ha3]
     simp only[hz1]
     rw[qh hv,hflat,hfill]
     rfl
    ·exact absurd hk hA.fail
   ·exact absurd hk hA.fail
  ·exact absurd hk hA.fail
 ·exact absurd hk hA.fail
end
end Sx
namespace Sx
section
variable [Val] [Kno] {R HT:Type} {A:Alg R HT} {X:Ctxt} {Sg:Tb} {holds:R->Prop} {abs:HT->Ts}
variable {ev:Env} {σ:St} {h:HT} {o:Oper} {K:KN R HT}
def cutS_len{cs ds:List SL}{off n:Nat}(h:cutS cs off n=some ds):ds.length=n:=by
 unfold cutS at h
 split at h
 next hle=>cases h;simp;omega
 ·cases h
def mk_any{ag:Bool}{ds:List SL}{n:Nat}(hl:ds.length=(if ag then n else 1)):∃x,mkS0 ag ds=some x:=by
 cases ag with
 |true=>exact⟨_,rfl⟩
 |false=>
  simp only[qao,if_false]at hl
  match ds,hl with
  | [d],_=>exact⟨_,rfl⟩
def index_ok(hA:AlgOk A X.C Sg X.T holds abs)(hR:Rp ev σ)(ha:abs h=σ.heap){t:TM}{x i:TH}{hs:TJ}(ho:o.op = .index t x i)
  (hk:holds (match X.C.P.underlying t,sval ev x,sval ev i with
  |some (.array len e),.st (.agg cs),.st (.leaf (.i _ j))=>match aggT X.C.P e with
   |some ag=>match eqB ag (iW (lL hs))&&sa cs (skKs (lL hs)) 0 [(j,X.C.P.cellsOf e)]&&Nat.beq (if ag then X.C.P.cellsOf e else 1) (skKs (lL hs)).length with
    |false=>A.fail
    |true=>A.opt (inB len j) λ_=>A.opt (rr (cs.map SL.lf) 0 [(j,X.C.P.cellsOf e)] (if ag then X.C.P.cellsOf e else 1)) λls=>setL A o.dst (lL hs) ls ev h K
   |none=>A.fail
  |some .string,.st (.leaf (.v (.string s))),.st (.leaf (.i _ j))=>A.opt (strAt s j) λb=>setD o.dst (.st (.leaf (.i .u8 b))) ev h K
  |_,_,_=>A.fail)):Done X holds abs o σ K:=by
 split at hk
 next len e cs k j hu e1 e2=>
  obtain⟨h1,g1⟩:=hR.sval e1 (by simp)
  obtain⟨h2,_⟩:=hR.sval e2 (by simp)
  split at hk
  next ag hag=>
   split at hk
   ·exact absurd hk hA.fail
   next hc=>
    simp only[qaa]at hc
    obtain⟨⟨c1,c2⟩,c3⟩:=hc
    have c1:=eqB_eq c1
    have c3:=qac c3
    obtain⟨u,hb,hk1⟩:=hA.opt _ _ hk
    obtain⟨b1,b2⟩:=sU hb
    obtain⟨ls,hp,hk2⟩:=hA.opt _ _ hk1
    obtain⟨ds,hd,rfl⟩:=wh hp
    have hlen:ds.length=(if ag then X.C.P.cellsOf e else 1):=cutS_len hd
    obtain⟨y,hy⟩:=mk_any hlen
    obtain⟨p1,p2⟩:=wg hag hd hy
    obtain⟨m1,m2⟩:=nu hy
    rw[c3]at hd
    rw[c1]at m2
    obtain⟨z,hz1,hz2,hk3⟩:=setL_ok hA (lN c2 hd) (λc hc=>g1 c ((mM hd).2 c hc)) m2 hk2
    refine aB hR ha (s:=.st z) hz2 ?_ hk3
    have hi:lu X.C t (.agg ⟨cs.map SL.val⟩) (.int k j)=some y.val:=by
     have:offX 0 [(j,X.C.P.cellsOf e)]=j.toNat*X.C.P.cellsOf e:=by simp[offX]
     rw[this]at p1
     simp only[lu,Am.intOf,hu,qdD (And.intro b1 b2)]
     exact p1
    have h1:oval σ.tmps x = .agg ⟨cs.map SL.val⟩:=h1
    have h2:oval σ.tmps i = .int k j:=h2
    simp only[am,ho,h1,h2,hi,qaC]
    rw[←hz1];rfl
  ·exact absurd hk hA.fail
 next s k j hu e1 e2=>
  obtain⟨h1,g1⟩:=hR.sval e1 (by simp)
  obtain⟨h2,_⟩:=hR.sval e2 (by simp)
  obtain⟨b,hb,hk1⟩:=hA.opt _ _ hk
  obtain⟨q1,q2⟩:=strAt_ok hb
  have h1:oval σ.tmps x = .string s:=h1
  have h2:oval σ.tmps i = .int k j:=h2
  refine aB hR ha (s:=.st (.leaf (.i .u8 b))) (λl hl=>?_) ?_ hk1
  ·simp only[S0.cells,qam]at hl
   subst hl;trivial
  ·have hi:lu X.C t (.string s) (.int k j)=some (.int .u8 b):=by
    simp only[lu,Am.intOf,hu,qdD q1]
    exact q2
   simp only[am,ho,h1,h2,hi,qaC]
   rfl
 ·exact absurd hk hA.fail
def uf{P:TF}{lo hi mx:Ti}(h1:∀v,lo=some v->∃k,v = .int k 0)(h2:∀v,hi=some v->∃k,v = .int k 0)(h3:∀v,mx=some v->∃k,v = .int k 0)(h4:mx=none∨hi.isSome=true)(w:World) :
  (Instr.sliceBounds true 0 0 lo hi mx).run P w = .ok (0,0,0) w:=by
 have hb:∀(k:TI) (c:BoundsCode),(Instr.sliceBound (.int k 0) 0 c).run P w = .ok 0 w:=λk c=>by
  simp[Instr.sliceBound,asIntOf]
 unfold Instr.sliceBounds
 cases mx with
 |none=>
  cases hi with
  |none=>
   cases lo with
   |none=>simp
   |some l=>obtain⟨k,rfl⟩:=h1 _ rfl;simp[hb]
  |some u=>
   obtain⟨k,rfl⟩:=h2 _ rfl
   cases lo with
   |none=>simp[hb]
   |some l=>obtain⟨k,rfl⟩:=h1 _ rfl;simp[hb]
 |some m=>
  obtain⟨k,rfl⟩:=h3 _ rfl
  cases hi with
  |none=>rcases h4 with h|h<;>simp at h
  |some u=>
   obtain⟨k,rfl⟩:=h2 _ rfl
   cases lo with
   |none=>simp[hb]
   |some l=>obtain⟨k,rfl⟩:=h1 _ rfl;simp[hb]
def sliceE_ok(hA:AlgOk A X.C Sg X.T holds abs)(hR:Rp ev σ)(ha:abs h=σ.heap){t:TM}{x:TH}{lo hi mx:Tg}(ho:o.op = .slice t x lo hi mx)
  (hk:holds (match X.C.P.underlying t,sval ev x,optI ev lo,optI ev hi,optI ev mx with
  |some (.slice e),.st (.leaf (.v x)),some lo,some hi,some mx=>match Nat.beq (X.C.P.cellsOf e) 0 with
   |true=>A.fail
   |false=>A.opt (slS (X.C.P.cellsOf e) x lo hi mx) λq=>A.chk q (setD o.dst (.st (.leaf (.v q))) ev h K)
  |some (.array _ e),.gad g off,some lo,some hi,some mx=>match Nat.beq (X.C.P.cellsOf e) 0 with
   |true=>A.fail
   |false=>A.opt (cJ X.C t ⟨g,off,some 1⟩ (lo.map (.int .i64)) (hi.map (.int .i64)) (mx.map (.int .i64)) []) λq=>A.chk q (setD o.dst (.st (.leaf (.v q))) ev h K)
  |some (.array n e),.st (.leaf (.v p)),some lo,some hi,some mx=>match Nat.beq (X.C.P.cellsOf e) 0 with
   |true=>A.fail
   |false=>A.peek (.fn (slAG n (X.C.P.cellsOf e) p lo hi mx)) h λcs=>setC A o.dst (.leaf .v) cs ev h K
  |_,_,_,_,_=>A.fail)):Done X holds abs o σ K:=by
 split at hk
 next e v lo' hi' mx' hu e1 e2 e3 e4=>
  obtain⟨h1,_⟩:=hR.sval e1 (by simp)
  simp only[SV.val,S0.val,SL.val]at h1
  split at hk
  ·exact absurd hk hA.fail
  next hz=>
   have hz:¬X.C.P.cellsOf e=0:=λe=>by rw[e]at hz;cases hz
   obtain⟨q,hq,hk1⟩:=hA.opt _ _ hk
   obtain⟨hg,hk2⟩:=hA.chk _ _ hk1
   have b2:=bT hR e2
   have b3:=bT hR e3
   have b4:=bT hR e4
   unfold slS at hq
   split at hq
   next a len cx=>
    split at hq
    ·cases hq
    next hsp=>
     split at hq
     next hb=>
      cases hq
      refine aB hR ha (s:=.st (.leaf (.v _))) (au hg) ?_ hk2
      simp only[am,ho,h1,wz,b2,b3,b4,hu,qdE hz,qdE hsp,qdD hb,nG]
      rfl
     ·cases hq
   ·split at hq
    next hb=>
     cases hq
     have hint:∀ {r:Tg} {x:Tq},optI ev r=some x->x.getD 0=0->∀v,r.map (oval σ.tmps)=some v->∃k,v = .int k 0:=by
      intro r x hx h0 v hv
      rcases kJ hR hx with⟨rfl,rfl⟩|⟨y,k,n,rfl,h1,rfl⟩
      ·cases hv
      ·simp only[qaC,qaq,h1]at hv
       simp at h0
       subst h0
       exact⟨k,hv.symm⟩
     have hplain:∀ {r:Tg} {x:Tq},optI ev r=some x->∀y,r=some y->plain (oval σ.tmps y)=true/\den (oval σ.tmps y)=oval σ.tmps y:=by
      intro r x hx y hy
      rcases kJ hR hx with⟨rfl,rfl⟩|⟨y',k,n,rfl,h1,rfl⟩
      ·cases hy
      ·cases hy;rw[h1];exact⟨rfl,rfl⟩
     have hden:∀ {r:Tg} {x:Tq},optI ev r=some x->r.map (λy=>den (oval σ.tmps y))=r.map (oval σ.tmps):=by
      intro r x hx
      cases r with
      |none=>rfl
      |some y=>simp[(hplain hx y rfl).2]
     refine cj hR ha (s:=.st (.leaf (.v (.slice none 0 0)))) (au rfl) ⟨by rw[ho];rfl,?_,rfl,λw=>?_⟩ hk2
     ·rw[ho]
      simp only[Op.operands,qbR,qds,qaa]
      refine⟨⟨⟨by simp[h1];rfl,?_⟩,?_⟩,?_⟩
      ·cases lo with
       |none=>rfl
       |some y=>simp[(hplain e2 y rfl).1]
      ·cases hi with
       |none=>rfl
       |some y=>simp[(hplain e3 y rfl).1]
      ·cases mx with
       |none=>rfl
       |some y=>simp[(hplain e4 y rfl).1]
     ·have hm:mx.map (oval σ.tmps)=none∨(hi.map (oval σ.tmps)).isSome=true:=by
       rcases hb.2.2.2 with hm|hm
       ·left
        rcases kJ hR e4 with⟨rfl,rfl⟩|⟨y',k,n,rfl,h1,rfl⟩
        ·rfl
        ·cases hm
       ·right
        rcases kJ hR e3 with⟨rfl,rfl⟩|⟨y',k,n,rfl,h1,rfl⟩
        ·cases hm
        ·rfl
      have hbd:=uf (P:=X.C.P) (hint e2 hb.1) (hint e3 hb.2.1) (hint e4 hb.2.2.1) hm w
      have hsz:∃i,X.C.P.info? e=some i:=by
       unfold Program.cellsOf at hz
       cases hi:X.C.P.info? e with
       |none=>rw[hi]at hz;exact absurd rfl hz
       |some i=>exact⟨i,rfl⟩
      obtain⟨i,hi⟩:=hsz
      have hd0:den (.slice none 0 0) = .slice none 0 0:=rfl
      simp only[execOp,ho,h1,hden e2,hden e3,hden e4,hd0,Instr.sliceAt,Instr.slice,Sem.run_bind,run_underlying hu,Result.andThen_ok,hbd,bc hi,Sem.run_pure]
      simp only[SV.val,S0.val,SL.val,hd0]
      simp
    ·cases hq
   ·cases hq
 next n e g off lo' hi' mx' hu e1 e2 e3 e4=>
  obtain⟨h1,_⟩:=hR.sval e1 (by simp)
  simp only[SV.val]at h1
  split at hk
  ·exact absurd hk hA.fail
  ·obtain⟨q,hq,hk1⟩:=hA.opt _ _ hk
   obtain⟨hg,hk2⟩:=hA.chk _ _ hk1
   refine aB hR ha (s:=.st (.leaf (.v q))) (au hg) ?_ hk2
   have hb:∀ {r:Tg} {x:Tq},optI ev r=some x->de (r.map (oval σ.tmps))=de (x.map (.int .i64)):=by
    intro r x hx
    rw[bT hR hx]
    cases x<;>rfl
   have:cJ X.C t ⟨g,off,some 1⟩ (lo.map (oval σ.tmps)) (hi.map (oval σ.tmps)) (mx.map (oval σ.tmps)) []=some q:=by
    rw[←hq]
    unfold cJ dv
    rw[hb e2,hb e3,hb e4]
   simp only[am,ho,h1,if_true,this,qaC];rfl
 next n e p lo' hi' mx' hu e1 e2 e3 e4=>
  obtain⟨h1,hgd⟩:=hR.sval e1 (by simp)
  clear hgd e1
  simp only[SV.val,S0.val,SL.val]at h1
  split at hk
  ·exact absurd hk hA.fail
  next hz=>
   have hz:¬X.C.P.cellsOf e=0:=λe=>by rw[e]at hz;cases hz
   obtain⟨cs,hl,hk1⟩:=hA.peek _ _ _ hk
   simp only[Pk.run]at hl
   rw[ha]at hl
   have hb:∀ {r:Tg} {x:Tq},optI ev r=some x->de (r.map (oval σ.tmps))=de (x.map (.int .i64)):=by
    intro r x hx
    rw[bT hR hx]
    cases x<;>rfl
   unfold slAG at hl
   split at hl
   next a=>
    split at hl
    next hsp=>
     split at hl
     next l hh m vs e' rw' hab hblk=>
      split at hl
      next hc=>
       simp only[qaa]at hc
       have he':=qac hc.1
       have hle:=qcw hc.2
       subst he'
       simp only[df,qaq]at hl
       subst hl
       obtain⟨x,r,r1,r2,r3,hk2⟩:=od hA hk1
       obtain⟨hr,hk3⟩:=hA.uc0 _ _ hk2
       rw[hr,qa6]at r1
       have hx:x.val = .slice (some ⟨a.block,a.off+l*X.C.P.cellsOf e,tag (X.C.P.cellsOf e)⟩) (hh - l) (m - l+1):=by
        cases x with
        |agg _=>cases r2
        |leaf w=>simpa[S0.cells,S0.val]using r1.symm
       refine gD hR ha (s:=.st x) r3 (f:=cJ X.C t a (lo.map (oval σ.tmps)) (hi.map (oval σ.tmps)) (mx.map (oval σ.tmps))) ?_ ?_ hk3
       ·simp only[am,ho,h1]
        rw[qdE (by rw[hsp];simp)]
       ·have hab':dv n (lo.map (oval σ.tmps)) (hi.map (oval σ.tmps)) (mx.map (oval σ.tmps))=some (l,hh,m):=by
         rw[←hab]
         unfold dv
         rw[hb e2,hb e3,hb e4]
        have hblk':σ.heap[a.block]?=some (.cells vs (X.C.P.cellsOf e) rw'):=hblk
        unfold cJ
        simp only[hu,qdE hz,hab']
        rw[qdE (by rw[hsp];simp),qdD hsp,hblk']
        simp only
        rw[qdD (by simpa using hle)]
        show _=some x.val
        rw[hx]
      ·cases hl
     ·cases hl
    ·cases hl
   ·cases hl
 ·exact absurd hk hA.fail
def mE{ag:Bool}{v:Value}{cs:Tl}(h:ez ag v=some cs):mkV ag cs v:=by
 unfold ez at h
 split at h
 ·cases h;exact .inl ⟨rfl,rfl⟩
 ·cases h
 ·cases h
 ·cases h;exact .inr ⟨rfl,rfl⟩
def nr(H:Ts)(id:Nat):mapG (λi=>H[i]?) id=hmap H id:=rfl
def luG_ok{C:Cfg}{t kt et:TM}{ag ok:Bool}{z m k:Value}{H:Ts}{cs:Tl}(hu:C.P.underlying t=some (.map kt et))(hz:dE C.P et=some z)
  (hl:luG C kt ag z m k ok (λi=>H[i]?)=some cs):∃v b cs0,ez ag v=some cs0/\cs=cs0++(if ok then [.bool b]else [])/\cD C t m k ok H=some (if ok then .tuple #[v,.bool b]else v):=by
 unfold luG at hl
 simp only[lZ]at hl
 unfold cD
 rw[hu]
 simp only
 split at hl
 ·cases hl
 next hko=>
  have hko:¬(!eP C.P kt k)=true:=by
   have:=qX (P:=C.P) (kt:=kt) (k:=k) (by simpa using hko)
   simpa using this
  rw[qdE hko]
  simp only[hz]
  split at hl
  ·obtain⟨cs0,h1,h2⟩:=qad.1 hl
   exact⟨z,false,cs0,h1,h2.symm,rfl⟩
  next id=>
   rw[nr]at hl
   split at hl
   ·cases hl
   next es c hm=>
    simp only[hm]
    split at hl
    ·cases hl
    next hf=>
     rw[hf]
     obtain⟨cs0,h1,h2⟩:=qad.1 hl
     exact⟨z,false,cs0,h1,h2.symm,rfl⟩
    next i hf=>
     rw[hf]
     simp only
     obtain⟨cs0,h1,h2⟩:=qad.1 hl
     obtain⟨v,h3,h4⟩:=qar.1 h1
     exact⟨v,true,cs0,h4,h2.symm,by rw[h3];rfl⟩
  ·cases hl
def xv{C:Cfg}{pts:TB}{ρ:Tf}{t:TM}{m k:TH}{ok:Bool}(ho:o.op = .lookup t m k ok)(H:Ts){v:Value}(hv:cD C t (ρ m) (ρ k) ok H=some v) :
  am C pts ρ o=some (.val v)∨∃f,am C pts ρ o=some (.hget f)/\f H=some v:=by
 simp only[am,ho]
 split
 next hm=>
  left
  rw[hm]at hv
  have:cD C t (.map none) (ρ k) ok []=cD C t (.map none) (ρ k) ok H:=rfl
  rw[this,hv];rfl
 ·right
  exact⟨_,rfl,hv⟩
def sB(hR:Rp ev σ)(ha:abs h=σ.heap){s:SV}(hs:s.gd){t:TM}{m k:TH}{ok:Bool}(ho:o.op = .lookup t m k ok)
  (hv:cD X.C t (oval σ.tmps m) (oval σ.tmps k) ok σ.heap=some s.val) (hk:holds (setD o.dst s ev h K)):Done X holds abs o σ K:=by
 rcases xv (pts:=X.pts) ho σ.heap hv with h1|⟨f,h1,h2⟩
 ·exact aB hR ha hs h1 hk
 ·exact gD hR ha hs h1 h2 hk
def look_ok(hA:AlgOk A X.C Sg X.T holds abs)(hR:Rp ev σ)(ha:abs h=σ.heap){t:TM}{m k:TH}{ok:Bool}{hs:TJ}(ho:o.op = .lookup t m k ok)
  (hk:holds (match X.C.P.underlying t,sval ev m,sval0 ev k with
  |some (.map kt et),.st (.leaf (.v m)),some k=>match dE X.C.P et with
   |some z=>match (generalizing:=false) hs,ok with
    | [sk],false=>A.peek (.fn (luG X.C kt (iW sk) z m k.val false)) h λcs=>ucS A sk cs λx r=>A.uc0 r (setD o.dst (.st x) ev h K)
    | [sk,.leaf .b],true=>A.peek (.fn (luG X.C kt (iW sk) z m k.val true)) h λcs=>ucS A sk cs λx r=>A.ucB r λt r=>A.uc0 r (setD o.dst (.tup [x,.leaf (.b t)]) ev h K)
    |_,_=>A.fail
   |none=>A.fail
  |_,_,_=>A.fail)):Done X holds abs o σ K:=by
 split at hk
 next kt et mv kv hu e1 e2=>
  obtain⟨h1,_⟩:=hR.sval e1 (by simp)
  obtain⟨h2,_⟩:=hR.sval0 e2
  simp only[SV.val,S0.val,SL.val]at h1
  split at hk
  next z hz=>
   split at hk
   next sk=>
    obtain⟨cs,hl,hk1⟩:=hA.peek _ _ _ hk
    simp only[Pk.run]at hl
    rw[ha]at hl
    obtain⟨v,b,cs0,q1,q2,q3⟩:=luG_ok hu hz hl
    obtain⟨x,r,r1,r2,r3,hk2⟩:=od hA hk1
    obtain⟨hr,hk3⟩:=hA.uc0 _ _ hk2
    rw[hr,qa6]at r1
    simp only[qao,if_false,qa6]at q2 q3
    have hv:=mE q1
    rw[←q2,r1]at hv
    refine sB hR ha (s:=.st x) r3 ho ?_ hk3
    rw[h1,h2,q3,←pA r2 hv];rfl
   next sk=>
    obtain⟨cs,hl,hk1⟩:=hA.peek _ _ _ hk
    simp only[Pk.run]at hl
    rw[ha]at hl
    obtain⟨v,b,cs0,q1,q2,q3⟩:=luG_ok hu hz hl
    obtain⟨x,r,r1,r2,r3,hk2⟩:=od hA hk1
    obtain⟨t',r',r4,hk3⟩:=hA.ucB _ _ hk2
    obtain⟨hr,hk4⟩:=hA.uc0 _ _ hk3
    simp only[if_true]at q2 q3
    rw[r4,hr,q2]at r1
    obtain⟨w1,w2⟩:=List.append_inj' r1 rfl
    simp only[qax,Value.bool.injEq,and_true]at w2
    have hv:=mE q1
    rw[w1]at hv
    refine sB hR ha (s:=.tup [x,.leaf (.b t')]) ⟨λy hy=>?_,qaf 2⟩ ho ?_ hk4
    ·simp only[qal,qbx,or_false]at hy
     rcases hy with rfl|rfl
     ·exact r3
     ·exact au trivial
    ·rw[h1,h2,q3,←pA r2 hv,w2];rfl
   ·exact absurd hk hA.fail
  ·exact absurd hk hA.fail
 ·exact absurd hk hA.fail
def muG_ok{C:Cfg}{t kt et:TM}{m k v:Value}{H:Ts}{n:Nat}{acts:List Act1}{cs:Tl}(hu:C.P.underlying t=some (.map kt et))(hv1:noLoc v=true)(hv2:aI v=false)
  (hl:muG C kt m k v (λi=>H[i]?) n=some (acts,cs)):cq C t m k v H=some (ge H acts,undef):=by
 unfold muG at hl
 simp only[lZ]at hl
 unfold cq
 split at hl
 next id=>
  rw[hu]
  simp only
  split at hl
  ·cases hl
  next hko=>
   have hko:eP C.P kt k=true:=qX (by simpa using hko)
   rw[qdE (by simp[hko,hv1,hv2])]
   rw[nr]at hl
   split at hl
   ·cases hl
   next es c hm=>
    simp only[hm]
    split at hl
    ·cases hl
    next hf=>
     rw[hf]
     cases hl;rfl
    next i hf=>
     rw[hf]
     simp only
     split at hl
     next hb=>
      rw[qdD hb]
      cases hl;rfl
     ·cases hl
 ·cases hl
def vO(hA:AlgOk A X.C Sg X.T holds abs)(hR:Rp ev σ)(ha:abs h=σ.heap){t:TM}{m k v:TH}(ho:o.op = .mapUpdate t m k v∨o.op = .insert t m k v)
  (hk:holds (match X.C.P.underlying t,sval ev m,sval0 ev k,sval0 ev v with
  |some (.map kt _),.st (.leaf (.v m)),some k,some v=>A.heap (.fn (muG X.C kt m k.val v.val)) h λ_ h=>setD o.dst .un ev h K
  |_,_,_,_=>A.fail)):Done X holds abs o σ K:=by
 split at hk
 next kt et mv kv vv hu e1 e2 e3=>
  obtain⟨h1,_⟩:=hR.sval e1 (by simp)
  obtain⟨h2,_⟩:=hR.sval0 e2
  obtain⟨h3,g3⟩:=hR.sval0 e3
  simp only[SV.val,S0.val,SL.val]at h1
  obtain⟨acts,cs,h',q1,q2,hk1⟩:=hA.heap _ _ _ hk
  simp only[Hp.run]at q1
  rw[ha]at q1 q2
  refine cY hR q2 (s:=.un) trivial (f:=cq X.C t mv kv.val vv.val) ?_ (muG_ok hu (S0.noLoc g3) (S0.not_tuple g3) q1) hk1
  rcases ho with ho|ho<;>simp only[am,ho,h1,h2,h3]
 ·exact absurd hk hA.fail
def meG_ok{C:Cfg}{t kt et:TM}{ag:Bool}{z m k:Value}{H:Ts}{n:Nat}{acts:List Act1}{cs:Tl}(hu:C.P.underlying t=some (.map kt et))(hz:dE C.P et=some z)
  (hl:meG C kt ag z m k (λi=>H[i]?) n=some (acts,cs)):∃v cs0 c,ez ag v=some cs0/\cs=cs0++[.int .i64 c]/\cp C t m k H=some (ge H acts,.tuple #[v,.int .i64 c]):=by
 unfold meG at hl
 simp only[lZ]at hl
 unfold cp
 split at hl
 next id=>
  rw[hu]
  simp only
  split at hl
  ·cases hl
  next hko=>
   have hko:¬(!eP C.P kt k)=true:=by
    have:=qX (P:=C.P) (kt:=kt) (k:=k) (by simpa using hko)
    simpa using this
   rw[qdE hko]
   rw[nr]at hl
   split at hl
   ·cases hl
   next es c hm=>
    simp only[hm]
    split at hl
    ·cases hl
    next hf=>
     rw[hf]
     simp only[hz]
     obtain⟨cs0,h1,h2⟩:=qad.1 hl
     cases h2
     exact⟨z,cs0,_,h1,rfl,rfl⟩
    next i hf=>
     rw[hf]
     simp only
     split at hl
     ·cases hl
     next e he=>
      rw[he]
      simp only
      split at hl
      next hb=>
       rw[qdD hb]
       obtain⟨cs0,h1,h2⟩:=qad.1 hl
       cases h2
       exact⟨e.val,cs0,_,h1,rfl,rfl⟩
      ·cases hl
 ·cases hl
def mapEn_ok(hA:AlgOk A X.C Sg X.T holds abs)(hR:Rp ev σ)(ha:abs h=σ.heap){t:TM}{m k:TH}{hs:TJ}(ho:o.op = .mapEntry t m k)
  (hk:holds (match X.C.P.underlying t,sval ev m,sval0 ev k with
  |some (.map kt et),.st (.leaf (.v m)),some k=>match dE X.C.P et with
   |some z=>match hs with
    | [sk,.leaf (.i .i64)]=>A.heap (.fn (meG X.C kt (iW sk) z m k.val)) h λcs h=>ucS A sk cs λx r=>A.ucI .i64 r λn r=>A.uc0 r (setD o.dst (.tup [x,.leaf (.i .i64 n)]) ev h K)
    |_=>A.fail
   |none=>A.fail
  |_,_,_=>A.fail)):Done X holds abs o σ K:=by
 split at hk
 next kt et mv kv hu e1 e2=>
  obtain⟨h1,_⟩:=hR.sval e1 (by simp)
  obtain⟨h2,_⟩:=hR.sval0 e2
  simp only[SV.val,S0.val,SL.val]at h1
  split at hk
  next z hz=>
   split at hk
   next sk=>
    obtain⟨acts,cs,h',q1,q2,hk1⟩:=hA.heap _ _ _ hk
    simp only[Hp.run]at q1
    rw[ha]at q1 q2
    obtain⟨v,cs0,c,w1,w2,w3⟩:=meG_ok hu hz q1
    obtain⟨x,r,r1,r2,r3,hk2⟩:=od hA hk1
    obtain⟨n,r',r4,hk3⟩:=hA.ucI _ _ _ hk2
    obtain⟨hr,hk4⟩:=hA.uc0 _ _ hk3
    rw[r4,hr,w2]at r1
    obtain⟨u1,u2⟩:=List.append_inj' r1 rfl
    simp only[qax,Value.int.injEq,true_and,and_true]at u2
    have hv:=mE w1
    rw[u1]at hv
    refine cY hR q2 (s:=.tup [x,.leaf (.i .i64 n)]) ⟨λy hy=>?_,qaf 2⟩ (f:=cp X.C t mv kv.val) ?_ ?_ hk4
    ·simp only[qal,qbx,or_false]at hy
     rcases hy with rfl|rfl
     ·exact r3
     ·exact au trivial
    ·simp only[am,ho,h1,h2]
    ·rw[w3,←pA r2 hv,u2];rfl
   ·exact absurd hk hA.fail
  ·exact absurd hk hA.fail
 ·exact absurd hk hA.fail
def esG_ok{m v:Value}{b:Int}{k:TI}{H:Ts}{n:Nat}{acts:List Act1}{cs:Tl}(hv1:noLoc v=true)(hv2:aI v=false)
  (hl:esG m b v (λi=>H[i]?) n=some (acts,cs)):cC m (.int k b) v H=some (ge H acts,undef):=by
 unfold esG at hl
 unfold cC
 split at hl
 next id=>
  simp only[Am.intOf]
  rw[qdE (by simp[hv1,hv2])]
  rw[nr]at hl
  split at hl
  ·cases hl
  next es c hm=>
   simp only[hm]
   split at hl
   next i hf=>
    rw[hf]
    cases hl;rfl
   ·cases hl
 ·cases hl
def entSt_ok(hA:AlgOk A X.C Sg X.T holds abs)(hR:Rp ev σ)(ha:abs h=σ.heap){t:TM}{m s v:TH}(ho:o.op = .entryStore t m s v)
  (hk:holds (match sval ev m,sval ev s,sval0 ev v with
  | .st (.leaf (.v m)),.st (.leaf (.i _ b)),some v=>A.heap (.fn (esG m b v.val)) h λ_ h=>setD o.dst .un ev h K
  |_,_,_=>A.fail)):Done X holds abs o σ K:=by
 split at hk
 next mv k b vv e1 e2 e3=>
  obtain⟨h1,_⟩:=hR.sval e1 (by simp)
  obtain⟨h2,_⟩:=hR.sval e2 (by simp)
  obtain⟨h3,g3⟩:=hR.sval0 e3
  simp only[SV.val,S0.val,SL.val]at h1 h2
  obtain⟨acts,cs,h',q1,q2,hk1⟩:=hA.heap _ _ _ hk
  simp only[Hp.run]at q1
  rw[ha]at q1 q2
  refine cY hR q2 (s:=.un) trivial (f:=cC mv (.int k b) vv.val) ?_ (esG_ok (S0.noLoc g3) (S0.not_tuple g3) q1) hk1
  simp only[am,ho,h1,h2,h3]
 ·exact absurd hk hA.fail
def deG_ok{C:Cfg}{t kt et:TM}{m k:Value}{H:Ts}{n:Nat}{acts:List Act1}{cs:Tl}(hu:C.P.underlying t=some (.map kt et))
  (hl:deG C kt m k (λi=>H[i]?) n=some (acts,cs)):dH C t m k H=some (ge H acts,undef):=by
 unfold deG at hl
 simp only[lZ]at hl
 unfold dH
 rw[hu]
 simp only
 split at hl
 ·cases hl
 next hko=>
  have hko:¬(!eP C.P kt k)=true:=by
   have:=qX (P:=C.P) (kt:=kt) (k:=k) (by simpa using hko)
   simpa using this
  rw[qdE hko]
  split at hl
  ·cases hl;rfl
  next id=>
   rw[nr]at hl
   split at hl
   ·cases hl
   next es c hm=>
    simp only[hm]
    split at hl
    ·cases hl
    next hf=>
     rw[hf];cases hl;rfl
    next i hf=>
     rw[hf];cases hl;rfl
  ·cases hl
end
end Sx
namespace Sx
section
variable [Val] [Kno] {R HT:Type} {A:Alg R HT} {X:Ctxt} {Sg:Tb} {holds:R->Prop} {abs:HT->Ts}
variable {ev:Env} {σ:St} {h:HT} {o:Oper} {K:KN R HT}
def slG_at(C:Cfg)(esz:Nat)(H:Ts)(x:Value):slG C esz (λi=>H[i]?) x=cI C H esz x:=rfl
def apG_ok{C:Cfg}{t e:TM}{info:TypeInfo}{s x:Value}{H:Ts}{acts:List Act1}{cs:Tl}(hu:C.P.underlying t=some (.slice e))(hi:C.P.info? e=some info)(h0:¬info.size=0)
  (hz:(jc info).isNone=false) (hl:apG C info.size info.bytes s x (λi=>H[i]?) H.length=some (acts,cs)):∃v,cs=[v]/\fg C t s x H=some (ge H acts,v):=by
 unfold apG at hl
 unfold fg
 simp only[hu,hi,qdE h0,hz,qao,if_false]
 rw[slG_at]at hl
 split at hl
 ·cases hl
 next new n hc=>
  simp only[hc]
  split at hl
  ·split at hl
   next hn=>
    simp only[qdD hn]
    cases hl
    exact⟨_,rfl,rfl⟩
   next hn=>
    simp only[qdE hn]
    split at hl
    next hs=>
     simp only[qdD hs]
     cases hl
     exact⟨_,rfl,rfl⟩
    ·cases hl
  next a len cx=>
   split at hl
   ·cases hl
   next hsp=>
    simp only[qdE hsp]
    split at hl
    next vs e' rw' hg=>
     simp only[hg]
     split at hl
     ·cases hl
     next he=>
      simp only[qdE he]
      split at hl
      ·cases hl
      next old hcut=>
       simp only[hcut]
       split at hl
       ·split at hl
        next hn=>
         simp only[qdD hn]
         cases hl
         exact⟨_,rfl,rfl⟩
        next hn=>
         simp only[qdE hn]
         split at hl
         next hb=>
          simp only[qdD hb]
          cases hl
          refine⟨_,rfl,?_⟩
          simp[ge,Act1.on]
         ·cases hl
       next cap=>
        split at hl
        next hle=>
         simp only[qdD hle]
         split at hl
         next hrw=>
          simp only[qdD hrw]
          obtain⟨vs',q1,q2⟩:=qad.1 hl
          cases q2
          exact⟨_,rfl,by simp only[q1];rfl⟩
         next hrw=>
          simp only[qdE hrw]
          split at hl
          next hn=>
           simp only[qdD hn]
           cases hl
           exact⟨_,rfl,rfl⟩
          ·cases hl
        next hle=>
         simp only[qdE hle]
         split at hl
         next hb=>
          simp only[qdD hb]
          cases hl
          exact⟨_,rfl,rfl⟩
         ·cases hl
    ·cases hl
  ·cases hl
def cpG_ok{C:Cfg}{t e:TM}{d x:Value}{H:Ts}{n:Nat}{acts:List Act1}{cs:Tl}(hu:C.P.underlying t=some (.slice e))(h0:¬C.P.cellsOf e=0)
  (hl:cpG C (C.P.cellsOf e) d x (λi=>H[i]?) n=some (acts,cs)):∃v,cs=[v]/\mJ C t d x H=some (ge H acts,v):=by
 unfold cpG at hl
 unfold mJ
 rw[hu]
 split at hl
 ·simp only[qdE h0]
  rw[slG_at]at hl
  obtain⟨y,q1,q2⟩:=qad.1 hl
  cases q2
  exact⟨_,rfl,by simp only[q1];rfl⟩
 next a dlen cx=>
  simp only[qdE h0]
  split at hl
  ·cases hl
  next hsp=>
   simp only[qdE hsp]
   rw[slG_at]at hl
   split at hl
   next new m vs e' hc hg=>
    simp only[hc,hg]
    split at hl
    ·cases hl
    next he=>
     simp only[qdE he]
     obtain⟨y,q1,q2⟩:=qad.1 hl
     cases q2
     exact⟨_,rfl,by simp only[q1];rfl⟩
   ·cases hl
 ·cases hl
def clG_ok{C:Cfg}{t e:TM}{x:Value}{z:S0}{H:Ts}{n:Nat}{acts:List Act1}{cs:Tl}(hu:C.P.underlying t=some (.slice e))(h0:¬C.P.cellsOf e=0)(hz:ve C.P e=some z)
  (hl:clG (C.P.cellsOf e) (z.cells.map SL.val) x (λi=>H[i]?) n=some (acts,cs)):gz C t x H=some (ge H acts,undef):=by
 obtain⟨zv,z1,z2,z3⟩:=rU hz
 have hzc:z.cells.map SL.val=zv.cells.toList:=by rw[←z2,S0.cells_val z3]
 unfold clG at hl
 unfold gz
 rw[hu]
 split at hl
 ·cases hl;rfl
 next a m cx=>
  simp only[qdE h0]
  split at hl
  ·cases hl
  next hsp=>
   simp only[qdE hsp]
   split at hl
   next vs e' hg=>
    simp only[hg,z1]
    split at hl
    ·cases hl
    next he=>
     simp only[qdE he]
     rw[hzc]at hl
     obtain⟨y,q1,q2⟩:=qad.1 hl
     cases q2
     simp only[q1];rfl
   ·cases hl
 ·cases hl
def rK(hA:AlgOk A X.C Sg X.T holds abs){dst:To}{sk:SK}(hs:iW sk=false){v:Value}(hk:holds (setC A dst sk [v] ev h K)):∃x:S0,x.val=v/\x.good/\holds (setD dst (.st x) ev h K):=
 kT hA (.inr ⟨hs,rfl⟩) hk
def wV(hA:AlgOk A X.C Sg X.T holds abs)(hR:Rp ev σ)(ha:abs h=σ.heap){c:Call}{b:Builtin}{xs:List S0}{sk:SK}(ho:o.op = .call c)(hb:c.callee = .builtin b)(hx:svals ev c.args.toList=some xs)
  (hk:holds (lQ A X o.dst sk b xs c.argTypes ev h K)):Done X holds abs o σ K:=by
 obtain⟨hv,hg⟩:=hR.svals hx
 have heff:am X.C X.pts (oval σ.tmps) o=aW X.C (oval σ.tmps) b (ai xs) c.argTypes o:=by
  simp only[am,ho,fH,hb,hv]
 have hargs:∀ys:List S0,(∀y∈ys,∀l∈y.cells,l.nv)->ys=xs->c.args.toList.all (λx=>plain (oval σ.tmps x))=true/\c.args.map (λx=>den (oval σ.tmps x))=⟨ai xs⟩:=by
  intro ys hy e
  subst e
  have h1:∀v∈c.args.toList.map (oval σ.tmps),plain v=true/\den v=v:=by
   rw[hv]
   intro v hm
   simp only[ai,qaU]at hm
   obtain⟨y,hm,rfl⟩:=hm
   exact rj (hy y hm)
  refine⟨?_,?_⟩
  ·rw[qag]
   intro x hx
   exact(h1 _ (qaU.2 ⟨x,hx,rfl⟩)).1
  ·apply qa7.1
   rw[qbw,←hv]
   exact qbF λx hx=>(h1 _ (qaU.2 ⟨x,hx,rfl⟩)).2
 unfold lQ at hk
 split at hk
 next s x t ht=>
  split at hk
  next e hu=>
   split at hk
   next info hi=>
    split at hk
    ·exact absurd hk hA.fail
    next hc=>
     simp only[qb8]at hc
     obtain⟨⟨⟨c1,c2⟩,c3⟩,c4⟩:=hc
     have c1:¬info.size=0:=λe=>by rw[e]at c1;cases c1
     obtain⟨acts,cs,h',q1,q2,hk1⟩:=hA.heap _ _ _ hk
     simp only[Hp.run]at q1
     rw[ha]at q1 q2
     obtain⟨v,rfl,q3⟩:=apG_ok hu hi c1 c2 q1
     obtain⟨y,rfl,g,hk2⟩:=rK hA rfl hk1
     refine cY hR q2 (s:=.st y) g (f:=fg X.C t s x) ?_ q3 hk2
     rw[heff]
     simp only[aW,ai,qas,qbk,S0.val,SL.val,ht]
     refine qdE λhcon=>?_
     have hcon:((c.argTypes[1]?.any λu=>(X.C.P.underlying u) matches some (.int _)|none)||c.argTypes[1]?.isNone)=true:=hcon
     rw[qbs]at hcon
     rcases hcon with hcon|hcon
     ·exact absurd (hcon.symm.trans c3) (by simp)
     ·exact absurd (hcon.symm.trans c4) (by simp)
   ·exact absurd hk hA.fail
  ·exact absurd hk hA.fail
 next x t ht=>
  split at hk
  next e x' hu=>
   obtain⟨n,hn,hk1⟩:=hA.opt _ _ hk
   unfold lenS at hn
   split at hn
   next a m cx=>
    cases hn
    refine aB hR ha (s:=.st (.leaf (.i .i64 _))) (au trivial) ?_ hk1
    rw[heff]
    simp only[aW,ai,qas,qbk,S0.val,SL.val,ht,hu];rfl
   ·cases hn
  next kt et x' hu=>
   obtain⟨cs,hl,hk1⟩:=hA.peek _ _ _ hk
   simp only[Pk.run]at hl
   rw[ha]at hl
   unfold lenM at hl
   split at hl
   next id=>
    split at hl
    next es ck hgt=>
     cases hl
     obtain⟨y,hy,g,hk2⟩:=rK hA rfl hk1
     refine gD hR ha (s:=.st y) g (f:=λH=>(hmap H id).map λp=>.int .i64 p.1.length) ?_ ?_ hk2
     ·rw[heff]
      simp only[aW,ai,qas,qbk,S0.val,SL.val,ht,hu]
     ·simp only[hmap,hgt,qaC,SV.val,hy]
    ·cases hl
   ·cases hl
  next n el hu=>
   refine aB hR ha (s:=.st (.leaf (.i .i64 _))) (au trivial) ?_ hk
   rw[heff]
   simp only[aW,ai,qas,qbk,ht,hu];rfl
  ·exact absurd hk hA.fail
 next x t ht=>
  split at hk
  next e x' hu=>
   obtain⟨n,hn,hk1⟩:=hA.opt _ _ hk
   unfold capS at hn
   split at hn
   ·cases hn
    refine aB hR ha (s:=.st (.leaf (.i .i64 _))) (au trivial) ?_ hk1
    rw[heff]
    simp only[aW,ai,qas,qbk,S0.val,SL.val,ht,hu];rfl
   ·cases hn
    refine aB hR ha (s:=.st (.leaf (.i .i64 _))) (au trivial) ?_ hk1
    rw[heff]
    simp only[aW,ai,qas,qbk,S0.val,SL.val,ht,hu];rfl
   ·cases hn
  next n el hu=>
   refine aB hR ha (s:=.st (.leaf (.i .i64 _))) (au trivial) ?_ hk
   rw[heff]
   simp only[aW,ai,qas,qbk,ht,hu];rfl
  ·exact absurd hk hA.fail
 next s x t ht=>
  split at hk
  next e hu=>
   split at hk
   ·exact absurd hk hA.fail
   next hz=>
    have hz:¬X.C.P.cellsOf e=0:=λe=>by rw[e]at hz;cases hz
    obtain⟨acts,cs,h',q1,q2,hk1⟩:=hA.heap _ _ _ hk
    simp only[Hp.run]at q1
    rw[ha]at q1 q2
    obtain⟨v,rfl,q3⟩:=cpG_ok hu hz q1
    obtain⟨y,rfl,g,hk2⟩:=rK hA rfl hk1
    refine cY hR q2 (s:=.st y) g (f:=mJ X.C t s x) ?_ q3 hk2
    rw[heff]
    simp only[aW,ai,qas,qbk,S0.val,SL.val,ht]
  ·exact absurd hk hA.fail
 next m k t ht=>
  split at hk
  next kt et hu=>
   obtain⟨acts,cs,h',q1,q2,hk1⟩:=hA.heap _ _ _ hk
   simp only[Hp.run]at q1
   rw[ha]at q1 q2
   refine cY hR q2 (s:=.un) trivial (f:=dH X.C t m k.val) ?_ (deG_ok hu q1) hk1
   rw[heff]
   simp only[aW,ai,qas,qbk,S0.val,SL.val,ht]
  ·exact absurd hk hA.fail
 next s t ht=>
  split at hk
  next e hu=>
   split at hk
   next z hz0 hz=>
    have hz0:¬X.C.P.cellsOf e=0:=λe=>by rw[e]at hz0;cases hz0
    obtain⟨acts,cs,h',q1,q2,hk1⟩:=hA.heap _ _ _ hk
    simp only[Hp.run]at q1
    rw[ha]at q1 q2
    refine cY hR q2 (s:=.un) trivial (f:=gz X.C t s) ?_ (clG_ok hu hz0 hz q1) hk1
    rw[heff]
    simp only[aW,ai,qas,qbk,S0.val,SL.val,ht]
   ·exact absurd hk hA.fail
  ·exact absurd hk hA.fail
 next k a k' b'=>
  split at hk
  next hkk=>
   have hkk:=dA hkk
   subst hkk
   obtain⟨t,h1,hk1⟩:=hA.cmp _ _ _ _ hk
   have hk2:=hA.sel _ _ _ _ hk1
   simp only[oP,qaq]at h1
   subst h1
   obtain⟨p1,p2⟩:=hargs _ (λy hy l hl=>by
    simp only[qal,qbx,or_false]at hy
    rcases hy with rfl|rfl<;>(simp only[S0.cells,qam]at hl;subst hl;trivial)) rfl
   refine cj hR ha (s:=.st (.leaf (.i k _))) (au trivial) ⟨by rw[ho];rfl,?_,rfl,λw=>?_⟩ hk2
   ·rw[ho];simp only[Op.operands,Call.operands,hb];simpa using p1
   ·simp only[execOp,ho,resolve,hb,Sem.run_bind,p2]
    simp only[Sem.run_pure,Result.andThen_ok,invoke,builtin,ai,qas,qbk,S0.val,SL.val,Sem.run_bind]
    rw[show(⟨[Value.int k a,Value.int k b']⟩ : Array Value) = #[Value.int k a,Value.int k b']from rfl,run_min_int2]
    simp[SV.val,S0.val,SL.val,den,den1]
  ·exact absurd hk hA.fail
 next k a k' b'=>
  split at hk
  next hkk=>
   have hkk:=dA hkk
   subst hkk
   obtain⟨t,h1,hk1⟩:=hA.cmp _ _ _ _ hk
   have hk2:=hA.sel _ _ _ _ hk1
   simp only[oP,qaq]at h1
   subst h1
   obtain⟨p1,p2⟩:=hargs _ (λy hy l hl=>by
    simp only[qal,qbx,or_false]at hy
    rcases hy with rfl|rfl<;>(simp only[S0.cells,qam]at hl;subst hl;trivial)) rfl
   refine cj hR ha (s:=.st (.leaf (.i k _))) (au trivial) ⟨by rw[ho];rfl,?_,rfl,λw=>?_⟩ hk2
   ·rw[ho];simp only[Op.operands,Call.operands,hb];simpa using p1
   ·simp only[execOp,ho,resolve,hb,Sem.run_bind,p2]
    simp only[Sem.run_pure,Result.andThen_ok,invoke,builtin,ai,qas,qbk,S0.val,SL.val,Sem.run_bind]
    rw[show(⟨[Value.int k a,Value.int k b']⟩ : Array Value) = #[Value.int k a,Value.int k b']from rfl,run_max_int2]
    simp[SV.val,S0.val,SL.val,den,den1]
  ·exact absurd hk hA.fail
 ·exact absurd hk hA.fail
end
end Sx
namespace Sx
section
variable [Val] [Kno] {R HT:Type} {A:Alg R HT} {X:Ctxt} {Sg:Tb} {holds:R->Prop} {abs:HT->Ts}
variable {ev:Env} {σ:St} {h:HT} {o:Oper} {K:KN R HT}
def lfsOf_one(x:S0):cb [x]=x.cells.map SL.lf:=by simp[cb]
def uV(hA:AlgOk A X.C Sg X.T holds abs)(hR:Rp ev σ){sks:TJ}{rs:TE}{ys:List S0}(hy:Told sks rs ys){H':Ts}(ha:abs h=H')
  (hst:StepO X.C X.pts o σ (({ σ with heap:=H' }:St).put o.dst (fz (ai ys)))) (hk:holds (setR A o.dst sks rs ev h K)):Done X holds abs o σ K:=by
 obtain⟨y1,rfl,y3⟩:=hy
 unfold setR at hk
 split at hk
 next sk=>
  obtain⟨x,r,e1,e2,hk1⟩:=unS_ok hA hk
  obtain⟨hr,hk2⟩:=hA.un0 _ _ hk1
  rw[hr,qa6]at e1
  match ys,y1 with
  | [y],y1=>
   simp only[bZ,qdz]at y1
   rw[lfsOf_one]at e1
   obtain⟨v1,v2⟩:=S0.is_val y1 e2 e1
   refine dw hR H' ha (s:=.st x) (v2 (y3 y (by simp))) ?_ hk2
   rw[show(SV.st x).val=fz (ai [y])from by simp[SV.val,ai,fz,v1]]
   exact hst
  | [],y1=>cases y1
  |_ :: _ :: _,y1=>simp[bZ]at y1
 ·obtain⟨hr,hk1⟩:=hA.un0 _ _ hk
  match ys,y1 with
  | [],_=>exact dw hR H' ha (s:=.un) trivial hst hk1
  |_ :: _,y1=>cases y1
 next h1 h2=>
  obtain⟨xs,r,e1,e2,hk1⟩:=oe hA hk
  obtain⟨hr,hk2⟩:=hA.un0 _ _ hk1
  rw[hr,qa6]at e1
  obtain⟨v1,v2⟩:=cF y1 e2 e1
  have hlen:2<=xs.length:=by
   match xs,e2 with
   | [],e2=>cases sks with
    |nil=>exact absurd rfl h2
    |cons _ _=>cases e2
   | [x],e2=>cases sks with
    |nil=>exact absurd rfl h2
    |cons a l=>cases l with
     |nil=>exact absurd rfl (h1 _)
     |cons _ _=>simp[bZ]at e2
   |_ :: _ :: _,_=>simp
  refine dw hR H' ha (s:=.tup xs) ⟨v2 y3,hlen⟩ ?_ hk2
  have:(SV.tup xs).val=fz (ai ys):=by
   rw[v1]
   match xs,hlen with
   |a :: b :: l,_=>rfl
  rw[this]
  exact hst
def all_noLoc{xs:List S0}(hg:∀x∈xs,x.good):(ai xs).all noLoc=true:=by
 simp only[ai,qag,qaU]
 rintro _ ⟨x,hx,rfl⟩
 exact S0.noLoc (hg x hx)
def call_ok(hA:AlgOk A X.C Sg X.T holds abs)(hR:Rp ev σ)(ha:abs h=σ.heap){c:Call}{hs:TJ}(ho:o.op = .call c)
  (hk:holds (match svals ev c.args.toList with
  |some xs=>match c.callee with
   | .builtin b=>lQ A X o.dst (lL hs) b xs c.argTypes ev h K
   | .value f=>match sval ev f with
    | .st (.leaf (.v v))=>match f with
     | .func g=>match Sg g with
      |some sg=>match bZ xs sg.ps with
       |true=>A.call g (cb xs) h λrs h=>setR A o.dst sg.rs rs ev h K
       |false=>A.fail
      |none=>A.fail
     |_=>A.callv v (ai xs) hs h λrs h=>setR A o.dst hs rs ev h K
    |_=>A.fail
   |_=>A.fail
  |none=>A.fail)):Done X holds abs o σ K:=by
 split at hk
 next xs hx=>
  obtain⟨hv,hg⟩:=hR.svals hx
  have hnl:=all_noLoc hg
  split at hk
  next b hb=>
   exact wV hA hR ha ho hb hx hk
  next f hc=>
   split at hk
   next v hf=>
    obtain⟨h1,g1⟩:=hR.sval hf (by simp)
    simp only[SV.val,S0.val,SL.val]at h1
    have gv:aS v=true:=g1 (.v v) (by simp[S0.cells])
    have heff:∀ {g:TN} {first cap:Tj},v = .func (.func g) first cap->am X.C X.pts (oval σ.tmps) o=some (.call g (first.toList++ai xs++cap.toList)):=by
     intro g first cap e
     subst e
     simp only[am,ho,fH,hc,hv,hnl,h1,(dR.1 gv).1,qaI,qao,if_false,if_true]
    split at hk
    next g=>
     have e:v = .func (.func g) #[] #[]:=by
      have:=h1
      simp only[oval]at this
      exact this.symm
     split at hk
     next sg hsg=>
      split at hk
      next hps=>
       obtain⟨rs,h',⟨sg',xs',ys,c1,⟨c2,c3,c4⟩,c5,c6⟩,hk1⟩:=hA.call _ _ _ _ hk
       rw[hsg]at c1
       cases c1
       obtain⟨v1,_⟩:=cF hps c2 c3.symm
       rw[ha]at c6
       refine uV hA hR c5 rfl (.inl ⟨_,heff e,fz (ai ys),abs h',?_,rfl⟩) hk1
       rw[v1]
       show iy X.C g _ _ _ _
       simpa using c6
      ·exact absurd hk hA.fail
     ·exact absurd hk hA.fail
    ·obtain⟨rs,h',⟨ys,c1,c2⟩,hk1⟩:=hA.callv _ _ _ _ _ hk
     rw[ha]at c2
     rcases c2 with⟨g,first,cap,e,c2⟩|⟨l,e,c2⟩
     ·exact uV hA hR c1 rfl (.inl ⟨_,heff e,fz (ai ys),abs h',c2,rfl⟩) hk1
     ·have heff2:am X.C X.pts (oval σ.tmps) o=some (.yield l (ai xs)):=by
       subst e
       simp only[am,ho,fH,hc,hv,hnl,h1,qaI,qao,if_false]
       rfl
      exact uV hA hR c1 rfl (.inl ⟨_,heff2,fz (ai ys),abs h',c2,rfl⟩) hk1
   ·exact absurd hk hA.fail
  ·exact absurd hk hA.fail
 ·exact absurd hk hA.fail
def opE_ok(hA:AlgOk A X.C Sg X.T holds abs)(hR:Rp ev σ)(ha:abs h=σ.heap){hs:TJ}(hk:holds (opE A X Sg o hs ev h K)):Done X holds abs o σ K:=by
 unfold opE at hk
 split at hk
 next x ho=>
  split at hk
  ·exact absurd hk hA.fail
  next hn=>exact move_ok hR ha (.inl ho) rfl (λe=>hn e) hk
 next x ho=>
  split at hk
  ·exact absurd hk hA.fail
  next hn=>exact move_ok hR ha (.inr ho) rfl (λe=>hn e) hk
 next c a b ho=>exact pick_ok hA hR ha ho hk
 next t ho=>
  split at hk
  next x hx=>
   obtain⟨z,h1,h2,h3⟩:=rU hx
   exact newV_ok hA hR ha h3 (by simp only[am,ho,h1,qak,h2]) (.inr ho) hk
  ·exact absurd hk hA.fail
 next t y ho=>
  split at hk
  next x hx=>
   obtain⟨h1,h2⟩:=hR.sval hx (by simp)
   exact newV_ok hA hR ha h2 (by simp only[am,ho,h1];rfl) (.inl ⟨y,ho⟩) hk
  ·exact absurd hk hA.fail
 next t ps ho=>exact build_ok hA hR ha ho hk
 next t n ps ho=>exact qx hA hR ha ho hk
 next t a ho=>
  split at hk
  next agg hag=>
   split at hk
   next hb=>exact load_ok hA hR ha ho hag (eqB_eq hb) hk
   ·exact absurd hk hA.fail
  ·exact absurd hk hA.fail
 next t a y ho=>
  split at hk
  next x hx=>exact store_ok hA hR ha ho hx hk
  ·exact absurd hk hA.fail
 next x ho=>exact uI hA hR ha ho hk
 next op t x y yt ho=>
  split at hk
  next a b e1 e2=>exact bin_ok hA hR ha ho e1 e2 hk
  ·exact absurd hk hA.fail
 next op t x ho=>exact un_ok hA hR ha ho hk
 next sT dT x ho=>exact conv_ok hA hR ha ho hk
 next fn first cap ho=>exact uG hA hR ha ho hk
 next t r ho=>exact kC hA hR ha ho hk
 next t l c ho=>exact tr hA hR ha ho hk
 next t x lo hi mx ho=>exact sliceE_ok hA hR ha ho hk
 next t x f ho=>exact sK hA hR ha ho hk
 next t x i ho=>exact sV hA hR ha ho hk
 next t x f ho=>exact field_ok hA hR ha ho hk
 next t x i ho=>exact index_ok hA hR ha ho hk
 next t m k ok ho=>exact look_ok hA hR ha ho hk
 next t m k v ho=>exact vO hA hR ha (.inl ho) hk
 next t m k v ho=>exact vO hA hR ha (.inr ho) hk
 next t m k ho=>exact mapEn_ok hA hR ha ho hk
 next t m s v ho=>exact entSt_ok hA hR ha ho hk
 next t i ho=>exact xi hA hR ha ho hk
 next c ho=>exact call_ok hA hR ha ho hk
 ·exact absurd hk hA.fail
def DoneI(X:Ctxt)(holds:R->Prop)(abs:HT->Ts)(ops:Tm)(i:Nat)(o:Oper)(σ:St)(K:KN R HT):Prop:=
 ∃σ' ev' h',aj X.C (uB X.C) X.pts ops i σ σ'/\Rp ev' σ'/\abs h'=σ'.heap/\Fr o.dst.toList (tB X.pts o).toList (iT X.pts o).toList σ σ'/\holds (K ev' h')
def rp_guard(hR:Rp ev σ){d:Nat}{t:Bool}(hd:ev.tm.getD d .no = .st (.leaf (.b t))):Rp ⟨ev.tm.set d (.st (.leaf (.l t))),ev.lc⟩ σ:=by
 obtain⟨h1,_⟩:=hR.at hd (by simp)
 refine⟨by simp[hR.len],λi x hx=>?_,hR.llen,hR.row⟩
 simp only[qa2]at hx
 split at hx
 next hi=>
  subst hi
  split at hx
  ·cases hx;exact⟨h1,au trivial⟩
  ·cases hx
 ·exact hR.val i x hx
def opG_ok(hA:AlgOk A X.C Sg X.T holds abs)(hR:Rp ev σ)(ha:abs h=σ.heap){ops:Tm}{i:Nat}{hs:TJ}(hi:ops[i]?=some o)(hk:holds (opG A X Sg ops o hs ev h K)):DoneI X holds abs ops i o σ K:=by
 have wanted:∀ {ev:Env},Rp ev σ->cg ops σ.tmps o=some true->holds (opE A X Sg o hs ev h K)->DoneI X holds abs ops i o σ K:=by
  intro ev hR hw hk
  obtain⟨σ',ev',h',q1,q2,q3,q4,q5⟩:=opE_ok hA hR ha hk
  exact⟨σ',ev',h',by unfold aj;simp only[hi,hw];exact q1,q2,q3,q4,q5⟩
 have unwanted:∀ {ev:Env},Rp ev σ->cg ops σ.tmps o=some false->holds (setD o.dst .un ev h K)->DoneI X holds abs ops i o σ K:=by
  intro ev hR hw hk
  obtain⟨ev',h1,h2⟩:=uU hR (s:=.un) trivial hk
  refine⟨σ.put o.dst undef,ev',h,by unfold aj;simp only[hi,hw],h1,?_,.put _ _ _ _,h2⟩
  rw[ha];cases o.dst<;>rfl
 unfold opG at hk
 split at hk
 next hg=>
  exact wanted hR (by simp only[cg,hg]) hk
 next j want hg=>
  split at hk
  next d hd=>
   split at hk
   next b hb=>
    obtain⟨h1,_⟩:=hR.at hb (by simp)
    have hw:cg ops σ.tmps o=some (b==want):=by
     simp only[cg,hg,hd,qak,h1];rfl
    split at hk
    next e=>exact wanted hR (by rw[hw,e]) hk
    next e=>exact unwanted hR (by rw[hw,e]) hk
   next hb=>
    obtain⟨h1,_⟩:=hR.at hb (by simp)
    have hw:cg ops σ.tmps o=some false:=by
     simp only[cg,hg,hd,qak,h1];rfl
    exact unwanted hR hw hk
   next t hb=>
    obtain⟨h1,_⟩:=hR.at hb (by simp)
    have hw:cg ops σ.tmps o=some (t==want):=by
     simp only[cg,hg,hd,qak,h1];rfl
    have hR':=rp_guard hR hb
    split at hk
    ·rcases hA.cond _ _ _ hk with⟨ht,hk1⟩|⟨ht,hk1⟩
     ·rw[setK_eq]at hk1
      subst ht
      exact wanted hR' hw hk1
     ·rw[setK_eq]at hk1
      subst ht
      exact unwanted hR' hw hk1
    ·rcases hA.cond _ _ _ hk with⟨ht,hk1⟩|⟨ht,hk1⟩
     ·rw[setK_eq]at hk1
      subst ht
      exact unwanted hR' hw hk1
     ·rw[setK_eq]at hk1
      subst ht
      exact wanted hR' hw hk1
   ·exact absurd hk hA.fail
  ·exact absurd hk hA.fail
def wsOf(l:Tv):TB:=l.filterMap (·.dst)
def ksOf(pts:TB)(l:Tv):TB:=l.filterMap (tB pts)
def rsOf(pts:TB)(l:Tv):TB:=l.filterMap (iT pts)
def cT{f:Oper->Tp}{o:Oper}{l:Tv}(ho:o∈l):∀i∈(f o).toList,i∈l.filterMap f:=by
 intro i hi
 rw[qbE]
 exact⟨o,ho,by simpa using hi⟩
def mi(hA:AlgOk A X.C Sg X.T holds abs){ops:Tm}:∀(l:Tv) (i:Nat) (hs:List (TJ)) (ev:Env) (h:HT) (σ:St),l <+: ops.toList.drop i->Rp ev σ->abs h=σ.heap->holds (opsE A X Sg ops l hs ev h K)->
  ∃σ' ev' h',bk X.C (uB X.C) X.pts ops (List.range' i l.length) σ σ'/\Rp ev' σ'/\abs h'=σ'.heap/\Fr (wsOf l) (ksOf X.pts l) (rsOf X.pts l) σ σ'/\holds (K ev' h')
 | [],i,hs,ev,h,σ,_,hR,ha,hk=>⟨σ,ev,h,rfl,hR,ha,.refl _ _ _ _,hk⟩
 |o :: l,i,hs,ev,h,σ,hl,hR,ha,hk=>by
  have hi:ops[i]?=some o:=by
   obtain⟨t,hl⟩:=hl
   have:(ops.toList.drop i)[0]?=some o:=by rw[←hl];rfl
   simpa using this
  obtain⟨σ₁,ev₁,h₁,q1,q2,q3,q4,q5⟩:=opG_ok (K:=λev h=>opsE A X Sg ops l hs.tail ev h K) hA hR ha hi hk
  have hl':l <+: ops.toList.drop (i+1):=by
   obtain⟨t,hl⟩:=hl
   exact⟨t,by rw[←qbU,←hl];rfl⟩
  obtain⟨σ',ev',h',p1,p2,p3,p4,p5⟩:=mi hA l (i+1) hs.tail ev₁ h₁ σ₁ hl' q2 q3 q5
  refine⟨σ',ev',h',⟨σ₁,q1,p1⟩,p2,p3,?_,p5⟩
  have f1:Fr (wsOf (o :: l)) (ksOf X.pts (o :: l)) (rsOf X.pts (o :: l)) σ σ₁:=q4.mono (cT (by simp)) (cT (by simp)) (cT (by simp))
  have sub:∀(f:Oper->Tp) (i:Nat),i∈l.filterMap f->i∈(o :: l).filterMap f:=by
   intro f i hi
   rw[qbE]at hi ⊢
   obtain⟨x,hx,e⟩:=hi
   exact⟨x,by simp[hx],e⟩
  exact f1.trans (p4.mono (sub _) (sub _) (sub _))
def opsE_ok(hA:AlgOk A X.C Sg X.T holds abs){ops:Tm}(l:Tv)(i:Nat)(hs:List (TJ))(ev:Env)(h:HT)(σ:St)(hl:ops.toList.drop i=l)(hR:Rp ev σ)(ha:abs h=σ.heap)(hk:holds (opsE A X Sg ops l hs ev h K)) :
  ∃σ' ev' h',bk X.C (uB X.C) X.pts ops (List.range' i l.length) σ σ'/\Rp ev' σ'/\abs h'=σ'.heap/\Fr (wsOf l) (ksOf X.pts l) (rsOf X.pts l) σ σ'/\holds (K ev' h'):=
 mi hA l i hs ev h σ (hl▸List.prefix_refl _) hR ha hk
end
end Sx
namespace Sx
section
variable [Val] [Kno] {R HT:Type} {A:Alg R HT} {X:Ctxt} {Sg:Tb} {holds:R->Prop} {abs:HT->Ts}
def clrT_eq(ws ks:TB):∀(l:List SV) (i:Nat) (K:List SV->R),∃l',clrT ws ks l i K=K l'/\l'.length=l.length/\
  ∀(j:Nat) s,l'[j]?=some s->s = .no∨(l[j]?=some s/\¬ws.contains (i+j)=true/\s.inRows ks=false)
 | [],i,K=>⟨[],rfl,rfl,λj s h=>by simp at h⟩
 |x :: l,i,K=>by
  obtain⟨l',h1,h2,h3⟩:=clrT_eq ws ks l (i+1) λl=>match ws.contains i||x.inRows ks with
   |true=>K (.no :: l)
   |false=>K (x :: l)
  have hr:∀(j:Nat) s,l'[j]?=some s->s = .no∨((x :: l)[j+1]?=some s/\¬ws.contains (i+(j+1))=true/\s.inRows ks=false):=by
   intro j s hs
   have:=h3 j s hs
   rw[show i+1+j=i+(j+1)by omega]at this
   simpa using this
  have h1':clrT ws ks (x :: l) i K=(match ws.contains i||x.inRows ks with
   |true=>K (.no :: l')
   |false=>K (x :: l')):=h1
  cases hc:ws.contains i||x.inRows ks with
  |true=>
   refine⟨.no :: l',by rw[h1',hc],by simp[h2],λj s hs=>?_⟩
   cases j with
   |zero=>simp at hs;exact .inl hs.symm
   |succ j=>exact hr j s (by simpa using hs)
  |false=>
   simp only[qb8]at hc
   refine⟨x :: l',by rw[h1'];simp only[hc,Bool.or_self],by simp[h2],λj s hs=>?_⟩
   cases j with
   |zero=>
    simp at hs
    subst hs
    exact .inr ⟨rfl,by rw[qca,hc.1];exact Bool.false_ne_true,hc.2⟩
   |succ j=>exact hr j s (by simpa using hs)
def rG(r r0:LR):Prop:=r = .unk∨(∃n,r = .any n/\(r0 = .any n∨∃cs,r0 = .row cs/\cs.length=n))
def clrR_eq(ws ks:TB)(nw:LR):∀(l:List LR) (i:Nat) (K:List LR->R),∃l',clrR ws ks nw l i K=K l'/\l'.length=l.length/\
  ∀(j:Nat) r,l'[j]?=some r->(ks.contains (i+j)=true/\r=nw)∨(ks.contains (i+j)=false/\ws.contains (i+j)=true/\∃r0,l[j]?=some r0/\rG r r0)∨
   (ks.contains (i+j)=false/\ws.contains (i+j)=false/\l[j]?=some r)
 | [],i,K=>⟨[],rfl,rfl,λj s h=>by simp at h⟩
 |x :: l,i,K=>by
  obtain⟨l',h1,h2,h3⟩:=clrR_eq ws ks nw l (i+1) λl=>match ks.contains i,ws.contains i with
   |true,_=>K (nw :: l)
   |false,true=>(match x with
    | .row cs=>qP cs.length λn=>K (.any n :: l)
    | .any n=>K (.any n :: l)
    |_=>K (.unk :: l))
   |false,false=>K (x :: l)
  have hr:∀(j:Nat) r,l'[j]?=some r->(ks.contains (i+(j+1))=true/\r=nw)∨(ks.contains (i+(j+1))=false/\ws.contains (i+(j+1))=true/\∃r0,(x :: l)[j+1]?=some r0/\rG r r0)∨
   (ks.contains (i+(j+1))=false/\ws.contains (i+(j+1))=false/\(x :: l)[j+1]?=some r):=by
   intro j s hs
   have:=h3 j s hs
   rw[show i+1+j=i+(j+1)by omega]at this
   simpa using this
  have fin:∀y:LR,clrR ws ks nw (x :: l) i K=K (y :: l')->((ks.contains i=true/\y=nw)∨(ks.contains i=false/\ws.contains i=true/\rG y x)∨(ks.contains i=false/\ws.contains i=false/\y=x))->
    ∃l',clrR ws ks nw (x :: l) i K=K l'/\l'.length=(x :: l).length/\∀(j:Nat) r,l'[j]?=some r->(ks.contains (i+j)=true/\r=nw)∨(ks.contains (i+j)=false/\ws.contains (i+j)=true/\∃r0,(x :: l)[j]?=some r0/\rG r r0)∨
     (ks.contains (i+j)=false/\ws.contains (i+j)=false/\(x :: l)[j]?=some r):=by
   intro y hy hc
   refine⟨y :: l',hy,by simp[h2],λj r hs=>?_⟩
   cases j with
   |zero=>
    simp at hs
    subst hs
    rcases hc with hc|⟨a,b,c⟩|⟨a,b,c⟩
    ·exact .inl hc
    ·exact .inr (.inl ⟨a,b,x,rfl,c⟩)
    ·exact .inr (.inr ⟨a,b,by rw[c];rfl⟩)
   |succ j=>exact hr j r (by simpa using hs)
  cases hk:ks.contains i with
  |true=>exact fin nw (by show _=_;refine h1.trans ?_;simp only[hk]) (.inl ⟨hk,rfl⟩)
  |false=>
   cases hw:ws.contains i with
   |false=>exact fin x (by refine h1.trans ?_;simp only[hk,hw]) (.inr (.inr ⟨hk,hw,rfl⟩))
   |true=>
    cases x with
    |row cs=>exact fin (.any cs.length) (by refine h1.trans ?_;simp only[hk,hw,ux]) (.inr (.inl ⟨hk,hw,.inr ⟨_,rfl,.inr ⟨cs,rfl,rfl⟩⟩⟩))
    |any n=>exact fin (.any n) (by refine h1.trans ?_;simp only[hk,hw]) (.inr (.inl ⟨hk,hw,.inr ⟨_,rfl,.inl rfl⟩⟩))
    |unk=>exact fin .unk (by refine h1.trans ?_;simp only[hk,hw]) (.inr (.inl ⟨hk,hw,.inl rfl⟩))
    |nil=>exact fin .unk (by refine h1.trans ?_;simp only[hk,hw]) (.inr (.inl ⟨hk,hw,.inl rfl⟩))
def upT_ok{C:Cfg}{T:Tt}(hA:AlgOk A C Sg T holds abs):∀(lv:List (Nat×SK)) (xs:List S0) (tm:List SV) (K:List SV->R),holds (upT A lv xs tm K)->bZ xs (lv.map (·.2))=true->
  ∃tm',holds (K tm')/\tm'.length=tm.length/\∀(j:Nat) s,tm'[j]?=some s->tm[j]?=some s∨∃sk x,(j,sk)∈lv/\s = .st x/\((j,sk),x)∈lv.zip xs
 | [],xs,tm,K,hk,_=>⟨tm,hk,rfl,λj s hs=>.inl hs⟩
 |p :: lv,[],tm,K,hk,h=>by cases h
 |p :: lv,x :: xs,tm,K,hk,h=>by
  simp only[qas,bZ,qaa]at h
  have hk':holds (setK (.st x) tm p.1 λtm=>upT A lv xs tm K):=hk
  rw[setK_eq]at hk'
  obtain⟨tm',h1,h2,h3⟩:=upT_ok hA lv xs _ K hk' h.2
  refine⟨tm',h1,by rw[h2];simp,λj s hs=>?_⟩
  rcases h3 j s hs with h4|⟨sk,y,h4,h5,h6⟩
  ·simp only[qa2]at h4
   split at h4
   next hj=>
    split at h4
    ·cases h4
     subst hj
     exact .inr ⟨p.2,x,by simp,rfl,by simp⟩
    ·cases h4
   ·exact .inl h4
  ·exact .inr ⟨sk,y,by simp[h4],h5,by simp[h6]⟩
def upR_ok{C:Cfg}{T:Tt}(hA:AlgOk A C Sg T holds abs):∀(lv:List (Nat×List LK)) (ls:TE) (lc:List LR) (K:List LR->TE->R),holds (upR A lv ls lc K)->
  ∃(lc':List LR) (r:TE) (css:List (List SL)),holds (K lc' r)/\ls=(css.map (·.map SL.lf)).flatten++r/\css.length=lv.length/\(∀(i:Nat) p cs,lv[i]?=some p->css[i]?=some cs->aT cs p.2=true)/\lc'.length=lc.length/\
   ∀(j:Nat) s,lc'[j]?=some s->lc[j]?=some s∨∃(i:Nat) (ks:TG) (cs:List SL),lv[i]?=some (j,ks)/\css[i]?=some cs/\s = .row cs
 | [],ls,lc,K,hk=>⟨lc,ls,[],hk,rfl,rfl,λ_ _ _ h=>by simp at h,rfl,λj s hs=>.inl hs⟩
 |p :: lv,ls,lc,K,hk=>by
  have hk':holds (unL A p.2 ls λcs r=>setK (.row cs) lc p.1 λlc=>upR A lv r lc K):=hk
  obtain⟨cs,r,e1,e2,hk1⟩:=qf hA hk'
  rw[setK_eq]at hk1
  obtain⟨lc',r',css,h1,h2,h3,h4,h5,h6⟩:=upR_ok hA lv r _ K hk1
  refine⟨lc',r',cs :: css,h1,by rw[e1,h2];simp,by simp[h3],λi q ds hq hd=>?_,by rw[h5];simp,λj s hs=>?_⟩
  ·cases i with
   |zero=>simp at hq hd;subst hq;subst hd;exact e2
   |succ i=>exact h4 i q ds (by simpa using hq) (by simpa using hd)
  ·rcases h6 j s hs with h7|⟨i,ks,ds,h7,h8,h9⟩
   ·simp only[qa2]at h7
    split at h7
    next hj=>
     split at h7
     ·cases h7
      subst hj
      exact .inr ⟨0,p.2,cs,rfl,rfl,rfl⟩
     ·cases h7
    ·exact .inl h7
   ·exact .inr ⟨i+1,ks,ds,by simpa using h7,by simpa using h8,h9⟩
def pkT_ok{ev:Env}{σ:St}(hR:Rp ev σ):∀ {lv:List (Nat×SK)} {ls:TE},pkT ev.tm lv=some ls->
  ∃xs,cb xs=ls/\bZ xs (lv.map (·.2))=true/\(∀x∈xs,x.good)/\∀p∈lv.zip xs,σ.tmps[p.1.1]?=some p.2.val
 | [],ls,h=>by cases h;exact⟨[],rfl,rfl,by simp,by simp⟩
 |(t,sk) :: lv,ls,h=>by
  simp only[pkT]at h
  split at h
  next x ls' hx hl=>
   split at h
   next his=>
    cases h
    obtain⟨xs,h1,h2,h3,h4⟩:=pkT_ok hR hl
    obtain⟨g1,g2⟩:=hR.at hx (by simp)
    refine⟨x :: xs,by simp[cb,h1],by simp[bZ,his,h2],qbv.2 ⟨g2,h3⟩,λp hp=>?_⟩
    simp only[qcK,qal]at hp
    rcases hp with rfl|hp
    ·exact g1
    ·exact h4 p hp
   ·cases h
  ·cases h
def pkR_ok{ev:Env}{σ:St}(hR:Rp ev σ):∀ {lv:List (Nat×List LK)} {ls:TE},pkR ev.lc lv=some ls->
  ∃css:List (List SL),(css.map (·.map SL.lf)).flatten=ls/\css.length=lv.length/\(∀(i:Nat) p cs,lv[i]?=some p->css[i]?=some cs->aT cs p.2=true/\(∀c∈cs,c.good)/\σ.loc[p.1]?=some (some (cs.map SL.val)))
 | [],ls,h=>by cases h;exact⟨[],rfl,rfl,λ_ _ _ h=>by simp at h⟩
 |(s,ks) :: lv,ls,h=>by
  simp only[pkR]at h
  split at h
  next cs ls' hx hl=>
   split at h
   next his=>
    cases h
    obtain⟨css,h1,h2,h3⟩:=pkR_ok hR hl
    have hr:rF ev s=some cs:=by unfold rF;rw[hx]
    obtain⟨g1,g2,_⟩:=jG hR hr
    refine⟨cs :: css,by simp[h1],by simp[h2],λi p ds hp hd=>?_⟩
    cases i with
    |zero=>simp at hp hd;subst hp;subst hd;exact⟨his,g2,g1⟩
    |succ i=>exact h3 i p ds (by simpa using hp) (by simpa using hd)
   ·cases h
  ·cases h
def css_eq:∀ {lv:List (Nat×List LK)} {a b:List (List SL)} {r:TE},a.length=lv.length->b.length=lv.length->
  (∀(i:Nat) p cs,lv[i]?=some p->a[i]?=some cs->aT cs p.2=true)->(∀(i:Nat) p cs,lv[i]?=some p->b[i]?=some cs->aT cs p.2=true)->
  (a.map (·.map SL.lf)).flatten=(b.map (·.map SL.lf)).flatten++r->r=[]/\∀(i:Nat) x y,a[i]?=some x->b[i]?=some y->x.map SL.lf=y.map SL.lf
 | [],a,b,r,la,lb,_,_,h=>by
  have la:a=[]:=by simpa using la
  have lb:b=[]:=by simpa using lb
  subst la;subst lb
  simp at h
  exact⟨h,λi x y hx=>by simp at hx⟩
 |p :: lv,a,b,r,la,lb,ha,hb,h=>by
  cases a with
  |nil=>simp at la
  |cons x a=>cases b with
   |nil=>simp at lb
   |cons y b=>
    simp only[qas,qck,qaJ]at h
    have h1:=bM (ha 0 p x rfl rfl)
    have h2:=bM (hb 0 p y rfl rfl)
    obtain⟨e1,e2⟩:=qdt h (by simp[h1,h2])
    obtain⟨f1,f2⟩:=css_eq (lv:=lv) (by simpa using la) (by simpa using lb) (λi q cs hq hc=>ha (i+1) q cs (by simpa using hq) (by simpa using hc))
     (λi q cs hq hc=>hb (i+1) q cs (by simpa using hq) (by simpa using hc)) e2
    refine⟨f1,λi u v hu hv=>?_⟩
    cases i with
    |zero=>simp at hu hv;subst hu;subst hv;exact e1
    |succ i=>exact f2 i u v (by simpa using hu) (by simpa using hv)
def xz{α β:Type}{l:List α}{m:List β}{p:α×β}(h:p∈l.zip m):∃i:Nat,l[i]?=some p.1/\m[i]?=some p.2:=by
 obtain⟨i,hi⟩:=qaM h
 rw[qde]at hi
 exact⟨i,hi⟩
def pn:∀ {a b:List S0} {sks:TJ},bZ a sks=true->bZ b sks=true->(cb a).length=(cb b).length
 | [],[],[],_,_=>rfl
 |x :: a,y :: b,k :: sks,ha,hb=>by
  simp only[bZ,qaa]at ha hb
  obtain⟨n,n1,n2⟩:=S0.is_len ha.1
  simp only[cb,qaB,qay,n1,n2 y hb.1,pn ha.2 hb.2]
 | [],_ :: _,[],_,hb=>by cases hb
 | [],_,_ :: _,ha,_=>by cases ha
 |_ :: _,_,[],ha,_=>by cases ha
 |_ :: _,[],_ :: _,_,hb=>by cases hb
structure Like(ks:TB)(nw:LR)(σ' τ:St):Prop where
 tlen:τ.tmps.length=σ'.tmps.length
 llen:τ.loc.length=σ'.loc.length
 tm:∀(i:Nat) v,σ'.tmps[i]?=some v->noLoc v=true->τ.tmps[i]?=some v
 tp:∀(i s off:Nat),σ'.tmps[i]?=some (.pointer (some ⟨s,off,some 0⟩))->s∉ks->τ.tmps[i]?=some (.pointer (some ⟨s,off,some 0⟩))
 row:∀(s:Nat) x,σ'.loc[s]?=some x->s∉ks->τ.loc[s]?=some x
 new:∀s,s∈ks->s<τ.loc.length->nw.ok τ.loc s
def Like.refl(ks:TB)(σ:St):Like ks .unk σ σ:=⟨rfl,rfl,λ_ _ h _=>h,λ_ _ _ h _=>h,λ_ _ h _=>h,λ_ _ _=>trivial⟩
def reE_ok{C:Cfg}{T:Tt}(hA:AlgOk A C Sg T holds abs){pts:TB}{c:Code}{nw:LR}{lv:Live}{ev ev':Env}{σ σ' τ:St}{ls:TE}{K:Env->R}
  (hR:Rp ev σ) (hR':Rp ev' σ') (hF:Fr (wrT c) (aO pts c) (wrR pts c) σ σ') (hp:pk ev' lv=some ls) (hτ:Like (aO pts c) nw σ' τ)
  (hlive:τ=σ'∨∀p∈lv.rows,p.1∉aO pts c) (hk:holds (reE A pts c nw lv ev ls K)):∃ev1,Rp ev1 τ/\holds (K ev1):=by
 unfold reE at hk
 obtain⟨tm1,h1,h2,h3⟩:=clrT_eq (wrT c) (aO pts c) ev.tm 0 λtm=>clrR (wrR pts c) (aO pts c) nw ev.lc 0 λlc=>
  unSs A (lv.tm.map (·.2)) ls λxs r=>upT A lv.tm xs tm λtm=>upR A lv.rows r lc λlc r=>A.un0 r (K ⟨tm,lc⟩)
 rw[h1]at hk
 obtain⟨lc1,g1,g2,g3⟩:=clrR_eq (wrR pts c) (aO pts c) nw ev.lc 0 λlc=>
  unSs A (lv.tm.map (·.2)) ls λxs r=>upT A lv.tm xs tm1 λtm=>upR A lv.rows r lc λlc r=>A.un0 r (K ⟨tm,lc⟩)
 rw[g1]at hk
 obtain⟨xs,r,e1,e2,hk1⟩:=oe hA hk
 obtain⟨tm2,hk2,u1,u2⟩:=upT_ok hA _ _ _ _ hk1 e2
 obtain⟨lc2,r2,css,hk3,v1,v2,v3,v4,v5⟩:=upR_ok hA _ _ _ _ hk2
 obtain⟨hr2,hk4⟩:=hA.un0 _ _ hk3
 subst hr2
 rw[qa6]at v1
 unfold pk at hp
 split at hp
 next la lb hpa hpb=>
  cases hp
  obtain⟨ys,y1,y2,y3,y4⟩:=pkT_ok hR' hpa
  obtain⟨dss,d1,d2,d3⟩:=pkR_ok hR' hpb
  rw[←y1,←d1]at e1
  obtain⟨s1,s2⟩:=qdt e1 (pn y2 e2)
  obtain⟨w1,w2⟩:=cF y2 e2 s1
  have hgood:=w2 y3
  obtain⟨_,z2⟩:=css_eq (r:=[]) d2 v2 (λi p cs a b=>(d3 i p cs a b).1) v3 (by rw[s2,v1,qa6])
  refine⟨⟨tm2,lc2⟩,⟨?_,λi s hs=>?_,?_,λi s hs=>?_⟩,hk4⟩
  ·show tm2.length=_
   rw[u1,h2,hR.len,hτ.tlen,hF.tlen]
  ·rcases u2 i s hs with hs1|⟨sk,x,a1,rfl,a3⟩
   ·rcases h3 i s hs1 with rfl|⟨b1,b2,b3⟩
    ·trivial
    ·have hok:=hR.val i s b1
     rw[qaL]at b2
     have b2:i∉wrT c:=by simpa using b2
     have keepN:∀v,σ.tmps[i]?=some v->noLoc v=true->τ.tmps[i]?=some v:=λv hv hn=>hτ.tm i v (hF.tm i v hv b2 hn) hn
     have keepP:∀s off,σ.tmps[i]?=some (.pointer (some ⟨s,off,some 0⟩))->s∉aO pts c->τ.tmps[i]?=some (.pointer (some ⟨s,off,some 0⟩)):=λs off hv hn=>
      hτ.tp i s off (hF.tp i s off hv b2 hn) hn
     cases s with
     |no=>trivial
     |st x=>exact⟨keepN _ hok.1 (S0.noLoc hok.2),hok.2⟩
     |tup xs=>simp[SV.inRows]at b3
     |un=>exact⟨keepN _ hok.1 rfl,trivial⟩
     |gad g off=>exact⟨keepN _ hok.1 rfl,trivial⟩
     |gdx g base ix=>exact⟨keepN _ hok.1 rfl,trivial⟩
     |lad s off=>exact⟨keepP s off hok.1 (by simpa[SV.inRows]using b3),trivial⟩
     |ldx s base ix=>exact⟨keepP s _ hok.1 (by simpa[SV.inRows]using b3),trivial⟩
   ·obtain⟨k,q1,q2⟩:=xz a3
    simp only at q1 q2
    have hx:(ai xs)[k]?=some x.val:=by simp[ai,q2]
    rw[←w1]at hx
    simp only[ai,qaz,qad]at hx
    obtain⟨y,hy1,hy2⟩:=hx
    have hm:((i,sk),y)∈lv.tm.zip ys:=by
     apply qab (i:=k)
     rw[qde]
     exact⟨q1,hy1⟩
    have hv:=y4 _ hm
    simp only at hv
    rw[hy2]at hv
    have gx:=hgood x (qab q2)
    exact⟨hτ.tm i _ hv (S0.noLoc gx),gx⟩
  ·show lc2.length=_
   rw[v4,g2,hR.llen,hτ.llen,hF.llen]
  ·rcases v5 i s hs with hs1|⟨k,ks,cs,a1,a2,rfl⟩
   ·rcases g3 i s hs1 with⟨b1,rfl⟩|⟨b1,b2,r0,b3,b4⟩|⟨b1,b2,b3⟩
    ·rw[qaL]at b1
     refine hτ.new i (by simpa using b1) ?_
     rw[hτ.llen,hF.llen,←hR.llen,←g2]
     exact(qaP.1 hs1).1
    ·rw[qaL]at b1
     have hnk:i∉aO pts c:=by simpa using b1
     have h0:=hR.row i r0 b3
     rcases b4 with rfl|⟨n,rfl,b4⟩
     ·trivial
     ·have:∃vs,σ.loc[i]?=some (some vs)/\vs.length=n:=by
       rcases b4 with rfl|⟨cs,rfl,hl⟩
       ·exact h0
       ·exact⟨_,h0.1,by simpa using hl⟩
      obtain⟨vs,c1,c2⟩:=this
      obtain⟨vs',c3,c4⟩:=hF.rlen i vs c1 hnk
      exact⟨vs',hτ.row i _ c3 hnk,c4.trans c2⟩
    ·rw[qaL]at b1 b2
     have hnk:i∉aO pts c:=by simpa using b1
     have hnw:i∉wrR pts c:=by simpa using b2
     have h0:=hR.row i s b3
     have keep:∀x,σ.loc[i]?=some x->τ.loc[i]?=some x:=λx hx=>hτ.row i x (hF.row i x hx hnw) hnk
     cases s with
     |unk=>trivial
     |nil=>exact keep _ h0
     |any n=>obtain⟨vs,c1,c2⟩:=h0;exact⟨vs,keep _ c1,c2⟩
     |row cs=>exact⟨keep _ h0.1,h0.2⟩
   ·have hd:∃ds,dss[k]?=some ds:=by
     have:k<dss.length:=by rw[d2];exact(qaP.1 a1).1
     exact⟨dss[k],by simp[this]⟩
    obtain⟨ds,hd⟩:=hd
    obtain⟨f1,f2,f3⟩:=d3 k _ ds a1 hd
    have f4:=v3 k _ cs a1 a2
    obtain⟨m1,m2⟩:=gm f1 f4 (z2 k ds cs hd a2)
    simp only at f3
    rw[m1]at f3
    refine⟨?_,m2 f2⟩
    rcases hlive with rfl|hlive
    ·exact f3
    ·exact hτ.row i _ f3 (hlive (i,ks) (qab a1))
 ·cases hp
end
end Sx
namespace Sx
section
variable [Val] [Kno] {R HT:Type} {A:Alg R HT} {X:Ctxt} {Sg:Tb} {holds:R->Prop} {abs:HT->Ts}
def er(X:Ctxt)(c:AC):Code:=c.erase λκ t=>fc (X.T κ) t
def Out(X:Ctxt)(holds:R->Prop)(abs:HT->Ts)(c:Code)(σ:St)(kn:KN R HT)(kx:Exit->KN R HT):Prop:=
 ∃e σ' ev' h',uEx X.C X.pts c σ e σ'/\Rp ev' σ'/\abs h'=σ'.heap/\Fr (wrT c) (aO X.pts c) (wrR X.pts c) σ σ'/\((e = .normal/\holds (kn ev' h'))∨(e≠.normal/\holds (kx e ev' h')))
def qW(hA:AlgOk A X.C Sg X.T holds abs){c:Code}{j:Option Live}{ev:Env}{σ:St}{kn:KN R HT}{main:KN R HT->R}{kx:Exit->KN R HT}{c':Code}
  (hw:wrT c'=wrT c) (hb:aO X.pts c'=aO X.pts c) (hr:wrR X.pts c'=wrR X.pts c)
  (hR:Rp ev σ) (hm:∀kn,holds (main kn)->Out X holds abs c' σ kn kx) (hk:holds (sX A X.pts c j ev kn main)):Out X holds abs c' σ kn kx:=by
 unfold sX at hk
 cases j with
 |none=>exact hm kn hk
 |some lv=>
  obtain⟨e,σ',ev',h',h1,h2,h3,h4,h5⟩:=hm _ (hA.join _ _ hk)
  rcases h5 with⟨rfl,h5⟩|h5
  ·simp only at h5
   split at h5
   next ls hp=>
    rw[hw,hb,hr]at h4
    obtain⟨ev1,g1,g2⟩:=reE_ok hA hR h2 h4 hp (.refl _ _) (.inl rfl) h5
    exact⟨.normal,σ',ev1,h',h1,g1,h3,by rw[hw,hb,hr];exact h4,.inl ⟨rfl,g2⟩⟩
   ·exact absurd h5 hA.fail
  ·exact⟨e,σ',ev',h',h1,h2,h3,h4,.inr h5⟩
def box_sub(pts:TB):∀c:Code,∀s∈aO pts c,s∈wrR pts c:=by
 intro c
 induction c with
 |region id ops draw=>
  intro s hs
  simp only[aO,qbE]at hs
  simp only[wrR,qbE]
  obtain⟨o,ho,hs⟩:=hs
  refine⟨o,ho,?_⟩
  unfold iT
  split at hs
  next e1 e2=>
   simp only[e1,e2]
   exact hs
  next e1 e2=>
   simp only[e1,e2]
   exact hs
  ·cases hs
 |seq a b iha ihb=>intro s hs;simp only[aO,wrR,qau]at hs ⊢;exact hs.imp (iha s) (ihb s)
 |cond c a b iha ihb=>intro s hs;simp only[aO,wrR,qau]at hs ⊢;exact hs.imp (iha s) (ihb s)
 |block id b ih=>exact ih
 |loop b ih=>exact ih
 |scope b ih=>exact ih
 |rangeFunc f ps a b iha ihb=>intro s hs;simp only[aO,wrR,qau]at hs ⊢;exact hs.imp (iha s) (ihb s)
 |_=>intro s hs;cases hs
def sy{keys:TB}{v:Value}(h:noLoc v=true):iA keys v=v:=by
 unfold iA
 split
 next a=>
  split
  next hc=>
   simp only[qaa,qdA]at hc
   simp[noLoc,aZ,bz,bp,hc.1]at h
  ·rfl
 ·rw[qdD h]
def sx{keys:TB}{s off:Nat}(h:s∉keys):iA keys (.pointer (some ⟨s,off,some 0⟩)) = .pointer (some ⟨s,off,some 0⟩):=by
 unfold iA
 simp[h]
def gY{σ:St}{keys:TB}{i:Nat}{v:Value}(hv:σ.tmps[i]?=some v)(hc:iA keys v=v):(σ.clear keys).tmps[i]?=some v:=by
 unfold St.clear
 split
 ·exact hv
 ·simp[hv,hc]
def mG{σ:St}{keys:TB}{s:Nat}{x:Option (Tl)}(hs:σ.loc[s]?=some x)(hn:s∉keys):(σ.clear keys).loc[s]?=some x:=by
 unfold St.clear
 split
 ·exact hs
 ·simp only
  rw[eA,qaL,qdE (by simpa using hn)]
  exact hs
def clear_new{σ:St}{keys:TB}{s:Nat}(hs:s∈keys)(hl:s<σ.loc.length):(σ.clear keys).loc[s]?=some none:=by
 unfold St.clear
 split
 next e=>rw[e]at hs;cases hs
 ·simp only
  rw[eA,qaL,qdD (by simpa using hs)]
  simp[hl]
def oO{σ:St}{keys:TB}:(σ.clear keys).tmps.length=σ.tmps.length:=by unfold St.clear;split<;>simp
def iz(keys:TB):∀(l:List (Option (Tl))) (i:Nat),(gA keys l i).length=l.length
 | [],_=>rfl
 |_ :: l,i=>by simp[gA,iz keys l]
def jT{σ:St}{keys:TB}:(σ.clear keys).loc.length=σ.loc.length:=by unfold St.clear;split<;>simp[iz]
def wY{σ:St}{keys:TB}:(σ.clear keys).heap=σ.heap:=by unfold St.clear;split<;>rfl
def wZ(σ:St)(keys:TB):Like keys .nil σ (σ.clear keys):=
 ⟨oO,jT,λ_ _ h hn=>gY h (sy hn),λ_ _ _ h hn=>gY h (sx hn),λ_ _ h hn=>mG h hn,λ_ h hl=>clear_new h (by rw[jT]at hl;exact hl)⟩
def clear_fr{σ:St}{ws keys rs:TB}(hsub:∀s∈keys,s∈rs):Fr ws keys rs σ (σ.clear keys):=
 ⟨oO,jT,λ_ _ h _ hn=>gY h (sy hn),λ_ _ _ h _ hn=>gY h (sx hn),λs _ h hn=>mG h λhk=>hn (hsub s hk),
  λs vs h hn=>⟨vs,mG h hn,rfl⟩⟩
def oL{ev:Env}{σ:St}(hR:Rp ev σ):∀ {caps:List (Nat×SK)} {vs:Tl},mz ev.tm caps=some vs->∀(nt:Nat) (tm:Tl),
  (∀(i:Nat) x,tm[i]?=some x->x=poison∨(σ.tmps[i]?=some x/\noLoc x=true))->∀(i:Nat) x,(ot nt caps vs tm)[i]?=some x->x=poison∨(σ.tmps[i]?=some x/\noLoc x=true)
 | [],vs,h,nt,tm,ht=>by cases h;exact ht
 |(t,sk) :: caps,vs,h,nt,tm,ht=>by
  simp only[mz]at h
  split at h
  next x vs' hx hl=>
   split at h
   ·cases h
    obtain⟨g1,g2⟩:=hR.at hx (by simp)
    refine oL hR hl nt _ λi y hy=>?_
    simp only[qa2]at hy
    split at hy
    next hi=>
     subst hi
     split at hy
     ·cases hy;exact .inr ⟨g1,S0.noLoc g2⟩
     ·cases hy
    ·exact ht i y hy
   ·cases h
  ·cases h
def lh:∀(nt:Nat) (caps:List (Nat×SK)) (vs tm:Tl),(ot nt caps vs tm).length=tm.length
 |_,[],_,_=>rfl
 |_,_ :: _,[],_=>rfl
 |nt,(t,_) :: caps,v :: vs,tm=>by simp[ot,lh nt caps vs]
def uv(hA:AlgOk A X.C Sg X.T holds abs){dr:Dr}
  (hdr:Sx.DrOk X.C dr) :
  ∀(c:AC) (ev:Env) (h:HT) (σ:St) (kn:KN R HT) (kx:Exit->KN R HT),Rp ev σ->abs h=σ.heap->holds (exec A X Sg dr c ev h kn kx)->Out X holds abs (er X c) σ kn kx:=by
 intro c
 induction c with
 |skip=>intro ev h σ kn kx hR ha hk;exact⟨.normal,σ,ev,h,.skip,hR,ha,.refl _ _ _ _,.inl ⟨rfl,hk⟩⟩
 |ret=>intro ev h σ kn kx hR ha hk;exact⟨.ret,σ,ev,h,.ret,hR,ha,.refl _ _ _ _,.inr ⟨by simp,hk⟩⟩
 |exit id=>intro ev h σ kn kx hR ha hk;exact⟨.exit id,σ,ev,h,.exit,hR,ha,.refl _ _ _ _,.inr ⟨by simp,hk⟩⟩
 |label l=>intro ev h σ kn kx hR ha hk;exact⟨.normal,σ,ev,h,.label,hR,ha,.refl _ _ _ _,.inl ⟨rfl,hk⟩⟩
 |seq a b iha ihb=>
  intro ev h σ kn kx hR ha hk
  obtain⟨e,σ₁,ev₁,h₁,q1,q2,q3,q4,q5⟩:=iha ev h σ _ _ hR ha hk
  have m1:Fr (wrT (er X (.seq a b))) (aO X.pts (er X (.seq a b))) (wrR X.pts (er X (.seq a b))) σ σ₁:=
   q4.mono (λi hi=>qaF _ hi) (λi hi=>qaF _ hi) (λi hi=>qaF _ hi)
  rcases q5 with⟨rfl,q5⟩|⟨q5,q6⟩
  ·obtain⟨e',σ',ev',h',p1,p2,p3,p4,p5⟩:=ihb ev₁ h₁ σ₁ kn kx q2 q3 q5
   exact⟨e',σ',ev',h',.seq q1 p1,p2,p3,m1.trans (p4.mono (λi hi=>qaK _ hi) (λi hi=>qaK _ hi) (λi hi=>qaK _ hi)),p5⟩
  ·exact⟨e,σ₁,ev₁,h₁,.seqX q1 q5,q2,q3,m1,.inr ⟨q5,q6⟩⟩
 |scope b ih=>
  intro ev h σ kn kx hR ha hk
  obtain⟨e,σ₁,ev₁,h₁,q1,q⟩:=ih ev h σ kn kx hR ha hk
  exact⟨e,σ₁,ev₁,h₁,.scope q1,q⟩
 |region id ops draw hs j=>
  intro ev h σ kn kx hR ha hk
  have hk':holds (match drX dr draw X.pts ops with
   |none=>A.fail
   |some ps=>sX A X.pts (.region id ops draw) j ev kn λkn=>Sx.regE A X Sg ops hs ps ev h kn):=hk
  split at hk'
  ·exact absurd hk' hA.fail
  next ps hd=>
   refine qW hA (c:=.region id ops draw) rfl rfl rfl hR (λkn hk=>?_) hk'
   unfold Sx.regE at hk
   cases hsp:Sx.splOf ps with
   |none=>
    rw[hsp]at hk
    simp only at hk
    obtain⟨σ',ev',h',p1,p2,p3,p4,p5⟩:=opsE_ok hA ops.toList 0 hs ev h σ rfl hR ha hk
    obtain⟨p5,p6⟩:=Sx.sepK_ok hA p2 p5
    have p1:bk X.C (uB X.C) X.pts ops (List.range ops.size) σ σ':=by
     rw[qcj];simpa using p1
    refine⟨.normal,σ',ev',h',?_,p2,p3,p4,.inl ⟨rfl,p6⟩⟩
    cases draw with
    |false=>exact .region p1
    |true=>
     have hq:=hdr _ _ _ hd
     rw[hsp]at hq
     exact .draw (λn hn=>hq n _ _ hn p5) p1
   |some q=>
    rw[hsp]at hk
    simp only at hk
    obtain⟨σ₁,ev₁,h₁,p1,p2,p3,p4,p5⟩:=mi hA (ops.toList.take (q.2+1)) 0 hs ev h σ (by rw[qaV];exact List.take_prefix _ _) hR ha hk
    unfold Sx.reK at p5
    split at p5
    next o ho=>
     split at p5
     next d hod=>
      obtain⟨σ₂,ev₂,h₂,q1,q2,q3,_,q5⟩:=opG_ok hA p2 p3 ho p5
      simp only at q5
      split at q5
      next x y hx hy=>
       obtain⟨u,e1,e2⟩:=hA.opt _ _ q5
       have e1:=Sx.eqFn_ok e1
       subst e1
       have sm:Sx.SameAt ops q.1 σ₁ σ₂:=⟨o,d,x,ho,hod,Sx.entF_ok p2 hx,Sx.entF_ok q2 hy⟩
       obtain⟨σ',ev',h',r1,r2,r3,r4,r5⟩:=mi hA (ops.toList.drop (q.2+1)) (q.2+1) _ ev₁ h₁ σ₁ (List.prefix_refl _) p2 p3 e2
       refine⟨.normal,σ',ev',h',?_,r2,r3,?_,.inl ⟨rfl,r5⟩⟩
       ·cases draw with
        |false=>cases hd;cases hsp
        |true=>
         have hq:=hdr _ _ _ hd
         rw[hsp]at hq
         exact .drawS (λn h1 h2 h3=>hq n _ _ _ _ h1 h2 sm h3) p1 q1 r1
       ·refine(p4.mono (λi hi=>?_) (λi hi=>?_) (λi hi=>?_)).trans (r4.mono (λi hi=>?_) (λi hi=>?_) (λi hi=>?_))
        all_goals
         replace hi:=qbE.1 hi
         obtain⟨o,ho,e⟩:=hi
         exact qbE.2 ⟨o,(by first|exact qbm ho|exact qbQ ho),e⟩
      ·exact absurd q5 hA.fail
     ·exact absurd p5 hA.fail
    ·exact absurd p5 hA.fail
 |cond c a b j iha ihb=>
  intro ev h σ kn kx hR ha hk
  have hk':holds (match sval ev c with
   | .st (.leaf (.l true))=>exec A X Sg dr a ev h kn kx
   | .st (.leaf (.l false))=>exec A X Sg dr b ev h kn kx
   | .st (.leaf (.b t))=>sX A X.pts (er X (.cond c a b j)) j ev kn λkn=>A.cond t (exec A X Sg dr a ev h kn kx) (exec A X Sg dr b ev h kn kx)
   |_=>A.fail):=hk
  have ga:∀ {kn},oval σ.tmps c = .bool true->holds (exec A X Sg dr a ev h kn kx)->Out X holds abs (er X (.cond c a b j)) σ kn kx:=by
   intro kn hc hk
   obtain⟨e,σ₁,ev₁,h₁,q1,q2,q3,q4,q5⟩:=iha ev h σ kn kx hR ha hk
   exact⟨e,σ₁,ev₁,h₁,.cond hc q1,q2,q3,q4.mono (λi hi=>qaF _ hi) (λi hi=>qaF _ hi) (λi hi=>qaF _ hi),q5⟩
  have gb:∀ {kn},oval σ.tmps c = .bool false->holds (exec A X Sg dr b ev h kn kx)->Out X holds abs (er X (.cond c a b j)) σ kn kx:=by
   intro kn hc hk
   obtain⟨e,σ₁,ev₁,h₁,q1,q2,q3,q4,q5⟩:=ihb ev h σ kn kx hR ha hk
   exact⟨e,σ₁,ev₁,h₁,.cond hc (show uEx X.C X.pts (if false=true then er X a else er X b) σ e σ₁ by rw[qdE (by simp)];exact q1),q2,q3,q4.mono (λi hi=>qaK _ hi) (λi hi=>qaK _ hi) (λi hi=>qaK _ hi),q5⟩
  split at hk'
  next e=>exact ga (hR.sval e (by simp)).1 hk'
  next e=>exact gb (hR.sval e (by simp)).1 hk'
  next t e=>
   have h1:=(hR.sval e (by simp)).1
   refine qW hA (c:=er X (.cond c a b j)) rfl rfl rfl hR (λkn hk=>?_) hk'
   rcases hA.cond _ _ _ hk with⟨ht,hk1⟩|⟨ht,hk1⟩
   ·exact ga (by rw[h1,ht];rfl) hk1
   ·exact gb (by rw[h1,ht];rfl) hk1
  ·exact absurd hk' hA.fail
 |block id b j ih=>
  intro ev h σ kn kx hR ha hk
  refine qW hA (c:=er X b) rfl rfl rfl hR (λkn hk=>?_) (show holds (sX A X.pts (er X b) j ev kn λkn=>exec A X Sg dr b ev h kn λe=>match sI e id with
   |true=>kn
   |false=>kx e)from hk)
  obtain⟨e,σ₁,ev₁,h₁,q1,q2,q3,q4,q5⟩:=ih ev h σ _ _ hR ha hk
  refine⟨iN id e,σ₁,ev₁,h₁,.block q1,q2,q3,q4,?_⟩
  rcases q5 with⟨rfl,q5⟩|⟨q5,q6⟩
  ·exact .inl ⟨rfl,q5⟩
  ·cases e with
   |normal=>exact absurd rfl q5
   |exit i=>
    by_cases hi:i=id
    ·subst hi
     left
     simp only[iN,if_true,true_and]
     simpa[sI]using q6
    ·right
     simp only[iN,qdE hi]
     refine⟨by simp,?_⟩
     have:Nat.beq i id=false:=by
      rw[←qbq];intro h;exact hi (qac h)
     simpa[sI,this]using q6
   |_=>exact .inr ⟨by simp[iN],by simpa[sI,iN]using q6⟩
 |loop b lv ih=>
  intro ev h σ kn kx hR ha hk
  have hk':holds (match pk ev lv with
   |none=>A.fail
   |some ls=>match lv.rows.all λp=>!(aO X.pts (er X b)).contains p.1 with
    |false=>A.fail
    |true=>A.loop (λself ls h=>reE A X.pts (er X b) .nil lv ev ls λev=>exec A X Sg dr b ev h (λev h=>match pk ev lv with
     |some ls=>self ls h
     |none=>A.fail) kx) ls h):=hk
  split at hk'
  ·exact absurd hk' hA.fail
  next ls0 hp0=>
   split at hk'
   ·exact absurd hk' hA.fail
   next hlv=>
    have hlive:∀p∈lv.rows,p.1∉aO X.pts (er X b):=by
     intro p hp
     have:=qag.1 hlv p hp
     simpa using this
    obtain⟨it,i0,i1,n,hn⟩:=hA.loop _ _ _ hk'
    have main:∀(n:Nat) (ls:TE) (h:HT) (τ:St) (evτ:Env),Rp evτ τ->Fr (wrT (er X b)) (aO X.pts (er X b)) (wrR X.pts (er X b)) σ τ->pk evτ lv=some ls->abs h=τ.heap->holds (it n ls h)->
      ∃e σ' ev' h',uEx X.C X.pts (.loop (er X b)) τ e σ'/\e≠.normal/\Rp ev' σ'/\abs h'=σ'.heap/\Fr (wrT (er X b)) (aO X.pts (er X b)) (wrR X.pts (er X b)) σ σ'/\holds (kx e ev' h'):=by
     intro n
     induction n with
     |zero=>intro ls h τ evτ _ _ _ _ hh;exact absurd hh (i0 _ _)
     |succ n ihn=>
      intro ls h τ evτ hRτ hF hp haτ hh
      rw[i1]at hh
      obtain⟨ev1,g1,g2⟩:=reE_ok hA hR hRτ hF hp (wZ τ _) (.inr hlive) hh
      obtain⟨e,σ₁,ev₁,h₁,q1,q2,q3,q4,q5⟩:=ih ev1 h (τ.clear (aO X.pts (er X b))) _ _ g1 (by rw[wY];exact haτ) g2
      have hF1:Fr (wrT (er X b)) (aO X.pts (er X b)) (wrR X.pts (er X b)) σ σ₁:=(hF.trans (clear_fr (box_sub _ _))).trans q4
      rcases q5 with⟨rfl,q5⟩|⟨q5,q6⟩
      ·simp only at q5
       split at q5
       next ls1 hp1=>
        obtain⟨e',σ',ev',h',p1,p2,p3,p4,p5,p6⟩:=ihn ls1 h₁ σ₁ ev₁ q2 hF1 hp1 q3 q5
        exact⟨e',σ',ev',h',.loop q1 p1,p2,p3,p4,p5,p6⟩
       ·exact absurd q5 hA.fail
      ·exact⟨e,σ₁,ev₁,h₁,.loopX q1 q5,q5,q2,q3,hF1,q6⟩
    obtain⟨e',σ',ev',h',p1,p2,p3,p4,p5,p6⟩:=main n ls0 h σ ev hR (.refl _ _ _ _) hp0 ha hn
    exact⟨e',σ',ev',h',p1,p3,p4,p5,.inr ⟨p2,p6⟩⟩
 |rangeFunc f κ ids=>
  intro ev h σ kn kx hR ha hk
  have hk':holds (match (generalizing:=false) f,sval ev f,X.pts with
   | .tmp _,.st (.leaf (.v v)),_ :: _=>match Nat.beq ev.tm.length (X.T κ).nt,mz ev.tm (X.T κ).caps with
    |true,some vs=>A.rfun κ v vs h λpd h=>A.pend pd (kn ev h) (kx .ret ev h) (ids.map λid=>(id,kx (.exit id) ev h))
    |_,_=>A.fail
   |_,_,_=>A.fail):=hk
  clear hk
  cases f with
  |tmp t=>
   cases hpts:X.pts with
   |nil=>rw[hpts]at hk';split at hk'<;>first|exact absurd hk' hA.fail|(rename_i e;cases e)
   |cons p0 pr=>
    rw[hpts]at hk'
    split at hk'
    next t2 v hd tl e0 e e1=>
     split at hk'
     next vs hnt hcv=>
      have hnt:=qac hnt
      obtain⟨h1,g1⟩:=hR.sval e (by simp)
      have gv:aS v=true:=g1 (.v v) (by simp[S0.cells])
      obtain⟨g,first,cap,r,H1,lp,h2,r1,r2,r3,r4,r5,r6⟩:=hA.rfun _ _ _ _ _ hk'
      subst r1
      rw[ha]at r2 r3 r5
      have hsnap:vg σ.tmps (lpOf (X.T κ) κ vs).tmps:=by
       refine⟨by simp only[lpOf,lh,qcV];rw[←hnt,hR.len],oL hR hcv _ _ λi x hx=>?_⟩
       rw[qa1]at hx
       split at hx
       ·cases hx;exact .inl rfl
       ·cases hx
      have hpend:=hA.pend _ _ _ _ r6
      have hex:∀ {e:Exit},vA lp.pending=some e->uEx X.C X.pts (er X (.rangeFunc (.tmp t) κ ids)) σ e { σ with heap:=H1.set σ.heap.length (.loop { lp with state:=.exhausted }) }:=by
       intro e he
       have hne:X.pts≠[]:=by rw[hpts];simp
       refine uEx.rangeFunc (r:=r) (φ:=κ) (tm:=(lpOf (X.T κ) κ vs).tmps) hne hsnap h1 (dR.1 gv).1 ?_ r3 r4 he
       simpa[lpOf]using r2
      have hR':Rp ev { σ with heap:=H1.set σ.heap.length (.loop { lp with state:=.exhausted }) }:=hR.heap _
      rcases hpend with⟨p1,p2⟩|⟨p1,p2⟩|⟨id,x,p1,p2,p3⟩
      ·exact⟨.normal,_,ev,h2,hex (by rw[p1];rfl),hR',r5,(Fr.refl _ _ _ _).heap _,.inl ⟨rfl,p2⟩⟩
      ·exact⟨.ret,_,ev,h2,hex (by rw[p1];rfl),hR',r5,(Fr.refl _ _ _ _).heap _,.inr ⟨by simp,p2⟩⟩
      ·obtain⟨id',hid,he⟩:=qaU.1 p2
       cases he
       exact⟨.exit id,_,ev,h2,hex (by rw[p1];rfl),hR',r5,(Fr.refl _ _ _ _).heap _,.inr ⟨by simp,p3⟩⟩
     ·exact absurd hk' hA.fail
    ·exact absurd hk' hA.fail
  |_=>exact absurd hk' hA.fail
end
end Sx
end Go.Am
end

/-
  PART 5 OF THE PROOF (no conditions).
-/
import Derived.Test.YtoeibflkihlloaaGreatDoorCE4
import Derived.BigCall
import Derived.Shelf.Strings.Builder1
import Derived.Test.YtoeibflkihlloaaGreatDoorProg
import Derived.WalkKit
set_option linter.unusedSectionVars false
set_option linter.unusedSimpArgs false
set_option linter.unusedVariables false
set_option linter.constructorNameAsVariable false
set_option linter.defProp false
noncomputable section
set_option maxRecDepth 100000
set_option maxHeartbeats 16000000
namespace Go.Am
namespace Sx
section
variable [Val] [Kno]
def condP(b:Bool)(x y:Prop):Prop:=(b=true->x)/\(b=false->y)
abbrev _root_.Tu:=Int->Prop
def ariP(op:BinOp)(k:TI)(a b:Int)(K:Tu):Prop:=
 match op with
 | .add=>K (k.wrap (a+b))
 | .sub=>K (k.wrap (a - b))
 | .mul=>K (k.wrap (a*b))
 | .quo=>b≠0/\K (k.wrap (a.tdiv b))
 | .rem=>b≠0/\K (a.tmod b)
 | .and=>(b=1/\K (a%2))∨(b≠1/\∃n,qi .and k a b n/\K n)
 |op=>∃n,qi op k a b n/\K n
abbrev _root_.Tn:=Bool->Prop
def cmpP(op:BinOp)(a b:Int)(K:Tn):Prop:=
 match op with
 | .eql=>K (a==b)
 | .neq=>K (a != b)
 | .lss=>K (decide (a<b))
 | .leq=>K (decide (a<=b))
 | .gtr=>K (decide (a > b))
 | .geq=>K (decide (a ≥ b))
 |_=>False
def optP{α:Type}(o:Option α)(K:α->Prop):Prop:=∃x,o=some x/\K x
def unIP(ls:TE)(K:Int->TE->Prop):Prop:=match ls with | .i n :: r=>K n r|_=>False
def unBP(ls:TE)(K:Bool->TE->Prop):Prop:=match ls with | .b n :: r=>K n r|_=>False
def unVP(ls:TE)(K:Value->TE->Prop):Prop:=match ls with | .v n :: r=>K n r|_=>False
def un0P(ls:TE)(K:Prop):Prop:=match ls with | []=>K|_=>False
def ucIP(k:TI)(ls:Tl)(K:Int->Tl->Prop):Prop:=match ls with | .int k' n :: r=>k=k'/\K n r|_=>False
def ucBP(ls:Tl)(K:Bool->Tl->Prop):Prop:=match ls with | .bool n :: r=>K n r|_=>False
def ucVP(ls:Tl)(K:Value->Tl->Prop):Prop:=match ls with|n :: r=>K n r|_=>False
def uc0P(ls:Tl)(K:Prop):Prop:=match ls with | []=>K|_=>False
def getL(h:Ts):bU:=λi=>h[i]?
abbrev _root_.Te:=List Value->Prop
def peekP(f:Pk)(h:Ts)(K:Te):Prop:=∃cs,f.run (getL h)=some cs/\K cs
def heapP(f:Hp)(h:Ts)(K:Tl->Ts->Prop):Prop:=∃acts cs,f.run (getL h) h.length=some (acts,cs)/\K cs (ge h acts)
def callP(C:Cfg)(Sg:Tb)(g:TN)(ls:TE)(h:Ts)(K:TE->Ts->Prop):Prop:=∃rs h',aw C Sg g ls h rs h'/\K rs h'
def callvP(C:Cfg)(v:Value)(args:Tl)(hs:TJ)(h:Ts)(K:TE->Ts->Prop):Prop:=∃rs h',tY C v args hs h rs h'/\K rs h'
def itP(F:(TE->Ts->Prop)->TE->Ts->Prop)(n:Nat):TE->Ts->Prop:=
 match n with
 |0=>λ_ _=>False
 |n+1=>F (itP F n)
def loopP(F:(TE->Ts->Prop)->TE->Ts->Prop)(ls:TE)(h:Ts):Prop:=∃n,itP F n ls h
def rfunP(C:Cfg)(T:Tt)(κ:Nat)(v:Value)(vals:Tl)(h:Ts)(K:Tk->Ts->Prop):Prop:=
 ∃g first cap r H1 lp,v = .func (.func g) first cap/\
  iy C g (first.toList++[.func (.yield h.length) #[] #[]]++cap.toList) (h++[.loop (lpOf (T κ) κ vals)]) r H1/\
  ed H1 h.length=some lp/\lp.state≠.busy/\K lp.pending (H1.set h.length (.loop { lp with state:=.exhausted }))
def pendP(pd:Tk)(kn kr:Prop)(ks:List (Nat×Prop)):Prop:=
 match pd with
 |none=>kn
 |some .ret=>kr
 |some (.exit id)=>∃x,(id,x)∈ks/\x
 |_=>False
def lp1P(l:Nat)(h:Ts)(K:Ts->Prop):Prop:=∃lp,ed h l=some lp/\lp.state = .ready/\K (h.set l (.loop { lp with state:=.busy }))
def lp2P(l:Nat)(j:Tk)(h:Ts)(K:Ts->Prop):Prop:=∃lp,ed h l=some lp/\K (h.set l (.loop { lp with state:=if j.isNone then .ready else .done,pending:=j }))
def PA(C:Cfg)(Sg:Tb)(T:Tt):Alg Prop (Ts) where
 fail:=False
 cond:=condP
 ari:=ariP
 shf:=λop k a k' b K=>∃n,ShRun op k a k' b n/\K n
 cmp:=cmpP
 eqs:=λl K=>K (ch l)
 conv:=λk a K=>K (k.wrap a)
 sel:=λt a b K=>K (if t then a else b)
 opt:=optP
 chk:=λv K=>aS v=true/\K
 unI:=unIP
 unB:=unBP
 unV:=unVP
 un0:=un0P
 ucI:=ucIP
 ucB:=ucBP
 ucV:=ucVP
 uc0:=uc0P
 peek:=peekP
 heap:=heapP
 new:=λo h K=>K h.length (h++[o])
 call:=callP C Sg
 callv:=callvP C
 join:=λb m=>m b
 loop:=loopP
 rfun:=rfunP C T
 pend:=pendP
 lp1:=lp1P
 lp2:=lp2P
def fD(C:Cfg)(Sg:Tb)(T:Tt):AlgOk (PA C Sg T) C Sg T id id where
 fail:=λh=>h
 cond:=by
  intro b x y h
  cases b
  ·exact .inr ⟨rfl,h.2 rfl⟩
  ·exact .inl ⟨rfl,h.1 rfl⟩
 ari:=by
  intro op k a b K h
  have h:ariP op k a b K:=h
  cases op<;>simp only[ariP]at h
  ·exact⟨_,λP t w=>by simp[binOp,Op.intArith],h⟩
  ·exact⟨_,λP t w=>by simp[binOp,Op.intArith],h⟩
  ·exact⟨_,λP t w=>by simp[binOp,Op.intArith],h⟩
  ·obtain⟨hb,h⟩:=h
   exact⟨_,λP t w=>by simp[binOp,Op.intDiv,hb],h⟩
  ·obtain⟨hb,h⟩:=h
   exact⟨_,λP t w=>by simp[binOp,Op.intDiv,hb],h⟩
  ·rcases h with⟨rfl,h'⟩|⟨_,n,h1,h2⟩
   ·exact⟨_,nR rfl,h'⟩
   ·exact⟨n,h1,h2⟩
  all_goals exact h
 shf:=λop k a k' b K h=>h
 cmp:=by
  intro op a b K h
  have h:cmpP op a b K:=h
  cases op<;>simp only[cmpP]at h<;>exact⟨_,rfl,h⟩
 eqs:=λl K h=>h
 conv:=λk a K h=>h
 sel:=λt a b K h=>h
 opt:=λo K h=>h
 chk:=λv K h=>h
 unI:=by
  intro ls K h
  match ls,h with
  | .i n :: r,h=>exact⟨n,r,rfl,h⟩
 unB:=by
  intro ls K h
  match ls,h with
  | .b n :: r,h=>exact⟨n,r,rfl,h⟩
 unV:=by
  intro ls K h
  match ls,h with
  | .v n :: r,h=>exact⟨n,r,rfl,h⟩
 un0:=by
  intro ls K h
  match ls,h with
  | [],h=>exact⟨rfl,h⟩
 ucI:=by
  intro k ls K h
  match ls,h with
  | .int k' n :: r,h=>
   obtain⟨rfl,h⟩ : k=k'/\K n r:=h
   exact⟨n,r,rfl,h⟩
 ucB:=by
  intro ls K h
  match ls,h with
  | .bool n :: r,h=>exact⟨n,r,rfl,h⟩
 ucV:=by
  intro ls K h
  match ls,h with
  |n :: r,h=>exact⟨n,r,rfl,h⟩
 uc0:=by
  intro ls K h
  match ls,h with
  | [],h=>exact⟨rfl,h⟩
 peek:=λf h K hk=>hk
 heap:=by
  intro f h K hk
  obtain⟨acts,cs,h1,h2⟩:=hk
  exact⟨acts,cs,_,h1,rfl,h2⟩
 new:=λo h K hk=>⟨_,rfl,hk⟩
 call:=λg ls h K hk=>hk
 callv:=λv args hs h K hk=>hk
 join:=λb m h=>h
 loop:=by
  intro F ls h hk
  obtain⟨n,hk⟩:=hk
  exact⟨itP F,λls h=>(id:False->False),λn ls h=>rfl,n,hk⟩
 rfun:=by
  intro κ v vals h K hk
  obtain⟨g,first,cap,r,H1,lp,h1,h2,h3,h4,h5⟩:=hk
  exact⟨g,first,cap,r,H1,lp,_,h1,h2,h3,h4,rfl,h5⟩
 pend:=by
  intro pd kn kr ks h
  have h:pendP pd kn kr ks:=h
  unfold pendP at h
  split at h
  ·exact .inl ⟨rfl,h⟩
  ·exact .inr (.inl ⟨rfl,h⟩)
  ·obtain⟨x,h1,h2⟩:=h
   exact .inr (.inr ⟨_,x,rfl,h1,h2⟩)
  ·exact h.elim
 lp1:=by
  intro l h K hk
  obtain⟨lp,h1,h2,h3⟩:=hk
  exact⟨lp,_,h1,h2,rfl,h3⟩
 lp2:=by
  intro l j h K hk
  obtain⟨lp,h1,h2⟩:=hk
  exact⟨lp,_,h1,rfl,h2⟩
def SL.plain_scalar{l:SL}{k:LK}(h:l.is k=true)(hk:k.plain=true):scalar l.val=true:=by
 cases l<;>cases k<;>first|(cases hk;done)|(cases h;done)|rfl
def kY:∀ {cs:List SL} {ks:TG},aT cs ks=true->ks.all LK.plain=true->(cs.map SL.val).all scalar=true
 | [],[],_,_=>rfl
 |c :: cs,k :: ks,h,hk=>by
  simp only[aT,qaa]at h
  simp only[qbW,qaa]at hk
  simp only[qas,qbW,qaa]
  exact⟨SL.plain_scalar h.1 hk.1,kY h.2 hk.2⟩
 | [],_ :: _,h,_=>by cases h
 |_ :: _,[],h,_=>by cases h
def S0.plain_flat1{x:S0}{k:SK}(h:x.is k=true)(hk:k.plain=true):eO x.val=true:=by
 cases x with
 |leaf l=>
  cases k with
  |leaf k=>
   have:=SL.plain_scalar h hk
   show eO l.val=true
   cases hv:l.val<;>rw[hv]at this<;>first|exact this|cases this
  |agg _=>cases h
 |agg cs=>
  cases k with
  |leaf k=>cases h
  |agg ks=>exact kY h hk
def jr{v:Value}(h:eO v=true):flat v=true:=by
 cases v<;>first|exact h|cases h
def fF:∀ {xs:List S0} {sks:TJ},bZ xs sks=true->sks.all SK.plain=true->(ai xs).all eO=true
 | [],[],_,_=>rfl
 |x :: xs,k :: ks,h,hk=>by
  simp only[bZ,qaa]at h
  simp only[qbW,qaa]at hk
  simp only[ai,qas,qbW,qaa]
  exact⟨S0.plain_flat1 h.1 hk.1,fF h.2 hk.2⟩
 | [],_ :: _,h,_=>by cases h
 |_ :: _,[],h,_=>by cases h
def wU{xs:List S0}{sks:TJ}(h:bZ xs sks=true)(hk:sks.all SK.plain=true):(ai xs).all flat=true:=by
 have:=fF h hk
 rw[qag]at this ⊢
 exact λv hv=>jr (this v hv)
def pJ{vs:Tl}(h:vs.all eO=true):flat (fz vs)=true:=by
 match vs,h with
 | [],_=>rfl
 | [v],h=>
  simp only[qbW,List.all_nil,qdz]at h
  exact jr h
 |a :: b :: l,h=>
  show flat (.tuple (a :: b :: l).toArray)=true
  simp only[flat,qaa]
  exact⟨by simp,h⟩
end
@[reducible] def KnoC (C:Cfg) (N:Tc) [Val]:Kno:=⟨λf args r=>∀H,cM C f args H r H,λf args H r H'=>(N f=none∨(N f=some (2*args.length+1)/\H'=H))/\cM C f args H r H'⟩
section
variable [Val]
def Ct(C:Cfg)(N:Tc)(Sg:Tb)(g:TN)(ls rs:TE):Prop:=let _:Kno:=KnoC C N;∀H,aw C Sg g ls H rs H
def jL{C:Cfg}{N:Tc}(hm:C.P.follows .mixedOrders=true){f:TN}{args:Tl}{H:Ts}{r:Value}{H':Ts}(h:let _:Kno:=KnoC C N;iy C f args H r H'):cM C f args H r H':=
 @uCall_ok _ _ (KnoC C N) hm (λ_ _ _ h=>h) (λ_ _ _ _ _ h=>h.2) _ _ _ _ _ h
def ct_of{C:Cfg}{N:Tc}{Sg:Tb}(hm:C.P.follows .mixedOrders=true)(hG:∀g vs,C.G g=some vs->vs.all gfl=true){g:TN}{sg:Sig}(hs:Sg g=some sg)(hp:sg.plain=true){ls rs:TE}{H':Ts}
  (h:let _:Kno:=KnoC C N;aw C Sg g ls [] rs H'):Ct C N Sg g ls rs:=by
 let _:Kno:=KnoC C N
 obtain⟨sg',xs,ys,c1,c2,c3,c4⟩:=h
 rw[hs]at c1
 cases c1
 simp only[Sig.plain,qaa]at hp
 have ha:=wU c2.1 hp.1
 have hr:=pJ (fF c3.1 hp.2)
 intro H
 exact⟨sg,xs,ys,hs,c2,c3,⟨0,.inl ⟨λH=>frame_ok hG (jL hm c4) ha hr H,rfl⟩⟩⟩
end
section
variable [Val] [Kno]
def cQ{n:Int}(h1:-9223372036854775808<=n)(h2:n<=9223372036854775807):IntKind.wrap .i64 n=n:=by
 simp only[IntKind.wrap,IntKind.bits,IntKind.signed,qdk,ge_iff_le,qdA]
 split<;>omega
def rT{n:Int}(h1:0<=n)(h2:n<=255):IntKind.wrap .u8 n=n:=by
 simp only[IntKind.wrap,IntKind.bits,IntKind.signed,Bool.false_and,qao,if_false]
 omega
end
end Sx
namespace Sx
section
variable [Val]
def renV(σ:TC)(v:Value):Value:=match v with
 | .slice (some a) len cx=>.slice (some ⟨σ a.block,a.off,a.spot⟩) len cx
 |v=>v
def oC(σ:TC):SL->SL
 | .v x=>.v (renV σ x)
 |s=>s
def renS(σ:TC):S0->S0
 | .leaf l=>.leaf (oC σ l)
 | .agg cs=>.agg (cs.map (oC σ))
def renL(σ:TC):Lf->Lf
 | .v x=>.v (renV σ x)
 |l=>l
def OkV(n:Nat)(v:Value):Prop:=(flat v=true/\∀σ,renV σ v=v)∨∃j off len cx e,j<n/\v = .slice (some ⟨j,off,tag e⟩) len cx
def OkL(n:Nat):Lf->Prop
 | .v x=>OkV n x
 |_=>True
def vr_ren [Glo]{n:Nat}{σ:TC}{mu mu0:HMap}(hmu:∀j,j<n->mu0 j=mu (σ j)){v c:Value}(hv:OkV n v)(h:VR noL mu (renV σ v) c):VR noL mu0 v c:=by
 rcases hv with⟨h1,h2⟩|⟨j,off,len,cx,e,hj,rfl⟩
 ·rw[h2]at h
  rw[fj h1 h]
  exact .of_flat h1
 ·have h:VR noL mu (.slice (some ⟨σ j,off,tag e⟩) len cx) c:=h
  generalize ht:tag e=t at h ⊢
  cases h with
  |hslice q1 q2 q3 q4=>exact .hslice ((hmu j hj).trans q1) q2 q3 q4
  |hslice0 q1=>exact .hslice0 q1
  |gslice _=>simp[tag]at ht
  |gslice0=>simp[tag]at ht
  |scalar q=>simp[scalar]at q
def tT{σ:TC}(l:SL)(k:LK):(oC σ l).is k=l.is k:=by cases l<;>cases k<;>rfl
def sc{σ:TC}:∀(cs:List SL) (ks:TG),aT (cs.map (oC σ)) ks=aT cs ks
 | [],[]=>rfl
 | [],_ :: _=>rfl
 |_ :: _,[]=>rfl
 |c :: cs,k :: ks=>by simp only[qas,aT,tT,sc cs ks]
def is_ren{σ:TC}(x:S0)(k:SK):(renS σ x).is k=x.is k:=by
 cases x<;>cases k<;>first|rfl|exact tT _ _|exact sc _ _
def se{σ:TC}:∀(xs:List S0) (ks:TJ),bZ (xs.map (renS σ)) ks=bZ xs ks
 | [],[]=>rfl
 | [],_ :: _=>rfl
 |_ :: _,[]=>rfl
 |x :: xs,k :: ks=>by simp only[qas,bZ,is_ren,se xs ks]
def lf_ren{σ:TC}(l:SL):(oC σ l).lf=renL σ l.lf:=by cases l<;>rfl
def su{σ:TC}(x:S0):(renS σ x).cells=x.cells.map (oC σ):=by cases x<;>rfl
def ta{σ:TC}:∀(xs:List S0),cb (xs.map (renS σ))=(cb xs).map (renL σ)
 | []=>rfl
 |x :: xs=>by
  simp only[qas,cb,qbB,ta xs,su,qcW]
  congr 1
  exact qbF λl _=>lf_ren l
def sQ{σ:TC}(x:Value):aS (renV σ x)=aS x:=by
 unfold renV
 split
 ·simp[aS,noLoc,aZ,bz,bp,aR,aI]
 ·rfl
def good_ren{σ:TC}{l:SL}(h:l.good):(oC σ l).good:=by
 cases l with
 |v x=>
  show aS (renV σ x)=true
  have h:aS x=true:=h
  unfold renV
  split
  ·simpa[aS,noLoc,aZ,bz,bp,aR,aI]using h
  ·exact h
 |_=>exact h
def vr_sl [Glo]{n:Nat}{σ:TC}{mu mu0:HMap}(hmu:∀j,j<n->mu0 j=mu (σ j)){l:SL}{c:Value}(hl:OkL n l.lf)(h:VR noL mu (oC σ l).val c):VR noL mu0 l.val c:=by
 cases l with
 |v x=>exact vr_ren hmu hl h
 |i k m=>
  have hf:flat (Value.int k m)=true:=rfl
  have h:VR noL mu (.int k m) c:=h
  rw[fj hf h];exact .of_flat hf
 |b t=>
  have hf:flat (Value.bool t)=true:=rfl
  have h:VR noL mu (.bool t) c:=h
  rw[fj hf h];exact .of_flat hf
 |l t=>
  have hf:flat (Value.bool t)=true:=rfl
  have h:VR noL mu (.bool t) c:=h
  rw[fj hf h];exact .of_flat hf
def vr_s0 [Glo]{n:Nat}{σ:TC}{mu mu0:HMap}(hmu:∀j,j<n->mu0 j=mu (σ j)){x:S0}{c:Value}(hx:∀l∈x.cells,OkL n l.lf)(h:VR noL mu (renS σ x).val c):VR noL mu0 x.val c:=by
 cases x with
 |leaf l=>exact vr_sl hmu (hx l (by simp[S0.cells])) h
 |agg cs=>
  have h:VR noL mu (.agg ⟨(cs.map (oC σ)).map SL.val⟩) c:=h
  generalize ha:(⟨(cs.map (oC σ)).map SL.val⟩ : Array Value)=a at h
  cases h with
  |scalar q=>simp[scalar]at q
  |agg hs h=>
   subst ha
   refine .agg (by simpa using hs) λi x y hx' hy=>?_
   have hi:(cs.map SL.val)[i]?=some x:=by simpa using hx'
   rw[qaz]at hi
   cases e:cs[i]? with
   |none=>rw[e]at hi;cases hi
   |some l=>
    rw[e]at hi
    cases hi
    exact vr_sl hmu (hx l (qab e)) (h i _ y (by simp[e]) hy)
def vrs_ren [Glo]{n:Nat}{σ:TC}{mu mu0:HMap}(hmu:∀j,j<n->mu0 j=mu (σ j)){xs:List S0}{cs:Tl}(hx:∀x∈xs,∀l∈x.cells,OkL n l.lf)(h:VRs noL mu (ai (xs.map (renS σ))) cs):VRs noL mu0 (ai xs) cs:=by
 refine⟨by simpa[ai]using h.1,λi x y hi hy=>?_⟩
 unfold ai at hi
 rw[qaz]at hi
 cases e:xs[i]? with
 |none=>rw[e]at hi;cases hi
 |some s=>
  rw[e]at hi
  cases hi
  exact vr_s0 hmu (hx s (qab e)) (h.2 i _ y (by simp[ai,e]) hy)
def lfsOf_mem{xs:List S0}{x:S0}{l:SL}(hx:x∈xs)(hl:l∈x.cells):l.lf∈cb xs:=by
 induction xs with
 |nil=>cases hx
 |cons y ys ih=>
  show l.lf∈y.cells.map SL.lf++cb ys
  rcases qal.1 hx with rfl|hx
  ·exact qaF _ (qco hl)
  ·exact qaK _ (ih hx)
def ug{C:Cfg}{N:Tc}{Sg:Tb}(hm:C.P.follows .mixedOrders=true)(hG:∀g vs,C.G g=some vs->vs.all gfl=true){g:TN}{sg:Sig}(hs:Sg g=some sg)(hp:sg.rs.all SK.plain=true)(hn:N g=none){ls0 rs:TE}{H0 H' H:Ts}(σ:TC)
  (h:let _:Kno:=KnoC C N;aw C Sg g ls0 H0 rs H')
  (h0:∀(j:Nat) (o:HObj),H0[j]?=some o->∃vs e rw,o = .cells vs e false/\vs.all flat=true/\H[σ j]?=some (.cells vs e rw))
  (hl:∀l∈ls0,OkL H0.length l):let _:Kno:=KnoC C N;aw C Sg g (ls0.map (renL σ)) H rs H:=by
 let _:Kno:=KnoC C N
 obtain⟨sg',xs,ys,c1,c2,c3,c4⟩:=h
 rw[hs]at c1
 cases c1
 have hr:=pJ (fF c3.1 hp)
 have hx:∀x∈xs,∀l∈x.cells,OkL H0.length l.lf:=λx hx l hl'=>hl _ (by rw[←c2.2.1];exact lfsOf_mem hx hl')
 refine⟨sg,xs.map (renS σ),ys,hs,⟨by rw[se];exact c2.1,by rw[ta,c2.2.1],λx hx'=>?_⟩,c3,⟨0,?_⟩⟩
 ·obtain⟨y,hy,rfl⟩:=qaU.1 hx'
  intro l hl'
  rw[su]at hl'
  obtain⟨l',hl'',rfl⟩:=qaU.1 hl'
  exact good_ren (c2.2.2 y hy l' hl'')
 ·exact .inr ⟨.inl hn,frame_ro hG σ (jL hm c4) hr h0 λmu mu0 cs hmu h=>vrs_ren hmu hx h⟩
end
end Sx
end Go.Am
namespace Go.Am
open Sx
abbrev FB:=List Lf->HTr->(TE->HTr->RT)->RT
def nf:FB:=λ_ _ _=>none
def tell(rs:TE)(_:HTr):RT:=rt rs λrs=>some rs
def memo(g:FB):FB:=λls h K=>rt ls λls=>@Option.rec _ (λ_=>RT) none (λrs=>K rs h) (g ls .empty tell)
def fB{R:Type}(b:Bool)(k:Bool->R):R:=Bool.rec (k false) (k true) b
def flatI(v:Value):Bool:=match v with
 | .int _ _=>true
 | .bool _=>true
 |_=>false
def allR(c:Tr Value)(n:Nat):Bool:=@Nat.rec (λ_=>Bool) true (λi ih=>@Bool.rec (λ_=>Bool) false ih (flatI ((bD i).get nilV c))) n
def ext(h:HTr)(d:RT)(ls:TE):HTr->(TE->HTr->RT)->RT:=
 @List.rec Lf (λ_=>HTr->(TE->HTr->RT)->RT) (λh0 k=>k [] h0) (λx _ ih h0 k=>match x with
  | .i n=>fI n λn=>ih h0 λl h1=>k (.i n :: l) h1
  | .b t=>fB t λt=>ih h0 λl h1=>k (.b t :: l) h1
  | .v v=>match v with
   | .slice (some a) len cx=>match h.at a.block with
    |some (.t n e _ c)=>match tagB a.spot e,allR c n with
     |true,true=>gR h0 (.t n e false c) λh1=>fN a.off λo=>fN len λlen=>fN cx λcx=>ih h1 λl h2=>k (.v (.slice (some ⟨h0.n,o,tag e⟩) len cx) :: l) h2
     |_,_=>d
    |_=>d
   |v=>match flat v with
    |true=>ih h0 λl h1=>k (.v v :: l) h1
    |false=>d) ls
def kD(g:FB):FB:=λls h K=>ext h (g ls h K) ls .empty λls0 h0=>@Option.rec _ (λ_=>RT) (g ls h K) (λrs=>K rs h) (g ls0 h0 tell)
def fx{K K':TE->HTr->RT}(h:∀rs h,K rs h=K' rs h):K=K':=funext λrs=>funext λx=>h rs x
def c2{A B Z:Sort _}{f g:A->B->Z}(h:f=g)(x0:A)(x1:B):f x0 x1=g x0 x1:=by rw[h]
def c3{A B C Z:Sort _}{f g:A->B->C->Z}(h:f=g)(x0:A)(x1:B)(x2:C):f x0 x1 x2=g x0 x1 x2:=by rw[h]
def c4{A B C D Z:Sort _}{f g:A->B->C->D->Z}(h:f=g)(x0:A)(x1:B)(x2:C)(x3:D):f x0 x1 x2 x3=g x0 x1 x2 x3:=by rw[h]
def c5{A B C D E Z:Sort _}{f g:A->B->C->D->E->Z}(h:f=g)(x0:A)(x1:B)(x2:C)(x3:D)(x4:E):f x0 x1 x2 x3 x4=g x0 x1 x2 x3 x4:=by rw[h]
def c6{A B C D E F Z:Sort _}{f g:A->B->C->D->E->F->Z}(h:f=g)(x0:A)(x1:B)(x2:C)(x3:D)(x4:E)(x5:F):f x0 x1 x2 x3 x4 x5=g x0 x1 x2 x3 x4 x5:=by rw[h]
def c7{A B C D E F G Z:Sort _}{f g:A->B->C->D->E->F->G->Z}(h:f=g)(x0:A)(x1:B)(x2:C)(x3:D)(x4:E)(x5:F)(x6:G):f x0 x1 x2 x3 x4 x5 x6=g x0 x1 x2 x3 x4 x5 x6:=by rw[h]
def c8{A B C D E F G H Z:Sort _}{f g:A->B->C->D->E->F->G->H->Z}(h:f=g)(x0:A)(x1:B)(x2:C)(x3:D)(x4:E)(x5:F)(x6:G)(x7:H):f x0 x1 x2 x3 x4 x5 x6 x7=g x0 x1 x2 x3 x4 x5 x6 x7:=by rw[h]
def c9{A B C D E F G H I Z:Sort _}{f g:A->B->C->D->E->F->G->H->I->Z}(h:f=g)(x0:A)(x1:B)(x2:C)(x3:D)(x4:E)(x5:F)(x6:G)(x7:H)(x8:I):f x0 x1 x2 x3 x4 x5 x6 x7 x8=g x0 x1 x2 x3 x4 x5 x6 x7 x8:=by rw[h]
def c10{A B C D E F G H I J Z:Sort _}{f g:A->B->C->D->E->F->G->H->I->J->Z}(h:f=g)(x0:A)(x1:B)(x2:C)(x3:D)(x4:E)(x5:F)(x6:G)(x7:H)(x8:I)(x9:J):f x0 x1 x2 x3 x4 x5 x6 x7 x8 x9=g x0 x1 x2 x3 x4 x5 x6 x7 x8 x9:=by rw[h]
def c11{A B C D E F G H I J K Z:Sort _}{f g:A->B->C->D->E->F->G->H->I->J->K->Z}(h:f=g)(x0:A)(x1:B)(x2:C)(x3:D)(x4:E)(x5:F)(x6:G)(x7:H)(x8:I)(x9:J)(x10:K):f x0 x1 x2 x3 x4 x5 x6 x7 x8 x9 x10=g x0 x1 x2 x3 x4 x5 x6 x7 x8 x9 x10:=by rw[h]
abbrev r0(X:RT)(ls:TE):RT:=@List.rec Lf (λ_=>RT) X (λ_ _ _=>none) ls
def lookF(l:List (Nat×FB))(g:Nat)(d:FB):FB:=@List.rec _ (λ_=>FB) d (λp _ ih=>@Bool.rec (λ_=>FB) ih p.2 (Nat.beq p.1 g)) l
def tblF(l:List (Nat×FB))(c:ae):ae:=λck=>match ck with
 | .f g=>lookF l g (c (.f g))
 | .y κ vs i=>c (.y κ vs i)
section
variable {Sg:Tb} {T:Tt} {call:ae}
end
section
variable [Val] [Kno]
def eqLs(a:TE):TE->Bool:=@List.rec _ (λ_=>TE->Bool) (λb=>@List.rec _ (λ_=>Bool) true (λ_ _ _=>false) b) (λx _ ih b=>@List.rec _ (λ_=>Bool) false (λy m _=>@Bool.rec (λ_=>Bool) false (ih m) (eqLf x y)) b) a
def oV{x y:Lf}(h:eqLf x y=true):x=y:=by
 cases x<;>cases y<;>first|(cases h;done)|skip
 ·have h:eqZK _ _=true:=h
  rw[qH,beq_iff_eq]at h;rw[h]
 next a b=>cases a<;>cases b<;>first|rfl|cases h
def gZ:∀ {a b:TE},eqLs a b=true->a=b
 | [],[],_=>rfl
 |x :: a,y :: b,h=>by
  have h:@Bool.rec (λ_=>Bool) false (eqLs a b) (eqLf x y)=true:=h
  cases e:eqLf x y with
  |true=>rw[e]at h;rw[oV e,gZ h]
  |false=>rw[e]at h;cases h
 | [],_ :: _,h=>by cases h
 |_ :: _,[],h=>by cases h
abbrev KN1:=Nat×List Lf×List Lf
def oh(C:Cfg)(Sg:Tb)(T:Tt)(k:Nat)(g:FB):Prop:=∀ls h K w,cR ls->g ls h K=some w->∃rs h',aw C Sg k ls (absH T (toL h)) rs (absH T (toL h'))/\K rs h'=some w
def AllK(C:Cfg)(Sg:Tb)(l:List KN1):Prop:=∀p∈l,∀H,aw C Sg p.1 p.2.1 H p.2.2 H
def AllK.nil{C:Cfg}{Sg:Tb}:AllK C Sg []:=λ_ h=>by cases h
def AllK.cons{C:Cfg}{Sg:Tb}{f:Nat}{ls rs:TE}{l:List KN1}(h:∀H,aw C Sg f ls H rs H)(hl:AllK C Sg l):AllK C Sg ((f,ls,rs) :: l):=by
 intro p hp
 rcases qal.1 hp with rfl|hp
 ·exact h
 ·exact hl p hp
def AllK.app{C:Cfg}{Sg:Tb}{l m:List KN1}(h:AllK C Sg l)(hm:AllK C Sg m):AllK C Sg (l++m):=by
 intro p hp
 rcases qau.1 hp with hp|hp
 ·exact h p hp
 ·exact hm p hp
def vL{C:Cfg}{Sg:Tb}{T:Tt}{g:Nat}{d:FB}(hd:oh C Sg T g d):∀ {l:List (Nat×FB)},(∀p∈l,oh C Sg T p.1 p.2)->oh C Sg T g (lookF l g d)
 | [],_=>hd
 |p :: l,h=>by
  have e:lookF (p :: l) g d = @Bool.rec (λ_=>FB) (lookF l g d) p.2 (Nat.beq p.1 g):=rfl
  rw[e]
  cases hb:Nat.beq p.1 g with
  |true=>
   have:=qac hb
   subst this
   exact h p qaE
  |false=>exact vL hd (λq hq=>h q (qap _ hq))
def tblF_ok{C:Cfg}{Sg:Tb}{T:Tt}{c:ae}(hc:CallBOk C Sg T c){l:List (Nat×FB)}(h:∀p∈l,oh C Sg T p.1 p.2):CallBOk C Sg T (tblF l c):=
 ⟨λg ls hh K w hls hk=>vL (λls h K w=>hc.f g ls h K w) h ls hh K w hls hk,λκ vs l ls h K w st pd xs e hy hk=>hc.y κ vs l ls h K w st pd xs e hy hk⟩
def YOk(C:Cfg)(Sg:Tb)(T:Tt)(κ:Nat)(g:Tl->Nat->FB):Prop:=∀vs l ls h K w st pd xs,h.at l=some (.lp κ st pd vs)->Told ((T κ).params.map (·.2)) ls xs->g vs l ls h K=some w->
  ∃b h',jM C l (ai xs) (absH T (toL h)) (.bool b) (absH T (toL h'))/\K [.b b] h'=some w
def lookY(l:List (Nat×(Tl->Nat->FB)))(κ:Nat)(d:Tl->Nat->FB):Tl->Nat->FB:=@List.rec _ (λ_=>Tl->Nat->FB) d (λp _ ih=>@Bool.rec (λ_=>Tl->Nat->FB) ih p.2 (Nat.beq p.1 κ)) l
def vM{C:Cfg}{Sg:Tb}{T:Tt}{g:Nat}{d:Tl->Nat->FB}(hd:YOk C Sg T g d):∀ {l:List (Nat×(Tl->Nat->FB))},(∀p∈l,YOk C Sg T p.1 p.2)->YOk C Sg T g (lookY l g d)
 | [],_=>hd
 |p :: l,h=>by
  have e:lookY (p :: l) g d = @Bool.rec (λ_=>Tl->Nat->FB) (lookY l g d) p.2 (Nat.beq p.1 g):=rfl
  rw[e]
  cases hb:Nat.beq p.1 g with
  |true=>
   have:=qac hb
   subst this
   exact h p qaE
  |false=>exact vM hd (λq hq=>h q (qap _ hq))
def kW:tell=λrs _=>some rs:=by
 funext rs h
 exact eu rs _
def memo_ok{C:Cfg}{Sg:Tb}{T:Tt}(hpl:∀f sg ls rs H',Sg f=some sg->sg.plain=true->aw C Sg f ls [] rs H'->∀H,aw C Sg f ls H rs H)
  {k:Nat} {g:FB} {sg:Sig} (hg:oh C Sg T k g) (hs:Sg k=some sg) (hp:sg.plain=true):oh C Sg T k (memo g):=by
 intro ls h K w hls hk
 unfold memo at hk
 rw[eu,kW]at hk
 cases e:g ls .empty (λrs _=>some rs)with
 |none=>rw[e]at hk;cases hk
 |some rs=>
  rw[e]at hk
  obtain⟨rs',h',a1,a2⟩:=hg ls .empty _ rs hls e
  cases a2
  exact⟨rs,h,hpl k sg ls rs _ hs hp a1 _,hk⟩
def fB_eq{R:Type}(b:Bool)(k:Bool->R):fB b k=k b:=by cases b<;>rfl
def flatI_ok{v:Value}(h:flatI v=true):flat v=true:=by
 cases v<;>first|rfl|cases h
def allR_ok{c:Tr Value}:∀ {n:Nat},allR c n=true->(bS c n).all flat=true:=by
 intro n h
 have main:∀n,allR c n=true->∀i,i<n->flatI ((bD i).get nilV c)=true:=by
  intro n
  induction n with
  |zero=>intro _ i hi;cases hi
  |succ n ih=>
   intro h i hi
   have h:@Bool.rec (λ_=>Bool) false (allR c n) (flatI ((bD n).get nilV c))=true:=h
   cases e:flatI ((bD n).get nilV c)with
   |false=>rw[e]at h;cases h
   |true=>
    rw[e]at h
    rcases qaQ i n with h1|h1
    ·exact ih h i h1
    ·obtain rfl:i=n:=by omega
     exact e
 rw[qag]
 intro v hv
 obtain⟨i,hi,rfl⟩:=qaU.1 hv
 exact flatI_ok (main n h i (qaN.1 hi))
def Blk(T:Tt)(h h0:HTr)(σ:TC):Prop:=∀(j:Nat) (o:HObj),(absH T (toL h0))[j]?=some o->∃vs e rw,o = .cells vs e false/\vs.all flat=true/\(absH T (toL h))[σ j]?=some (.cells vs e rw)
def mV{T:Tt}{h:HTr}{d:RT}{w:TE}:∀(ls:TE) (h0:HTr) (k:TE->HTr->RT) (σ:TC),Blk T h h0 σ->ext h d ls h0 k=some w->
  d=some w∨∃ls0 h1 σ',k ls0 h1=some w/\h0.n<=h1.n/\(∀j,j<h0.n->σ' j=σ j)/\Blk T h h1 σ'/\ls0.map (renL σ')=ls/\∀l∈ls0,OkL h1.n l
 | [],h0,k,σ,hb,hk=>.inr ⟨[],h0,σ,hk,qaf _,λ_ _=>rfl,hb,rfl,λ_ h=>by cases h⟩
 | .i n :: ls,h0,k,σ,hb,hk=>by
  have hk:(fI n λn=>ext h d ls h0 λl h1=>k (.i n :: l) h1)=some w:=hk
  rw[jm]at hk
  rcases mV ls h0 _ σ hb hk with h1|⟨l,h1,σ',a1,a2,a3,a4,a5,a6⟩
  ·exact .inl h1
  ·refine .inr ⟨.i n :: l,h1,σ',a1,a2,a3,a4,by rw[qas,a5];rfl,λx hx=>?_⟩
   rcases qal.1 hx with rfl|hx
   ·trivial
   ·exact a6 x hx
 | .b t :: ls,h0,k,σ,hb,hk=>by
  have hk:(fB t λt=>ext h d ls h0 λl h1=>k (.b t :: l) h1)=some w:=hk
  rw[fB_eq]at hk
  rcases mV ls h0 _ σ hb hk with h1|⟨l,h1,σ',a1,a2,a3,a4,a5,a6⟩
  ·exact .inl h1
  ·refine .inr ⟨.b t :: l,h1,σ',a1,a2,a3,a4,by rw[qas,a5];rfl,λx hx=>?_⟩
   rcases qal.1 hx with rfl|hx
   ·trivial
   ·exact a6 x hx
 | .v v :: ls,h0,k,σ,hb,hk=>by
  have hk:(match (motive:=Value->RT) v with
   | .slice (some a) len cx=>match h.at a.block with
    |some (.t n e _ c)=>match tagB a.spot e,allR c n with
     |true,true=>gR h0 (.t n e false c) λh1=>fN a.off λo=>fN len λlen=>fN cx λcx=>ext h d ls h1 λl h2=>k (.v (.slice (some ⟨h0.n,o,tag e⟩) len cx) :: l) h2
     |_,_=>d
    |_=>d
   |v=>match flat v with
    |true=>ext h d ls h0 λl h1=>k (.v v :: l) h1
    |false=>d)=some w:=hk
  split at hk
  next a len cx _=>
   split at hk
   next n e rw' c hat=>
    split at hk
    next q1 q2=>
     have q1:=rQ.1 q1
     rw[eZ,df,df,df]at hk
     have hb1:Blk T h (h0.push (.t n e false c)) (λj=>if j=h0.n then a.block else σ j):=by
      intro j o hj
      rw[fe,gj]at hj
      by_cases h1:j<h0.n
      ·rw[qah (by rw[du,cU];exact h1)]at hj
       simp only[qdE (Nat.ne_of_lt h1)]
       exact hb j o hj
      ·rw[qan (by rw[du,cU];omega),du,cU]at hj
       by_cases h2:j=h0.n
       ·subst h2
        rw[qbu]at hj
        cases hj
        refine⟨bS c n,e,rw',rfl,allR_ok q2,?_⟩
        simp only[if_true]
        have:=kj (T:=T) hat
        rw[ko]at this
        exact this
       ·rw[qaj (by simp;omega)]at hj;cases hj
     rcases mV ls _ _ _ hb1 hk with h1|⟨l,h1,σ',a1,a2,a3,a4,a5,a6⟩
     ·exact .inl h1
     ·have hn:(h0.push (.t n e false c)).n=h0.n+1:=rfl
      rw[hn]at a2 a3
      refine .inr ⟨_,h1,σ',a1,by omega,λj hj=>?_,a4,?_,λx hx=>?_⟩
      ·rw[a3 j (by omega)];simp only[qdE (Nat.ne_of_lt hj)]
      ·have hs:σ' h0.n=a.block:=by rw[a3 h0.n (by omega)];simp
       rw[qas,a5]
       show Lf.v (.slice (some ⟨σ' h0.n,a.off,tag e⟩) len cx) :: ls=_
       rw[hs,←q1]
      ·rcases qal.1 hx with rfl|hx
       ·exact .inr ⟨h0.n,a.off,len,cx,e,by omega,rfl⟩
       ·exact a6 x hx
    ·exact .inl hk
   ·exact .inl hk
  next hne=>
   split at hk
   next hf=>
    have hr:∀σ,renV σ v=v:=by
     intro σ
     unfold renV
     split
     next a len cx _=>exact absurd rfl (hne a len cx)
     ·rfl
    rcases mV ls h0 _ σ hb hk with h1|⟨l,h1,σ',a1,a2,a3,a4,a5,a6⟩
    ·exact .inl h1
    ·refine .inr ⟨.v v :: l,h1,σ',a1,a2,a3,a4,by rw[qas,a5];show Lf.v (renV σ' v) :: ls=_;rw[hr],λx hx=>?_⟩
     rcases qal.1 hx with rfl|hx
     ·exact .inl ⟨hf,hr⟩
     ·exact a6 x hx
   ·exact .inl hk
def memoR_ok{C:Cfg}{Sg:Tb}{T:Tt}{k:Nat}{g:FB}
  (hro:∀(ls0 rs:TE) (H0 H' H:Ts) (σ:TC),aw C Sg k ls0 H0 rs H'->(∀(j:Nat) (o:HObj),H0[j]?=some o->∃vs e rw,o = .cells vs e false/\vs.all flat=true/\H[σ j]?=some (.cells vs e rw))->(∀l∈ls0,OkL H0.length l)->aw C Sg k (ls0.map (renL σ)) H rs H)
  (hg:oh C Sg T k g):oh C Sg T k (kD g):=by
 intro ls h K w hls hk
 unfold kD at hk
 rcases mV (T:=T) ls .empty _ id (λj o hj=>by cases hj) hk with h1|⟨ls0,h1,σ,a1,_,_,a4,a5,a6⟩
 ·exact hg ls h K w hls h1
 ·cases e:g ls0 h1 tell with
  |none=>rw[e]at a1;exact hg ls h K w hls a1
  |some rs=>
   rw[e]at a1
   rw[kW]at e
   have hgood:cR ls0:=by
    intro l hl
    cases l with
    |v x=>
     have h2:=hls (.v (renV σ x)) (by rw[←a5];exact qco (f:=renL σ) hl)
     have h2:aS (renV σ x)=true:=h2
     rw[sQ]at h2
     exact h2
    |_=>trivial
   obtain⟨rs',h',b1,b2⟩:=hg ls0 h1 _ rs hgood e
   cases b2
   have:=hro ls0 rs _ _ (absH T (toL h)) σ b1 a4 (λl hl=>by rw[du,cU];exact a6 l hl)
   rw[a5]at this
   exact⟨rs,h,this,a1⟩
end
end Go.Am
namespace Go.Am
open Sx Go.Proofs
instance val0 : Val := ⟨λ_ => 0⟩
instance kno0:Kno:=KnoC cc neuN
def mixed:cc.P.follows .mixedOrders=true:=by kernel_rfl
def gM(g:Nat)(vs:Tl)(h:cc.G g=some vs):vs.all gfl=true:=by
 unfold cc at h
 simp only at h
 split at h<;>first|(cases h;done)|(obtain rfl:=qae h;kernel_rfl)|(unfold glx at h;split at h<;>first|(cases h;done)|(obtain rfl:=qae h;kernel_rfl))
def vq:DrOk cc drN:=drOf_ok neuN_ok (λ_ _ _ _ _ (h:_/\_)=>h.1)
abbrev Ent(k:Nat)(g:FB):Prop:=oh cc ab aa k g
abbrev Cok(c:ae):Prop:=CallBOk cc ab aa c
def ru(f:TN)(sg:Sig)(ls rs:TE)(H':Ts)(hs:ab f=some sg)(hp:sg.plain=true)(hc:aw cc ab f ls [] rs H'):∀H,aw cc ab f ls H rs H:=ct_of mixed gM hs hp hc
def oz{k:Nat}{F:(R HT:Type)->Alg R HT->TE->HT->(TE->HT->R)->R}{fn:Fn1}(h2:F=λR HT A ls h K=>aF A (xc k) ab drN fn ls h K)(h3:FnIs (xc k) ab k fn){c:ae}(hc:Cok c){l:List (Nat×FB)}(hl:∀p∈l,Ent p.1 p.2):Ent k (F RT HTr (BA ab aa (tblF l c))):=by
 intro ls h K w hls hk
 rw[h2]at hk
 obtain⟨rs,h',a1,_,a3⟩:=qK (BA_ok (w:=w) (tblF_ok hc hl)) vq h3 hls hk
 exact⟨rs,h',a1,a3⟩
def aN:∀p∈([]:List (Nat×FB)),Ent p.1 p.2:=λ_ h=>by cases h
def aC{k:Nat}{g:FB}{l:List (Nat×FB)}(h:Ent k g)(t:∀p∈l,Ent p.1 p.2):∀p∈(k,g) :: l,Ent p.1 p.2:=λp hp=>by
 rcases qal.1 hp with rfl|hp
 ·exact h
 ·exact t p hp
def iB{k:Nat}{g:FB}{sg:Sig}(h:Ent k g)(h4:ab k=some sg)(h5:sg.rs.all SK.plain=true)(h6:neuN k=none):Ent k (kD g):=memoR_ok (λls0 rs H0 H' H σ hc hb hl=>ug mixed gM h4 h5 h6 σ hc hb hl) h
def aL{k:Nat}{g:FB}{sg:Sig}(h:Ent k g)(h4:ab k=some sg)(h5:sg.plain=true):Ent k (memo g):=memo_ok ru h h4 h5
end Go.Am
namespace Go.Proofs
open Go.Shelf Go.RowKit
def Tryz.lays169_ren:Go.Shelf.Ren:=⟨fun|169=>56|n=>n,fun|70=>104|9=>9|0=>0|72=>107|37=>105|127=>128|3=>3|5=>5|n=>n,fun|n=>n⟩
def Tryz.lays169:Go.Proofs.Lays.n169 Tryz.prog Tryz.lays169_ren:={
 mixed:=by kernel_rfl
 f169:=Tryz.func56.trans (congrArg some (by kernel_rfl))
 t0:=Tryz.underlying0
 a0:=Tryz.isAgg0
 z0:=Tryz.sizeOf0
 v0:=Tryz.zeroValue0
 t3:=Tryz.underlying3
 a3:=Tryz.isAgg3
 z3:=Tryz.sizeOf3
 v3:=Tryz.zeroValue3
 t9:=Tryz.underlying9
 a9:=Tryz.isAgg9
 z9:=Tryz.sizeOf9
 v9:=Tryz.zeroValue9
 t37:=Tryz.underlying105
 a37:=Tryz.isAgg105
 z37:=Tryz.sizeOf105
 v37:=Tryz.zeroValue105
 t70:=Tryz.underlying104
 a70:=Tryz.isAgg104
 z70:=Tryz.sizeOf104
 v70:=Tryz.zeroValue104
 t72:=Tryz.underlying107
 a72:=Tryz.isAgg107
 z72:=Tryz.sizeOf107
 v72:=Tryz.zeroValue107
 t127:=Tryz.underlying128
 a127:=Tryz.isAgg128
 z127:=Tryz.sizeOf128
 v127:=Tryz.zeroValue128 }
def Tryz.Builder_Extra_169:Builder.Extra Tryz.prog Tryz.lays169_ren:={
 sizeBuilder:=by kernel_rfl
 liesBuilder:=by kernel_rfl
 t5:=Tryz.underlying5
 a5:=Tryz.isAgg5
 z5:=Tryz.sizeOf5
 v5:=Tryz.zeroValue5
 infoByte:=by kernel_rfl
 cellsByte:=by kernel_rfl
 sizeByte:=by kernel_rfl
 neB5:=by decide }
def Tx.size:∃j,Tryz.prog.info? 107=some j/\j.size=2:=qad.1 (show(Tryz.prog.info? 107).map (·.size)=some 2 by kernel_rfl)
def Tx.lies:liesAt Tryz.prog Tryz.prog.depth 107 (2 / Tryz.prog.cellsOf 107) 0 107 1=true:=by kernel_rfl
set_option maxHeartbeats 1000000 in
set_option maxRecDepth 100000 in
def Tx.copy_used(b:Nat)(w:World)(h0:w.cell? ⟨b,0,none⟩=some (.pointer (some ⟨b,0,none⟩))) :
  Calls Tryz.prog 66 #[.pointer (some ⟨b,0,none⟩)] w λe w'=>e = .returned (.tuple #[])/\w'=w:=by
 obtain⟨j,hj,_⟩:=Tx.size
 go_enter Tryz.func66,Tryz.ntmps66
 go_wp2
 rw[Lib.run_neq_ptr_same w _ Tryz.underlying104 hj]
 go_wp2
 go_end0
 exact⟨rfl,rfl⟩
set_option maxHeartbeats 1000000 in
set_option maxRecDepth 100000 in
def Tx.copy_fresh(b:Nat)(w:World)(h0:w.cell? ⟨b,0,none⟩=some (.pointer none))(hsh:w.shape? b=some (107,2))(hfz:w.frozen? ⟨b,0,none⟩=false) :
  Calls Tryz.prog 66 #[.pointer (some ⟨b,0,none⟩)] w λe w'=>e = .returned (.tuple #[])/\w'=w.setCell ⟨b,0,none⟩ (.pointer (some ⟨b,0,none⟩)):=by
 obtain⟨j,hj,hjs⟩:=Tx.size
 go_enter Tryz.func66,Tryz.ntmps66
 go_wp2
 rw[Lib.run_to_unsafe w ⟨b,0,none⟩ Tryz.underlying104 Tryz.underlying151 hj (by rw[hjs];decide) hsh (Nat.zero_lt_succ 1)]
 simp only[Result.andThen]
 rw[Oper.upon_value]
 go_wp2
 rw[run_callFunc_extern Tryz.func85 (by kernel_rfl) (by kernel_rfl) (by kernel_rfl) (e:=Extern.AbiNoEscape.same) (by kernel_rfl)]
 rw[Lib.run_noEscape]
 simp only[Result.andThen]
 rw[Oper.upon_value]
 go_wp2
 rw[Lib.run_from_unsafe w ⟨b,0,none⟩ Tryz.underlying151 Tryz.underlying104 hj hsh Tx.lies]
 simp only[Result.andThen]
 rw[Oper.upon_value]
 go_wp2
 go_end0
 exact⟨rfl,rfl⟩
def Tx.copy(B b:Nat)(bs:Tl)(w:World)(h:Lib.IsBuilder 107 5 B b bs w) :
  Calls Tryz.prog 66 #[.pointer (some ⟨b,0,none⟩)] w λe w'=>e = .returned (.tuple #[])/\(Lib.BuilderAt 107 5 B b (.pointer (some ⟨b,0,none⟩)) bs w'/\Below B w w'/\w.drawn<=w'.drawn):=by
 rcases h with h|h
 ·refine(Tx.copy_fresh b w h.cell0 h.shape h.frozen0).mono ?_
  rintro e w' ⟨rfl,rfl⟩
  exact⟨rfl,h.used _,(Below.refl B w).setCell (p:=⟨b,0,none⟩) h.1 _,qaf _⟩
 ·refine(Tx.copy_used b w h.cell0).mono ?_
  rintro e w' ⟨rfl,rfl⟩
  exact⟨rfl,h,Below.refl B _,qaf _⟩
def Tx.app_drawn{P:TF}{w:World}(base:Nat)(t ty e:TM)(i:TypeInfo)(z:Value)(size bytes:Nat)(ht:P.underlying t=some (.slice e))(hi:P.info? e=some i)(hz:i.zero=some z)
  (hsize:i.size=size) (hby:i.bytes=bytes) (hzs:z.cells.size=size) (hsz:0<size)
  (v:Value) (n:Nat) (xs:Tl) (hown:w.ownsRow base e size v n xs)
  (a:Addr) (m c:Nat) (hm:0<m) (news:Tl) (hl:news.length=m*size) (hnews:∀j u,news[j]?=some u->w.cell? (a.add j)=some u) (h1:∀u∈news,u.oneCell'=true)
  (h63:n+m<=maxLen) (hbytes:(n+m)*bytes<=140737488355328) {v':Value} {w':World} (hr:(Builtin.append_ #[t,t] ty #[v,.slice (some a) m c]).run P w = .ok v' w'):w.drawn<=w'.drawn:=by
 subst hsize
 subst hby
 have hsmall:n+m<=9223372036854775807:=by simp only[maxLen]at h63;omega
 rcases hown.2 with⟨rfl,rfl⟩|⟨g,cap,cur,rfl,hbg,hg,hnc,hcm,hcs,htake⟩
 ·have hr2:=run_append_nil (P:=P) w t ty e i z ht hi hz a m c news hl hnews (by omega) (by omega) (by have hb:=hbytes;simp only[qaL]at hb;omega)
  rw[hr2]at hr
  cases hr
  simp
 ·by_cases hroom:n+m<=cap
  ·have hfit:n*i.size+news.length<=cur.size:=by rw[hl,hcs,←qbH];exact qbn _ hroom
   have hr2:=run_append_room (P:=P) w t ty e i ht hi g n cap cur hg a m c news hl hnews h1 hroom hfit
   rw[hr2]at hr
   cases hr
   simp
  ·have holds:∀j u,xs[j]?=some u->w.cell? ((⟨g,0,none⟩ : Addr).add j)=some u:=hown.cells (g:=g) rfl
   have hr2:=run_append_grow (P:=P) w t ty e i z ht hi hz ⟨g,0,none⟩ n cap xs hown.1 holds a m c news hl hnews (by omega) (by omega) (growslice_fits (by omega) hbytes)
   rw[hr2]at hr
   cases hr
   simp
def Tx.wp_app{P:TF}{w:World}{ops:Tm}{rest:Tv}{o:Oper}{a:Act}{Q:Exit->Act->World->Prop}(hgd:o.guard=none)(s x:TH)(t:TM)
  (ho:o.op = .call { callee:=.builtin .append,args:=#[s,x],argTypes:=#[t,t] })
  (base:Nat) (e:TM) (i:TypeInfo) (z:Value) (size bytes:Nat) (ht:P.underlying t=some (.slice e)) (hi:P.info? e=some i) (hz:i.zero=some z)
  (hsize:i.size=size) (hby:i.bytes=bytes) (hzs:z.cells.size=size) (hsz:0<size)
  (v:Value) (n:Nat) (xs:Tl) (hs:a.eval s=v) (hown:w.ownsRow base e size v n xs)
  (ad:Addr) (m c:Nat) (hm:0<m) (news:Tl) (hx:a.eval x = .slice (some ad) m c) (hl:news.length=m*size) (hnews:∀j u,news[j]?=some u->w.cell? (ad.add j)=some u) (h1:∀u∈news,u.oneCell'=true)
  (h63:n+m<=maxLen) (hbytes:(n+m)*bytes<=140737488355328) (hbase:base<=w.heap.size)
  (h:∀v' w',w'.ownsRow base e size v' (n+m) (xs++news)->w.grownBy w' v.ownBlock->w.drawn<=w'.drawn->wpList P ops Q rest (a.put o.dst v') w'):wpList P ops Q (o :: rest) a w:=
 wpList_plain hgd λ_ hK=>by
  obtain⟨v',w',hr,h2,h3,_⟩:=run_append_own (P:=P) w base t o.type e i z size bytes ht hi hz hsize hby hzs hsz v n xs hown ad m c news hl hnews h1 h63 hbytes hbase
  have hd:=Tx.app_drawn (P:=P) (w:=w) base t o.type e i z size bytes ht hi hz hsize hby hzs hsz v n xs hown ad m c hm news hl hnews h1 h63 hbytes hr
  have hgo:=hK _ _ (h v' w' h2 h3 hd)
  unfold Oper.wp execOp
  simp only[ho,resolve,invoke,builtin,Sem.run_bind,Sem.run_pure,Result.andThen_ok,List.map_toArray,qas,qbk,hs,hx,hr]
  exact hgo
set_option maxHeartbeats 2000000 in
set_option maxRecDepth 100000 in
def Tx.write(B b:Nat)(bs:Tl)(c:Int)(w:World)(h:Lib.IsBuilder 107 5 B b bs w)(hlen:bs.length+1<=140737488355328)(hBw:B<=w.heap.size) :
  Calls Tryz.prog 55 #[.pointer (some ⟨b,0,none⟩),.int .u8 c] w λe w'=>e = .returned .nilIface/\(Lib.BuilderAt 107 5 B b (.pointer (some ⟨b,0,none⟩)) (bs++[.int .u8 c]) w'/\Below B w w'/\w.drawn<=w'.drawn):=by
 obtain⟨i0,hi,hz0,hz1,hz2⟩:=info_parts Tryz.Builder_Extra_169.infoByte
 have e240:∀args w,(callFunc 66 args).run Tryz.prog w = .ok (.enter 66 args) w:=enters_of Tryz.func66 (by kernel_rfl) rfl
 go_enter Tryz.func55,Tryz.ntmps55
 go_wp2_with (go_at_fn 66;refine(Tx.copy B b bs _ h).mono ?_)
 rintro e w1 ⟨rfl,h1,hb1,hd1⟩
 obtain⟨hB,v,hbk,hown,hne⟩:=h1
 have c0:w1.cell? ⟨b,0,none⟩=some (.pointer (some ⟨b,0,none⟩)):=by rw[Lib.cell_of_heap hbk];rfl
 have c1:w1.cell? ⟨b,1,none⟩=some v:=by rw[Lib.cell_of_heap hbk];rfl
 go_wp2_with (at_builtin;refine Tx.wp_app rfl _ _ 105 rfl B 5 i0 (.int .u8 0) 1 1 Tryz.underlying105 hi hz0 hz1 hz2 rfl (by decide) _ _ _ rfl (hown.alloc _) ⟨w1.heap.size,0,none⟩ 1 1 (Nat.zero_lt_one) [.int .u8 c] rfl rfl ?c1 ?c2 ?c3 ?c4 ?c5 ?_)
 case c1=>
  intro j u hj
  match j,hj with
  |0,hj=>simp at hj;subst hj;simp[Addr.add]
 case c2=>intro u hu;simp at hu;subst hu;rfl
 case c3=>unfold maxLen;omega
 case c4=>omega
 case c5=>have:=hb1.size;simp;omega
 intro v' w2 hown' hgrow hd2
 have hlt:b<w1.heap.size:=by
  rcases qaQ b w1.heap.size with h'|h'
  ·exact h'
  ·simp[qbc h']at hbk
 have hb2:w2.heap[b]?=some (.cells #[.pointer (some ⟨b,0,none⟩),v] 107 (0,0)):=by
  rw[hgrow.block b (by simp;omega) (λe=>hne e.symm),Lib.alloc_old w1 _ b hlt]
  exact hbk
 have d0:w2.cell? ⟨b,0,none⟩=some (.pointer (some ⟨b,0,none⟩)):=by rw[Lib.cell_of_heap hb2];rfl
 have d1:w2.cell? ⟨b,1,none⟩=some v:=by rw[Lib.cell_of_heap hb2];rfl
 have f1:w2.frozen? ⟨b,1,none⟩=false:=Lib.frozen_of_heap hb2 1
 obtain⟨g,cap,rfl⟩ : ∃g cap,v' = .slice (some ⟨g,0,none⟩) (bs.length+1) cap:=by
  rcases hown'.2 with⟨_,h0⟩|⟨g,cap,cur,hv,_⟩
  ·omega
  ·exact⟨g,cap,hv⟩
 go_wp2
 go_ret
 refine⟨rfl,?_,?_,?_⟩
 rotate_left 2
 ·have e1:(w1.alloc (.cells #[.int .u8 c] 5)).drawn<=w2.drawn:=hd2
  simp at e1 ⊢
  omega
 ·exact Lib.BuilderAt.put (T:=107) (e:=5) hB hb2 (bs':=bs++[.int .u8 c]) (by simpa using hown') (by decide)
 ·exact((hb1.alloc (by have:=hb1.size;omega) _).grown hgrow (by have:=hb1.size;simp;omega) (λk hk=>(hown.lt k hk).1)).setCell (p:=⟨b,1,none⟩) hB _
set_option maxHeartbeats 2000000 in
set_option maxRecDepth 100000 in
def Tx.str_some(B b:Nat)(l:List UInt8)(w:World)(h:Lib.IsBuilder 107 5 B b (Lib.byteCells l) w)(h0:l≠[]) :
  Calls Tryz.prog 56 #[.pointer (some ⟨b,0,none⟩)] w λe w'=>e = .returned (.string ⟨l.toArray⟩)/\Below B w w'/\w.drawn<=w'.drawn:=by
 obtain⟨p,hB,v,hbk,hown,hne⟩ : ∃p,Lib.BuilderAt 107 5 B b p (Lib.byteCells l) w:=by
  rcases h with h|h
  ·exact⟨_,h⟩
  ·exact⟨_,h⟩
 have hl0:l.length≠0:=by simpa using h0
 rw[Lib.byteCells_length]at hown
 obtain⟨g,cap,cur,rfl,hbg,hg,hnc,hcm,hcs,htake⟩ : ∃g cap cur,v = .slice (some ⟨g,0,none⟩) l.length cap/\B<=g/\w.heap[g]?=some (.cells cur 5 (0,0))/\l.length<=cap/\cap<=maxLen/\cur.size=cap*1/\_:=by
  rcases hown.2 with⟨_,hz⟩|⟨g,cap,cur,hv,r⟩
  ·exact absurd hz hl0
  ·exact⟨g,cap,cur,hv,r⟩
 have c1:w.drew.cell? ⟨b,1,none⟩=some (.slice (some ⟨g,0,none⟩) l.length cap):=by
  have:w.drew.heap[b]?=some (.cells #[p,.slice (some ⟨g,0,none⟩) l.length cap] 107 (0,0)):=hbk
  rw[Lib.cell_of_heap this];rfl
 have hSD:(Builtin.unsafeSliceData_ #[105] 128 #[.slice (some ⟨g,0,none⟩) l.length cap]).run Tryz.prog w.drew = .ok (.pointer (some ⟨g,0,none⟩)) w.drew:=
  Lib.run_unsafeSliceData_row _ _ _ _ _ _ (by omega)
 have hUS:(Builtin.unsafeString_ #[128,3] 9 #[.pointer (some ⟨g,0,none⟩),.int .i64 l.length]).run Tryz.prog w.drew = .ok (.string ⟨l.toArray⟩) (w.drew.freeze ⟨g,0,none⟩ l.length):=by
  refine Lib.run_unsafeString_row w.drew 128 3 9 5 Tryz.underlying128 Tryz.Builder_Extra_169.cellsByte g cur.size (by have hg':w.drew.heap[g]?=some (.cells cur 5 (0,0)):=hg;simp[World.shape?,hg']) l h0 (by omega) (by unfold maxLen at hcm;omega) ?_
  intro j x hx
  have:=hown.cells (g:=g) rfl j (.int .u8 x.toNat) (by simp[Lib.byteCells,hx])
  exact this
 have mixed:=Tryz.lays169.mixed
 have hdr:w.drawn<=(w.drew.freeze ⟨g,0,none⟩ l.length).drawn:=by
  unfold World.freeze
  split<;>exact qc6 _
 go_enter Tryz.func56,Tryz.ntmps56
 go_wp2
 go_region_o
 all_goals (go_wp2;go_ret;exact⟨rfl,Lib.below_freeze (Below.drew (Below.refl B w)) (p:=⟨g,0,none⟩) hbg _,hdr⟩)
def Tx.us_none(W:World)(q:Option Addr):(Builtin.unsafeString_ #[128,3] 9 #[.pointer q,.int .i64 0]).run Tryz.prog W = .ok (.string .empty) W:=
 Lib.run_unsafeString_none W _ _ _ q
set_option maxHeartbeats 2000000 in
set_option maxRecDepth 100000 in
def Tx.str_nil(B b:Nat)(p:Value)(w:World)(hbk:w.heap[b]?=some (.cells #[p,.slice none 0 0] 107 (0,0))) :
  Calls Tryz.prog 56 #[.pointer (some ⟨b,0,none⟩)] w λe w'=>e = .returned (.string ⟨#[]⟩)/\Below B w w'/\w.drawn<=w'.drawn:=by
 have hUS:=Tx.us_none
 have c1:w.drew.cell? ⟨b,1,none⟩=some (.slice none 0 0):=by
  have:w.drew.heap[b]?=some (.cells #[p,.slice none 0 0] 107 (0,0)):=hbk
  rw[Lib.cell_of_heap this];rfl
 have hSD:(Builtin.unsafeSliceData_ #[105] 128 #[.slice none 0 0]).run Tryz.prog w.drew = .ok (.pointer none) w.drew:=rfl
 have mixed:=Tryz.lays169.mixed
 go_enter Tryz.func56,Tryz.ntmps56
 go_wp2
 go_region_o
 all_goals (go_wp2;go_ret;exact⟨rfl,Below.drew (Below.refl B w),qc6 _⟩)
set_option maxHeartbeats 2000000 in
set_option maxRecDepth 100000 in
def Tx.str_noroom(B b g:Nat)(p:Value)(cur:Tj)(w:World)(hBw:B<=w.heap.size)(hbk:w.heap[b]?=some (.cells #[p,.slice (some ⟨g,0,none⟩) 0 0] 107 (0,0)))(hg:w.heap[g]?=some (.cells cur 5 (0,0))) :
  Calls Tryz.prog 56 #[.pointer (some ⟨b,0,none⟩)] w λe w'=>e = .returned (.string ⟨#[]⟩)/\Below B w w'/\w.drawn<=w'.drawn:=by
 have hUS:=Tx.us_none
 have hlt:b<w.heap.size:=by
  rcases qaQ b w.heap.size with h'|h'
  ·exact h'
  ·simp[qbc h']at hbk
 have c1:w.drew.cell? ⟨b,1,none⟩=some (.slice (some ⟨g,0,none⟩) 0 0):=by
  have:w.drew.heap[b]?=some (.cells #[p,.slice (some ⟨g,0,none⟩) 0 0] 107 (0,0)):=hbk
  rw[Lib.cell_of_heap this];rfl
 have hSD:(Builtin.unsafeSliceData_ #[105] 128 #[.slice (some ⟨g,0,none⟩) 0 0]).run Tryz.prog w.drew = .ok (.pointer (some ⟨w.drew.heap.size,0,none⟩)) (w.drew.alloc (.view ⟨g,0,none⟩ 5)):=
  Lib.run_unsafeSliceData_zero w.drew _ _ 5 Tryz.underlying128 ⟨g,0,none⟩ 0 (5,cur.size) (by have hg':w.drew.heap[g]?=some (.cells cur 5 (0,0)):=hg;simp[World.shape?,hg'])
 have c2:(w.drew.alloc (.view ⟨g,0,none⟩ 5)).cell? ⟨b,1,none⟩=some (.slice (some ⟨g,0,none⟩) 0 0):=by
  have:(w.drew.alloc (.view ⟨g,0,none⟩ 5)).heap[b]?=_:=(Lib.alloc_old w.drew _ b hlt).trans hbk
  rw[Lib.cell_of_heap this];rfl
 have c3:(w.alloc (.view ⟨g,0,none⟩ 5)).drew.cell? ⟨b,1,none⟩=some (.slice (some ⟨g,0,none⟩) 0 0):=c2
 have c0:w.cell? ⟨b,1,none⟩=some (.slice (some ⟨g,0,none⟩) 0 0):=c1
 have mixed:=Tryz.lays169.mixed
 go_enter Tryz.func56,Tryz.ntmps56
 go_wp2
 go_region_o
 all_goals (go_wp2;go_ret;exact⟨rfl,(Below.drew (Below.refl B w)).alloc hBw _,qc6 _⟩)
set_option maxHeartbeats 2000000 in
set_option maxRecDepth 100000 in
def Tx.str_room(B b g cap:Nat)(p:Value)(w:World)(hc0:cap≠0)(hbk:w.heap[b]?=some (.cells #[p,.slice (some ⟨g,0,none⟩) 0 cap] 107 (0,0))) :
  Calls Tryz.prog 56 #[.pointer (some ⟨b,0,none⟩)] w λe w'=>e = .returned (.string ⟨#[]⟩)/\Below B w w'/\w.drawn<=w'.drawn:=by
 have hUS:=Tx.us_none
 have c1:w.drew.cell? ⟨b,1,none⟩=some (.slice (some ⟨g,0,none⟩) 0 cap):=by
  have:w.drew.heap[b]?=some (.cells #[p,.slice (some ⟨g,0,none⟩) 0 cap] 107 (0,0)):=hbk
  rw[Lib.cell_of_heap this];rfl
 have hSD:(Builtin.unsafeSliceData_ #[105] 128 #[.slice (some ⟨g,0,none⟩) 0 cap]).run Tryz.prog w.drew = .ok (.pointer (some ⟨g,0,none⟩)) w.drew:=
  Lib.run_unsafeSliceData_row _ _ _ _ _ _ hc0
 clear hc0
 have mixed:=Tryz.lays169.mixed
 go_enter Tryz.func56,Tryz.ntmps56
 go_wp2
 go_region_o
 all_goals (go_wp2;go_ret;exact⟨rfl,Below.drew (Below.refl B w),qc6 _⟩)
def Tx.str(B b:Nat)(l:List UInt8)(w:World)(h:Lib.IsBuilder 107 5 B b (Lib.byteCells l) w)(hBw:B<=w.heap.size) :
  Calls Tryz.prog 56 #[.pointer (some ⟨b,0,none⟩)] w λe w'=>e = .returned (.string ⟨l.toArray⟩)/\Below B w w'/\w.drawn<=w'.drawn:=by
 cases l with
 |cons x r=>exact Tx.str_some B b (x :: r) w h (by simp)
 |nil=>
  obtain⟨p,hB,v,hbk,hown,hne⟩ : ∃p,Lib.BuilderAt 107 5 B b p [] w:=by
   rcases h with h|h
   ·exact⟨_,h⟩
   ·exact⟨_,h⟩
  rcases hown.2 with⟨rfl,_⟩|⟨g,cap,cur,rfl,hbg,hg,_,_,_,_⟩
  ·exact Tx.str_nil B b p w hbk
  ·by_cases hc0:cap=0
   ·subst hc0
    exact Tx.str_noroom B b g p cur w hBw hbk hg
   ·exact Tx.str_room B b g cap p w hc0 hbk
end Go.Proofs
namespace Go.Proofs
open Go.Shelf Go.RowKit
def Tx.letter(z:Nat):UInt8:=match z with
 |1=>102
 |2=>98
 |3=>108
 |_=>114
set_option maxHeartbeats 4000000 in
set_option maxRecDepth 1000000 in
def Tx.text(ao:Option Addr)(n cap:Nat)(zs:TB)(hz:zs.length=n)(hn:n<=1048576)(hb:∀z∈zs,1<=z/\z<=4)(w:World)(R:World->Prop)
  (hc:Calls Tryz.prog 17 #[.slice ao n cap] w λe w1=>e = .returned (.int .i64 0)/\R w1)
  (hR:∀w1,R w1->∀(i z:Nat),zs[i]?=some z->∃b o,ao=some ⟨b,o,none⟩/\b<w1.heap.size/\w1.cell? ⟨b,o+i,none⟩=some (.int .u8 (z:Int))) :
  Calls Tryz.prog 40 #[.slice ao n cap] w λe w'=>e = .returned (.string ⟨(zs.map Tx.letter).toArray⟩)/\∃w1,R w1/\Below w1.heap.size w1 w'/\w1.drawn<=w'.drawn:=by
 go_enter Tryz.func40,Tryz.ntmps40
 go_wp2_with (go_at_call 17;refine hc.mono ?_)
 rintro e w1 ⟨rfl,hr⟩
 have dz:=hR w1 hr
 go_wp2
 go_loopw [11] (λi wr=>∃k:Nat,k<=n/\i = .int .i64 k/\Lib.IsBuilder 107 5 w1.heap.size w1.heap.size (Lib.byteCells ((zs.take k).map Tx.letter)) wr/\Below w1.heap.size w1 wr/\w1.drawn<=wr.drawn) (λi _=>n - (intOf i).toNat)
 case atStart=>
  exact⟨0,qaO _,rfl,by simpa[Lib.byteCells]using Lib.fresh_isBuilder 107 5 w1,(Below.refl _ w1).alloc (qaf _) _,qaf _⟩
 case round=>
  obtain⟨k,hk,rfl,hI,hbw,hdw⟩:=hrel
  have hsz2:w1.heap.size<=wr.heap.size:=hbw.size
  by_cases hlt:k<n
  ·obtain⟨z,hzk⟩ : ∃z,zs[k]?=some z:=⟨zs[k]'(by omega),qai _⟩
   obtain⟨b,o,rfl,hbs,hcell⟩:=dz k z hzk
   have hcr:wr.cell? ⟨b,o+k,none⟩=some (.int .u8 (z:Int)):=by rw[hbw.cell hbs];exact hcell
   have hz4:=hb z (qab hzk)
   have htk:(zs.take (k+1)).map Tx.letter=(zs.take k).map Tx.letter++[Tx.letter z]:=by
    rw[qbC,hzk];simp
   have hlen:(Lib.byteCells ((zs.take k).map Tx.letter)).length+1<=140737488355328:=by
    rw[Lib.byteCells_length,qay,qaG];omega
   have hz5:z=1∨z=2∨z=3∨z=4:=by omega
   rcases hz5 with rfl|rfl|rfl|rfl
   all_goals
    go_wp2_with (go_at_call 55;refine(Tx.write w1.heap.size w1.heap.size _ _ _ hI hlen hsz2).mono ?_)
    rintro e W1 ⟨rfl,h1,b1,d1⟩
    go_wp2
    go_roundw
    case rel=>
     refine⟨k+1,by omega,by simp,?_,hbw.trans b1,qbh hdw d1⟩
     rw[htk,Lib.byteCells_append]
     exact Or.inr h1
    case measure=>
     simp[intOf];omega
  ·have hkn:k=n:=by omega
   subst hkn
   go_wp2_with (go_at_call 56;refine(Tx.str w1.heap.size w1.heap.size _ _ hI hsz2).mono ?_)
   rintro e W1 ⟨rfl,b1,d1⟩
   go_wp2
   go_ret
   rw[qaS (by simp;omega)]
   exact⟨rfl,w1,hr,hbw.trans b1,qbh hdw d1⟩
end Go.Proofs
namespace Go.Am
open Sx Go.Proofs
def mt [Val] [Glo]{C:Cfg}{f:TN}{args:Tl}{H:Ts}{r:Value}{H':Ts}(h:cM C f args H r H'){base:Nat}{mu:HMap}{w:World}{args':Tj}
  (hb:base<=w.heap.size) (hv:VRs noL mu args args'.toList) (hW:WR C base mu H w) :
  Calls C.P f args' w λe w'=>∃v mu',e = .returned v/\VR noL mu' r v/\WR C base mu' H' w'/\Evo H mu w H' mu' w':=by
 intro cs
 obtain⟨v,mu',w',a1,a2,a3,_,fr,b1,b2,b3⟩:=h _ base mu w args' hb hv hW cs
 exact⟨.returned v,w',fr,⟨v,mu',rfl,a1,a2,a3⟩,b1,b2,b3⟩
def tx_below [Val] [Glo]{C:Cfg}{base:Nat}{mu:HMap}{H:Ts}{w w':World}(h:WR C base mu H w)(hb:Go.RowKit.Below w.heap.size w w')(hd:w.drawn<=w'.drawn):WR C base mu H w'/\Evo H mu w H mu w':=by
 refine⟨⟨λid o h1 h2=>?_,h.inj,h.own,h.ro,h.dom,λg vs hg=>?_⟩,⟨qaf _,λ_ _=>rfl,hb.size,λb hb' _=>hb.block b hb',λb h=>.inr h,hb.os,hb.tape,hb.output,hd⟩⟩
 ·obtain⟨p,h3,h4⟩:=h.obj id o h1 h2
  exact⟨p,h3,by rw[hb.block _ (gP h2 h4)];exact h4⟩
 ·obtain⟨h1,h2,c,e,fr,h3,h4⟩:=h.glob g vs hg
  exact⟨h1,h2,c,e,fr,by rw[hb.block _ (qav.1 h3).1];exact h3,h4⟩
def rO:Tl->Option (TB)
 | []=>some []
 | .int .u8 (.ofNat n) :: l=>match Nat.ble 1 n&&Nat.ble n 4,rO l with
  |true,some r=>some (n :: r)
  |_,_=>none
 |_ :: _=>none
def qe:∀ {l:Tl} {zs:TB},rO l=some zs->l=zs.map (λ(z:Nat)=>Value.int .u8 z)/\∀z∈zs,1<=z/\z<=4
 | [],zs,h=>by
  cases h
  exact⟨rfl,λ_ h=>by cases h⟩
 |v :: l,zs,h=>by
  unfold rO at h
  split at h
  next e=>cases e
  next n l' e=>
   cases e
   split at h
   next r h1 h2=>
    cases h
    obtain⟨q1,q2⟩:=qe h2
    simp only[qaa]at h1
    refine⟨by rw[qas,←q1];rfl,λz hz=>?_⟩
    rcases qal.1 hz with rfl|hz
    ·exact⟨qcw h1.1,qcw h1.2⟩
    ·exact q2 z hz
   ·cases h
  ·cases h
def txG(x:Value)(g:bU):Option (Tl):=match lenS x,slG cc 1 g x with
 |some _,some p=>(match Nat.ble p.2 1048576,rO p.1 with
  |true,some zs=>some [.string ⟨(zs.map Tx.letter).toArray⟩]
  |_,_=>none)
 |_,_=>none
def va{x s:Value}{H:Ts}(hcall:cM cc 17 [x] H (.int .i64 0) H)(ht:txG x (λi=>H[i]?)=some [s]):cM cc 40 [x] H s H:=by
 unfold txG at ht
 split at ht
 case h_2=>cases ht
 rename_i ln p hln hp
 split at ht
 case h_2=>cases ht
 rename_i zs hle hzs
 simp only[qaq,qax,and_true]at ht
 subst ht
 obtain⟨hcs,hz4⟩:=qe hzs
 have hle:=qcw hle
 intro glo base mu w args' hb hargs hW cs
 obtain⟨v',vs,hav,hv,hvs⟩ : ∃v' vs,args'.toList=v' :: vs/\VR noL mu x v'/\vs=[]:=by
  obtain⟨v',vs,h1,h2,h3⟩:=hargs.uncons
  exact⟨v',vs,h1,h2,by have:=h3.1;simpa using this.symm⟩
 subst hvs
 have hargs':args' = #[v']:=qa7.1 hav
 subst hargs'
 obtain⟨ao,cap,rfl,hlen,hrd⟩ : ∃ao cap,v' = .slice ao zs.length cap/\p.2=zs.length/\∀(mu':HMap) (w1:World),(∀id,id<H.length->mu' id=mu id)->WR cc base mu' H w1->∀(i z:Nat),zs[i]?=some z->
   ∃b o,ao=some ⟨b,o,none⟩/\b<w1.heap.size/\w1.cell? ⟨b,o+i,none⟩=some (.int .u8 (z:Int)):=by
  unfold slG at hp
  split at hp
  ·cases hp
   have hz0:zs=[]:=by
    cases zs with
    |nil=>rfl
    |cons z l=>simp at hcs
   subst hz0
   cases hv with
   |scalar _=>exact⟨none,0,rfl,rfl,λ_ _ _ _ i z h=>by simp at h⟩
  next a len cx=>
   split at hp
   next hsp=>
    cases hG:cc.G a.block with
    |none=>rw[hG]at hp;cases hp
    |some gs=>
     rw[hG,qak]at hp
     obtain⟨xs,hcut,rfl⟩:=qad.1 hp
     have hcs:xs=zs.map (λ(z:Nat)=>Value.int .u8 z):=hcs
     have hl:xs.length=len:=by
      have:=hcut
      unfold Am.cut at this
      split at this
      ·cases this;simp;omega
      ·cases this
     have hzl:zs.length=len:=by rw[←hl,hcs];simp
     have dz:∀(mu':HMap) (w1:World),WR cc base mu' H w1->∀(i z:Nat),zs[i]?=some z->gBlk a.block<w1.heap.size/\w1.cell? ⟨gBlk a.block,gOff a.block+a.off+i,none⟩=some (.int .u8 (z:Int)):=by
      intro mu' w1 hW1 i z hz
      obtain⟨g1,g2,c,e,fr,g3,g4⟩:=hW1.glob _ _ hG
      obtain⟨ys,y1,y2,y3⟩:=g4.cut hcut
      have hx:xs[i]?=some (.int .u8 (z:Int)):=by rw[hcs,qaz,hz];rfl
      obtain⟨y,hy1,hy2⟩:=y2.get hx
      have:=bq (a:=.int .u8 (z:Int)) rfl hy2
      subst this
      refine⟨(qav.1 g3).1,?_⟩
      have:=y3 i _ hy1
      simp[World.cell?,g3,this]
     cases hv with
     |scalar h=>simp[Am.scalar]at h
     |hslice h hr hl hx=>simp[tag]at hsp
     |hslice0 hx=>simp[tag]at hsp
     |gslice hl' hx=>
      rename_i g off cap
      exact⟨_,cap,by rw[hzl],hzl.symm,λmu' w1 _ hW1 i z hz=>⟨_,_,rfl,dz mu' w1 hW1 i z hz⟩⟩
     |gslice0 hx=>
      refine⟨_,0,by rw[hzl],hzl.symm,λmu' w1 _ hW1 i z hz=>?_⟩
      have:i<zs.length:=(qaP.1 hz).1
      omega
   ·split at hp
    next hsp=>
     split at hp
     next vs e rw0 hid=>
      split at hp
      next he=>
       obtain⟨xs,hcut,rfl⟩:=qad.1 hp
       have hcs:xs=zs.map (λ(z:Nat)=>Value.int .u8 z):=hcs
       have hl:xs.length=len:=by
        have:=hcut
        unfold Am.cut at this
        split at this
        ·cases this;simp;omega
        ·cases this
       have hzl:zs.length=len:=by rw[←hl,hcs];simp
       cases hv with
       |scalar h=>simp[Am.scalar]at h
       | @hslice id off _ cap _ p hmm hr0 hl' hx=>
        refine⟨_,cap,by rw[hzl],hzl.symm,λmu' w1 hmu hW1 i z hz=>?_⟩
        have hidlt:id<H.length:=by
         rcases qaQ id H.length with h|h
         ·exact h
         ·have hid:H[id]?=some (.cells vs e rw0):=hid
          rw[qaj h]at hid;cases hid
        have hp':mu' id=some p:=by rw[hmu id hidlt];exact hmm
        obtain⟨q,hq,hr⟩:=hW1.obj id _ hid rfl
        obtain rfl:q=p:=by rw[hp']at hq;exact(qae hq).symm
        obtain⟨o1,o2,o3,c,e',fr,o4,o5,o6,o7⟩:=hr
        have hcr:bO mu' vs c q.o:=o7
        obtain⟨ys,y1,y2,y3⟩:=hcr.cut hcut
        have hx:xs[i]?=some (.int .u8 (z:Int)):=by rw[hcs,qaz,hz];rfl
        obtain⟨y,hy1,hy2⟩:=y2.get hx
        have:=bq (a:=.int .u8 (z:Int)) rfl hy2
        subst this
        refine⟨q.b,q.o+off,rfl,(qav.1 o4).1,?_⟩
        have:=y3 i _ hy1
        simp[World.cell?,o4,this]
       |hslice0 hx=>
        refine⟨_,0,by rw[hzl],hzl.symm,λmu' w1 _ hW1 i z hz=>?_⟩
        have:i<zs.length:=(qaP.1 hz).1
        omega
       |gslice hl hx=>simp[tag]at hsp
       |gslice0 hx=>simp[tag]at hsp
      ·cases hp
     ·cases hp
    ·cases hp
  ·cases hln
  ·cases hp
 have h21:=mt hcall hb hargs hW
 have key:=Tx.text ao zs.length cap zs rfl (by omega) hz4 w (λw1=>∃v mu',VR noL mu' (.int .i64 0) v/\WR cc base mu' H w1/\Evo H mu w H mu' w1)
  (h21.mono λe w1 ⟨v,mu',h1,h2,h3,h4⟩=>⟨by rw[h1,bq (a:=.int .i64 0) rfl h2],v,mu',h2,h3,h4⟩)
  (λw1 ⟨v,mu',_,h3,h4⟩ i z hz=>hrd mu' w1 h4.same h3 i z hz)
 obtain⟨e,w',fr,⟨rfl,w1,⟨_,mu',_,h3,h4⟩,hbel,hdr⟩,b1,b2,b3⟩:=key cs
 obtain⟨k1,k2⟩:=tx_below h3 hbel hdr
 exact⟨.string ⟨(zs.map Tx.letter).toArray⟩,mu',w',.scalar rfl,k1,h4.trans k2,by kernel_rfl,fr,b1,b2,b3⟩
def memoS(g:FB):FB:=λls h K=>ext h none ls .empty λls0 h0=>@Option.rec _ (λ_=>RT) none (λrs=>K rs h) (g ls0 h0 tell)
def memoS_ok{C:Cfg}{Sg:Tb}{T:Tt}{k:Nat}{g:FB} [Val] [Kno]
  (hro:∀(ls0 rs:TE) (H0 H' H:Ts) (σ:TC),aw C Sg k ls0 H0 rs H'->(∀(j:Nat) (o:HObj),H0[j]?=some o->∃vs e rw,o = .cells vs e false/\vs.all flat=true/\H[σ j]?=some (.cells vs e rw))->(∀l∈ls0,OkL H0.length l)->aw C Sg k (ls0.map (renL σ)) H rs H)
  (hg:oh C Sg T k g) {ls:TE} {h:HTr} {K:TE->HTr->RT} {w:TE} (hls:cR ls) (hk:memoS g ls h K=some w):∃rs,aw C Sg k ls (absH T (toL h)) rs (absH T (toL h))/\K rs h=some w:=by
 unfold memoS at hk
 rcases mV (T:=T) ls .empty _ id (λj o hj=>by cases hj) hk with h1|⟨ls0,h1,σ,a1,_,_,a4,a5,a6⟩
 ·cases h1
 ·cases e:g ls0 h1 tell with
  |none=>rw[e]at a1;cases a1
  |some rs=>
   rw[e]at a1
   rw[kW]at e
   have hgood:cR ls0:=by
    intro l hl
    cases l with
    |v x=>
     have h2:=hls (.v (renV σ x)) (by rw[←a5];exact qco (f:=renL σ) hl)
     have h2:aS (renV σ x)=true:=h2
     rw[sQ]at h2
     exact h2
    |_=>trivial
   obtain⟨rs',h',b1,b2⟩:=hg ls0 h1 _ rs hgood e
   cases b2
   have:=hro ls0 rs _ _ (absH T (toL h)) σ b1 a4 (λl hl=>by rw[du,cU];exact a6 l hl)
   rw[a5]at this
   exact⟨rs,this,a1⟩
def oneV(cs:Tl)(k:Value->RT):RT:=match cs with
 | [v]=>k v
 |_=>none
def oneV_ok{cs:Tl}{k:Value->RT}{w:TE}(h:oneV cs k=some w):∃v,cs=[v]/\k v=some w:=by
 unfold oneV at h
 split at h
 ·exact⟨_,rfl,h⟩
 ·cases h
def txG_str{x s:Value}{g:bU}(h:txG x g=some [s]):∃b,s = .string b:=by
 unfold txG at h
 split at h
 ·split at h
  ·simp only[qaq,qax,and_true]at h
   exact⟨_,h.symm⟩
  ·cases h
 ·cases h
abbrev o_k(k:Nat)(w:ae->FB):Prop:=∀{c:ae},Cok c->Ent k (w c)
def w40(c:ae):FB:=λls h K=>memoS (c (.f 17)) ls h λrs h=>match rs with
 | [.i n]=>(match eqZ n 0,ls with
  |true,[.v x]=>peekB aa (.fn (txG x)) h λcs=>oneV cs λs=>K [.v s] h
  |_,_=>none)
 |_=>none
def eqZ_zero{n:Int}(h:eqZ n 0=true):n=0:=by
 cases n with
 |ofNat a=>exact congrArg Int.ofNat (qac h)
 |negSucc a=>cases h
def ok40:o_k 40 w40:=λhc=>by
 intro ls h K w hls hk
 obtain⟨rs,h1,h2⟩:=memoS_ok (k:=17) (λls0 rs H0 H' H σ hc hb hl=>ug mixed gM (g:=17) (sg:=⟨[lv],[li]⟩) rfl (by kernel_rfl) (by kernel_rfl) σ hc hb hl) (λls h K w h1 h2=>hc.f 17 ls h K w h1 h2) hls hk
 split at h2
 case h_2=>cases h2
 rename_i n
 split at h2
 case h_2=>cases h2
 rename_i x he
 have hn:=eqZ_zero he
 subst hn
 obtain⟨cs,h3,h4⟩:=(BA_ok (w:=w) hc).peek (.fn (txG x)) h _ h2
 obtain⟨s',rfl,h4⟩:=oneV_ok h4
 have h3:txG x (λi=>(absH aa (toL h))[i]?)=some [s']:=h3
 obtain⟨s,rfl⟩:=txG_str h3
 refine⟨[.v (.string s)],h,?_,h4⟩
 obtain⟨sg,xs,ys,c1,c2,c3,c4⟩:=h1
 have c1':ab 17=some ⟨[lv],[li]⟩:=rfl
 rw[c1']at c1
 cases c1
 have hgx:aS x=true:=hls (.v x) (by simp)
 have hx:ai xs=[x]:=(cF (b:=[.leaf (.v x)]) c2.1 rfl c2.2.1).1
 have hy:ai ys=[.int .i64 0]:=(cF (b:=[.leaf (.i .i64 0)]) c3.1 rfl c3.2.1).1
 rw[hx,hy]at c4
 have hck:=jL mixed c4
 have ht:=va hck h3
 exact⟨⟨[lv],[lv]⟩,[.leaf (.v x)],[.leaf (.v (.string s))],rfl,⟨rfl,rfl,λy hy=>by
   simp only[qam]at hy
   subst hy
   exact au hgx⟩,⟨rfl,rfl,λy hy=>by
   simp only[qam]at hy
   subst hy
   exact au rfl⟩,⟨0,.inr ⟨.inr ⟨by kernel_rfl,rfl⟩,ht⟩⟩⟩
def w18(c:ae):FB:=kD (f18 (BA ab aa (tblF [] c)))
def ok18:o_k 18 w18:=λhc=>iB (oz e18 i18 hc aN) rfl (by kernel_rfl) (by kernel_rfl)
def w5(c:ae):FB:=f5 (BA ab aa (tblF [(18,w18 c)] c))
def ok5:o_k 5 w5:=λhc=>oz e5 i5 hc (aC (ok18 hc) aN)
def w19(c:ae):FB:=memo (f19 (BA ab aa (tblF [] c)))
def ok19:o_k 19 w19:=λhc=>aL (oz e19 i19 hc aN) rfl (by kernel_rfl)
def w6(c:ae):FB:=f6 (BA ab aa (tblF [(19,w19 c)] c))
def ok6:o_k 6 w6:=λhc=>oz e6 i6 hc (aC (ok19 hc) aN)
def w57(c:ae):FB:=f57 (BA ab aa (tblF [] c))
def ok57:o_k 57 w57:=λhc=>oz e57 i57 hc aN
def w41(c:ae):FB:=f41 (BA ab aa (tblF [(57,w57 c)] c))
def ok41:o_k 41 w41:=λhc=>oz e41 i41 hc (aC (ok57 hc) aN)
def w29(c:ae):FB:=f29 (BA ab aa (tblF [(41,w41 c)] c))
def ok29:o_k 29 w29:=λhc=>oz e29 i29 hc (aC (ok41 hc) aN)
def w67(c:ae):FB:=memo (f67 (BA ab aa (tblF [] c)))
def ok67:o_k 67 w67:=λhc=>aL (oz e67 i67 hc aN) rfl (by kernel_rfl)
def w58(c:ae):FB:=memo (f58 (BA ab aa (tblF [(67,w67 c)] c)))
def ok58:o_k 58 w58:=λhc=>aL (oz e58 i58 hc (aC (ok67 hc) aN)) rfl (by kernel_rfl)
def w44(c:ae):FB:=f44 (BA ab aa (tblF [(58,w58 c)] c))
def ok44:o_k 44 w44:=λhc=>oz e44 i44 hc (aC (ok58 hc) aN)
def w30(c:ae):FB:=memo (f30 (BA ab aa (tblF [(44,w44 c)] c)))
def ok30:o_k 30 w30:=λhc=>aL (oz e30 i30 hc (aC (ok44 hc) aN)) rfl (by kernel_rfl)
def w13(c:ae):FB:=kD (f13 (BA ab aa (tblF [(29,w29 c),(30,w30 c)] c)))
def ok13:o_k 13 w13:=λhc=>iB (oz e13 i13 hc (aC (ok29 hc) (aC (ok30 hc) aN))) rfl (by kernel_rfl) (by kernel_rfl)
def w20(c:ae):FB:=f20 (BA ab aa (tblF [] c))
def ok20:o_k 20 w20:=λhc=>oz e20 i20 hc aN
def w16(c:ae):FB:=kD (f16 (BA ab aa (tblF [(13,w13 c),(20,w20 c)] c)))
def ok16:o_k 16 w16:=λhc=>iB (oz e16 i16 hc (aC (ok13 hc) (aC (ok20 hc) aN))) rfl (by kernel_rfl) (by kernel_rfl)
def w27(c:ae):FB:=memo (f27 (BA ab aa (tblF [] c)))
def ok27:o_k 27 w27:=λhc=>aL (oz e27 i27 hc aN) rfl (by kernel_rfl)
def w46(c:ae):FB:=f46 (BA ab aa (tblF [] c))
def ok46:o_k 46 w46:=λhc=>oz e46 i46 hc aN
def w34(c:ae):FB:=f34 (BA ab aa (tblF [(46,w46 c)] c))
def ok34:o_k 34 w34:=λhc=>oz e34 i34 hc (aC (ok46 hc) aN)
def w17(c:ae):FB:=kD (f17 (BA ab aa (tblF [(27,w27 c),(34,w34 c)] c)))
def ok17:o_k 17 w17:=λhc=>iB (oz e17 i17 hc (aC (ok27 hc) (aC (ok34 hc) aN))) rfl (by kernel_rfl) (by kernel_rfl)
def w23(c:ae):FB:=f23 (BA ab aa (tblF [] c))
def ok23:o_k 23 w23:=λhc=>oz e23 i23 hc aN
def w7(c:ae):FB:=f7 (BA ab aa (tblF [(16,w16 c),(17,w17 c),(20,w20 c),(23,w23 c)] c))
def ok7:o_k 7 w7:=λhc=>oz e7 i7 hc (aC (ok16 hc) (aC (ok17 hc) (aC (ok20 hc) (aC (ok23 hc) aN))))
def w9(c:ae):FB:=kD (f9 (BA ab aa (tblF [(17,w17 c),(27,w27 c)] c)))
def ok9:o_k 9 w9:=λhc=>iB (oz e9 i9 hc (aC (ok17 hc) (aC (ok27 hc) aN))) rfl (by kernel_rfl) (by kernel_rfl)
def w84(c:ae):FB:=memo (f84 (BA ab aa (tblF [] c)))
def ok84:o_k 84 w84:=λhc=>aL (oz e84 i84 hc aN) rfl (by kernel_rfl)
def w65(c:ae):FB:=memo (f65 (BA ab aa (tblF [(84,w84 c)] c)))
def ok65:o_k 65 w65:=λhc=>aL (oz e65 i65 hc (aC (ok84 hc) aN)) rfl (by kernel_rfl)
def w86(c:ae):FB:=f86 (BA ab aa (tblF [] c))
def ok86:o_k 86 w86:=λhc=>oz e86 i86 hc aN
def w68(c:ae):FB:=f68 (BA ab aa (tblF [(86,w86 c)] c))
def ok68:o_k 68 w68:=λhc=>oz e68 i68 hc (aC (ok86 hc) aN)
def w59(c:ae):FB:=f59 (BA ab aa (tblF [(65,w65 c),(68,w68 c)] c))
def ok59:o_k 59 w59:=λhc=>oz e59 i59 hc (aC (ok65 hc) (aC (ok68 hc) aN))
def w61(c:ae):FB:=f61 (BA ab aa (tblF [] c))
def ok61:o_k 61 w61:=λhc=>oz e61 i61 hc aN
def w47(c:ae):FB:=f47 (BA ab aa (tblF [(9,w9 c),(59,w59 c),(61,w61 c)] c))
def ok47:o_k 47 w47:=λhc=>oz e47 i47 hc (aC (ok9 hc) (aC (ok59 hc) (aC (ok61 hc) aN)))
def w48(c:ae):FB:=memo (f48 (BA ab aa (tblF [] c)))
def ok48:o_k 48 w48:=λhc=>aL (oz e48 i48 hc aN) rfl (by kernel_rfl)
def w62(c:ae):FB:=memo (f62 (BA ab aa (tblF [] c)))
def ok62:o_k 62 w62:=λhc=>aL (oz e62 i62 hc aN) rfl (by kernel_rfl)
def w49(c:ae):FB:=memo (f49 (BA ab aa (tblF [(62,w62 c)] c)))
def ok49:o_k 49 w49:=λhc=>aL (oz e49 i49 hc (aC (ok62 hc) aN)) rfl (by kernel_rfl)
def w94(c:ae):FB:=memo (f94 (BA ab aa (tblF [] c)))
def ok94:o_k 94 w94:=λhc=>aL (oz e94 i94 hc aN) rfl (by kernel_rfl)
def w122(c:ae):FB:=f122 (BA ab aa (tblF [] c))
def ok122:o_k 122 w122:=λhc=>oz e122 i122 hc aN
def w95(c:ae):FB:=f95 (BA ab aa (tblF [(122,w122 c)] c))
def ok95:o_k 95 w95:=λhc=>oz e95 i95 hc (aC (ok122 hc) aN)
def w107(c:ae):FB:=memo (f107 (BA ab aa (tblF [] c)))
def ok107:o_k 107 w107:=λhc=>aL (oz e107 i107 hc aN) rfl (by kernel_rfl)
def w108(c:ae):FB:=memo (f108 (BA ab aa (tblF [] c)))
def ok108:o_k 108 w108:=λhc=>aL (oz e108 i108 hc aN) rfl (by kernel_rfl)
def w72(c:ae):FB:=memo (f72 (BA ab aa (tblF [(94,w94 c),(107,w107 c),(108,w108 c)] c)))
def ok72:o_k 72 w72:=λhc=>aL (oz e72 i72 hc (aC (ok94 hc) (aC (ok107 hc) (aC (ok108 hc) aN)))) rfl (by kernel_rfl)
def w43(c:ae):FB:=memo (f43 (BA ab aa (tblF [] c)))
def ok43:o_k 43 w43:=λhc=>aL (oz e43 i43 hc aN) rfl (by kernel_rfl)
def w125(c:ae):FB:=memo (f125 (BA ab aa (tblF [(43,w43 c)] c)))
def ok125:o_k 125 w125:=λhc=>aL (oz e125 i125 hc (aC (ok43 hc) aN)) rfl (by kernel_rfl)
def w126(c:ae):FB:=memo (f126 (BA ab aa (tblF [(43,w43 c),(94,w94 c)] c)))
def ok126:o_k 126 w126:=λhc=>aL (oz e126 i126 hc (aC (ok43 hc) (aC (ok94 hc) aN))) rfl (by kernel_rfl)
def w106(c:ae):FB:=memo (f106 (BA ab aa (tblF [(72,w72 c),(125,w125 c),(126,w126 c)] c)))
def ok106:o_k 106 w106:=λhc=>aL (oz e106 i106 hc (aC (ok72 hc) (aC (ok125 hc) (aC (ok126 hc) aN)))) rfl (by kernel_rfl)
def w98(c:ae):FB:=memo (f98 (BA ab aa (tblF [(106,w106 c)] c)))
def ok98:o_k 98 w98:=λhc=>aL (oz e98 i98 hc (aC (ok106 hc) aN)) rfl (by kernel_rfl)
def w99(c:ae):FB:=memo (f99 (BA ab aa (tblF [] c)))
def ok99:o_k 99 w99:=λhc=>aL (oz e99 i99 hc aN) rfl (by kernel_rfl)
def w100(c:ae):FB:=memo (f100 (BA ab aa (tblF [] c)))
def ok100:o_k 100 w100:=λhc=>aL (oz e100 i100 hc aN) rfl (by kernel_rfl)
def w69(c:ae):FB:=f69 (BA ab aa (tblF [(94,w94 c),(95,w95 c),(98,w98 c),(99,w99 c),(100,w100 c)] c))
def ok69:o_k 69 w69:=λhc=>oz e69 i69 hc (aC (ok94 hc) (aC (ok95 hc) (aC (ok98 hc) (aC (ok99 hc) (aC (ok100 hc) aN)))))
def w101(c:ae):FB:=memo (f101 (BA ab aa (tblF [] c)))
def ok101:o_k 101 w101:=λhc=>aL (oz e101 i101 hc aN) rfl (by kernel_rfl)
def w70(c:ae):FB:=memo (f70 (BA ab aa (tblF [(101,w101 c)] c)))
def ok70:o_k 70 w70:=λhc=>aL (oz e70 i70 hc (aC (ok101 hc) aN)) rfl (by kernel_rfl)
def w102(c:ae):FB:=f102 (BA ab aa (tblF [] c))
def ok102:o_k 102 w102:=λhc=>oz e102 i102 hc aN
def w103(c:ae):FB:=memo (f103 (BA ab aa (tblF [(94,w94 c)] c)))
def ok103:o_k 103 w103:=λhc=>aL (oz e103 i103 hc (aC (ok94 hc) aN)) rfl (by kernel_rfl)
def w71(c:ae):FB:=f71 (BA ab aa (tblF [(102,w102 c),(103,w103 c),(106,w106 c)] c))
def ok71:o_k 71 w71:=λhc=>oz e71 i71 hc (aC (ok102 hc) (aC (ok103 hc) (aC (ok106 hc) aN)))
def w109(c:ae):FB:=memo (f109 (BA ab aa (tblF [] c)))
def ok109:o_k 109 w109:=λhc=>aL (oz e109 i109 hc aN) rfl (by kernel_rfl)
def w110(c:ae):FB:=memo (f110 (BA ab aa (tblF [(70,w70 c)] c)))
def ok110:o_k 110 w110:=λhc=>aL (oz e110 i110 hc (aC (ok70 hc) aN)) rfl (by kernel_rfl)
def w111(c:ae):FB:=memo (f111 (BA ab aa (tblF [] c)))
def ok111:o_k 111 w111:=λhc=>aL (oz e111 i111 hc aN) rfl (by kernel_rfl)
def w112(c:ae):FB:=memo (f112 (BA ab aa (tblF [(109,w109 c)] c)))
def ok112:o_k 112 w112:=λhc=>aL (oz e112 i112 hc (aC (ok109 hc) aN)) rfl (by kernel_rfl)
def w73(c:ae):FB:=memo (f73 (BA ab aa (tblF [(70,w70 c),(109,w109 c),(110,w110 c),(111,w111 c),(112,w112 c)] c)))
def ok73:o_k 73 w73:=λhc=>aL (oz e73 i73 hc (aC (ok70 hc) (aC (ok109 hc) (aC (ok110 hc) (aC (ok111 hc) (aC (ok112 hc) aN)))))) rfl (by kernel_rfl)
def w127(c:ae):FB:=memo (f127 (BA ab aa (tblF [] c)))
def ok127:o_k 127 w127:=λhc=>aL (oz e127 i127 hc aN) rfl (by kernel_rfl)
def w131(c:ae):FB:=memo (f131 (BA ab aa (tblF [] c)))
def ok131:o_k 131 w131:=λhc=>aL (oz e131 i131 hc aN) rfl (by kernel_rfl)
def w128(c:ae):FB:=memo (f128 (BA ab aa (tblF [(70,w70 c),(109,w109 c),(131,w131 c)] c)))
def ok128:o_k 128 w128:=λhc=>aL (oz e128 i128 hc (aC (ok70 hc) (aC (ok109 hc) (aC (ok131 hc) aN)))) rfl (by kernel_rfl)
def w113(c:ae):FB:=memo (f113 (BA ab aa (tblF [(127,w127 c),(128,w128 c)] c)))
def ok113:o_k 113 w113:=λhc=>aL (oz e113 i113 hc (aC (ok127 hc) (aC (ok128 hc) aN))) rfl (by kernel_rfl)
def w74(c:ae):FB:=memo (f74 (BA ab aa (tblF [(43,w43 c),(70,w70 c),(113,w113 c)] c)))
def ok74:o_k 74 w74:=λhc=>aL (oz e74 i74 hc (aC (ok43 hc) (aC (ok70 hc) (aC (ok113 hc) aN)))) rfl (by kernel_rfl)
def w63(c:ae):FB:=f63 (BA ab aa (tblF [(69,w69 c),(70,w70 c),(71,w71 c),(72,w72 c),(73,w73 c),(74,w74 c)] c))
def ok63:o_k 63 w63:=λhc=>oz e63 i63 hc (aC (ok69 hc) (aC (ok70 hc) (aC (ok71 hc) (aC (ok72 hc) (aC (ok73 hc) (aC (ok74 hc) aN))))))
def w50(c:ae):FB:=f50 (BA ab aa (tblF [(63,w63 c)] c))
def ok50:o_k 50 w50:=λhc=>oz e50 i50 hc (aC (ok63 hc) aN)
def w36(c:ae):FB:=f36 (BA ab aa (tblF [(48,w48 c),(49,w49 c)] c))
def ok36:o_k 36 w36:=λhc=>oz e36 i36 hc (aC (ok48 hc) (aC (ok49 hc) aN))
def w51(c:ae):FB:=f51 (BA ab aa (tblF [] c))
def ok51:o_k 51 w51:=λhc=>oz e51 i51 hc aN
def w75(c:ae):FB:=f75 (BA ab aa (tblF [] c))
def ok75:o_k 75 w75:=λhc=>oz e75 i75 hc aN
def w64(c:ae):FB:=f64 (BA ab aa (tblF [(75,w75 c)] c))
def ok64:o_k 64 w64:=λhc=>oz e64 i64 hc (aC (ok75 hc) aN)
def w52(c:ae):FB:=f52 (BA ab aa (tblF [(64,w64 c),(65,w65 c)] c))
def ok52:o_k 52 w52:=λhc=>oz e52 i52 hc (aC (ok64 hc) (aC (ok65 hc) aN))
def w53(c:ae):FB:=f53 (BA ab aa (tblF [] c))
def ok53:o_k 53 w53:=λhc=>oz e53 i53 hc aN
def w54(c:ae):FB:=f54 (BA ab aa (tblF [] c))
def ok54:o_k 54 w54:=λhc=>oz e54 i54 hc aN
def w37(c:ae):FB:=f37 (BA ab aa (tblF [(29,w29 c),(51,w51 c),(52,w52 c),(53,w53 c),(54,w54 c)] c))
def ok37:o_k 37 w37:=λhc=>oz e37 i37 hc (aC (ok29 hc) (aC (ok51 hc) (aC (ok52 hc) (aC (ok53 hc) (aC (ok54 hc) aN)))))
def w24(c:ae):FB:=f24 (BA ab aa (tblF [] c))
def ok24:o_k 24 w24:=λhc=>oz e24 i24 hc aN
def w31(c:ae):FB:=kD (f31 (BA ab aa (tblF [] c)))
def ok31:o_k 31 w31:=λhc=>iB (oz e31 i31 hc aN) rfl (by kernel_rfl) (by kernel_rfl)
def w38(c:ae):FB:=f38 (BA ab aa (tblF [(31,w31 c)] c))
def ok38:o_k 38 w38:=λhc=>oz e38 i38 hc (aC (ok31 hc) aN)
def w25(c:ae):FB:=kD (f25 (BA ab aa (tblF [(38,w38 c)] c)))
def ok25:o_k 25 w25:=λhc=>iB (oz e25 i25 hc (aC (ok38 hc) aN)) rfl (by kernel_rfl) (by kernel_rfl)
def w39(c:ae):FB:=f39 (BA ab aa (tblF [] c))
def ok39:o_k 39 w39:=λhc=>oz e39 i39 hc aN
def w26(c:ae):FB:=f26 (BA ab aa (tblF [(39,w39 c)] c))
def ok26:o_k 26 w26:=λhc=>oz e26 i26 hc (aC (ok39 hc) aN)
def w8(c:ae):FB:=kD (f8 (BA ab aa (tblF [(16,w16 c),(25,w25 c),(26,w26 c)] c)))
def ok8:o_k 8 w8:=λhc=>iB (oz e8 i8 hc (aC (ok16 hc) (aC (ok25 hc) (aC (ok26 hc) aN)))) rfl (by kernel_rfl) (by kernel_rfl)
def w10(c:ae):FB:=kD (f10 (BA ab aa (tblF [(16,w16 c)] c)))
def ok10:o_k 10 w10:=λhc=>iB (oz e10 i10 hc (aC (ok16 hc) aN)) rfl (by kernel_rfl) (by kernel_rfl)
def w22(c:ae):FB:=memo (f22 (BA ab aa (tblF [] c)))
def ok22:o_k 22 w22:=λhc=>aL (oz e22 i22 hc aN) rfl (by kernel_rfl)
def w45(c:ae):FB:=f45 (BA ab aa (tblF [] c))
def ok45:o_k 45 w45:=λhc=>oz e45 i45 hc aN
def w32(c:ae):FB:=f32 (BA ab aa (tblF [(45,w45 c)] c))
def ok32:o_k 32 w32:=λhc=>oz e32 i32 hc (aC (ok45 hc) aN)
def w15(c:ae):FB:=kD (f15 (BA ab aa (tblF [(22,w22 c),(25,w25 c),(31,w31 c),(32,w32 c)] c)))
def ok15:o_k 15 w15:=λhc=>iB (oz e15 i15 hc (aC (ok22 hc) (aC (ok25 hc) (aC (ok31 hc) (aC (ok32 hc) aN))))) rfl (by kernel_rfl) (by kernel_rfl)
def w28(c:ae):FB:=f28 (BA ab aa (tblF [(40,w40 c)] c))
def ok28:o_k 28 w28:=λhc=>oz e28 i28 hc (aC (ok40 hc) aN)
def w12(c:ae):FB:=memo (f12 (BA ab aa (tblF [(9,w9 c),(28,w28 c)] c)))
def ok12:o_k 12 w12:=λhc=>aL (oz e12 i12 hc (aC (ok9 hc) (aC (ok28 hc) aN))) rfl (by kernel_rfl)
def w14(c:ae):FB:=f14 (BA ab aa (tblF [(18,w18 c)] c))
def ok14:o_k 14 w14:=λhc=>oz e14 i14 hc (aC (ok18 hc) aN)
def w4(c:ae):FB:=f4 (BA ab aa (tblF [(5,w5 c),(13,w13 c),(14,w14 c),(16,w16 c),(17,w17 c),(18,w18 c)] c))
def ok4:o_k 4 w4:=λhc=>oz e4 i4 hc (aC (ok5 hc) (aC (ok13 hc) (aC (ok14 hc) (aC (ok16 hc) (aC (ok17 hc) (aC (ok18 hc) aN))))))
def w21(c:ae):FB:=f21 (BA ab aa (tblF [(22,w22 c)] c))
def ok21:o_k 21 w21:=λhc=>oz e21 i21 hc (aC (ok22 hc) aN)
def w33(c:ae):FB:=f33 (BA ab aa (tblF [(22,w22 c)] c))
def ok33:o_k 33 w33:=λhc=>oz e33 i33 hc (aC (ok22 hc) aN)
def w35(c:ae):FB:=memo (f35 (BA ab aa (tblF [] c)))
def ok35:o_k 35 w35:=λhc=>aL (oz e35 i35 hc aN) rfl (by kernel_rfl)
def w42(c:ae):FB:=memo (f42 (BA ab aa (tblF [(43,w43 c)] c)))
def ok42:o_k 42 w42:=λhc=>aL (oz e42 i42 hc (aC (ok43 hc) aN)) rfl (by kernel_rfl)
def w60(c:ae):FB:=memo (f60 (BA ab aa (tblF [] c)))
def ok60:o_k 60 w60:=λhc=>aL (oz e60 i60 hc aN) rfl (by kernel_rfl)
def w97(c:ae):FB:=memo (f97 (BA ab aa (tblF [] c)))
def ok97:o_k 97 w97:=λhc=>aL (oz e97 i97 hc aN) rfl (by kernel_rfl)
def w96(c:ae):FB:=memo (f96 (BA ab aa (tblF [(97,w97 c)] c)))
def ok96:o_k 96 w96:=λhc=>aL (oz e96 i96 hc (aC (ok97 hc) aN)) rfl (by kernel_rfl)
def w123(c:ae):FB:=memo (f123 (BA ab aa (tblF [(94,w94 c),(98,w98 c),(108,w108 c)] c)))
def ok123:o_k 123 w123:=λhc=>aL (oz e123 i123 hc (aC (ok94 hc) (aC (ok98 hc) (aC (ok108 hc) aN)))) rfl (by kernel_rfl)
def w124(c:ae):FB:=memo (f124 (BA ab aa (tblF [(43,w43 c),(62,w62 c)] c)))
def ok124:o_k 124 w124:=λhc=>aL (oz e124 i124 hc (aC (ok43 hc) (aC (ok62 hc) aN))) rfl (by kernel_rfl)
def w105(c:ae):FB:=memo (f105 (BA ab aa (tblF [(123,w123 c),(124,w124 c)] c)))
def ok105:o_k 105 w105:=λhc=>aL (oz e105 i105 hc (aC (ok123 hc) (aC (ok124 hc) aN))) rfl (by kernel_rfl)
def w104(c:ae):FB:=f104 (BA ab aa (tblF [(49,w49 c),(73,w73 c),(98,w98 c),(105,w105 c)] c))
def ok104:o_k 104 w104:=λhc=>oz e104 i104 hc (aC (ok49 hc) (aC (ok73 hc) (aC (ok98 hc) (aC (ok105 hc) aN))))
def y_of{κ:Nat}{g:ae->Tl->Nat->FB}{ct:ae->ae}{c:ae}(h0:∀vs l ls h K,xh (BA ab aa (ct c)) (xc 0) ab drN (aa κ) vs l ls h K=g c vs l ls h K)(hc:Cok (ct c)):YOk cc ab aa κ (g c):=by
 intro vs l ls h K w st pd xs e hy hk
 rw[←h0]at hk
 obtain⟨b,h',a1,a3⟩:=execY_ok (X:=xc 0) (BA_ok (w:=w) hc) vq (js e) rfl rfl rfl rfl hy hk
 exact⟨b,h',a1,a3⟩
def tabW(c:ae):Tr FB:=(.node nf (.node nf (.node nf (.node (w7 c) (.node (w15 c) (.node (w31 c) (.node (w63 c) (.node (w127 c) .leaf .leaf) .leaf) (.node (w95 c) .leaf .leaf)) (.node (w47 c) .leaf (.node (w111 c) .leaf .leaf))) (.node (w23 c) (.node (w39 c) (.node (w71 c) .leaf .leaf) (.node (w103 c) .leaf .leaf)) .leaf)) (.node nf (.node (w19 c) (.node (w35 c) (.node (w67 c) (.node (w131 c) .leaf .leaf) .leaf) (.node (w99 c) .leaf .leaf)) (.node (w51 c) .leaf .leaf)) (.node (w27 c) (.node (w43 c) (.node (w75 c) .leaf .leaf) (.node (w107 c) .leaf .leaf)) (.node (w59 c) .leaf (.node (w123 c) .leaf .leaf))))) (.node (w5 c) (.node (w9 c) (.node (w17 c) (.node (w33 c) (.node (w65 c) .leaf .leaf) (.node (w97 c) .leaf .leaf)) (.node (w49 c) .leaf (.node (w113 c) .leaf .leaf))) (.node (w25 c) (.node (w41 c) (.node (w73 c) .leaf .leaf) (.node (w105 c) .leaf .leaf)) (.node (w57 c) .leaf .leaf))) (.node (w13 c) (.node (w21 c) (.node (w37 c) (.node (w69 c) .leaf .leaf) (.node (w101 c) .leaf .leaf)) (.node (w53 c) .leaf .leaf)) (.node (w29 c) (.node (w45 c) .leaf (.node (w109 c) .leaf .leaf)) (.node (w61 c) .leaf (.node (w125 c) .leaf .leaf)))))) (.node nf (.node (w4 c) (.node (w8 c) (.node (w16 c) (.node (w32 c) (.node (w64 c) (.node (w128 c) .leaf .leaf) .leaf) (.node (w96 c) .leaf .leaf)) (.node (w48 c) .leaf (.node (w112 c) .leaf .leaf))) (.node (w24 c) (.node (w40 c) (.node (w72 c) .leaf .leaf) (.node (w104 c) .leaf .leaf)) .leaf)) (.node (w12 c) (.node (w20 c) (.node (w36 c) (.node (w68 c) .leaf .leaf) (.node (w100 c) .leaf .leaf)) (.node (w52 c) (.node (w84 c) .leaf .leaf) .leaf)) (.node (w28 c) (.node (w44 c) .leaf (.node (w108 c) .leaf .leaf)) (.node (w60 c) .leaf (.node (w124 c) .leaf .leaf))))) (.node (w6 c) (.node (w10 c) (.node (w18 c) (.node (w34 c) .leaf (.node (w98 c) .leaf .leaf)) (.node (w50 c) .leaf .leaf)) (.node (w26 c) (.node (w42 c) (.node (w74 c) .leaf .leaf) (.node (w106 c) .leaf .leaf)) (.node (w58 c) .leaf (.node (w122 c) .leaf .leaf)))) (.node (w14 c) (.node (w22 c) (.node (w38 c) (.node (w70 c) .leaf .leaf) (.node (w102 c) .leaf .leaf)) (.node (w54 c) (.node (w86 c) .leaf .leaf) .leaf)) (.node (w30 c) (.node (w46 c) .leaf (.node (w110 c) .leaf .leaf)) (.node (w62 c) (.node (w94 c) .leaf .leaf) (.node (w126 c) .leaf .leaf)))))))
def stepF(c:ae):ae:=λck=>match ck with
 | .f f=>match Nat.blt f 132 with
  |true=>(bD f).get nf (tabW c)
  |false=>nf
 | .y κ vs l=>lookY [] κ (λvs l ls h K=>xh (BA ab aa c) (xc 0) ab drN (aa κ) vs l ls h K) vs l
def runF(n:Nat):ae:=Nat.rec (motive:=λ_=>ae) (λ_ _ _ _=>none) (λ_ c=>stepF c) n
def cP{k:Nat}(h1:(λc=>(bD k).get nf (tabW c))=λ_=>nf)(c:ae):Ent k ((bD k).get nf (tabW c)):=by
 intro ls h K w hls hk
 rw[congrFun h1 c]at hk
 cases hk
def aK{k:Nat}{g:ae->FB}(h1:(λc=>(bD k).get nf (tabW c))=g){c:ae}(h:Ent k (g c)):Ent k ((bD k).get nf (tabW c)):=by
 rw[congrFun h1 c];exact h
def tabW_ok{c:ae}(hc:Cok c):∀f,Nat.blt f 132=true->Ent f ((bD f).get nf (tabW c))
 |0,_=>cP (by kernel_rfl) c
 |1,_=>cP (by kernel_rfl) c
 |2,_=>cP (by kernel_rfl) c
 |3,_=>cP (by kernel_rfl) c
 |4,_=>aK (g:=λc=>w4 c) (by kernel_rfl) (ok4 hc)
 |5,_=>aK (g:=λc=>w5 c) (by kernel_rfl) (ok5 hc)
 |6,_=>aK (g:=λc=>w6 c) (by kernel_rfl) (ok6 hc)
 |7,_=>aK (g:=λc=>w7 c) (by kernel_rfl) (ok7 hc)
 |8,_=>aK (g:=λc=>w8 c) (by kernel_rfl) (ok8 hc)
 |9,_=>aK (g:=λc=>w9 c) (by kernel_rfl) (ok9 hc)
 |10,_=>aK (g:=λc=>w10 c) (by kernel_rfl) (ok10 hc)
 |11,_=>cP (by kernel_rfl) c
 |12,_=>aK (g:=λc=>w12 c) (by kernel_rfl) (ok12 hc)
 |13,_=>aK (g:=λc=>w13 c) (by kernel_rfl) (ok13 hc)
 |14,_=>aK (g:=λc=>w14 c) (by kernel_rfl) (ok14 hc)
 |15,_=>aK (g:=λc=>w15 c) (by kernel_rfl) (ok15 hc)
 |16,_=>aK (g:=λc=>w16 c) (by kernel_rfl) (ok16 hc)
 |17,_=>aK (g:=λc=>w17 c) (by kernel_rfl) (ok17 hc)
 |18,_=>aK (g:=λc=>w18 c) (by kernel_rfl) (ok18 hc)
 |19,_=>aK (g:=λc=>w19 c) (by kernel_rfl) (ok19 hc)
 |20,_=>aK (g:=λc=>w20 c) (by kernel_rfl) (ok20 hc)
 |21,_=>aK (g:=λc=>w21 c) (by kernel_rfl) (ok21 hc)
 |22,_=>aK (g:=λc=>w22 c) (by kernel_rfl) (ok22 hc)
 |23,_=>aK (g:=λc=>w23 c) (by kernel_rfl) (ok23 hc)
 |24,_=>aK (g:=λc=>w24 c) (by kernel_rfl) (ok24 hc)
 |25,_=>aK (g:=λc=>w25 c) (by kernel_rfl) (ok25 hc)
 |26,_=>aK (g:=λc=>w26 c) (by kernel_rfl) (ok26 hc)
 |27,_=>aK (g:=λc=>w27 c) (by kernel_rfl) (ok27 hc)
 |28,_=>aK (g:=λc=>w28 c) (by kernel_rfl) (ok28 hc)
 |29,_=>aK (g:=λc=>w29 c) (by kernel_rfl) (ok29 hc)
 |30,_=>aK (g:=λc=>w30 c) (by kernel_rfl) (ok30 hc)
 |31,_=>aK (g:=λc=>w31 c) (by kernel_rfl) (ok31 hc)
 |32,_=>aK (g:=λc=>w32 c) (by kernel_rfl) (ok32 hc)
 |33,_=>aK (g:=λc=>w33 c) (by kernel_rfl) (ok33 hc)
 |34,_=>aK (g:=λc=>w34 c) (by kernel_rfl) (ok34 hc)
 |35,_=>aK (g:=λc=>w35 c) (by kernel_rfl) (ok35 hc)
 |36,_=>aK (g:=λc=>w36 c) (by kernel_rfl) (ok36 hc)
 |37,_=>aK (g:=λc=>w37 c) (by kernel_rfl) (ok37 hc)
 |38,_=>aK (g:=λc=>w38 c) (by kernel_rfl) (ok38 hc)
 |39,_=>aK (g:=λc=>w39 c) (by kernel_rfl) (ok39 hc)
 |40,_=>aK (g:=λc=>w40 c) (by kernel_rfl) (ok40 hc)
 |41,_=>aK (g:=λc=>w41 c) (by kernel_rfl) (ok41 hc)
 |42,_=>aK (g:=λc=>w42 c) (by kernel_rfl) (ok42 hc)
 |43,_=>aK (g:=λc=>w43 c) (by kernel_rfl) (ok43 hc)
 |44,_=>aK (g:=λc=>w44 c) (by kernel_rfl) (ok44 hc)
 |45,_=>aK (g:=λc=>w45 c) (by kernel_rfl) (ok45 hc)
 |46,_=>aK (g:=λc=>w46 c) (by kernel_rfl) (ok46 hc)
 |47,_=>aK (g:=λc=>w47 c) (by kernel_rfl) (ok47 hc)
 |48,_=>aK (g:=λc=>w48 c) (by kernel_rfl) (ok48 hc)
 |49,_=>aK (g:=λc=>w49 c) (by kernel_rfl) (ok49 hc)
 |50,_=>aK (g:=λc=>w50 c) (by kernel_rfl) (ok50 hc)
 |51,_=>aK (g:=λc=>w51 c) (by kernel_rfl) (ok51 hc)
 |52,_=>aK (g:=λc=>w52 c) (by kernel_rfl) (ok52 hc)
 |53,_=>aK (g:=λc=>w53 c) (by kernel_rfl) (ok53 hc)
 |54,_=>aK (g:=λc=>w54 c) (by kernel_rfl) (ok54 hc)
 |55,_=>cP (by kernel_rfl) c
 |56,_=>cP (by kernel_rfl) c
 |57,_=>aK (g:=λc=>w57 c) (by kernel_rfl) (ok57 hc)
 |58,_=>aK (g:=λc=>w58 c) (by kernel_rfl) (ok58 hc)
 |59,_=>aK (g:=λc=>w59 c) (by kernel_rfl) (ok59 hc)
 |60,_=>aK (g:=λc=>w60 c) (by kernel_rfl) (ok60 hc)
 |61,_=>aK (g:=λc=>w61 c) (by kernel_rfl) (ok61 hc)
 |62,_=>aK (g:=λc=>w62 c) (by kernel_rfl) (ok62 hc)
 |63,_=>aK (g:=λc=>w63 c) (by kernel_rfl) (ok63 hc)
 |64,_=>aK (g:=λc=>w64 c) (by kernel_rfl) (ok64 hc)
 |65,_=>aK (g:=λc=>w65 c) (by kernel_rfl) (ok65 hc)
 |66,_=>cP (by kernel_rfl) c
 |67,_=>aK (g:=λc=>w67 c) (by kernel_rfl) (ok67 hc)
 |68,_=>aK (g:=λc=>w68 c) (by kernel_rfl) (ok68 hc)
 |69,_=>aK (g:=λc=>w69 c) (by kernel_rfl) (ok69 hc)
 |70,_=>aK (g:=λc=>w70 c) (by kernel_rfl) (ok70 hc)
 |71,_=>aK (g:=λc=>w71 c) (by kernel_rfl) (ok71 hc)
 |72,_=>aK (g:=λc=>w72 c) (by kernel_rfl) (ok72 hc)
 |73,_=>aK (g:=λc=>w73 c) (by kernel_rfl) (ok73 hc)
 |74,_=>aK (g:=λc=>w74 c) (by kernel_rfl) (ok74 hc)
 |75,_=>aK (g:=λc=>w75 c) (by kernel_rfl) (ok75 hc)
 |76,_=>cP (by kernel_rfl) c
 |77,_=>cP (by kernel_rfl) c
 |78,_=>cP (by kernel_rfl) c
 |79,_=>cP (by kernel_rfl) c
 |80,_=>cP (by kernel_rfl) c
 |81,_=>cP (by kernel_rfl) c
 |82,_=>cP (by kernel_rfl) c
 |83,_=>cP (by kernel_rfl) c
 |84,_=>aK (g:=λc=>w84 c) (by kernel_rfl) (ok84 hc)
 |85,_=>cP (by kernel_rfl) c
 |86,_=>aK (g:=λc=>w86 c) (by kernel_rfl) (ok86 hc)
 |87,_=>cP (by kernel_rfl) c
 |88,_=>cP (by kernel_rfl) c
 |89,_=>cP (by kernel_rfl) c
 |90,_=>cP (by kernel_rfl) c
 |91,_=>cP (by kernel_rfl) c
 |92,_=>cP (by kernel_rfl) c
 |93,_=>cP (by kernel_rfl) c
 |94,_=>aK (g:=λc=>w94 c) (by kernel_rfl) (ok94 hc)
 |95,_=>aK (g:=λc=>w95 c) (by kernel_rfl) (ok95 hc)
 |96,_=>aK (g:=λc=>w96 c) (by kernel_rfl) (ok96 hc)
 |97,_=>aK (g:=λc=>w97 c) (by kernel_rfl) (ok97 hc)
 |98,_=>aK (g:=λc=>w98 c) (by kernel_rfl) (ok98 hc)
 |99,_=>aK (g:=λc=>w99 c) (by kernel_rfl) (ok99 hc)
 |100,_=>aK (g:=λc=>w100 c) (by kernel_rfl) (ok100 hc)
 |101,_=>aK (g:=λc=>w101 c) (by kernel_rfl) (ok101 hc)
 |102,_=>aK (g:=λc=>w102 c) (by kernel_rfl) (ok102 hc)
 |103,_=>aK (g:=λc=>w103 c) (by kernel_rfl) (ok103 hc)
 |104,_=>aK (g:=λc=>w104 c) (by kernel_rfl) (ok104 hc)
 |105,_=>aK (g:=λc=>w105 c) (by kernel_rfl) (ok105 hc)
 |106,_=>aK (g:=λc=>w106 c) (by kernel_rfl) (ok106 hc)
 |107,_=>aK (g:=λc=>w107 c) (by kernel_rfl) (ok107 hc)
 |108,_=>aK (g:=λc=>w108 c) (by kernel_rfl) (ok108 hc)
 |109,_=>aK (g:=λc=>w109 c) (by kernel_rfl) (ok109 hc)
 |110,_=>aK (g:=λc=>w110 c) (by kernel_rfl) (ok110 hc)
 |111,_=>aK (g:=λc=>w111 c) (by kernel_rfl) (ok111 hc)
 |112,_=>aK (g:=λc=>w112 c) (by kernel_rfl) (ok112 hc)
 |113,_=>aK (g:=λc=>w113 c) (by kernel_rfl) (ok113 hc)
 |114,_=>cP (by kernel_rfl) c
 |115,_=>cP (by kernel_rfl) c
 |116,_=>cP (by kernel_rfl) c
 |117,_=>cP (by kernel_rfl) c
 |118,_=>cP (by kernel_rfl) c
 |119,_=>cP (by kernel_rfl) c
 |120,_=>cP (by kernel_rfl) c
 |121,_=>cP (by kernel_rfl) c
 |122,_=>aK (g:=λc=>w122 c) (by kernel_rfl) (ok122 hc)
 |123,_=>aK (g:=λc=>w123 c) (by kernel_rfl) (ok123 hc)
 |124,_=>aK (g:=λc=>w124 c) (by kernel_rfl) (ok124 hc)
 |125,_=>aK (g:=λc=>w125 c) (by kernel_rfl) (ok125 hc)
 |126,_=>aK (g:=λc=>w126 c) (by kernel_rfl) (ok126 hc)
 |127,_=>aK (g:=λc=>w127 c) (by kernel_rfl) (ok127 hc)
 |128,_=>aK (g:=λc=>w128 c) (by kernel_rfl) (ok128 hc)
 |129,_=>cP (by kernel_rfl) c
 |130,_=>cP (by kernel_rfl) c
 |131,_=>aK (g:=λc=>w131 c) (by kernel_rfl) (ok131 hc)
 |n+132,h=>by rw[qbd]at h;omega
def stepF_ok{c:ae}(hc:Cok c):Cok (stepF c):=by
 refine⟨λf ls h K w hls hk=>?_,λκ vs l ls h K w st pd xs e hy hk=>?_⟩
 ·have hk:(match Nat.blt f 132 with|true=>(bD f).get nf (tabW c)|false=>nf) ls h K=some w:=hk
  cases e:Nat.blt f 132 with
  |true=>rw[e]at hk;exact tabW_ok hc f e ls h K w hls hk
  |false=>rw[e]at hk;cases hk
 ·have hd:YOk cc ab aa κ (λvs l ls h K=>xh (BA ab aa c) (xc 0) ab drN (aa κ) vs l ls h K):=y_of (g:=λc vs l ls h K=>xh (BA ab aa c) (xc 0) ab drN (aa κ) vs l ls h K) (ct:=λc=>c) (λ_ _ _ _ _=>rfl) hc
  refine vM hd (l:=[]) (λp hp=>?_) vs l ls h K w st pd xs e hy hk
  cases hp
def gT:∀n,Cok (runF n)
 |0=>⟨λ_ _ _ _ _ _ h=>by(cases h),λ_ _ _ _ _ _ _ _ _ _ _ _ h=>by(cases h)⟩
 |n+1=>stepF_ok (gT n)
end Go.Am
namespace Go.Am
namespace Sx
section
variable [Val] [Kno]
def peekH(T:Tt)(f:Pk)(h:HL)(K:Te):Prop:=∃cs,f.run (getH T h)=some cs/\K cs
abbrev _root_.Ta:=List Value->HL->Prop
def heapH(T:Tt)(f:Hp)(h:HL)(K:Ta):Prop:=∃acts cs,f.run (getH T h) h.length=some (acts,cs)/\K cs (cz h acts)
abbrev _root_.Td:=List Lf->HL->Prop
def callH(C:Cfg)(Sg:Tb)(T:Tt)(g:TN)(ls:TE)(h:HL)(K:Td):Prop:=∃rs h',aw C Sg g ls (absH T h) rs (absH T h')/\K rs h'
def callvH(C:Cfg)(T:Tt)(v:Value)(args:Tl)(hs:TJ)(h:HL)(K:Td):Prop:=∃rs h',tY C v args hs (absH T h) rs (absH T h')/\K rs h'
def itH(F:(TE->HL->Prop)->TE->HL->Prop)(n:Nat):TE->HL->Prop:=
 match n with
 |0=>λ_ _=>False
 |n+1=>F (itH F n)
def loopH(F:(TE->HL->Prop)->TE->HL->Prop)(ls:TE)(h:HL):Prop:=∃n,itH F n ls h
def rfunH(C:Cfg)(T:Tt)(κ:Nat)(v:Value)(vals:Tl)(h:HL)(K:Tk->HL->Prop):Prop:=
 ∃g first cap r H1 lp h2,v = .func (.func g) first cap/\
  iy C g (first.toList++[.func (.yield (absH T h).length) #[] #[]]++cap.toList) (absH T h++[.loop (lpOf (T κ) κ vals)]) r H1/\
  ed H1 (absH T h).length=some lp/\lp.state≠.busy/\absH T h2=H1.set (absH T h).length (.loop { lp with state:=.exhausted })/\K lp.pending h2
def lp1H(T:Tt)(l:Nat)(h:HL)(K:HL->Prop):Prop:=∃lp h',ed (absH T h) l=some lp/\lp.state = .ready/\absH T h'=(absH T h).set l (.loop { lp with state:=.busy })/\K h'
def lp2H(T:Tt)(l:Nat)(j:Tk)(h:HL)(K:HL->Prop):Prop:=∃lp h',ed (absH T h) l=some lp/\absH T h'=(absH T h).set l (.loop { lp with state:=if j.isNone then .ready else .done,pending:=j })/\K h'
def PH(C:Cfg)(Sg:Tb)(T:Tt):Alg Prop HL where
 fail:=False
 cond:=condP
 ari:=ariP
 shf:=λop k a k' b K=>∃n,ShRun op k a k' b n/\K n
 cmp:=cmpP
 eqs:=λl K=>K (ch l)
 conv:=λk a K=>K (k.wrap a)
 sel:=λt a b K=>K (if t then a else b)
 opt:=optP
 chk:=λv K=>aS v=true/\K
 unI:=unIP
 unB:=unBP
 unV:=unVP
 un0:=un0P
 ucI:=ucIP
 ucB:=ucBP
 ucV:=ucVP
 uc0:=uc0P
 peek:=peekH T
 heap:=heapH T
 new:=λo h K=>K h.length (h++[.o o])
 call:=callH C Sg T
 callv:=callvH C T
 join:=λb m=>m b
 loop:=loopH
 rfun:=rfunH C T
 pend:=pendP
 lp1:=lp1H T
 lp2:=lp2H T
def PH_ok(C:Cfg)(Sg:Tb)(T:Tt):AlgOk (PH C Sg T) C Sg T id (absH T) where
 fail:=(fD C Sg T).fail
 cond:=(fD C Sg T).cond
 ari:=(fD C Sg T).ari
 shf:=(fD C Sg T).shf
 cmp:=(fD C Sg T).cmp
 eqs:=(fD C Sg T).eqs
 conv:=(fD C Sg T).conv
 sel:=(fD C Sg T).sel
 opt:=(fD C Sg T).opt
 chk:=(fD C Sg T).chk
 unI:=(fD C Sg T).unI
 unB:=(fD C Sg T).unB
 unV:=(fD C Sg T).unV
 un0:=(fD C Sg T).un0
 ucI:=(fD C Sg T).ucI
 ucB:=(fD C Sg T).ucB
 ucV:=(fD C Sg T).ucV
 uc0:=(fD C Sg T).uc0
 peek:=by
  intro f h K hk
  obtain⟨cs,h1,h2⟩:=hk
  exact⟨cs,by rw[←ko];exact h1,h2⟩
 heap:=by
  intro f h K hk
  obtain⟨acts,cs,h1,h2⟩:=hk
  exact⟨acts,cs,_,by rw[←ko,du];exact h1,jS T acts h,h2⟩
 new:=λo h K hk=>⟨_,gj T h _,by rw[du];exact hk⟩
 call:=λg ls h K hk=>hk
 callv:=λv args hs h K hk=>hk
 join:=λb m h=>h
 loop:=by
  intro F ls h hk
  obtain⟨n,hk⟩:=hk
  exact⟨itH F,λls h=>(id:False->False),λn ls h=>rfl,n,hk⟩
 rfun:=λκ v vals h K hk=>hk
 pend:=(fD C Sg T).pend
 lp1:=λl h K hk=>hk
 lp2:=λl j h K hk=>hk
section
variable {C:Cfg} {Sg:Tb} {T:Tt} {call:ae} (hc:CallBOk C Sg T call)
include hc
inductive SL2:List (Nat×RT)->List (Nat×Prop)->Prop
 |nil:SL2 [] []
 |cons {id:Nat} {x:RT} {x':Prop} {l:List (Nat×RT)} {l':List (Nat×Prop)} (hx:x=yes->x') (hl:SL2 l l'):SL2 ((id,x) :: l) ((id,x') :: l')
omit hc in
theorem SL2.mem{l:List (Nat×RT)}{l':List (Nat×Prop)}(h:SL2 l l'){id:Nat}{x:RT}(hm:(id,x)∈l)(hx:x=yes):∃y,(id,y)∈l'/\y:=by
 induction h with
 |nil=>cases hm
 |cons h1 h2 ih=>
  rcases qal.1 hm with e|hm
  ·cases e;exact⟨_,qaE,h1 hx⟩
  ·obtain⟨y,a,b⟩:=ih hm
   exact⟨y,qap _ a,b⟩
end
def vI{F:(TE->HL->Prop)->TE->HL->Prop}(Inv:Nat->TE->HL->Prop)
  (step:∀m ls h,Inv m ls h->∀self:TE->HL->Prop,(∀m' ls h,m'<m->Inv m' ls h->self ls h)->F self ls h):∀n m ls h,m<n->Inv m ls h->itH F n ls h
 |0,_,_,_,hm,_=>absurd hm (Nat.not_lt_zero _)
 |n+1,m,ls,h,hm,hi=>step m ls h hi (itH F n) λm' ls h h' hi'=>vI Inv step n m' ls h (by omega) hi'
def fw{F:(TE->HL->Prop)->TE->HL->Prop}(Inv:Nat->TE->HL->Prop){m:Nat}{ls:TE}{h:HL}(hi:Inv m ls h)
  (step:∀m ls h,Inv m ls h->∀self:TE->HL->Prop,(∀m' ls h,m'<m->Inv m' ls h->self ls h)->F self ls h):loopH F ls h:=
 ⟨m+1,vI Inv step (m+1) m ls h (Nat.lt_succ_self m) hi⟩
end
end Sx
namespace Sx
class Bx (α:Sort _) where
 v:α
def hid{α:Sort _} [b:Bx α]:α:=b.v
section
variable [Val] [Kno] {C:Cfg} {Sg:Tb} {T:Tt}
def b_unI{n:Int}{r:TE}{K:Int->TE->Prop}:(PH C Sg T).unI (.i n :: r) K=K n r:=rfl
def b_unB{n:Bool}{r:TE}{K:Bool->TE->Prop}:(PH C Sg T).unB (.b n :: r) K=K n r:=rfl
def b_unV{n:Value}{r:TE}{K:Value->TE->Prop}:(PH C Sg T).unV (.v n :: r) K=K n r:=rfl
def b_un0{K:Prop}:(PH C Sg T).un0 [] K=K:=rfl
def b_ucI{k:TI}{n:Int}{r:Tl}{K:Int->Tl->Prop}:(PH C Sg T).ucI k (.int k n :: r) K=K n r:=by
 show(k=k/\K n r)=K n r
 simp
def b_ucB{n:Bool}{r:Tl}{K:Bool->Tl->Prop}:(PH C Sg T).ucB (.bool n :: r) K=K n r:=rfl
def b_ucV{n:Value}{r:Tl}{K:Value->Tl->Prop}:(PH C Sg T).ucV (n :: r) K=K n r:=rfl
def b_uc0{K:Prop}:(PH C Sg T).uc0 [] K=K:=rfl
def b_cond_t{X Y:Prop}:(PH C Sg T).cond true X Y=X:=by
 show((true=true->X)/\(true=false->Y))=X
 simp
def b_cond_f{X Y:Prop}:(PH C Sg T).cond false X Y=Y:=by
 show((false=true->X)/\(false=false->Y))=Y
 simp
def b_lss_t{a b:Int}{K:Tn}(h:a<b):(PH C Sg T).cmp .lss a b K=K true:=by
 show K (decide (a<b))=_;rw[qdC h]
def b_lss_f{a b:Int}{K:Tn}(h:b<=a):(PH C Sg T).cmp .lss a b K=K false:=by
 show K (decide (a<b))=_;rw[qdB (by omega)]
def b_leq_t{a b:Int}{K:Tn}(h:a<=b):(PH C Sg T).cmp .leq a b K=K true:=by
 show K (decide (a<=b))=_;rw[qdC h]
def b_leq_f{a b:Int}{K:Tn}(h:b<a):(PH C Sg T).cmp .leq a b K=K false:=by
 show K (decide (a<=b))=_;rw[qdB (by omega)]
def b_gtr_t{a b:Int}{K:Tn}(h:b<a):(PH C Sg T).cmp .gtr a b K=K true:=by
 show K (decide (a > b))=_;rw[qdC h]
def b_gtr_f{a b:Int}{K:Tn}(h:a<=b):(PH C Sg T).cmp .gtr a b K=K false:=by
 show K (decide (a > b))=_;rw[qdB (by omega)]
def b_geq_t{a b:Int}{K:Tn}(h:b<=a):(PH C Sg T).cmp .geq a b K=K true:=by
 show K (decide (a ≥ b))=_;rw[qdC h]
def b_geq_f{a b:Int}{K:Tn}(h:a<b):(PH C Sg T).cmp .geq a b K=K false:=by
 show K (decide (a ≥ b))=_;rw[qdB (by omega)]
def b_eql_t{a b:Int}{K:Tn}(h:a=b):(PH C Sg T).cmp .eql a b K=K true:=by
 show K (a==b)=_;rw[beq_iff_eq.2 h]
def b_eql_f{a b:Int}{K:Tn}(h:a≠b):(PH C Sg T).cmp .eql a b K=K false:=by
 show K (a==b)=_;rw[beq_false_of_ne h]
def b_neq_t{a b:Int}{K:Tn}(h:a≠b):(PH C Sg T).cmp .neq a b K=K true:=by
 show K (a != b)=_;rw[bne_iff_ne.2 h]
def b_neq_f{a b:Int}{K:Tn}(h:a=b):(PH C Sg T).cmp .neq a b K=K false:=by
 show K (a != b)=_;subst h;simp
def b_add{a b:Int}{K:Tu}(h1:-9223372036854775808<=a+b)(h2:a+b<=9223372036854775807):(PH C Sg T).ari .add .i64 a b K=K (a+b):=by
 show K (IntKind.wrap .i64 (a+b))=_;rw[cQ h1 h2]
def b_sub{a b:Int}{K:Tu}(h1:-9223372036854775808<=a - b)(h2:a - b<=9223372036854775807):(PH C Sg T).ari .sub .i64 a b K=K (a - b):=by
 show K (IntKind.wrap .i64 (a - b))=_;rw[cQ h1 h2]
def b_mul{a b:Int}{K:Tu}(h1:-9223372036854775808<=a*b)(h2:a*b<=9223372036854775807):(PH C Sg T).ari .mul .i64 a b K=K (a*b):=by
 show K (IntKind.wrap .i64 (a*b))=_;rw[cQ h1 h2]
def b_add8{a b:Int}{K:Tu}(h1:0<=a+b)(h2:a+b<=255):(PH C Sg T).ari .add .u8 a b K=K (a+b):=by
 show K (IntKind.wrap .u8 (a+b))=_;rw[rT h1 h2]
def b_sub8{a b:Int}{K:Tu}(h1:0<=a - b)(h2:a - b<=255):(PH C Sg T).ari .sub .u8 a b K=K (a - b):=by
 show K (IntKind.wrap .u8 (a - b))=_;rw[rT h1 h2]
def b_mul8{a b:Int}{K:Tu}(h1:0<=a*b)(h2:a*b<=255):(PH C Sg T).ari .mul .u8 a b K=K (a*b):=by
 show K (IntKind.wrap .u8 (a*b))=_;rw[rT h1 h2]
def tdiv_nn{a b:Int}(h:0<=a):a.tdiv b=a / b:=Int.tdiv_eq_ediv_of_nonneg h
def b_quo_nn{a b:Int}{K:Tu}(h:0<=a)(hb:0<b)(h2:a<=9223372036854775807):(PH C Sg T).ari .quo .i64 a b K=K (a / b):=by
 show(b≠0/\K (IntKind.wrap .i64 (a.tdiv b)))=_
 have h3:a / b<=a:=Int.ediv_le_self b h
 have h4:0<=a / b:=Int.ediv_nonneg h (by omega)
 rw[tdiv_nn h,cQ (by omega) (by omega)]
 simp;intro _ h;omega
def b_quo_dv{a b:Int}{K:Tu}(h:a%b=0)(hb:0<b)(h1:-9223372036854775808<=a)(h2:a<=9223372036854775807):(PH C Sg T).ari .quo .i64 a b K=K (a / b):=by
 show(b≠0/\K (IntKind.wrap .i64 (a.tdiv b)))=_
 obtain⟨q,rfl⟩:=Int.dvd_of_emod_eq_zero h
 rw[Int.mul_tdiv_cancel_left q (by omega),Int.mul_ediv_cancel_left q (by omega)]
 have hq:-9223372036854775808<=q/\q<=9223372036854775807:=by
  rcases Int.le_total 0 q with hs|hs
  ·have:=qcm (show(1:Int)<=b by omega) hs
   omega
  ·have:=qcm (show(1:Int)<=b by omega) (show 0<=-q by omega)
   rw[Int.mul_neg b q]at this
   omega
 rw[cQ hq.1 hq.2]
 simp;intro _ h;omega
def b_rem_nn{k:TI}{a b:Int}{K:Tu}(h:0<=a)(hb:0<b):(PH C Sg T).ari .rem k a b K=K (a%b):=by
 show(b≠0/\K (a.tmod b))=_
 rw[qc8 h]
 simp;intro _ h;omega
def b_rem_np{k:TI}{a b:Int}{K:Tu}(h:a<=0)(hb:0<b):(PH C Sg T).ari .rem k a b K=K (-((-a)%b)):=by
 show(b≠0/\K (a.tmod b))=_
 have:a.tmod b = -((-a)%b):=by
  have h1:=Int.neg_tmod a b
  rw[qc8 (a:=-a) (by omega)]at h1
  omega
 rw[this]
 simp;intro _ h;omega
def b_and1{a:Int}{K:Tu}:(PH C Sg T).ari .and .i64 a 1 K=K (a%2):=by
 show(((1:Int)=1/\K (a%2))∨((1:Int)≠1/\∃n,qi .and .i64 a 1 n/\K n))=K (a%2)
 simp
def b_conv{a:Int}{K:Tu}(h1:-9223372036854775808<=a)(h2:a<=9223372036854775807):(PH C Sg T).conv .i64 a K=K a:=by
 show K (IntKind.wrap .i64 a)=_;rw[cQ h1 h2]
def b_conv8{a:Int}{K:Tu}(h1:0<=a)(h2:a<=255):(PH C Sg T).conv .u8 a K=K a:=by
 show K (IntKind.wrap .u8 a)=_;rw[rT h1 h2]
def b_sel_t{a b:Int}{K:Tu}:(PH C Sg T).sel true a b K=K a:=rfl
def b_sel_f{a b:Int}{K:Tu}:(PH C Sg T).sel false a b K=K b:=rfl
def b_opt{α:Type}{x:α}{K:α->Prop}:(PH C Sg T).opt (some x) K=K x:=by
 show(∃y,some x=some y/\K y)=K x
 simp
def b_inB{n:Nat}{i:Int}{K:Unit->Prop}(h1:0<=i)(h2:i<(n:Int)):(PH C Sg T).opt (inB n i) K=K ():=by
 rw[show inB n i=some ()from(inB_eq n i).trans (qdD ⟨h1,h2⟩),b_opt]
def b_join{b:Td}{m:(TE->HL->Prop)->Prop}:(PH C Sg T).join b m=m b:=rfl
def b_eqs0{K:Tn}:(PH C Sg T).eqs [] K=K true:=rfl
def b_eqs_t{a b:Int}{l:List (Lf×Lf)}{K:Tn}(h:a=b):(PH C Sg T).eqs ((.i a,.i b) :: l) K=(PH C Sg T).eqs l K:=by
 show K (ch _)=K (ch l)
 subst h
 simp[ch,gF]
def b_eqs_f{a b:Int}{l:List (Lf×Lf)}{K:Tn}(h:a≠b):(PH C Sg T).eqs ((.i a,.i b) :: l) K=K false:=by
 show K (ch _)=K false
 have:(a==b)=false:=beq_false_of_ne h
 simp[ch,gF,this]
def p_loop{F:(TE->HL->Prop)->TE->HL->Prop}{ls:TE}{h:HL}(n:Nat)(hn:itH F n ls h):(PH C Sg T).loop F ls h:=⟨n,hn⟩
def b_it{F:(TE->HL->Prop)->TE->HL->Prop}{n:Nat}{ls:TE}{h:HL}:itH F (n+1) ls h=F (itH F n) ls h:=rfl
def ac{g:TN}{ls rs:TE}{h:HL}{K:Td}(hc:∀H,aw C Sg g ls H rs H)(hk:K rs h):(PH C Sg T).call g ls h (@hid _ ⟨K⟩):=⟨rs,h,hc _,hk⟩
def b_eqsb_t{a b:Bool}{l:List (Lf×Lf)}{K:Tn}(h:a=b):(PH C Sg T).eqs ((.b a,.b b) :: l) K=(PH C Sg T).eqs l K:=by
 show K (ch _)=K (ch l)
 subst h
 simp[ch,gF]
def b_eqsb_tf{l:List (Lf×Lf)}{K:Tn}:(PH C Sg T).eqs ((.b true,.b false) :: l) K=K false:=rfl
def b_eqsb_ft{l:List (Lf×Lf)}{K:Tn}:(PH C Sg T).eqs ((.b false,.b true) :: l) K=K false:=rfl
def b_mul_1{b:Int}{K:Tu}(h1:-9223372036854775808<=b)(h2:b<=9223372036854775807):(PH C Sg T).ari .mul .i64 1 b K=K b:=by
 show K (IntKind.wrap .i64 (1*b))=_;rw[Int.one_mul,cQ h1 h2]
def b_mul_0{b:Int}{K:Tu}:(PH C Sg T).ari .mul .i64 0 b K=K 0:=by
 show K (IntKind.wrap .i64 (0*b))=_;rw[Int.zero_mul];rfl
def b_mul_m{b:Int}{K:Tu}(h1:-9223372036854775808<=-b)(h2:-b<=9223372036854775807):(PH C Sg T).ari .mul .i64 (-1) b K=K (-b):=by
 show K (IntKind.wrap .i64 (-1*b))=_
 have:(-1*b:Int) = -b:=by omega
 rw[this,cQ h1 h2]
def b_mul_r1{b:Int}{K:Tu}(h1:-9223372036854775808<=b)(h2:b<=9223372036854775807):(PH C Sg T).ari .mul .i64 b 1 K=K b:=by
 show K (IntKind.wrap .i64 (b*1))=_;rw[Int.mul_one,cQ h1 h2]
def b_mul_r0{b:Int}{K:Tu}:(PH C Sg T).ari .mul .i64 b 0 K=K 0:=by
 show K (IntKind.wrap .i64 (b*0))=_;rw[Int.mul_zero];rfl
def b_mul_rm{b:Int}{K:Tu}(h1:-9223372036854775808<=-b)(h2:-b<=9223372036854775807):(PH C Sg T).ari .mul .i64 b (-1) K=K (-b):=by
 show K (IntKind.wrap .i64 (b * -1))=_
 have:(b * -1:Int) = -b:=by omega
 rw[this,cQ h1 h2]
def b_add_0{b:Int}{K:Tu}(h1:-9223372036854775808<=b)(h2:b<=9223372036854775807):(PH C Sg T).ari .add .i64 0 b K=K b:=by
 show K (IntKind.wrap .i64 (0+b))=_;rw[Int.zero_add,cQ h1 h2]
def b_add_r0{b:Int}{K:Tu}(h1:-9223372036854775808<=b)(h2:b<=9223372036854775807):(PH C Sg T).ari .add .i64 b 0 K=K b:=by
 show K (IntKind.wrap .i64 (b+0))=_;rw[Int.add_zero,cQ h1 h2]
def b_add_11{K:Tu}:(PH C Sg T).ari .add .i64 1 1 K=K 2:=by
 show K (IntKind.wrap .i64 (1+1))=_;rfl
def b_quo_1{a:Int}{K:Tu}(h1:-9223372036854775808<=a)(h2:a<=9223372036854775807):(PH C Sg T).ari .quo .i64 a 1 K=K a:=by
 show((1:Int)≠0/\K (IntKind.wrap .i64 (a.tdiv 1)))=_
 rw[Int.tdiv_one,cQ h1 h2];simp
def af{α:Type}{o:Option α}{x:α}{K:α->Prop}(h:o=some x)(hk:K x):(PH C Sg T).opt o (@hid _ ⟨K⟩):=⟨x,h,hk⟩
theorem p_unI{n:Int}{r:TE}{K:Int->TE->Prop}:(PH C Sg T).unI (.i n :: r) (@hid _ ⟨K⟩)=K n r:=b_unI
theorem p_unB{n:Bool}{r:TE}{K:Bool->TE->Prop}:(PH C Sg T).unB (.b n :: r) (@hid _ ⟨K⟩)=K n r:=b_unB
theorem p_unV{n:Value}{r:TE}{K:Value->TE->Prop}:(PH C Sg T).unV (.v n :: r) (@hid _ ⟨K⟩)=K n r:=b_unV
theorem p_un0{K:Prop}:(PH C Sg T).un0 [] (@hid _ ⟨K⟩)=K:=b_un0
theorem p_ucI{k:TI}{n:Int}{r:Tl}{K:Int->Tl->Prop}:(PH C Sg T).ucI k (.int k n :: r) (@hid _ ⟨K⟩)=K n r:=b_ucI
theorem p_ucB{n:Bool}{r:Tl}{K:Bool->Tl->Prop}:(PH C Sg T).ucB (.bool n :: r) (@hid _ ⟨K⟩)=K n r:=b_ucB
theorem p_ucV{n:Value}{r:Tl}{K:Value->Tl->Prop}:(PH C Sg T).ucV (n :: r) (@hid _ ⟨K⟩)=K n r:=b_ucV
theorem p_uc0{K:Prop}:(PH C Sg T).uc0 [] (@hid _ ⟨K⟩)=K:=b_uc0
theorem p_cond_t{X Y:Prop}:(PH C Sg T).cond true (@hid _ ⟨X⟩) Y=X:=b_cond_t
theorem p_cond_f{X Y:Prop}:(PH C Sg T).cond false X (@hid _ ⟨Y⟩)=Y:=b_cond_f
theorem p_lss_t{a b:Int}{K:Tn}(h:a<b):(PH C Sg T).cmp .lss a b (@hid _ ⟨K⟩)=K true:=b_lss_t h
theorem p_lss_f{a b:Int}{K:Tn}(h:b<=a):(PH C Sg T).cmp .lss a b (@hid _ ⟨K⟩)=K false:=b_lss_f h
theorem p_leq_t{a b:Int}{K:Tn}(h:a<=b):(PH C Sg T).cmp .leq a b (@hid _ ⟨K⟩)=K true:=b_leq_t h
theorem p_leq_f{a b:Int}{K:Tn}(h:b<a):(PH C Sg T).cmp .leq a b (@hid _ ⟨K⟩)=K false:=b_leq_f h
theorem p_gtr_t{a b:Int}{K:Tn}(h:b<a):(PH C Sg T).cmp .gtr a b (@hid _ ⟨K⟩)=K true:=b_gtr_t h
theorem p_gtr_f{a b:Int}{K:Tn}(h:a<=b):(PH C Sg T).cmp .gtr a b (@hid _ ⟨K⟩)=K false:=b_gtr_f h
theorem p_geq_t{a b:Int}{K:Tn}(h:b<=a):(PH C Sg T).cmp .geq a b (@hid _ ⟨K⟩)=K true:=b_geq_t h
theorem p_geq_f{a b:Int}{K:Tn}(h:a<b):(PH C Sg T).cmp .geq a b (@hid _ ⟨K⟩)=K false:=b_geq_f h
theorem p_eql_t{a b:Int}{K:Tn}(h:a=b):(PH C Sg T).cmp .eql a b (@hid _ ⟨K⟩)=K true:=b_eql_t h
theorem p_eql_f{a b:Int}{K:Tn}(h:a≠b):(PH C Sg T).cmp .eql a b (@hid _ ⟨K⟩)=K false:=b_eql_f h
theorem p_neq_t{a b:Int}{K:Tn}(h:a≠b):(PH C Sg T).cmp .neq a b (@hid _ ⟨K⟩)=K true:=b_neq_t h
theorem p_neq_f{a b:Int}{K:Tn}(h:a=b):(PH C Sg T).cmp .neq a b (@hid _ ⟨K⟩)=K false:=b_neq_f h
theorem p_add{a b:Int}{K:Tu}(h1:-9223372036854775808<=a+b)(h2:a+b<=9223372036854775807):(PH C Sg T).ari .add .i64 a b (@hid _ ⟨K⟩)=K (a+b):=b_add h1 h2
theorem p_sub{a b:Int}{K:Tu}(h1:-9223372036854775808<=a - b)(h2:a - b<=9223372036854775807):(PH C Sg T).ari .sub .i64 a b (@hid _ ⟨K⟩)=K (a - b):=b_sub h1 h2
theorem p_mul{a b:Int}{K:Tu}(h1:-9223372036854775808<=a*b)(h2:a*b<=9223372036854775807):(PH C Sg T).ari .mul .i64 a b (@hid _ ⟨K⟩)=K (a*b):=b_mul h1 h2
theorem p_add8{a b:Int}{K:Tu}(h1:0<=a+b)(h2:a+b<=255):(PH C Sg T).ari .add .u8 a b (@hid _ ⟨K⟩)=K (a+b):=b_add8 h1 h2
theorem p_sub8{a b:Int}{K:Tu}(h1:0<=a - b)(h2:a - b<=255):(PH C Sg T).ari .sub .u8 a b (@hid _ ⟨K⟩)=K (a - b):=b_sub8 h1 h2
theorem p_mul8{a b:Int}{K:Tu}(h1:0<=a*b)(h2:a*b<=255):(PH C Sg T).ari .mul .u8 a b (@hid _ ⟨K⟩)=K (a*b):=b_mul8 h1 h2
theorem p_quo_nn{a b:Int}{K:Tu}(h:0<=a)(hb:0<b)(h2:a<=9223372036854775807):(PH C Sg T).ari .quo .i64 a b (@hid _ ⟨K⟩)=K (a / b):=b_quo_nn h hb h2
theorem p_quo_dv{a b:Int}{K:Tu}(h:a%b=0)(hb:0<b)(h1:-9223372036854775808<=a)(h2:a<=9223372036854775807):(PH C Sg T).ari .quo .i64 a b (@hid _ ⟨K⟩)=K (a / b):=b_quo_dv h hb h1 h2
theorem p_rem_nn{k:TI}{a b:Int}{K:Tu}(h:0<=a)(hb:0<b):(PH C Sg T).ari .rem k a b (@hid _ ⟨K⟩)=K (a%b):=b_rem_nn h hb
theorem p_rem_np{k:TI}{a b:Int}{K:Tu}(h:a<=0)(hb:0<b):(PH C Sg T).ari .rem k a b (@hid _ ⟨K⟩)=K (-((-a)%b)):=b_rem_np h hb
theorem p_and1{a:Int}{K:Tu}:(PH C Sg T).ari .and .i64 a 1 (@hid _ ⟨K⟩)=K (a%2):=b_and1
theorem p_conv{a:Int}{K:Tu}(h1:-9223372036854775808<=a)(h2:a<=9223372036854775807):(PH C Sg T).conv .i64 a (@hid _ ⟨K⟩)=K a:=b_conv h1 h2
theorem p_conv8{a:Int}{K:Tu}(h1:0<=a)(h2:a<=255):(PH C Sg T).conv .u8 a (@hid _ ⟨K⟩)=K a:=b_conv8 h1 h2
theorem p_sel_t{a b:Int}{K:Tu}:(PH C Sg T).sel true a b (@hid _ ⟨K⟩)=K a:=b_sel_t
theorem p_sel_f{a b:Int}{K:Tu}:(PH C Sg T).sel false a b (@hid _ ⟨K⟩)=K b:=b_sel_f
theorem p_opt{α:Type}{x:α}{K:α->Prop}:(PH C Sg T).opt (some x) (@hid _ ⟨K⟩)=K x:=b_opt
theorem p_inB{n:Nat}{i:Int}{K:Unit->Prop}(h1:0<=i)(h2:i<(n:Int)):(PH C Sg T).opt (inB n i) (@hid _ ⟨K⟩)=K ():=b_inB h1 h2
theorem p_join{b:Td}{m:(TE->HL->Prop)->Prop}:(PH C Sg T).join (@hid _ ⟨b⟩) (@hid _ ⟨m⟩)=m (@hid _ ⟨b⟩):=b_join
theorem p_eqs0{K:Tn}:(PH C Sg T).eqs [] (@hid _ ⟨K⟩)=K true:=b_eqs0
theorem p_eqs_t{a b:Int}{l:List (Lf×Lf)}{K:Tn}(h:a=b):(PH C Sg T).eqs ((.i a,.i b) :: l) (@hid _ ⟨K⟩)=(PH C Sg T).eqs l (@hid _ ⟨K⟩):=b_eqs_t h
theorem p_eqs_f{a b:Int}{l:List (Lf×Lf)}{K:Tn}(h:a≠b):(PH C Sg T).eqs ((.i a,.i b) :: l) (@hid _ ⟨K⟩)=K false:=b_eqs_f h
theorem p_it{F:(TE->HL->Prop)->TE->HL->Prop}{n:Nat}{ls:TE}{h:HL}:itH (@hid _ ⟨F⟩) (n+1) ls h=F (itH (@hid _ ⟨F⟩) n) ls h:=b_it
theorem p_eqsb_t{a b:Bool}{l:List (Lf×Lf)}{K:Tn}(h:a=b):(PH C Sg T).eqs ((.b a,.b b) :: l) (@hid _ ⟨K⟩)=(PH C Sg T).eqs l (@hid _ ⟨K⟩):=b_eqsb_t h
theorem p_eqsb_tf{l:List (Lf×Lf)}{K:Tn}:(PH C Sg T).eqs ((.b true,.b false) :: l) (@hid _ ⟨K⟩)=K false:=b_eqsb_tf
theorem p_eqsb_ft{l:List (Lf×Lf)}{K:Tn}:(PH C Sg T).eqs ((.b false,.b true) :: l) (@hid _ ⟨K⟩)=K false:=b_eqsb_ft
theorem p_mul_1{b:Int}{K:Tu}(h1:-9223372036854775808<=b)(h2:b<=9223372036854775807):(PH C Sg T).ari .mul .i64 1 b (@hid _ ⟨K⟩)=K b:=b_mul_1 h1 h2
theorem p_mul_0{b:Int}{K:Tu}:(PH C Sg T).ari .mul .i64 0 b (@hid _ ⟨K⟩)=K 0:=b_mul_0
theorem p_mul_m{b:Int}{K:Tu}(h1:-9223372036854775808<=-b)(h2:-b<=9223372036854775807):(PH C Sg T).ari .mul .i64 (-1) b (@hid _ ⟨K⟩)=K (-b):=b_mul_m h1 h2
theorem p_mul_r1{b:Int}{K:Tu}(h1:-9223372036854775808<=b)(h2:b<=9223372036854775807):(PH C Sg T).ari .mul .i64 b 1 (@hid _ ⟨K⟩)=K b:=b_mul_r1 h1 h2
theorem p_mul_r0{b:Int}{K:Tu}:(PH C Sg T).ari .mul .i64 b 0 (@hid _ ⟨K⟩)=K 0:=b_mul_r0
theorem p_mul_rm{b:Int}{K:Tu}(h1:-9223372036854775808<=-b)(h2:-b<=9223372036854775807):(PH C Sg T).ari .mul .i64 b (-1) (@hid _ ⟨K⟩)=K (-b):=b_mul_rm h1 h2
theorem p_add_0{b:Int}{K:Tu}(h1:-9223372036854775808<=b)(h2:b<=9223372036854775807):(PH C Sg T).ari .add .i64 0 b (@hid _ ⟨K⟩)=K b:=b_add_0 h1 h2
theorem p_add_r0{b:Int}{K:Tu}(h1:-9223372036854775808<=b)(h2:b<=9223372036854775807):(PH C Sg T).ari .add .i64 b 0 (@hid _ ⟨K⟩)=K b:=b_add_r0 h1 h2
theorem p_add_11{K:Tu}:(PH C Sg T).ari .add .i64 1 1 (@hid _ ⟨K⟩)=K 2:=b_add_11
theorem p_quo_1{a:Int}{K:Tu}(h1:-9223372036854775808<=a)(h2:a<=9223372036854775807):(PH C Sg T).ari .quo .i64 a 1 (@hid _ ⟨K⟩)=K a:=b_quo_1 h1 h2
theorem p_hid2{f:Td}{a:TE}{b:HL}:@hid _ ⟨f⟩ a b=f a b:=rfl
theorem p_eqs2_f{a b c d:Int}{K:Tn}(h:¬(a=c/\b=d)):(PH C Sg T).eqs [(.i a,.i c),(.i b,.i d)] (@hid _ ⟨K⟩)=K false:=by
 show K (ch _)=K false
 have:ch [(.i a,.i c),(.i b,.i d)]=false:=by
  rw[Bool.eq_false_iff]
  simpa[ch,gF]using h
 rw[this]
theorem p_eqs3_f{a b c d e f:Int}{K:Tn}(h:¬(a=d/\b=e/\c=f)):(PH C Sg T).eqs [(.i a,.i d),(.i b,.i e),(.i c,.i f)] (@hid _ ⟨K⟩)=K false:=by
 show K (ch _)=K false
 have:ch [(.i a,.i d),(.i b,.i e),(.i c,.i f)]=false:=by
  rw[Bool.eq_false_iff]
  simpa[ch,gF]using h
 rw[this]
def ah{g:TN}{ls rs:TE}{h h':HL}{K:Td}(hc:aw C Sg g ls (absH T h) rs (absH T h'))(hk:K rs h'):(PH C Sg T).call g ls h (@hid _ ⟨K⟩):=⟨rs,h',hc,hk⟩
def jg{g:TN}{sg:Sig}{ls rs:TE}{H H':Ts}(hc:aw C Sg g ls H rs H')(hs:Sg g=some sg)(xs:List S0)(h1:bZ xs sg.ps=true)(h2:cb xs=ls) :
  tY C (.func (.func g) #[] #[]) (ai xs) sg.rs H rs H':=by
 obtain⟨sg',xs',ys,c1,c2,c3,c4⟩:=hc
 rw[hs]at c1
 cases c1
 obtain⟨w1,_⟩:=cF c2.1 h1 (c2.2.1.trans h2.symm)
 rw[w1]at c4
 exact⟨ys,c3,.inl ⟨g,#[],#[],rfl,by simpa using c4⟩⟩
def fl{v:Value}{args:Tl}{hs:TJ}{rs:TE}{h h':HL}{K:Td}(hc:tY C v args hs (absH T h) rs (absH T h'))(hk:K rs h'):(PH C Sg T).callv v args hs h (@hid _ ⟨K⟩):=⟨rs,h',hc,hk⟩
theorem p_new{o:HObj}{h:HL}{K:Nat->HL->Prop}:(PH C Sg T).new o h (@hid _ ⟨K⟩)=K h.length (h++[.o o]):=rfl
def ak{v:Value}{K:Prop}(h:aS v=true)(hk:K):(PH C Sg T).chk v (@hid _ ⟨K⟩):=⟨h,hk⟩
def bC{f:Hp}{h:HL}{K:Ta}{acts:List Act1}{cs:Tl}(e:f.run (getH T h) h.length=some (acts,cs))(hk:K cs (cz h acts)):(PH C Sg T).heap f h (@hid _ ⟨K⟩):=⟨acts,cs,e,hk⟩
def dc{f:Pk}{h:HL}{K:Te}{cs:Tl}(e:f.run (getH T h)=some cs)(hk:K cs):(PH C Sg T).peek f h (@hid _ ⟨K⟩):=⟨cs,e,hk⟩
def pxs(C:Cfg)(Sg:Tb)(T:Tt):=And.intro @p_hid2 (And.intro (@p_new _ _ C Sg T) (And.intro (@p_unI _ _ C Sg T) (And.intro (@p_unB _ _ C Sg T) (And.intro (@p_unV _ _ C Sg T) (And.intro (@p_un0 _ _ C Sg T) (And.intro (@p_ucI _ _ C Sg T) (And.intro (@p_ucB _ _ C Sg T) (And.intro (@p_ucV _ _ C Sg T) (And.intro (@p_uc0 _ _ C Sg T) (And.intro (@p_cond_t _ _ C Sg T) (And.intro (@p_cond_f _ _ C Sg T) (And.intro (@p_opt _ _ C Sg T) (And.intro (@p_inB _ _ C Sg T) (And.intro (@p_join _ _ C Sg T) (And.intro (@p_sel_t _ _ C Sg T) (And.intro (@p_sel_f _ _ C Sg T) ((@p_it))))))))))))))))))
def pxc(C:Cfg)(Sg:Tb)(T:Tt):=And.intro (@p_lss_t _ _ C Sg T) (And.intro (@p_lss_f _ _ C Sg T) (And.intro (@p_leq_t _ _ C Sg T) (And.intro (@p_leq_f _ _ C Sg T) (And.intro (@p_gtr_t _ _ C Sg T) (And.intro (@p_gtr_f _ _ C Sg T) (And.intro (@p_geq_t _ _ C Sg T) (And.intro (@p_geq_f _ _ C Sg T) (And.intro (@p_eql_t _ _ C Sg T) (And.intro (@p_eql_f _ _ C Sg T) (And.intro (@p_neq_t _ _ C Sg T) (And.intro (@p_neq_f _ _ C Sg T) (And.intro (@p_eqs0 _ _ C Sg T) (And.intro (@p_eqs_t _ _ C Sg T) (And.intro (@p_eqs_f _ _ C Sg T) (And.intro (@p_eqs2_f _ _ C Sg T) (And.intro (@p_eqs3_f _ _ C Sg T) (And.intro (@p_eqsb_t _ _ C Sg T) (And.intro (@p_eqsb_tf _ _ C Sg T) ((@p_eqsb_ft _ _ C Sg T))))))))))))))))))))
def pxa(C:Cfg)(Sg:Tb)(T:Tt):=And.intro (@p_mul_1 _ _ C Sg T) (And.intro (@p_mul_0 _ _ C Sg T) (And.intro (@p_mul_m _ _ C Sg T) (And.intro (@p_mul_r1 _ _ C Sg T) (And.intro (@p_mul_r0 _ _ C Sg T) (And.intro (@p_mul_rm _ _ C Sg T) (And.intro (@p_add_0 _ _ C Sg T) (And.intro (@p_add_r0 _ _ C Sg T) (And.intro (@p_add_11 _ _ C Sg T) (And.intro (@p_quo_1 _ _ C Sg T) (And.intro (@p_add _ _ C Sg T) (And.intro (@p_sub _ _ C Sg T) (And.intro (@p_mul _ _ C Sg T) (And.intro (@p_add8 _ _ C Sg T) (And.intro (@p_sub8 _ _ C Sg T) (And.intro (@p_mul8 _ _ C Sg T) (And.intro (@p_quo_nn _ _ C Sg T) (And.intro (@p_quo_dv _ _ C Sg T) (And.intro (@p_rem_nn _ _ C Sg T) (And.intro (@p_rem_np _ _ C Sg T) (And.intro (@p_and1 _ _ C Sg T) (And.intro (@p_conv _ _ C Sg T) ((@p_conv8 _ _ C Sg T)))))))))))))))))))))))
end
end Sx
namespace Sx
section
variable [Val] [Kno]
variable {C:Cfg} {Sg:Tb} {T:Tt}
def rY{h:HL}{l:Nat}{o:HO}:absH T (h.set l o)=(absH T h).set l (absO T o):=by
 unfold absH
 rw[List.map_set]
end
end Sx
namespace Sx
open Go.Proofs
def hA(A:Alg Prop HL):Alg Prop HL where
 fail:=A.fail
 cond b x y:=A.cond b (@hid _ ⟨x⟩) (@hid _ ⟨y⟩)
 ari o k a b K:=A.ari o k a b (@hid _ ⟨K⟩)
 shf o k a l b K:=A.shf o k a l b (@hid _ ⟨K⟩)
 cmp o a b K:=A.cmp o a b (@hid _ ⟨K⟩)
 eqs l K:=A.eqs l (@hid _ ⟨K⟩)
 conv k a K:=A.conv k a (@hid _ ⟨K⟩)
 sel t a b K:=A.sel t a b (@hid _ ⟨K⟩)
 opt o K:=A.opt o (@hid _ ⟨K⟩)
 chk v x:=A.chk v (@hid _ ⟨x⟩)
 unI l K:=A.unI l (@hid _ ⟨K⟩)
 unB l K:=A.unB l (@hid _ ⟨K⟩)
 unV l K:=A.unV l (@hid _ ⟨K⟩)
 un0 l x:=A.un0 l (@hid _ ⟨x⟩)
 ucI k l K:=A.ucI k l (@hid _ ⟨K⟩)
 ucB l K:=A.ucB l (@hid _ ⟨K⟩)
 ucV l K:=A.ucV l (@hid _ ⟨K⟩)
 uc0 l x:=A.uc0 l (@hid _ ⟨x⟩)
 peek f h K:=A.peek f h (@hid _ ⟨K⟩)
 heap f h K:=A.heap f h (@hid _ ⟨K⟩)
 new o h K:=A.new o h (@hid _ ⟨K⟩)
 call g l h K:=A.call g l h (@hid _ ⟨K⟩)
 callv v a s h K:=A.callv v a s h (@hid _ ⟨K⟩)
 join b m:=A.join (@hid _ ⟨b⟩) (@hid _ ⟨m⟩)
 loop F l h:=A.loop (@hid _ ⟨F⟩) l h
 rfun n v a h K:=A.rfun n v a h (@hid _ ⟨K⟩)
 pend o x y l:=A.pend o (@hid _ ⟨x⟩) (@hid _ ⟨y⟩) l
 lp1 n h K:=A.lp1 n h (@hid _ ⟨K⟩)
 lp2 n o h K:=A.lp2 n o h (@hid _ ⟨K⟩)
def hA_eq(A:Alg Prop HL):hA A=A:=rfl
section
variable {A:Alg Prop HL}
theorem h_cond{b:Bool}{x y:Prop}:(hA A).cond b x y=A.cond b (@hid _ ⟨x⟩) (@hid _ ⟨y⟩):=rfl
theorem h_ari{o:BinOp}{k:TI}{a b:Int}{K:Tu}:(hA A).ari o k a b K=A.ari o k a b (@hid _ ⟨K⟩):=rfl
theorem h_shf{o:BinOp}{k l:TI}{a b:Int}{K:Tu}:(hA A).shf o k a l b K=A.shf o k a l b (@hid _ ⟨K⟩):=rfl
theorem h_cmp{o:BinOp}{a b:Int}{K:Tn}:(hA A).cmp o a b K=A.cmp o a b (@hid _ ⟨K⟩):=rfl
theorem h_eqs{l:List (Lf×Lf)}{K:Tn}:(hA A).eqs l K=A.eqs l (@hid _ ⟨K⟩):=rfl
theorem h_conv{k:TI}{a:Int}{K:Tu}:(hA A).conv k a K=A.conv k a (@hid _ ⟨K⟩):=rfl
theorem h_sel{t:Bool}{a b:Int}{K:Tu}:(hA A).sel t a b K=A.sel t a b (@hid _ ⟨K⟩):=rfl
theorem h_opt{α:Type}{o:Option α}{K:α->Prop}:(hA A).opt o K=A.opt o (@hid _ ⟨K⟩):=rfl
theorem h_chk{v:Value}{x:Prop}:(hA A).chk v x=A.chk v (@hid _ ⟨x⟩):=rfl
theorem h_unI{l:TE}{K:Int->TE->Prop}:(hA A).unI l K=A.unI l (@hid _ ⟨K⟩):=rfl
theorem h_unB{l:TE}{K:Bool->TE->Prop}:(hA A).unB l K=A.unB l (@hid _ ⟨K⟩):=rfl
theorem h_unV{l:TE}{K:Value->TE->Prop}:(hA A).unV l K=A.unV l (@hid _ ⟨K⟩):=rfl
theorem h_un0{l:TE}{x:Prop}:(hA A).un0 l x=A.un0 l (@hid _ ⟨x⟩):=rfl
theorem h_ucI{k:TI}{l:Tl}{K:Int->Tl->Prop}:(hA A).ucI k l K=A.ucI k l (@hid _ ⟨K⟩):=rfl
theorem h_ucB{l:Tl}{K:Bool->Tl->Prop}:(hA A).ucB l K=A.ucB l (@hid _ ⟨K⟩):=rfl
theorem h_ucV{l:Tl}{K:Value->Tl->Prop}:(hA A).ucV l K=A.ucV l (@hid _ ⟨K⟩):=rfl
theorem h_uc0{l:Tl}{x:Prop}:(hA A).uc0 l x=A.uc0 l (@hid _ ⟨x⟩):=rfl
theorem h_peek{f:Pk}{h:HL}{K:Te}:(hA A).peek f h K=A.peek f h (@hid _ ⟨K⟩):=rfl
theorem h_heap{f:Hp}{h:HL}{K:Ta}:(hA A).heap f h K=A.heap f h (@hid _ ⟨K⟩):=rfl
theorem h_new{o:HObj}{h:HL}{K:Nat->HL->Prop}:(hA A).new o h K=A.new o h (@hid _ ⟨K⟩):=rfl
theorem h_call{g:TN}{l:TE}{h:HL}{K:Td}:(hA A).call g l h K=A.call g l h (@hid _ ⟨K⟩):=rfl
theorem h_callv{v:Value}{a:Tl}{s:TJ}{h:HL}{K:Td}:(hA A).callv v a s h K=A.callv v a s h (@hid _ ⟨K⟩):=rfl
theorem h_join{b:Td}{m:(TE->HL->Prop)->Prop}:(hA A).join b m=A.join (@hid _ ⟨b⟩) (@hid _ ⟨m⟩):=rfl
theorem h_loop{F:(TE->HL->Prop)->TE->HL->Prop}{l:TE}{h:HL}:(hA A).loop F l h=A.loop (@hid _ ⟨F⟩) l h:=rfl
theorem h_rfun{n:Nat}{v:Value}{a:Tl}{h:HL}{K:Tk->HL->Prop}:(hA A).rfun n v a h K=A.rfun n v a h (@hid _ ⟨K⟩):=rfl
theorem h_pend{o:Tk}{x y:Prop}{l:List (Nat×Prop)}:(hA A).pend o x y l=A.pend o (@hid _ ⟨x⟩) (@hid _ ⟨y⟩) l:=rfl
theorem h_lp1{n:Nat}{h:HL}{K:HL->Prop}:(hA A).lp1 n h K=A.lp1 n h (@hid _ ⟨K⟩):=rfl
theorem h_lp2{n:Nat}{o:Tk}{h:HL}{K:HL->Prop}:(hA A).lp2 n o h K=A.lp2 n o h (@hid _ ⟨K⟩):=rfl
end
def pxh(A:Alg Prop HL):=And.intro (@h_cond A) (And.intro (@h_ari A) (And.intro (@h_shf A) (And.intro (@h_cmp A) (And.intro (@h_eqs A) (And.intro (@h_conv A) (And.intro (@h_sel A) (And.intro (@h_opt A) (And.intro (@h_chk A) (And.intro (@h_unI A) (And.intro (@h_unB A) (And.intro (@h_unV A) (And.intro (@h_un0 A) (And.intro (@h_ucI A) (And.intro (@h_ucB A) (And.intro (@h_ucV A) (And.intro (@h_uc0 A) (And.intro (@h_peek A) (And.intro (@h_heap A) (And.intro (@h_new A) (And.intro (@h_call A) (And.intro (@h_callv A) (And.intro (@h_join A) (And.intro (@h_loop A) (And.intro (@h_rfun A) (And.intro (@h_pend A) (And.intro (@h_lp1 A) ((@h_lp2 A))))))))))))))))))))))))))))
end Sx
end Go.Am
namespace Go.Am
open Sx Go.Proofs
def gl_cell(g:Nat)(vs:Tl)(h:cc.G g=some vs):vs.all aU=true:=by
 unfold cc at h
 simp only at h
 split at h<;>first|(cases h;done)|(obtain rfl:=qae h;kernel_rfl)|(unfold glx at h;split at h<;>first|(cases h;done)|(obtain rfl:=qae h;kernel_rfl))
abbrev P1:Alg Prop HL:=PH cc ab aa
abbrev Cc(g:TN)(ls rs:TE):Prop:=∀H,aw cc ab g ls H rs H
def fn_ok{f:TN}{fn:Fn1}(hi:FnIs (xc f) ab f fn){ls:TE}{H:HL}{K:Td}(hls:gN ls=true)
  (h:aF P1 (xc f) ab drN fn ls H K):∃rs H',aw cc ab f ls (absH aa H) rs (absH aa H')/\K rs H':=by
 obtain⟨rs,h',a1,_,a3⟩:=qK (X:=xc f) (holds:=id) (abs:=absH aa) (PH_ok cc ab aa) vq hi (cG hls) h
 exact⟨rs,h',a1,a3⟩
def fn_okG{f:TN}{fn:Fn1}(hi:FnIs (xc f) ab f fn){ls:TE}{H:HL}{K:Td}(hls:cR ls)
  (h:aF P1 (xc f) ab drN fn ls H K):∃rs H',aw cc ab f ls (absH aa H) rs (absH aa H')/\K rs H':=by
 obtain⟨rs,h',a1,_,a3⟩:=qK (X:=xc f) (holds:=id) (abs:=absH aa) (PH_ok cc ab aa) vq hi hls h
 exact⟨rs,h',a1,a3⟩
def gls0:cR []:=λ_ h=>by cases h
def glsI{n:Int}{ls:TE}(h:cR ls):cR (.i n :: ls):=λl hl=>by
 rcases qal.1 hl with rfl|hl
 ·trivial
 ·exact h l hl
def glsB{n:Bool}{ls:TE}(h:cR ls):cR (.b n :: ls):=λl hl=>by
 rcases qal.1 hl with rfl|hl
 ·trivial
 ·exact h l hl
def glsV{x:Value}{ls:TE}(hx:aS x=true)(h:cR ls):cR (.v x :: ls):=λl hl=>by
 rcases qal.1 hl with rfl|hl
 ·exact hx
 ·exact h l hl
abbrev FP:=List Lf->HL->(TE->HL->Prop)->Prop
abbrev UG(k:TN)(p:FP):Prop:=∀ {ls:TE} {H:HL} {K:Td},gN ls=true->p ls H K->∃rs H',aw cc ab k ls (absH aa H) rs (absH aa H')/\K rs H'
abbrev XG(k:TN)(p:FP):Prop:=∀ {ls:TE} {H:HL} {K:Td},cR ls->p ls H K->∃rs H',aw cc ab k ls (absH aa H) rs (absH aa H')/\K rs H'
abbrev QG(k:TN)(p:FP):Prop:=∀ {ls rs:TE},gN ls=true->p ls [] (λrs' _=>rs'=rs)->Cc k ls rs
def uu{k:TN}{fn:Fn1}{f:{R HT:Type}->Alg R HT->TE->HT->(TE->HT->R)->R}(hi:FnIs (xc k) ab k fn)(e:@f=λR HT A ls h K=>aF A (xc k) ab drN fn ls h K):UG k (f (hA P1)):=by
 intro ls H K hls h
 rw[hA_eq,e]at h
 exact fn_ok hi hls h
def xx{k:TN}{fn:Fn1}{f:{R HT:Type}->Alg R HT->TE->HT->(TE->HT->R)->R}(hi:FnIs (xc k) ab k fn)(e:@f=λR HT A ls h K=>aF A (xc k) ab drN fn ls h K):XG k (f (hA P1)):=by
 intro ls H K hls h
 rw[hA_eq,e]at h
 exact fn_okG hi hls h
def qq{k:TN}{sg:Sig}{p:FP}(hu:UG k p)(hs:ab k=some sg)(hf:sg.plain=true):QG k p:=λhls h=>by
 obtain⟨_,_,h1,rfl⟩:=hu hls h
 exact ct_of mixed gM hs hf h1
def qxs:=pxs cc ab aa
def qxh:=And.intro (qeq (hA P1)) (pxh P1)
def qxc:=pxc cc ab aa
def qxa:=pxa cc ab aa
def qXX:=And.intro qxs (And.intro qxc qxa)
def p_x{P Q:Prop}(k:Q)(h:P=Q:=by simp(disch:=omega)only[↓qXX];exact rfl):P:=Eq.mpr h k
def xK{k:TN}{p:FP}(hx:XG k p){ls R:TE}{H H':HL}(hg:cR ls)(h:p ls H λrs h'=>rs=R/\h'=H'):aw cc ab k ls (absH aa H) R (absH aa H'):=by
 obtain⟨rs,h',h1,rfl,rfl⟩:=hx hg h
 exact h1
def x4:XG 4 (f4 (hA P1)):=xx i4 e4
def x5:XG 5 (f5 (hA P1)):=xx i5 e5
def x6:XG 6 (f6 (hA P1)):=xx i6 e6
def x7:XG 7 (f7 (hA P1)):=xx i7 e7
def u8:UG 8 (f8 (hA P1)):=uu i8 e8
def x8:XG 8 (f8 (hA P1)):=xx i8 e8
def x9:XG 9 (f9 (hA P1)):=xx i9 e9
def x10:XG 10 (f10 (hA P1)):=xx i10 e10
def x13:XG 13 (f13 (hA P1)):=xx i13 e13
def x14:XG 14 (f14 (hA P1)):=xx i14 e14
def x15:XG 15 (f15 (hA P1)):=xx i15 e15
def u16:UG 16 (f16 (hA P1)):=uu i16 e16
def x16:XG 16 (f16 (hA P1)):=xx i16 e16
def x17:XG 17 (f17 (hA P1)):=xx i17 e17
def x18:XG 18 (f18 (hA P1)):=xx i18 e18
def u19:UG 19 (f19 (hA P1)):=uu i19 e19
def q19:QG 19 (f19 (hA P1)):=qq u19 rfl (by kernel_rfl)
def x20:XG 20 (f20 (hA P1)):=xx i20 e20
def x21:XG 21 (f21 (hA P1)):=xx i21 e21
def u22:UG 22 (f22 (hA P1)):=uu i22 e22
def q22:QG 22 (f22 (hA P1)):=qq u22 rfl (by kernel_rfl)
def x23:XG 23 (f23 (hA P1)):=xx i23 e23
def x24:XG 24 (f24 (hA P1)):=xx i24 e24
def x25:XG 25 (f25 (hA P1)):=xx i25 e25
def x26:XG 26 (f26 (hA P1)):=xx i26 e26
def u27:UG 27 (f27 (hA P1)):=uu i27 e27
def q27:QG 27 (f27 (hA P1)):=qq u27 rfl (by kernel_rfl)
def x29:XG 29 (f29 (hA P1)):=xx i29 e29
def u30:UG 30 (f30 (hA P1)):=uu i30 e30
def q30:QG 30 (f30 (hA P1)):=qq u30 rfl (by kernel_rfl)
def x31:XG 31 (f31 (hA P1)):=xx i31 e31
def u32:UG 32 (f32 (hA P1)):=uu i32 e32
def x32:XG 32 (f32 (hA P1)):=xx i32 e32
def x33:XG 33 (f33 (hA P1)):=xx i33 e33
def x34:XG 34 (f34 (hA P1)):=xx i34 e34
def u35:UG 35 (f35 (hA P1)):=uu i35 e35
def q35:QG 35 (f35 (hA P1)):=qq u35 rfl (by kernel_rfl)
def x36:XG 36 (f36 (hA P1)):=xx i36 e36
def x37:XG 37 (f37 (hA P1)):=xx i37 e37
def x38:XG 38 (f38 (hA P1)):=xx i38 e38
def x39:XG 39 (f39 (hA P1)):=xx i39 e39
def x41:XG 41 (f41 (hA P1)):=xx i41 e41
def u42:UG 42 (f42 (hA P1)):=uu i42 e42
def q42:QG 42 (f42 (hA P1)):=qq u42 rfl (by kernel_rfl)
def u43:UG 43 (f43 (hA P1)):=uu i43 e43
def q43:QG 43 (f43 (hA P1)):=qq u43 rfl (by kernel_rfl)
def x44:XG 44 (f44 (hA P1)):=xx i44 e44
def x45:XG 45 (f45 (hA P1)):=xx i45 e45
def x46:XG 46 (f46 (hA P1)):=xx i46 e46
def x47:XG 47 (f47 (hA P1)):=xx i47 e47
def u48:UG 48 (f48 (hA P1)):=uu i48 e48
def q48:QG 48 (f48 (hA P1)):=qq u48 rfl (by kernel_rfl)
def u49:UG 49 (f49 (hA P1)):=uu i49 e49
def q49:QG 49 (f49 (hA P1)):=qq u49 rfl (by kernel_rfl)
def x50:XG 50 (f50 (hA P1)):=xx i50 e50
def x51:XG 51 (f51 (hA P1)):=xx i51 e51
def x53:XG 53 (f53 (hA P1)):=xx i53 e53
def x54:XG 54 (f54 (hA P1)):=xx i54 e54
def x57:XG 57 (f57 (hA P1)):=xx i57 e57
def u58:UG 58 (f58 (hA P1)):=uu i58 e58
def q58:QG 58 (f58 (hA P1)):=qq u58 rfl (by kernel_rfl)
def x59:XG 59 (f59 (hA P1)):=xx i59 e59
def u60:UG 60 (f60 (hA P1)):=uu i60 e60
def q60:QG 60 (f60 (hA P1)):=qq u60 rfl (by kernel_rfl)
def x61:XG 61 (f61 (hA P1)):=xx i61 e61
def u62:UG 62 (f62 (hA P1)):=uu i62 e62
def q62:QG 62 (f62 (hA P1)):=qq u62 rfl (by kernel_rfl)
def x63:XG 63 (f63 (hA P1)):=xx i63 e63
def u67:UG 67 (f67 (hA P1)):=uu i67 e67
def q67:QG 67 (f67 (hA P1)):=qq u67 rfl (by kernel_rfl)
def x68:XG 68 (f68 (hA P1)):=xx i68 e68
def x69:XG 69 (f69 (hA P1)):=xx i69 e69
def u70:UG 70 (f70 (hA P1)):=uu i70 e70
def q70:QG 70 (f70 (hA P1)):=qq u70 rfl (by kernel_rfl)
def x71:XG 71 (f71 (hA P1)):=xx i71 e71
def u72:UG 72 (f72 (hA P1)):=uu i72 e72
def q72:QG 72 (f72 (hA P1)):=qq u72 rfl (by kernel_rfl)
def u73:UG 73 (f73 (hA P1)):=uu i73 e73
def q73:QG 73 (f73 (hA P1)):=qq u73 rfl (by kernel_rfl)
def u74:UG 74 (f74 (hA P1)):=uu i74 e74
def q74:QG 74 (f74 (hA P1)):=qq u74 rfl (by kernel_rfl)
def x86:XG 86 (f86 (hA P1)):=xx i86 e86
def u94:UG 94 (f94 (hA P1)):=uu i94 e94
def q94:QG 94 (f94 (hA P1)):=qq u94 rfl (by kernel_rfl)
def x95:XG 95 (f95 (hA P1)):=xx i95 e95
def u96:UG 96 (f96 (hA P1)):=uu i96 e96
def q96:QG 96 (f96 (hA P1)):=qq u96 rfl (by kernel_rfl)
def u97:UG 97 (f97 (hA P1)):=uu i97 e97
def q97:QG 97 (f97 (hA P1)):=qq u97 rfl (by kernel_rfl)
def u98:UG 98 (f98 (hA P1)):=uu i98 e98
def q98:QG 98 (f98 (hA P1)):=qq u98 rfl (by kernel_rfl)
def u99:UG 99 (f99 (hA P1)):=uu i99 e99
def q99:QG 99 (f99 (hA P1)):=qq u99 rfl (by kernel_rfl)
def u100:UG 100 (f100 (hA P1)):=uu i100 e100
def q100:QG 100 (f100 (hA P1)):=qq u100 rfl (by kernel_rfl)
def u101:UG 101 (f101 (hA P1)):=uu i101 e101
def q101:QG 101 (f101 (hA P1)):=qq u101 rfl (by kernel_rfl)
def x102:XG 102 (f102 (hA P1)):=xx i102 e102
def u103:UG 103 (f103 (hA P1)):=uu i103 e103
def q103:QG 103 (f103 (hA P1)):=qq u103 rfl (by kernel_rfl)
def x104:XG 104 (f104 (hA P1)):=xx i104 e104
def u105:UG 105 (f105 (hA P1)):=uu i105 e105
def q105:QG 105 (f105 (hA P1)):=qq u105 rfl (by kernel_rfl)
def u106:UG 106 (f106 (hA P1)):=uu i106 e106
def q106:QG 106 (f106 (hA P1)):=qq u106 rfl (by kernel_rfl)
def u107:UG 107 (f107 (hA P1)):=uu i107 e107
def q107:QG 107 (f107 (hA P1)):=qq u107 rfl (by kernel_rfl)
def u108:UG 108 (f108 (hA P1)):=uu i108 e108
def q108:QG 108 (f108 (hA P1)):=qq u108 rfl (by kernel_rfl)
def u109:UG 109 (f109 (hA P1)):=uu i109 e109
def q109:QG 109 (f109 (hA P1)):=qq u109 rfl (by kernel_rfl)
def u110:UG 110 (f110 (hA P1)):=uu i110 e110
def q110:QG 110 (f110 (hA P1)):=qq u110 rfl (by kernel_rfl)
def u113:UG 113 (f113 (hA P1)):=uu i113 e113
def q113:QG 113 (f113 (hA P1)):=qq u113 rfl (by kernel_rfl)
def x122:XG 122 (f122 (hA P1)):=xx i122 e122
def u123:UG 123 (f123 (hA P1)):=uu i123 e123
def q123:QG 123 (f123 (hA P1)):=qq u123 rfl (by kernel_rfl)
def u124:UG 124 (f124 (hA P1)):=uu i124 e124
def q124:QG 124 (f124 (hA P1)):=qq u124 rfl (by kernel_rfl)
def u125:UG 125 (f125 (hA P1)):=uu i125 e125
def q125:QG 125 (f125 (hA P1)):=qq u125 rfl (by kernel_rfl)
def u126:UG 126 (f126 (hA P1)):=uu i126 e126
def q126:QG 126 (f126 (hA P1)):=qq u126 rfl (by kernel_rfl)
def u127:UG 127 (f127 (hA P1)):=uu i127 e127
def q127:QG 127 (f127 (hA P1)):=qq u127 rfl (by kernel_rfl)
def u128:UG 128 (f128 (hA P1)):=uu i128 e128
def q128:QG 128 (f128 (hA P1)):=qq u128 rfl (by kernel_rfl)
def u131:UG 131 (f131 (hA P1)):=uu i131 e131
def q131:QG 131 (f131 (hA P1)):=qq u131 rfl (by kernel_rfl)
end Go.Am
namespace Go.Am
namespace Sx
def cut_some{vs:Tl}{off n:Nat}{cs:Tl}:cut vs off n=some cs↔off+n<=vs.length/\(vs.drop off).take n=cs:=by
 unfold cut
 split
 next h=>simp[h]
 next h=>simp[h]
def cut_len{vs:Tl}{off n:Nat}{cs:Tl}(h:cut vs off n=some cs):cs.length=n:=by
 obtain⟨h1,rfl⟩:=cut_some.1 h
 rw[qaG,qbO];omega
def mN{vs:Tl}{off n:Nat}{cs:Tl}(h:cut vs off n=some cs){o k:Nat}(hk:o+k<=n):cut vs (off+o) k=some ((cs.drop o).take k):=by
 obtain⟨h1,rfl⟩:=cut_some.1 h
 refine cut_some.2 ⟨by omega,?_⟩
 rw[List.drop_take,qbU,List.take_take,qa5 (by omega)]
def cut_all{vs:Tl}{n:Nat}(h:vs.length=n):cut vs 0 n=some vs:=cut_some.2 ⟨by omega,by rw[qaV,qaS (by omega)]⟩
def Pre(h0 h:HL):Prop:=∃G,h=h0++G
def Pre.refl(h:HL):Pre h h:=⟨[],by simp⟩
def Pre.trans{a b c:HL}(h:Pre a b)(k:Pre b c):Pre a c:=by
 obtain⟨G,rfl⟩:=h
 obtain⟨G',rfl⟩:=k
 exact⟨G++G',by simp⟩
def Pre.app{a b:HL}(h:Pre a b)(G:HL):Pre a (b++G):=h.trans ⟨G,rfl⟩
def Pre.len{a b:HL}(h:Pre a b):a.length<=b.length:=by obtain⟨G,rfl⟩:=h;simp
def Pre.get{a b:HL}(h:Pre a b){i:Nat}{o:HO}(hi:a[i]?=some o):b[i]?=some o:=by
 obtain⟨G,rfl⟩:=h
 have:i<a.length:=by
  rcases qaQ i a.length with h|h
  ·exact h
  ·rw[qaj h]at hi;cases hi
 rw[qah this];exact hi
def Pre.set{a b:HL}(h:Pre a b){i:Nat}(hi:a.length<=i)(o:HO):Pre a (b.set i o):=by
 obtain⟨G,rfl⟩:=h
 rw[qb4 _ _ hi]
 exact⟨_,rfl⟩
def Ptr(h:HL)(p:Value)(cs:Tl):Prop:=∃id o vs e rw,p = .pointer (some ⟨id,o,none⟩)/\h[id]?=some (.o (.cells vs e rw))/\cut vs o cs.length=some cs
def SlC(h:HL)(v:Value)(e n:Nat)(cs:Tl):Prop:=
 cs.length=n*e/\((v = .slice none 0 0/\n=0)∨∃id off cx vs rw,v = .slice (some ⟨id,off,tag e⟩) n cx/\h[id]?=some (.o (.cells vs e rw))/\cut vs off (n*e)=some cs)
def LsH{α:Type}(h:HL)(v:Value)(e:Nat)(enc:α->Tl)(l:List α):Prop:=(∀a∈l,(enc a).length=e)/\SlC h v e l.length (l.flatMap enc)
def Mk(n0:Nat)(h:HL)(v:Value)(e n:Nat)(cs:Tl):Prop:=
 cs.length=n*e/\((v = .slice none 0 0/\n=0)∨∃id,n0<=id/\v = .slice (some ⟨id,0,tag e⟩) n 0/\h[id]?=some (.o (.cells cs e true)))
def MkL{α:Type}(n0:Nat)(h:HL)(v:Value)(e:Nat)(enc:α->Tl)(l:List α):Prop:=(∀a∈l,(enc a).length=e)/\Mk n0 h v e l.length (l.flatMap enc)
def blk:Value->Option Nat
 | .slice (some a) _ _=>some a.block
 |_=>none
def Ptr.keep{h h':HL}{p:Value}{cs:Tl}(hp:Ptr h p cs)(hk:∀(j:Nat) o,h[j]?=some o->h'[j]?=some o):Ptr h' p cs:=by
 obtain⟨id,o,vs,e,rw',h1,h2,h3⟩:=hp
 exact⟨id,o,vs,e,rw',h1,hk _ _ h2,h3⟩
def SlC.keep{h h':HL}{v:Value}{e n:Nat}{cs:Tl}(hs:SlC h v e n cs)(hk:∀(j:Nat) o,h[j]?=some o->blk v=some j->h'[j]?=some o):SlC h' v e n cs:=by
 obtain⟨h0,h1|⟨id,off,cx,vs,rw',rfl,h2,h3⟩⟩:=hs
 ·exact⟨h0,.inl h1⟩
 ·exact⟨h0,.inr ⟨id,off,cx,vs,rw',rfl,hk _ _ h2 rfl,h3⟩⟩
def SlC.pre{h h':HL}{v:Value}{e n:Nat}{cs:Tl}(hs:SlC h v e n cs)(hp:Pre h h'):SlC h' v e n cs:=hs.keep λ_ _ h _=>hp.get h
def LsH.keep{α:Type}{h h':HL}{v:Value}{e:Nat}{enc:α->Tl}{l:List α}(hs:LsH h v e enc l)(hk:∀(j:Nat) o,h[j]?=some o->blk v=some j->h'[j]?=some o):LsH h' v e enc l:=⟨hs.1,hs.2.keep hk⟩
def LsH.pre{α:Type}{h h':HL}{v:Value}{e:Nat}{enc:α->Tl}{l:List α}(hs:LsH h v e enc l)(hp:Pre h h'):LsH h' v e enc l:=⟨hs.1,hs.2.pre hp⟩
def SlC.len{h:HL}{v:Value}{e n:Nat}{cs:Tl}(hs:SlC h v e n cs):lenS v=some (.ofNat n):=by
 obtain⟨_,⟨rfl,rfl⟩|⟨id,off,cx,vs,rw',rfl,_⟩⟩:=hs<;>rfl
def LsH.len{α:Type}{h:HL}{v:Value}{e:Nat}{enc:α->Tl}{l:List α}(hs:LsH h v e enc l):lenS v=some (.ofNat l.length):=hs.2.len
def Mk.sl{n0:Nat}{h:HL}{v:Value}{e n:Nat}{cs:Tl}(hs:Mk n0 h v e n cs):SlC h v e n cs:=by
 obtain⟨h0,h1|⟨id,_,rfl,h2⟩⟩:=hs
 ·exact⟨h0,.inl h1⟩
 ·exact⟨h0,.inr ⟨id,0,0,cs,true,rfl,h2,cut_all h0⟩⟩
def MkL.ls{α:Type}{n0:Nat}{h:HL}{v:Value}{e:Nat}{enc:α->Tl}{l:List α}(hs:MkL n0 h v e enc l):LsH h v e enc l:=⟨hs.1,hs.2.sl⟩
def Mk.nil(n0:Nat)(h:HL)(e:Nat):Mk n0 h (.slice none 0 0) e 0 []:=⟨by simp,.inl ⟨rfl,rfl⟩⟩
def MkL.nil{α:Type}(n0:Nat)(h:HL)(e:Nat)(enc:α->Tl):MkL n0 h (.slice none 0 0) e enc []:=⟨by simp,Mk.nil n0 h e⟩
def LsH.nil{α:Type}(h:HL)(e:Nat)(enc:α->Tl):LsH h (.slice none 0 0) e enc []:=(MkL.nil 0 h e enc).ls
def Mk.keep{n0:Nat}{h h':HL}{v:Value}{e n:Nat}{cs:Tl}(hs:Mk n0 h v e n cs)(hk:∀(j:Nat) o,h[j]?=some o->blk v=some j->h'[j]?=some o):Mk n0 h' v e n cs:=by
 obtain⟨h0,h1|⟨id,h1,rfl,h2⟩⟩:=hs
 ·exact⟨h0,.inl h1⟩
 ·exact⟨h0,.inr ⟨id,h1,rfl,hk _ _ h2 rfl⟩⟩
def Mk.pre{n0:Nat}{h h':HL}{v:Value}{e n:Nat}{cs:Tl}(hs:Mk n0 h v e n cs)(hp:Pre h h'):Mk n0 h' v e n cs:=hs.keep λ_ _ h _=>hp.get h
def MkL.keep{α:Type}{n0:Nat}{h h':HL}{v:Value}{e:Nat}{enc:α->Tl}{l:List α}(hs:MkL n0 h v e enc l)(hk:∀(j:Nat) o,h[j]?=some o->blk v=some j->h'[j]?=some o):MkL n0 h' v e enc l:=⟨hs.1,hs.2.keep hk⟩
def MkL.pre{α:Type}{n0:Nat}{h h':HL}{v:Value}{e:Nat}{enc:α->Tl}{l:List α}(hs:MkL n0 h v e enc l)(hp:Pre h h'):MkL n0 h' v e enc l:=⟨hs.1,hs.2.pre hp⟩
def aD{α:Type}{e:Nat}{enc:α->Tl}:∀ {l:List α},(∀a∈l,(enc a).length=e)->(l.flatMap enc).length=l.length*e
 | [],_=>by simp
 |a :: l,h=>by
  rw[qbz,qaB,h a qaE,aD λb hb=>h b (qap _ hb),qaD,qbH,qcd,Nat.add_comm]
def kg{α:Type}{e:Nat}{enc:α->Tl}:∀ {l:List α},(∀a∈l,(enc a).length=e)->∀ {i:Nat} {a:α},l[i]?=some a->((l.flatMap enc).drop (i*e)).take e=enc a
 |b :: l,h,0,a,hi=>by
  simp only[qaR,qaq]at hi
  subst hi
  have:=h b qaE
  rw[qcx,qaV,qbz,qcq (by omega),qaS (by omega)]
 |b :: l,h,i+1,a,hi=>by
  simp only[qbf]at hi
  have hb:=h b qaE
  have:=kg (λb hb=>h b (qap _ hb)) hi
  rw[qbz,qbH,qcd,←this]
  have e1:i*e+e=(enc b).length+i*e:=by omega
  rw[e1,qcp,qbL (by omega),qa3,qcM]
 | [],_,_,_,hi=>by simp at hi
def SlC.at{h:HL}{v:Value}{e n:Nat}{cs:Tl}(hs:SlC h v e n cs){i:Nat}(hi:i<n):∃p,idS e v (.ofNat i)=some p/\Ptr h p ((cs.drop (i*e)).take e):=by
 obtain⟨h0,⟨rfl,rfl⟩|⟨id,off,cx,vs,rw',rfl,h2,h3⟩⟩:=hs
 ·omega
 ·have hle:i*e+e<=n*e:=by
   have:=qbn e (show i+1<=n by omega)
   rw[qbH,qcd]at this;exact this
  refine⟨.pointer (some ⟨id,off+i*e,none⟩),?_,id,off+i*e,vs,e,rw',rfl,h2,?_⟩
  ·rw[pf]
   have hh:0<=Int.ofNat i/\Int.ofNat i<(n:Int):=⟨qat i,by show(i:Int)<n;omega⟩
   simp only[qdD hh]
   have:¬(tag e=some 1):=by simp[tag]
   simp only[qdE this]
   rfl
  ·have hc:=mN h3 hle
   have hl:=cut_len hc
   rw[hl];exact hc
def LsH.at{α:Type}{h:HL}{v:Value}{e:Nat}{enc:α->Tl}{l:List α}(hs:LsH h v e enc l){i:Nat}{a:α}(hi:l[i]?=some a):∃p,idS e v (.ofNat i)=some p/\Ptr h p (enc a):=by
 have hlt:i<l.length:=by
  rcases qaQ i l.length with h|h
  ·exact h
  ·rw[qaj h]at hi;cases hi
 obtain⟨p,h1,h2⟩:=hs.2.at hlt
 rw[kg hs.1 hi]at h2
 exact⟨p,h1,h2⟩
def Ptr.fd{h:HL}{p:Value}{cs:Tl}(hp:Ptr h p cs)(o k:Nat)(hk:o+k<=cs.length):∃p',fdP o p=some p'/\Ptr h p' ((cs.drop o).take k):=by
 obtain⟨id,o',vs,e,rw',rfl,h2,h3⟩:=hp
 refine⟨_,rfl,id,o'+o,vs,e,rw',rfl,h2,?_⟩
 have hc:=mN h3 hk
 rw[cut_len hc];exact hc
section
variable [Val] [Kno]
def bB{T:Tt}{h:HL}{i:Nat}{o:HObj}(hi:h[i]?=some (.o o)):getH T h i=some o:=by
 unfold getH;rw[hi];rfl
def Ptr.ld{T:Tt}{h:HL}{p:Value}{cs:Tl}(hp:Ptr h p cs){n:Nat}(hn:cs.length=n):(Pk.ld n p).run (getH T h)=some cs:=by
 obtain⟨id,o,vs,e,rw',rfl,h2,h3⟩:=hp
 subst hn
 show(match (none:Tp)with|none=>(gw (getH T h) id).bind λvs=>cut vs o cs.length|some _=>none)=_
 unfold gw
 rw[bB h2]
 exact h3
def Ptr.lg{C:Cfg}{T:Tt}{h:HL}{p:Value}{cs:Tl}(hp:Ptr h p cs){n:Nat}(hn:cs.length=n):(Pk.lg C n p).run (getH T h)=some cs:=by
 obtain⟨id,o,vs,e,rw',rfl,h2,h3⟩:=hp
 subst hn
 show(gw (getH T h) id).bind (λvs=>cut vs o cs.length)=_
 unfold gw
 rw[bB h2]
 exact h3
def tS{C:Cfg}{T:Tt}{h:HL}{v:Value}{e n:Nat}{cs:Tl}(hs:SlC h v e n cs):slG C e (getH T h) v=some (cs,n):=by
 obtain⟨h0,⟨rfl,rfl⟩|⟨id,off,cx,vs,rw',rfl,h2,h3⟩⟩:=hs
 ·simp only[qcx,qbg]at h0
  subst h0;rfl
 ·unfold slG
  have:¬(tag e=some 1):=by simp[tag]
  simp only[qdE this,if_true]
  rw[bB h2]
  simp only[if_true]
  rw[h3];rfl
variable {C:Cfg} {Sg:Tb} {T:Tt}
end
end Sx
namespace Sx
def Ptr.good{h:HL}{p:Value}{cs:Tl}(hp:Ptr h p cs):aS p=true:=by
 obtain⟨id,o,vs,e,rw',rfl,_⟩:=hp
 simp[aS,noLoc,aZ,bz,bp,aR,aI]
def SlC.good{h:HL}{v:Value}{e n:Nat}{cs:Tl}(hs:SlC h v e n cs):aS v=true:=by
 obtain⟨_,⟨rfl,_⟩|⟨id,off,cx,vs,rw',rfl,_⟩⟩:=hs
 ·rfl
 ·simp[aS,noLoc,aZ,bz,bp,aR,aI,tag]
def LsH.good{α:Type}{h:HL}{v:Value}{e:Nat}{enc:α->Tl}{l:List α}(hs:LsH h v e enc l):aS v=true:=hs.2.good
section
variable [Val] [Kno] {C:Cfg} {Sg:Tb} {T:Tt}
def hidL{F:(TE->HL->Prop)->TE->HL->Prop}{s:Td}{l:TE}{h:HL}(hf:F s l h):@hid _ ⟨F⟩ s l h:=hf
def bG{σ:Type}{F:(TE->HL->Prop)->TE->HL->Prop}(n:Nat)(S:Nat->σ->TE)(HP:Nat->σ->HL)(Inv:Nat->σ->Prop){j0:Nat}{s0:σ}{ls:TE}{h:HL}(hls:ls=S j0 s0)(hh:h=HP j0 s0)(hj:j0<=n)(hi:Inv j0 s0)
  (step:∀j s,j<=n->Inv j s->∀self:TE->HL->Prop,(∀s',j<n->Inv (j+1) s'->self (S (j+1) s') (HP (j+1) s'))->F self (S j s) (HP j s)):(PH C Sg T).loop (@hid _ ⟨F⟩) ls h:=by
 subst hls hh
 refine fw (m:=n - j0) (λm ls h=>∃j s,ls=S j s/\h=HP j s/\j<=n/\m=n - j/\Inv j s) ⟨j0,s0,rfl,rfl,hj,rfl,hi⟩ ?_
 rintro m ls h ⟨j,s,rfl,rfl,hj,rfl,hi⟩ self hself
 exact hidL (step j s hj hi self λs' hlt hi'=>hself (n - (j+1)) _ _ (by omega) ⟨j+1,s',rfl,rfl,by omega,rfl,hi'⟩)
def dg{F:(TE->HL->Prop)->TE->HL->Prop}(n:Nat)(Inv:Nat->Prop){j0:Nat}{h:HL}{ls:TE}(hls:ls=[.i (Int.ofNat j0)])(hj:j0<=n)(hi:Inv j0)
  (step:∀j,j<=n->Inv j->∀self:TE->HL->Prop,(j<n->Inv (j+1)->self [.i (Int.ofNat j+1)] h)->F self [.i (Int.ofNat j)] h):(PH C Sg T).loop (@hid _ ⟨F⟩) ls h:=
 bG (σ:=Unit) n (λj _=>[.i (Int.ofNat j)]) (λ_ _=>h) (λj _=>Inv j) (s0:=()) hls rfl hj hi λj _ hj hi self hs=>step j hj hi self (λa b=>hs () a b)
def bI{α:Type}{h:HL}{v:Value}{e:Nat}{enc:α->Tl}{l:List α}{K:Tu}(hs:LsH h v e enc l)(hk:K (Int.ofNat l.length)):(PH C Sg T).opt (lenS v) (@hid _ ⟨K⟩):=af hs.len hk
def bQ{α:Type}{h:HL}{v:Value}{e:Nat}{enc:α->Tl}{l:List α}{i:Nat}{a:α}{n:Int}{K:Te}(hs:LsH h v e enc l)(hn:n=Int.ofNat i)(hi:l[i]?=some a)(hk:K (enc a)) :
  (PH C Sg T).opt (idS e v n) (@hid _ ⟨λx=>(PH C Sg T).peek (.lg C e x) h (@hid _ ⟨K⟩)⟩):=by
 subst hn
 obtain⟨p,h1,h2⟩:=hs.at hi
 exact af h1 (dc (h2.lg (hs.1 a (qab hi))) hk)
def lK{α:Type}{h:HL}{v:Value}{e:Nat}{enc:α->Tl}{l:List α}{i:Nat}{a:α}{n:Int}{o k:Nat}{cs:Tl}{K:Te}(hs:LsH h v e enc l)(hn:n=Int.ofNat i)(hi:l[i]?=some a)(hcs:cs=((enc a).drop o).take k)(hok:o+k<=e)(hk:K cs) :
  (PH C Sg T).opt (idS e v n) (@hid _ ⟨λx=>(PH C Sg T).opt (fdP o x) (@hid _ ⟨λy=>(PH C Sg T).chk y (@hid _ ⟨(PH C Sg T).peek (.lg C k y) h (@hid _ ⟨K⟩)⟩)⟩)⟩):=by
 subst hn hcs
 obtain⟨p,h1,h2⟩:=hs.at hi
 have he:=hs.1 a (qab hi)
 have hok:o+k<=(enc a).length:=by omega
 have hlen:(((enc a).drop o).take k).length=k:=by rw[qaG,qbO];omega
 obtain⟨q,h3,h4⟩:=h2.fd o k hok
 refine af h1 (af h3 ?_)
 show aS q=true/\_
 exact⟨h4.good,dc (h4.lg hlen) hk⟩
end
end Sx
end Go.Am
namespace Go.Am
open Sx Go.Proofs
namespace St
abbrev Crs:=Int×Int×Int
def encC(c:Crs):Tl:=[.int .i64 c.1,.int .u8 c.2.1,.int .u8 c.2.2]
def isK(c:Crs):Bool:=decide (1<=c.2.2)&&decide (c.2.2<=3)
def isKind_c(k:Int):Cc 97 [.i k] [.b (decide (1<=k)&&decide (k<=3))]:=by
 refine q97 rfl ?_;unfold f97;simp only[qxh]
 by_cases h1:1<=k
 ·by_cases h2:k<=3
  ·simp(disch:=omega)only[↓qXX];simp[h1,h2]
  ·simp(disch:=omega)only[↓qXX];simp[h1,h2]
 ·simp(disch:=omega)only[↓qXX];simp[h1]
def chk1_c(c:Crs):Cc 96 [.i c.1,.i c.2.1,.i c.2.2] [.b (!isK c)]:=by
 refine q96 rfl ?_;unfold f96;simp only[qxh]
 repeat (first|simp(disch:=omega)only[↓qXX]|refine ac (isKind_c c.2.2) ?_)
 simp[isK]
abbrev clo1:Value:=.func (.func 96) ⟨[]⟩ ⟨[]⟩
def good1:aS clo1=true:=rfl
abbrev _root_.TD:=List Crs
def qU{h:HL}{x:Value}{l:TD}(hl:LsH h x 3 encC l)(hn:l.length<=4294967296):∃n:Int,aw cc ab 122 [.v x,.v clo1] (absH aa h) [.i n] (absH aa h)/\(0<=n↔∃c∈l,isK c=false):=by
 obtain⟨rs,h',h1,n,rfl,rfl,h2⟩:=x122 (K:=λrs h'=>∃n:Int,rs=[.i n]/\h'=h/\(0<=n↔∃c∈l,isK c=false)) (H:=h) (glsV hl.good (glsV good1 gls0)) (by
  unfold f122;simp only[qxh]
  refine p_x ?_
  refine bI hl ?_
  refine dg l.length (λj=>∀i,i<j->∀c,l[i]?=some c->isK c=true) rfl (qaO _) (λi hi=>absurd hi (Nat.not_lt_zero _)) ?_
  intro j hj hi self hself
  refine p_x ?_
  by_cases hlt:j<l.length
  ·have e1:Int.ofNat j<Int.ofNat l.length:=by show(j:Int)<l.length;omega
   rw[p_lss_t e1]
   refine p_x ?_
   obtain⟨c,hc⟩ : ∃c,l[j]?=some c:=⟨_,qai hlt⟩
   refine bQ hl rfl hc ?_
   unfold encC
   repeat (first|simp(disch:=omega)only[↓qXX]|refine fl (jg (chk1_c c _) rfl [.agg [.i .i64 c.1,.i .u8 c.2.1,.i .u8 c.2.2]] rfl rfl) ?_)
   cases hk:isK c with
   |true=>
    show P1.cond false _ _
    refine p_x ?_
    rw[p_add (by show -9223372036854775808<=(j:Int)+1;omega) (by show(j:Int)+1<=9223372036854775807;omega)]
    refine hself hlt λi hi' c' hc'=>?_
    rcases qaQ i j with h|h
    ·exact hi i h c' hc'
    ·obtain rfl:i=j:=by omega
     rw[hc]at hc';cases hc';exact hk
   |false=>
    show P1.cond true _ _
    refine p_x ?_
    exact⟨_,rfl,by trivial,λ_=>⟨c,qab hc,hk⟩,λ_=>qat j⟩
  ·have e1:Int.ofNat l.length<=Int.ofNat j:=by show(l.length:Int)<=j;omega
   rw[p_lss_f e1]
   refine p_x ?_
   refine⟨_,rfl,by trivial,λh=>by omega,λ⟨c,hc,hk⟩=>?_⟩
   obtain⟨i,hi'⟩:=qaM hc
   have hlt':i<l.length:=by
    rcases qaQ i l.length with h|h
    ·exact h
    ·rw[qaj h]at hi';cases hi'
   rw[hi i (by omega) c hi']at hk
   cases hk)
 exact⟨n,h1,h2⟩
def xd{h:HL}{x:Value}{l:TD}(hl:LsH h x 3 encC l)(hn:l.length<=4294967296):aw cc ab 95 [.v x,.v clo1] (absH aa h) [.b (!l.all isK)] (absH aa h):=by
 obtain⟨n,h1,h2⟩:=qU hl hn
 obtain⟨rs,h',h3,rfl,rfl⟩:=x95 (K:=λrs h'=>rs=[.b (!l.all isK)]/\h'=h) (H:=h) (glsV hl.good (glsV good1 gls0)) (by
  unfold f95;simp only[qxh]
  repeat (first|simp(disch:=omega)only[↓qXX]|refine ah h1 ?_)
  cases hb:l.all isK with
  |true=>
   have:¬0<=n:=λh=>by
    obtain⟨c,hc,hk⟩:=h2.1 h
    rw[qag.1 hb c hc]at hk;cases hk
   simp(disch:=omega)only[↓qXX]
   trivial
  |false=>
   have:0<=n:=h2.2 (by
    obtain⟨c,hc,hk⟩:=List.all_eq_false.1 hb
    exact⟨c,hc,by simpa using hk⟩)
   simp(disch:=omega)only[↓qXX]
   trivial)
 exact h3
end St
end Go.Am
namespace Go.Am
namespace Sx
section
variable [Val]
end
section
variable [Val]
end
end Sx
end Go.Am
namespace Go.Am
open Sx Go.Proofs
def known_val{g n:Nat}{ls rs:TE}{sg:Sig}(hs:ab g=some sg)(hp:sg.plain=true)(hg:gN ls=true)(h:runF n (.f g) ls .empty tell=some rs):∀H,aw cc ab g ls H rs H:=by
 obtain⟨rs',h',a1,a2⟩:=(gT n).f g ls .empty tell rs (cG hg) h
 rw[kW]at a2
 cases a2
 exact ru g sg ls _ _ hs hp a1
def isAns(rs':TE):Option (TE)->Bool:=λo=>@Option.rec _ (λ_=>Bool) false (λrs=>eqLs rs rs') o
def known_ans{g n:Nat}{ls rs:TE}{sg:Sig}(hs:ab g=some sg)(hp:sg.plain=true)(hg:gN ls=true)(h:isAns rs (runF n (.f g) ls .empty tell)=true):∀H,aw cc ab g ls H rs H:=by
 cases e:runF n (.f g) ls .empty tell with
 |none=>rw[e]at h;cases h
 |some rs'=>
  rw[e]at h
  have h:eqLs rs' rs=true:=h
  rw[gZ h]at e
  exact known_val hs hp hg e
def eqCell(a b:Value):Bool:=match a,b with
 | .int k n,.int k' n'=>cS k k'&&eqZK n n'
 | .bool t,.bool t'=>eqBK t t'
 |_,_=>false
def eqCell_ok{a b:Value}(h:eqCell a b=true):a=b/\flat b=true:=by
 unfold eqCell at h
 split at h
 ·simp only[qaa]at h
  have h2:=h.2
  rw[qH,beq_iff_eq]at h2
  rw[dA h.1,h2]
  exact⟨rfl,rfl⟩
 next a b=>
  cases a<;>cases b<;>first|exact⟨rfl,rfl⟩|cases h
 ·cases h
def qF(c:Tr Value):Tl->Nat->Bool
 | [],_=>true
 |v :: l,i=>eqCell ((bD i).get nilV c) v&&qF c l (i+1)
def oU{c:Tr Value}:∀ {l:Tl} {i:Nat},qF c l i=true->(∀j (h:j<l.length),(bD (i+j)).get nilV c=l[j])/\l.all flat=true
 | [],i,_=>⟨λj h=>by simp at h,rfl⟩
 |v :: l,i,h=>by
  simp only[qF,qaa]at h
  obtain⟨h1,h2⟩:=eqCell_ok h.1
  obtain⟨h3,h4⟩:=oU h.2
  refine⟨λj hj=>?_,by simp[h2,h4]⟩
  cases j with
  |zero=>exact h1
  |succ j=>
   have:=h3 j (by simpa using hj)
   rw[show i+(j+1)=i+1+j by omega]
   simpa using this
def nbr(w v c e:Nat):Tp:=
 match e,c%4 with
 |0,0=>if 0<c / 4 / w then some (c+2 - 4*w)else none
 |0,1=>if c / 4%w+1<w then some (c+6)else none
 |0,2=>if c / 4 / w+1<v then some (c+4*w - 2)else none
 |0,_=>if 0<c / 4%w then some (c - 6)else none
 |1,0=>some (c+1)
 |1,1=>some (c - 1)
 |1,2=>some (c+1)
 |1,_=>some (c - 1)
 |2,0=>some (c+3)
 |2,1=>some (c+1)
 |2,2=>some (c - 1)
 |2,_=>some (c - 3)
 |_,_=>none
def jN(w v:Nat):List (Nat×Nat):=(List.range (4*w*v)).flatMap λc=>(List.range 3).filterMap λe=>match nbr w v c e with
 |some n=>if c<n then some (c,e)else none
 |none=>none
end Go.Am
namespace Go.Am
namespace Sx
section
variable [Val] [Kno] {C:Cfg} {Sg:Tb} {T:Tt}
def bg{j:Nat}{K:Tu}(h:j<=4294967296):(PH C Sg T).ari .add .i64 (Int.ofNat j) 1 (@hid _ ⟨K⟩)=K (Int.ofNat j+1):=
 p_add (by show -9223372036854775808<=(j:Int)+1;omega) (by show(j:Int)+1<=9223372036854775807;omega)
def oB{j:Nat}{K:Tu}(h1:1<=j)(h:j<=4294967296):(PH C Sg T).ari .sub .i64 (Int.ofNat j) 1 (@hid _ ⟨K⟩)=K (Int.ofNat (j - 1)):=by
 rw[p_sub (by show -9223372036854775808<=(j:Int) - 1;omega) (by show(j:Int) - 1<=9223372036854775807;omega)]
 congr 1
 show(j:Int) - 1=((j - 1:Nat):Int)
 omega
def bf{j n:Nat}{K:Tn}(h:j<n):(PH C Sg T).cmp .lss (Int.ofNat j) (Int.ofNat n) (@hid _ ⟨K⟩)=K true:=p_lss_t (by show(j:Int)<n;omega)
def bj{j n:Nat}{K:Tn}(h:n<=j):(PH C Sg T).cmp .lss (Int.ofNat j) (Int.ofNat n) (@hid _ ⟨K⟩)=K false:=p_lss_f (by show(n:Int)<=j;omega)
end
def av{α:Type}{l:List α}{i:Nat}{a:α}(h:l[i]?=some a):i<l.length:=by
 rcases qaQ i l.length with h1|h1
 ·exact h1
 ·rw[qaj h1]at h;cases h
def aP{α:Type}{l:List α}{i:Nat}(h:i<l.length):∃a,l[i]?=some a:=⟨_,qai h⟩
end Sx
end Go.Am
namespace Go.Am
open Sx
def mA(t:Nat):Int:=match t with
 |0=>1|1=>0|2=>-1|3=>0|4=>-1|5=>0|6=>1|_=>0
def mB(t:Nat):Int:=match t with
 |0=>0|1=>-1|2=>0|3=>1|4=>0|5=>-1|6=>0|_=>1
def mC(t:Nat):Int:=match t with
 |0=>0|1=>1|2=>0|3=>-1|4=>0|5=>-1|6=>0|_=>1
def mD(t:Nat):Int:=match t with
 |0=>1|1=>0|2=>-1|3=>0|4=>1|5=>0|6=>-1|_=>0
def mulT(s t:Nat):Nat:=if s<4 then(if t<4 then(s+t)%4 else 4+(t+4 - s)%4)else(if t<4 then 4+(s+t)%4 else(t+8 - s)%4)
abbrev Mv:=Nat×Int×Int
def cE(a b:Mv):Mv:=(mulT a.1 b.1,mA b.1*a.2.1+mB b.1*a.2.2+b.2.1,mC b.1*a.2.1+mD b.1*a.2.2+b.2.2)
def idM:Mv:=(0,0,0)
def okM(n:Int)(m:Mv):Prop:=m.1<8/\-n<=m.2.1/\m.2.1<=n/\-n<=m.2.2/\m.2.2<=n/\(m.2.1+m.2.2)%2=0
def t8{t:Nat}(h:t<8):t=0∨t=1∨t=2∨t=3∨t=4∨t=5∨t=6∨t=7:=by omega
def kE{s t:Nat}:mulT s t<8:=by
 unfold mulT
 repeat' split
 all_goals omega
def xA{a b c:Nat}(ha:a<8)(hb:b<8)(hc:c<8):mulT (mulT a b) c=mulT a (mulT b c):=by
 have key:((List.range 8).all λa=>(List.range 8).all λb=>(List.range 8).all λc=>mulT (mulT a b) c==mulT a (mulT b c))=true:=by decide +kernel
 have h1:=qag.1 key a (qaN.2 ha)
 have h2:=qag.1 h1 b (qaN.2 hb)
 have h3:=qag.1 h2 c (qaN.2 hc)
 simpa using h3
def iZ{a b c:Mv}(ha:a.1<8)(hb:b.1<8)(hc:c.1<8):cE (cE a b) c=cE a (cE b c):=by
 obtain⟨at',ax,ay⟩:=a
 obtain⟨bt,bx,by'⟩:=b
 obtain⟨ct,cx,cy⟩:=c
 simp only at ha hb hc
 unfold cE
 refine qcC (xA ha hb hc) ?_
 simp only
 clear ha
 rcases t8 hb with rfl|rfl|rfl|rfl|rfl|rfl|rfl|rfl<;>rcases t8 hc with rfl|rfl|rfl|rfl|rfl|rfl|rfl|rfl<;>
  (refine qcC ?_ ?_<;>simp[mulT,mA,mB,mC,mD]<;>omega)
def thenM_id{a:Mv}(ha:a.1<8):cE a idM=a:=by
 obtain⟨t,x,y⟩:=a
 have ha:t<8:=ha
 unfold cE idM
 simp only[mA,mB,mC,mD]
 refine qcC ?_ (qcC (by simp) (by simp))
 rcases t8 ha with rfl|rfl|rfl|rfl|rfl|rfl|rfl|rfl<;>simp[mulT]
def id_thenM{a:Mv}(ha:a.1<8):cE idM a=a:=by
 obtain⟨t,x,y⟩:=a
 have ha:t<8:=ha
 unfold cE idM
 refine qcC ?_ (qcC (by simp) (by simp))
 rcases t8 ha with rfl|rfl|rfl|rfl|rfl|rfl|rfl|rfl<;>simp[mulT]
def ii{n k:Int}{m:Mv}(h:okM n m)(hk:n<=k):okM k m:=by
 unfold okM at *
 omega
def okM_id{n:Int}(h:0<=n):okM n idM:=by
 unfold okM idM
 simp only
 omega
def rl{n k:Int}{a b:Mv}(ha:okM n a)(hb:okM k b):okM (n+k) (cE a b):=by
 obtain⟨at',ax,ay⟩:=a
 obtain⟨bt,bx,by'⟩:=b
 unfold okM cE at *
 simp only at *
 obtain⟨a1,a2⟩:=ha
 obtain⟨b1,b2⟩:=hb
 refine⟨kE,?_⟩
 clear a1
 rcases t8 b1 with rfl|rfl|rfl|rfl|rfl|rfl|rfl|rfl<;>simp only[mA,mB,mC,mD]<;>omega
abbrev Ln:=Nat×Int
def ofM(l:Ln):Mv:=match l.1 with
 |1=>(4,2*l.2,0)
 |2=>(6,0,2*l.2)
 |3=>(5,l.2,l.2)
 |_=>(7,-l.2,l.2)
def ofM_ok{l:Ln}{n:Int}(h:-n<=l.2/\l.2<=n):okM (2*n) (ofM l):=by
 obtain⟨k,c⟩:=l
 unfold ofM okM
 simp only at h ⊢
 split<;>simp only<;>omega
def ofM_lt(l:Ln):(ofM l).1<8:=by
 unfold ofM
 split<;>simp
def ofM_twice(l:Ln):cE (ofM l) (ofM l)=idM:=by
 obtain⟨k,c⟩:=l
 unfold ofM cE idM
 simp only
 split<;>simp[mulT,mA,mB,mC,mD]<;>omega
abbrev Cl:=Int×Int×Nat
def lnC3(c:Cl)(e:Nat):Ln:=match e with
 |0=>(match c.2.2 with
  |0=>(2,c.2.1)
  |1=>(1,c.1+1)
  |2=>(2,c.2.1+1)
  |_=>(1,c.1))
 |1=>(3,c.1+c.2.1+1)
 |_=>(4,c.2.1 - c.1)
def nbC(c:Cl)(e:Nat):Cl:=match e with
 |0=>(match c.2.2 with
  |0=>(c.1,c.2.1 - 1,2)
  |1=>(c.1+1,c.2.1,3)
  |2=>(c.1,c.2.1+1,0)
  |_=>(c.1 - 1,c.2.1,1))
 |1=>(c.1,c.2.1,[1,0,3,2].getD c.2.2 0)
 |_=>(c.1,c.2.1,[3,2,1,0].getD c.2.2 0)
def qT(t q:Nat):Nat:=if t<4 then(q+t)%4 else([0,3,2,1].getD ((q+t)%4) 0+(if t%2=0 then 0 else 2))%4
def iR(m:Mv)(c:Cl):Cl:=(mA m.1*c.1+mB m.1*c.2.1+m.2.1 - (if mA m.1+mB m.1=1 then 0 else 1),mC m.1*c.1+mD m.1*c.2.1+m.2.2 - (if mC m.1+mD m.1=1 then 0 else 1),qT m.1 c.2.2)
def qT_lt{t q:Nat}:qT t q<4:=by
 unfold qT
 split<;>omega
end Go.Am
namespace Go.Am
open Sx Go.Proofs
namespace St
def aq{x y q:Int}(h:-4096<=x/\x<=4096/\-4096<=y/\y<=4096/\q<=3):Cc 43 [.i x,.i y,.i q] [.i 0]:=by
 refine q43 rfl ?_;unfold f43;simp only[qxh]
 simp(disch:=omega)only[↓qXX]
def gn00:cW gl3 4 [(0,17),(0,3)] 3=some [.int .i64 0,.int .i64 (-1),.int .u8 2]:=by kernel_rfl
def gn01:cW gl3 4 [(0,17),(1,3)] 3=some [.int .i64 0,.int .i64 0,.int .u8 1]:=by kernel_rfl
def gn02:cW gl3 4 [(0,17),(2,3)] 3=some [.int .i64 0,.int .i64 0,.int .u8 3]:=by kernel_rfl
def gn10:cW gl3 4 [(1,17),(0,3)] 3=some [.int .i64 1,.int .i64 0,.int .u8 3]:=by kernel_rfl
def gn11:cW gl3 4 [(1,17),(1,3)] 3=some [.int .i64 0,.int .i64 0,.int .u8 0]:=by kernel_rfl
def gn12:cW gl3 4 [(1,17),(2,3)] 3=some [.int .i64 0,.int .i64 0,.int .u8 2]:=by kernel_rfl
def gn20:cW gl3 4 [(2,17),(0,3)] 3=some [.int .i64 0,.int .i64 1,.int .u8 0]:=by kernel_rfl
def gn21:cW gl3 4 [(2,17),(1,3)] 3=some [.int .i64 0,.int .i64 0,.int .u8 3]:=by kernel_rfl
def gn22:cW gl3 4 [(2,17),(2,3)] 3=some [.int .i64 0,.int .i64 0,.int .u8 1]:=by kernel_rfl
def gn30:cW gl3 4 [(3,17),(0,3)] 3=some [.int .i64 (-1),.int .i64 0,.int .u8 1]:=by kernel_rfl
def gn31:cW gl3 4 [(3,17),(1,3)] 3=some [.int .i64 0,.int .i64 0,.int .u8 2]:=by kernel_rfl
def gn32:cW gl3 4 [(3,17),(2,3)] 3=some [.int .i64 0,.int .i64 0,.int .u8 0]:=by kernel_rfl
def cnb00{x y:Int}(h:-4000<=x/\x<=4000/\-4000<=y/\y<=4000):Cc 125 [.i x,.i y,.i 0,.i 0] [.i x,.i (y - 1),.i 2,.i 0]:=by
 refine q125 rfl ?_;unfold f125;simp only[qxh]
 repeat (first|simp(disch:=omega)only[↓qXX,↓gn00]|refine ac (aq (by omega)) ?_|refine af (x:=()) (by kernel_rfl) ?_)
 (try simp only[qax,Lf.i.injEq,and_true,true_and]);(try omega)
def cnb01{x y:Int}(h:-4000<=x/\x<=4000/\-4000<=y/\y<=4000):Cc 125 [.i x,.i y,.i 0,.i 1] [.i x,.i y,.i 1,.i 0]:=by
 refine q125 rfl ?_;unfold f125;simp only[qxh]
 repeat (first|simp(disch:=omega)only[↓qXX,↓gn01]|refine ac (aq (by omega)) ?_|refine af (x:=()) (by kernel_rfl) ?_)
 (try simp only[qax,Lf.i.injEq,and_true,true_and]);(try omega)
def cnb02{x y:Int}(h:-4000<=x/\x<=4000/\-4000<=y/\y<=4000):Cc 125 [.i x,.i y,.i 0,.i 2] [.i x,.i y,.i 3,.i 0]:=by
 refine q125 rfl ?_;unfold f125;simp only[qxh]
 repeat (first|simp(disch:=omega)only[↓qXX,↓gn02]|refine ac (aq (by omega)) ?_|refine af (x:=()) (by kernel_rfl) ?_)
 (try simp only[qax,Lf.i.injEq,and_true,true_and]);(try omega)
def cnb10{x y:Int}(h:-4000<=x/\x<=4000/\-4000<=y/\y<=4000):Cc 125 [.i x,.i y,.i 1,.i 0] [.i (x+1),.i y,.i 3,.i 0]:=by
 refine q125 rfl ?_;unfold f125;simp only[qxh]
 repeat (first|simp(disch:=omega)only[↓qXX,↓gn10]|refine ac (aq (by omega)) ?_|refine af (x:=()) (by kernel_rfl) ?_)
 (try simp only[qax,Lf.i.injEq,and_true,true_and]);(try omega)
def cnb11{x y:Int}(h:-4000<=x/\x<=4000/\-4000<=y/\y<=4000):Cc 125 [.i x,.i y,.i 1,.i 1] [.i x,.i y,.i 0,.i 0]:=by
 refine q125 rfl ?_;unfold f125;simp only[qxh]
 repeat (first|simp(disch:=omega)only[↓qXX,↓gn11]|refine ac (aq (by omega)) ?_|refine af (x:=()) (by kernel_rfl) ?_)
 (try simp only[qax,Lf.i.injEq,and_true,true_and]);(try omega)
def cnb12{x y:Int}(h:-4000<=x/\x<=4000/\-4000<=y/\y<=4000):Cc 125 [.i x,.i y,.i 1,.i 2] [.i x,.i y,.i 2,.i 0]:=by
 refine q125 rfl ?_;unfold f125;simp only[qxh]
 repeat (first|simp(disch:=omega)only[↓qXX,↓gn12]|refine ac (aq (by omega)) ?_|refine af (x:=()) (by kernel_rfl) ?_)
 (try simp only[qax,Lf.i.injEq,and_true,true_and]);(try omega)
def cnb20{x y:Int}(h:-4000<=x/\x<=4000/\-4000<=y/\y<=4000):Cc 125 [.i x,.i y,.i 2,.i 0] [.i x,.i (y+1),.i 0,.i 0]:=by
 refine q125 rfl ?_;unfold f125;simp only[qxh]
 repeat (first|simp(disch:=omega)only[↓qXX,↓gn20]|refine ac (aq (by omega)) ?_|refine af (x:=()) (by kernel_rfl) ?_)
 (try simp only[qax,Lf.i.injEq,and_true,true_and]);(try omega)
def cnb21{x y:Int}(h:-4000<=x/\x<=4000/\-4000<=y/\y<=4000):Cc 125 [.i x,.i y,.i 2,.i 1] [.i x,.i y,.i 3,.i 0]:=by
 refine q125 rfl ?_;unfold f125;simp only[qxh]
 repeat (first|simp(disch:=omega)only[↓qXX,↓gn21]|refine ac (aq (by omega)) ?_|refine af (x:=()) (by kernel_rfl) ?_)
 (try simp only[qax,Lf.i.injEq,and_true,true_and]);(try omega)
def cnb22{x y:Int}(h:-4000<=x/\x<=4000/\-4000<=y/\y<=4000):Cc 125 [.i x,.i y,.i 2,.i 2] [.i x,.i y,.i 1,.i 0]:=by
 refine q125 rfl ?_;unfold f125;simp only[qxh]
 repeat (first|simp(disch:=omega)only[↓qXX,↓gn22]|refine ac (aq (by omega)) ?_|refine af (x:=()) (by kernel_rfl) ?_)
 (try simp only[qax,Lf.i.injEq,and_true,true_and]);(try omega)
def cnb30{x y:Int}(h:-4000<=x/\x<=4000/\-4000<=y/\y<=4000):Cc 125 [.i x,.i y,.i 3,.i 0] [.i (x - 1),.i y,.i 1,.i 0]:=by
 refine q125 rfl ?_;unfold f125;simp only[qxh]
 repeat (first|simp(disch:=omega)only[↓qXX,↓gn30]|refine ac (aq (by omega)) ?_|refine af (x:=()) (by kernel_rfl) ?_)
 (try simp only[qax,Lf.i.injEq,and_true,true_and]);(try omega)
def cnb31{x y:Int}(h:-4000<=x/\x<=4000/\-4000<=y/\y<=4000):Cc 125 [.i x,.i y,.i 3,.i 1] [.i x,.i y,.i 2,.i 0]:=by
 refine q125 rfl ?_;unfold f125;simp only[qxh]
 repeat (first|simp(disch:=omega)only[↓qXX,↓gn31]|refine ac (aq (by omega)) ?_|refine af (x:=()) (by kernel_rfl) ?_)
 (try simp only[qax,Lf.i.injEq,and_true,true_and]);(try omega)
def cnb32{x y:Int}(h:-4000<=x/\x<=4000/\-4000<=y/\y<=4000):Cc 125 [.i x,.i y,.i 3,.i 2] [.i x,.i y,.i 0,.i 0]:=by
 refine q125 rfl ?_;unfold f125;simp only[qxh]
 repeat (first|simp(disch:=omega)only[↓qXX,↓gn32]|refine ac (aq (by omega)) ?_|refine af (x:=()) (by kernel_rfl) ?_)
 (try simp only[qax,Lf.i.injEq,and_true,true_and]);(try omega)
def Sh(w v:Nat):Prop:=1<=w/\w<=60/\v=1
def kU{w:Nat}(h:1<=w/\w<=60):Cc 94 [.i (.ofNat w),.i 1] [.i 0]:=by
 have h1:(1:Int)<=Int.ofNat w:=by show(1:Int)<=(w:Int);omega
 have h2:Int.ofNat w<=256:=by show(w:Int)<=256;omega
 refine q94 rfl ?_;unfold f94;simp only[qxh]
 generalize Int.ofNat w=a at *
 simp(disch:=omega)only[↓qXX]
def count_c{w:Nat}(h:1<=w/\w<=60):Cc 103 [.i (.ofNat w),.i 1] [.i (.ofNat (4*w))]:=by
 have h1:(1:Int)<=Int.ofNat w:=by show(1:Int)<=(w:Int);omega
 have h2:Int.ofNat w<=256:=by show(w:Int)<=256;omega
 refine q103 rfl ?_;unfold f103;simp only[qxh]
 rw[show Int.ofNat (4*w)=4*Int.ofNat w from by show((4*w:Nat):Int)=4*(w:Int);omega]
 repeat (first|simp(disch:=omega)only[↓qXX]|refine ac (kU h) ?_|rw[p_mul (by omega) (by omega)])
 rw[Int.mul_one]
def has_c{w c:Nat}(h:1<=w/\w<=60)(hc:c<4*w):Cc 107 [.i (.ofNat w),.i 1,.i (.ofNat c)] [.b true]:=by
 have h1:(1:Int)<=Int.ofNat w:=by show(1:Int)<=(w:Int);omega
 have h2:Int.ofNat w<=256:=by show(w:Int)<=256;omega
 have h3:(0:Int)<=Int.ofNat c:=qat c
 have h4:Int.ofNat c<4*Int.ofNat w:=by show(c:Int)<4*(w:Int);omega
 refine q107 rfl ?_;unfold f107;simp only[qxh]
 repeat (first|simp(disch:=omega)only[↓qXX]|rw[p_mul (by omega) (by omega)])
def vk{w c:Nat}(h:1<=w/\w<=60)(hc:c<4*w):Cc 108 [.i (.ofNat w),.i 1,.i (.ofNat c)] [.i (.ofNat (c / 4%w)),.i (.ofNat (c / 4 / w)),.i (.ofNat (c%4))]:=by
 refine q108 rfl ?_;unfold f108;simp only[qxh]
 have h3:(0:Int)<=Int.ofNat c:=qat c
 have h5:(0:Int)<Int.ofNat w:=by show(0:Int)<(w:Int);omega
 have h6:Int.ofNat c<=9223372036854775807:=by show(c:Int)<=9223372036854775807;omega
 repeat (first|simp(disch:=omega)only[↓qXX]|rw[p_quo_nn h3 (by omega) h6]|rw[show Int.ofNat c / 4=Int.ofNat (c / 4)from rfl]|rw[p_rem_nn (qat _) h5]|rw[p_quo_nn (qat _) h5 (by show((c / 4:Nat):Int)<=9223372036854775807;omega)]|rw[p_rem_nn h3 (by omega)]|rw[p_conv8 (by show(0:Int)<=((c%4:Nat):Int);omega) (by show((c%4:Nat):Int)<=255;omega)])
 rfl
def cell_c{w c:Nat}(h:1<=w/\w<=60)(hc:c<4*w):Cc 72 [.i (.ofNat w),.i 1,.i (.ofNat c)] [.i (.ofNat (c / 4%w)),.i (.ofNat (c / 4 / w)),.i (.ofNat (c%4)),.i 0]:=by
 refine q72 rfl ?_;unfold f72;simp only[qxh]
 repeat (first|simp(disch:=omega)only[↓qXX,qaI]|refine ac (kU h) ?_|refine ac (has_c h hc) ?_|refine ac (vk h hc) ?_)
def id_c{w s q:Nat}(h:1<=w/\w<=60)(hs:s<w)(hq:q<4):Cc 126 [.i (.ofNat w),.i 1,.i (.ofNat s),.i 0,.i (.ofNat q)] [.i (.ofNat (4*s+q)),.i 0]:=by
 have h1:(1:Int)<=Int.ofNat w:=by show(1:Int)<=(w:Int);omega
 have h2:Int.ofNat w<=256:=by show(w:Int)<=256;omega
 have h3:(0:Int)<=Int.ofNat s:=qat s
 have h4:Int.ofNat s<Int.ofNat w:=by show(s:Int)<(w:Int);omega
 have h5:(0:Int)<=Int.ofNat q:=qat q
 have h6:Int.ofNat q<=3:=by show(q:Int)<=3;omega
 have h7:Int.ofNat (4*s+q)=4*Int.ofNat s+Int.ofNat q:=by show((4*s+q:Nat):Int)=4*(s:Int)+(q:Int);omega
 rw[h7]
 refine q126 rfl ?_;unfold f126;simp only[qxh]
 have hch:=kU h
 generalize Int.ofNat w=a at *
 generalize Int.ofNat s=b at *
 generalize Int.ofNat q=d at *
 repeat (first|simp(disch:=omega)only[↓qXX]|refine ac hch ?_|refine ac (aq (by omega)) ?_|rw[p_mul (by omega) (by omega)]|rw[p_add (by omega) (by omega)])
 try simp only[Int.zero_mul,Int.zero_add]
def id_no{w:Nat}{x y q:Int}(h:1<=w/\w<=60)(hx:-4000<=x/\x<=4000/\-4000<=y/\y<=4000/\q<=3)(hn:x<0∨Int.ofNat w<=x∨y<0∨1<=y):Cc 126 [.i (.ofNat w),.i 1,.i x,.i y,.i q] [.i 0,.i 7]:=by
 refine q126 rfl ?_;unfold f126;simp only[qxh]
 have hch:=kU h
 generalize Int.ofNat w=a at *
 by_cases h1:x<0
 ·repeat (first|simp(disch:=omega)only[↓qXX]|refine ac hch ?_|refine ac (aq (by omega)) ?_)
 ·by_cases h2:a<=x
  ·repeat (first|simp(disch:=omega)only[↓qXX]|refine ac hch ?_|refine ac (aq (by omega)) ?_)
  ·by_cases h3:y<0
   ·repeat (first|simp(disch:=omega)only[↓qXX]|refine ac hch ?_|refine ac (aq (by omega)) ?_)
   ·repeat (first|simp(disch:=omega)only[↓qXX]|refine ac hch ?_|refine ac (aq (by omega)) ?_)
end St
namespace St
def clN(w n:Nat):Cl:=(Int.ofNat (n / 4%w),Int.ofNat (n / 4 / w),n%4)
def aY(w v c e:Nat):TE:=match nbr w v c e with
 |some n=>[.i (.ofNat n),.i 0]
 |none=>[.i 0,.i 7]
def eU{w s q:Nat}(h:1<=w/\w<=60)(hs:s<w)(hq:q<4):Cc 72 [.i (.ofNat w),.i 1,.i (.ofNat (4*s+q))] [.i (.ofNat s),.i 0,.i (.ofNat q),.i 0]:=by
 have:=cell_c (w:=w) (c:=4*s+q) h (by omega)
 rw[show(4*s+q) / 4=s by omega,show(4*s+q)%4=q by omega,qbe hs,qbj hs]at this
 exact this
def nb00{w s:Nat}(h:1<=w/\w<=60)(hs:s<w):Cc 106 [.i (.ofNat w),.i 1,.i (.ofNat (4*s+0)),.i 0] (aY w 1 (4*s+0) 0):=by
 have hb:(0:Int)<=Int.ofNat s/\Int.ofNat s<=100:=⟨qat s,by show(s:Int)<=100;omega⟩
 have hm:(4*s+0)%4=0:=by omega
 have hd:(4*s+0) / 4=s:=by omega
 have hsm:s%w=s:=qbe hs
 have hsd:s / w=0:=qbj hs
 have hr:aY w 1 (4*s+0) 0=[.i 0,.i 7]:=by
  unfold aY nbr
  simp only[hm,hd,hsd]
  rfl
 rw[hr]
 refine q106 rfl ?_;unfold f106;simp only[qxh]
 repeat (first|simp(disch:=omega)only[↓qXX]|refine ac (eU h hs (show 0<4 by omega)) ?_|refine ac (cnb00 (by omega)) ?_)
 refine ac (id_no h (by omega) (by omega)) ?_
 try simp(disch:=omega)only[↓qXX]
def nb01{w s:Nat}(h:1<=w/\w<=60)(hs:s<w):Cc 106 [.i (.ofNat w),.i 1,.i (.ofNat (4*s+0)),.i 1] (aY w 1 (4*s+0) 1):=by
 have hb:(0:Int)<=Int.ofNat s/\Int.ofNat s<=100:=⟨qat s,by show(s:Int)<=100;omega⟩
 have hm:(4*s+0)%4=0:=by omega
 have hd:(4*s+0) / 4=s:=by omega
 have hsm:s%w=s:=qbe hs
 have hsd:s / w=0:=qbj hs
 have hr:aY w 1 (4*s+0) 1=[.i (.ofNat (4*s+1)),.i 0]:=by
  unfold aY nbr
  simp only[hm]
  try rw[show 4*s+0+1=4*s+1 by omega]
 rw[hr]
 refine q106 rfl ?_;unfold f106;simp only[qxh]
 repeat (first|simp(disch:=omega)only[↓qXX]|refine ac (eU h hs (show 0<4 by omega)) ?_|refine ac (cnb01 (by omega)) ?_)
 refine ac (id_c (s:=s) (q:=1) h hs (by omega)) ?_
 try simp(disch:=omega)only[↓qXX]
def nb02{w s:Nat}(h:1<=w/\w<=60)(hs:s<w):Cc 106 [.i (.ofNat w),.i 1,.i (.ofNat (4*s+0)),.i 2] (aY w 1 (4*s+0) 2):=by
 have hb:(0:Int)<=Int.ofNat s/\Int.ofNat s<=100:=⟨qat s,by show(s:Int)<=100;omega⟩
 have hm:(4*s+0)%4=0:=by omega
 have hd:(4*s+0) / 4=s:=by omega
 have hsm:s%w=s:=qbe hs
 have hsd:s / w=0:=qbj hs
 have hr:aY w 1 (4*s+0) 2=[.i (.ofNat (4*s+3)),.i 0]:=by
  unfold aY nbr
  simp only[hm]
  try rw[show 4*s+0+3=4*s+3 by omega]
 rw[hr]
 refine q106 rfl ?_;unfold f106;simp only[qxh]
 repeat (first|simp(disch:=omega)only[↓qXX]|refine ac (eU h hs (show 0<4 by omega)) ?_|refine ac (cnb02 (by omega)) ?_)
 refine ac (id_c (s:=s) (q:=3) h hs (by omega)) ?_
 try simp(disch:=omega)only[↓qXX]
def nb10{w s:Nat}(h:1<=w/\w<=60)(hs:s<w):Cc 106 [.i (.ofNat w),.i 1,.i (.ofNat (4*s+1)),.i 0] (aY w 1 (4*s+1) 0):=by
 have hb:(0:Int)<=Int.ofNat s/\Int.ofNat s<=100:=⟨qat s,by show(s:Int)<=100;omega⟩
 have hm:(4*s+1)%4=1:=by omega
 have hd:(4*s+1) / 4=s:=by omega
 have hsm:s%w=s:=qbe hs
 have hsd:s / w=0:=qbj hs
 by_cases hc:s+1<w
 ·have hr:aY w 1 (4*s+1) 0=[.i (.ofNat (4*(s+1)+3)),.i 0]:=by
   unfold aY nbr
   simp only[hm,hd,hsm,qdD hc]
   rw[show 4*s+1+6=4*(s+1)+3 by omega]
  rw[hr]
  refine q106 rfl ?_;unfold f106;simp only[qxh]
  repeat (first|simp(disch:=omega)only[↓qXX]|refine ac (eU h hs (show 1<4 by omega)) ?_|refine ac (cnb10 (by omega)) ?_)
  rw[show Int.ofNat s+1=Int.ofNat (s+1)from rfl]
  refine ac (id_c (s:=s+1) (q:=3) h (by omega) (by omega)) ?_
  try simp(disch:=omega)only[↓qXX]
 ·have hr:aY w 1 (4*s+1) 0=[.i 0,.i 7]:=by
   unfold aY nbr
   simp only[hm,hd,hsm,qdE hc]
  rw[hr]
  have hx:Int.ofNat s+1<0∨Int.ofNat w<=Int.ofNat s+1:=by
   show(s:Int)+1<0∨(w:Int)<=(s:Int)+1
   omega
  refine q106 rfl ?_;unfold f106;simp only[qxh]
  repeat (first|simp(disch:=omega)only[↓qXX]|refine ac (eU h hs (show 1<4 by omega)) ?_|refine ac (cnb10 (by omega)) ?_)
  refine ac (id_no h (by omega) (by rcases hx with hx|hx;exact .inl hx;exact .inr (.inl hx))) ?_
  try simp(disch:=omega)only[↓qXX]
def nb11{w s:Nat}(h:1<=w/\w<=60)(hs:s<w):Cc 106 [.i (.ofNat w),.i 1,.i (.ofNat (4*s+1)),.i 1] (aY w 1 (4*s+1) 1):=by
 have hb:(0:Int)<=Int.ofNat s/\Int.ofNat s<=100:=⟨qat s,by show(s:Int)<=100;omega⟩
 have hm:(4*s+1)%4=1:=by omega
 have hd:(4*s+1) / 4=s:=by omega
 have hsm:s%w=s:=qbe hs
 have hsd:s / w=0:=qbj hs
 have hr:aY w 1 (4*s+1) 1=[.i (.ofNat (4*s+0)),.i 0]:=by
  unfold aY nbr
  simp only[hm]
  try rw[show 4*s+1 - 1=4*s+0 by omega]
 rw[hr]
 refine q106 rfl ?_;unfold f106;simp only[qxh]
 repeat (first|simp(disch:=omega)only[↓qXX]|refine ac (eU h hs (show 1<4 by omega)) ?_|refine ac (cnb11 (by omega)) ?_)
 refine ac (id_c (s:=s) (q:=0) h hs (by omega)) ?_
 try simp(disch:=omega)only[↓qXX]
def nb12{w s:Nat}(h:1<=w/\w<=60)(hs:s<w):Cc 106 [.i (.ofNat w),.i 1,.i (.ofNat (4*s+1)),.i 2] (aY w 1 (4*s+1) 2):=by
 have hb:(0:Int)<=Int.ofNat s/\Int.ofNat s<=100:=⟨qat s,by show(s:Int)<=100;omega⟩
 have hm:(4*s+1)%4=1:=by omega
 have hd:(4*s+1) / 4=s:=by omega
 have hsm:s%w=s:=qbe hs
 have hsd:s / w=0:=qbj hs
 have hr:aY w 1 (4*s+1) 2=[.i (.ofNat (4*s+2)),.i 0]:=by
  unfold aY nbr
  simp only[hm]
  try rw[show 4*s+1+1=4*s+2 by omega]
 rw[hr]
 refine q106 rfl ?_;unfold f106;simp only[qxh]
 repeat (first|simp(disch:=omega)only[↓qXX]|refine ac (eU h hs (show 1<4 by omega)) ?_|refine ac (cnb12 (by omega)) ?_)
 refine ac (id_c (s:=s) (q:=2) h hs (by omega)) ?_
 try simp(disch:=omega)only[↓qXX]
def nb20{w s:Nat}(h:1<=w/\w<=60)(hs:s<w):Cc 106 [.i (.ofNat w),.i 1,.i (.ofNat (4*s+2)),.i 0] (aY w 1 (4*s+2) 0):=by
 have hb:(0:Int)<=Int.ofNat s/\Int.ofNat s<=100:=⟨qat s,by show(s:Int)<=100;omega⟩
 have hm:(4*s+2)%4=2:=by omega
 have hd:(4*s+2) / 4=s:=by omega
 have hsm:s%w=s:=qbe hs
 have hsd:s / w=0:=qbj hs
 have hr:aY w 1 (4*s+2) 0=[.i 0,.i 7]:=by
  unfold aY nbr
  simp only[hm,hd,hsd]
  rfl
 rw[hr]
 refine q106 rfl ?_;unfold f106;simp only[qxh]
 repeat (first|simp(disch:=omega)only[↓qXX]|refine ac (eU h hs (show 2<4 by omega)) ?_|refine ac (cnb20 (by omega)) ?_)
 refine ac (id_no h (by omega) (by omega)) ?_
 try simp(disch:=omega)only[↓qXX]
def nb21{w s:Nat}(h:1<=w/\w<=60)(hs:s<w):Cc 106 [.i (.ofNat w),.i 1,.i (.ofNat (4*s+2)),.i 1] (aY w 1 (4*s+2) 1):=by
 have hb:(0:Int)<=Int.ofNat s/\Int.ofNat s<=100:=⟨qat s,by show(s:Int)<=100;omega⟩
 have hm:(4*s+2)%4=2:=by omega
 have hd:(4*s+2) / 4=s:=by omega
 have hsm:s%w=s:=qbe hs
 have hsd:s / w=0:=qbj hs
 have hr:aY w 1 (4*s+2) 1=[.i (.ofNat (4*s+3)),.i 0]:=by
  unfold aY nbr
  simp only[hm]
  try rw[show 4*s+2+1=4*s+3 by omega]
 rw[hr]
 refine q106 rfl ?_;unfold f106;simp only[qxh]
 repeat (first|simp(disch:=omega)only[↓qXX]|refine ac (eU h hs (show 2<4 by omega)) ?_|refine ac (cnb21 (by omega)) ?_)
 refine ac (id_c (s:=s) (q:=3) h hs (by omega)) ?_
 try simp(disch:=omega)only[↓qXX]
def nb22{w s:Nat}(h:1<=w/\w<=60)(hs:s<w):Cc 106 [.i (.ofNat w),.i 1,.i (.ofNat (4*s+2)),.i 2] (aY w 1 (4*s+2) 2):=by
 have hb:(0:Int)<=Int.ofNat s/\Int.ofNat s<=100:=⟨qat s,by show(s:Int)<=100;omega⟩
 have hm:(4*s+2)%4=2:=by omega
 have hd:(4*s+2) / 4=s:=by omega
 have hsm:s%w=s:=qbe hs
 have hsd:s / w=0:=qbj hs
 have hr:aY w 1 (4*s+2) 2=[.i (.ofNat (4*s+1)),.i 0]:=by
  unfold aY nbr
  simp only[hm]
  try rw[show 4*s+2 - 1=4*s+1 by omega]
 rw[hr]
 refine q106 rfl ?_;unfold f106;simp only[qxh]
 repeat (first|simp(disch:=omega)only[↓qXX]|refine ac (eU h hs (show 2<4 by omega)) ?_|refine ac (cnb22 (by omega)) ?_)
 refine ac (id_c (s:=s) (q:=1) h hs (by omega)) ?_
 try simp(disch:=omega)only[↓qXX]
def nb30{w s:Nat}(h:1<=w/\w<=60)(hs:s<w):Cc 106 [.i (.ofNat w),.i 1,.i (.ofNat (4*s+3)),.i 0] (aY w 1 (4*s+3) 0):=by
 have hb:(0:Int)<=Int.ofNat s/\Int.ofNat s<=100:=⟨qat s,by show(s:Int)<=100;omega⟩
 have hm:(4*s+3)%4=3:=by omega
 have hd:(4*s+3) / 4=s:=by omega
 have hsm:s%w=s:=qbe hs
 have hsd:s / w=0:=qbj hs
 by_cases hc:0<s
 ·have hr:aY w 1 (4*s+3) 0=[.i (.ofNat (4*(s - 1)+1)),.i 0]:=by
   unfold aY nbr
   simp only[hm,hd,hsm,qdD hc]
   rw[show 4*s+3 - 6=4*(s - 1)+1 by omega]
  rw[hr]
  refine q106 rfl ?_;unfold f106;simp only[qxh]
  repeat (first|simp(disch:=omega)only[↓qXX]|refine ac (eU h hs (show 3<4 by omega)) ?_|refine ac (cnb30 (by omega)) ?_)
  rw[show Int.ofNat s - 1=Int.ofNat (s - 1)by show(s:Int) - 1=((s - 1:Nat):Int);omega]
  refine ac (id_c (s:=s - 1) (q:=1) h (by omega) (by omega)) ?_
  try simp(disch:=omega)only[↓qXX]
 ·have hr:aY w 1 (4*s+3) 0=[.i 0,.i 7]:=by
   unfold aY nbr
   simp only[hm,hd,hsm,qdE hc]
  rw[hr]
  have hx:Int.ofNat s - 1<0∨Int.ofNat w<=Int.ofNat s - 1:=by
   show(s:Int) - 1<0∨(w:Int)<=(s:Int) - 1
   omega
  refine q106 rfl ?_;unfold f106;simp only[qxh]
  repeat (first|simp(disch:=omega)only[↓qXX]|refine ac (eU h hs (show 3<4 by omega)) ?_|refine ac (cnb30 (by omega)) ?_)
  refine ac (id_no h (by omega) (by rcases hx with hx|hx;exact .inl hx;exact .inr (.inl hx))) ?_
  try simp(disch:=omega)only[↓qXX]
def nb31{w s:Nat}(h:1<=w/\w<=60)(hs:s<w):Cc 106 [.i (.ofNat w),.i 1,.i (.ofNat (4*s+3)),.i 1] (aY w 1 (4*s+3) 1):=by
 have hb:(0:Int)<=Int.ofNat s/\Int.ofNat s<=100:=⟨qat s,by show(s:Int)<=100;omega⟩
 have hm:(4*s+3)%4=3:=by omega
 have hd:(4*s+3) / 4=s:=by omega
 have hsm:s%w=s:=qbe hs
 have hsd:s / w=0:=qbj hs
 have hr:aY w 1 (4*s+3) 1=[.i (.ofNat (4*s+2)),.i 0]:=by
  unfold aY nbr
  simp only[hm]
  try rw[show 4*s+3 - 1=4*s+2 by omega]
 rw[hr]
 refine q106 rfl ?_;unfold f106;simp only[qxh]
 repeat (first|simp(disch:=omega)only[↓qXX]|refine ac (eU h hs (show 3<4 by omega)) ?_|refine ac (cnb31 (by omega)) ?_)
 refine ac (id_c (s:=s) (q:=2) h hs (by omega)) ?_
 try simp(disch:=omega)only[↓qXX]
def nb32{w s:Nat}(h:1<=w/\w<=60)(hs:s<w):Cc 106 [.i (.ofNat w),.i 1,.i (.ofNat (4*s+3)),.i 2] (aY w 1 (4*s+3) 2):=by
 have hb:(0:Int)<=Int.ofNat s/\Int.ofNat s<=100:=⟨qat s,by show(s:Int)<=100;omega⟩
 have hm:(4*s+3)%4=3:=by omega
 have hd:(4*s+3) / 4=s:=by omega
 have hsm:s%w=s:=qbe hs
 have hsd:s / w=0:=qbj hs
 have hr:aY w 1 (4*s+3) 2=[.i (.ofNat (4*s+0)),.i 0]:=by
  unfold aY nbr
  simp only[hm]
  try rw[show 4*s+3 - 3=4*s+0 by omega]
 rw[hr]
 refine q106 rfl ?_;unfold f106;simp only[qxh]
 repeat (first|simp(disch:=omega)only[↓qXX]|refine ac (eU h hs (show 3<4 by omega)) ?_|refine ac (cnb32 (by omega)) ?_)
 refine ac (id_c (s:=s) (q:=0) h hs (by omega)) ?_
 try simp(disch:=omega)only[↓qXX]
def q4{q:Nat}(h:q<4):q=0∨q=1∨q=2∨q=3:=by omega
def nb_c{w v:Nat}(h:Sh w v){c e:Nat}(hc:c<4*w*v)(he:e<3):Cc 106 [.i (.ofNat w),.i (.ofNat v),.i (.ofNat c),.i (.ofNat e)] (aY w v c e):=by
 obtain⟨h1,h2,rfl⟩:=h
 have hw:1<=w/\w<=60:=⟨h1,h2⟩
 have hs:c / 4<w:=by omega
 have e1:c=4*(c / 4)+c%4:=by omega
 have he':e=0∨e=1∨e=2:=by omega
 rcases q4 (qbD c (show 0<4 by omega))with hq|hq|hq|hq<;>rw[hq]at e1<;>rw[e1]<;>rcases he' with rfl|rfl|rfl
 ·exact nb00 hw hs
 ·exact nb01 hw hs
 ·exact nb02 hw hs
 ·exact nb10 hw hs
 ·exact nb11 hw hs
 ·exact nb12 hw hs
 ·exact nb20 hw hs
 ·exact nb21 hw hs
 ·exact nb22 hw hs
 ·exact nb30 hw hs
 ·exact nb31 hw hs
 ·exact nb32 hw hs
end St
namespace St
def br{k c:Int}(h:1<=k/\k<=4/\-4096<=c/\c<=4096):Cc 62 [.i k,.i c] [.i 0]:=by
 refine q62 rfl ?_;unfold f62;simp only[qxh]
 simp(disch:=omega)only[↓qXX]
def gq0:cW gl3 0 [(0,17)] 17=some [.int .i64 0,.int .i64 (-1),.int .u8 2,.int .i64 0,.int .i64 0,.int .i64 (-1),.int .u8 2,.int .i64 0,.int .i64 0,.int .u8 1,.int .i64 0,.int .i64 0,.int .u8 3,.int .i64 0,.int .i64 0,.int .i64 2,.int .i64 0]:=by kernel_rfl
def gq1:cW gl3 0 [(1,17)] 17=some [.int .i64 1,.int .i64 0,.int .u8 1,.int .i64 1,.int .i64 1,.int .i64 0,.int .u8 3,.int .i64 0,.int .i64 0,.int .u8 0,.int .i64 0,.int .i64 0,.int .u8 2,.int .i64 2,.int .i64 2,.int .i64 2,.int .i64 0]:=by kernel_rfl
def gq2:cW gl3 0 [(2,17)] 17=some [.int .i64 0,.int .i64 1,.int .u8 2,.int .i64 1,.int .i64 0,.int .i64 1,.int .u8 0,.int .i64 0,.int .i64 0,.int .u8 3,.int .i64 0,.int .i64 0,.int .u8 1,.int .i64 2,.int .i64 2,.int .i64 0,.int .i64 2]:=by kernel_rfl
def gq3:cW gl3 0 [(3,17)] 17=some [.int .i64 (-1),.int .i64 0,.int .u8 1,.int .i64 0,.int .i64 (-1),.int .i64 0,.int .u8 1,.int .i64 0,.int .i64 0,.int .u8 2,.int .i64 0,.int .i64 0,.int .u8 0,.int .i64 0,.int .i64 0,.int .i64 0,.int .i64 2]:=by kernel_rfl
def cln00{x y:Int}(h:-1000<=x/\x<=1000/\-1000<=y/\y<=1000):Cc 124 [.i x,.i y,.i 0,.i 0] [.i 2,.i y,.i 0]:=by
 refine q124 rfl ?_;unfold f124;simp only[qxh]
 repeat (first|simp(disch:=omega)only[↓qXX,↓gq0]|refine ac (aq (by omega)) ?_|refine ac (br (by omega)) ?_|refine af (x:=()) (by kernel_rfl) ?_)
 (try simp only[qax,Lf.i.injEq,and_true,true_and]);(try omega)
def cln01{x y:Int}(h:-1000<=x/\x<=1000/\-1000<=y/\y<=1000):Cc 124 [.i x,.i y,.i 0,.i 1] [.i 3,.i (x+y+1),.i 0]:=by
 refine q124 rfl ?_;unfold f124;simp only[qxh]
 repeat (first|simp(disch:=omega)only[↓qXX,↓gq0]|refine ac (aq (by omega)) ?_|refine ac (br (by omega)) ?_|refine af (x:=()) (by kernel_rfl) ?_)
 (try simp only[qax,Lf.i.injEq,and_true,true_and]);(try omega)
def cln02{x y:Int}(h:-1000<=x/\x<=1000/\-1000<=y/\y<=1000):Cc 124 [.i x,.i y,.i 0,.i 2] [.i 4,.i (y - x),.i 0]:=by
 refine q124 rfl ?_;unfold f124;simp only[qxh]
 repeat (first|simp(disch:=omega)only[↓qXX,↓gq0]|refine ac (aq (by omega)) ?_|refine ac (br (by omega)) ?_|refine af (x:=()) (by kernel_rfl) ?_)
 (try simp only[qax,Lf.i.injEq,and_true,true_and]);(try omega)
def cln10{x y:Int}(h:-1000<=x/\x<=1000/\-1000<=y/\y<=1000):Cc 124 [.i x,.i y,.i 1,.i 0] [.i 1,.i (x+1),.i 0]:=by
 refine q124 rfl ?_;unfold f124;simp only[qxh]
 repeat (first|simp(disch:=omega)only[↓qXX,↓gq1]|refine ac (aq (by omega)) ?_|refine ac (br (by omega)) ?_|refine af (x:=()) (by kernel_rfl) ?_)
 (try simp only[qax,Lf.i.injEq,and_true,true_and]);(try omega)
def cln11{x y:Int}(h:-1000<=x/\x<=1000/\-1000<=y/\y<=1000):Cc 124 [.i x,.i y,.i 1,.i 1] [.i 3,.i (x+y+1),.i 0]:=by
 refine q124 rfl ?_;unfold f124;simp only[qxh]
 repeat (first|simp(disch:=omega)only[↓qXX,↓gq1]|refine ac (aq (by omega)) ?_|refine ac (br (by omega)) ?_|refine af (x:=()) (by kernel_rfl) ?_)
 (try simp only[qax,Lf.i.injEq,and_true,true_and]);(try omega)
def cln12{x y:Int}(h:-1000<=x/\x<=1000/\-1000<=y/\y<=1000):Cc 124 [.i x,.i y,.i 1,.i 2] [.i 4,.i (y - x),.i 0]:=by
 refine q124 rfl ?_;unfold f124;simp only[qxh]
 repeat (first|simp(disch:=omega)only[↓qXX,↓gq1]|refine ac (aq (by omega)) ?_|refine ac (br (by omega)) ?_|refine af (x:=()) (by kernel_rfl) ?_)
 (try simp only[qax,Lf.i.injEq,and_true,true_and]);(try omega)
def cln20{x y:Int}(h:-1000<=x/\x<=1000/\-1000<=y/\y<=1000):Cc 124 [.i x,.i y,.i 2,.i 0] [.i 2,.i (y+1),.i 0]:=by
 refine q124 rfl ?_;unfold f124;simp only[qxh]
 repeat (first|simp(disch:=omega)only[↓qXX,↓gq2]|refine ac (aq (by omega)) ?_|refine ac (br (by omega)) ?_|refine af (x:=()) (by kernel_rfl) ?_)
 (try simp only[qax,Lf.i.injEq,and_true,true_and]);(try omega)
def cln21{x y:Int}(h:-1000<=x/\x<=1000/\-1000<=y/\y<=1000):Cc 124 [.i x,.i y,.i 2,.i 1] [.i 3,.i (x+y+1),.i 0]:=by
 refine q124 rfl ?_;unfold f124;simp only[qxh]
 repeat (first|simp(disch:=omega)only[↓qXX,↓gq2]|refine ac (aq (by omega)) ?_|refine ac (br (by omega)) ?_|refine af (x:=()) (by kernel_rfl) ?_)
 (try simp only[qax,Lf.i.injEq,and_true,true_and]);(try omega)
def cln22{x y:Int}(h:-1000<=x/\x<=1000/\-1000<=y/\y<=1000):Cc 124 [.i x,.i y,.i 2,.i 2] [.i 4,.i (y - x),.i 0]:=by
 refine q124 rfl ?_;unfold f124;simp only[qxh]
 repeat (first|simp(disch:=omega)only[↓qXX,↓gq2]|refine ac (aq (by omega)) ?_|refine ac (br (by omega)) ?_|refine af (x:=()) (by kernel_rfl) ?_)
 (try simp only[qax,Lf.i.injEq,and_true,true_and]);(try omega)
def cln30{x y:Int}(h:-1000<=x/\x<=1000/\-1000<=y/\y<=1000):Cc 124 [.i x,.i y,.i 3,.i 0] [.i 1,.i x,.i 0]:=by
 refine q124 rfl ?_;unfold f124;simp only[qxh]
 repeat (first|simp(disch:=omega)only[↓qXX,↓gq3]|refine ac (aq (by omega)) ?_|refine ac (br (by omega)) ?_|refine af (x:=()) (by kernel_rfl) ?_)
 (try simp only[qax,Lf.i.injEq,and_true,true_and]);(try omega)
def cln31{x y:Int}(h:-1000<=x/\x<=1000/\-1000<=y/\y<=1000):Cc 124 [.i x,.i y,.i 3,.i 1] [.i 3,.i (x+y+1),.i 0]:=by
 refine q124 rfl ?_;unfold f124;simp only[qxh]
 repeat (first|simp(disch:=omega)only[↓qXX,↓gq3]|refine ac (aq (by omega)) ?_|refine ac (br (by omega)) ?_|refine af (x:=()) (by kernel_rfl) ?_)
 (try simp only[qax,Lf.i.injEq,and_true,true_and]);(try omega)
def cln32{x y:Int}(h:-1000<=x/\x<=1000/\-1000<=y/\y<=1000):Cc 124 [.i x,.i y,.i 3,.i 2] [.i 4,.i (y - x),.i 0]:=by
 refine q124 rfl ?_;unfold f124;simp only[qxh]
 repeat (first|simp(disch:=omega)only[↓qXX,↓gq3]|refine ac (aq (by omega)) ?_|refine ac (br (by omega)) ?_|refine af (x:=()) (by kernel_rfl) ?_)
 (try simp only[qax,Lf.i.injEq,and_true,true_and]);(try omega)
def clS{w s q:Nat}(hs:s<w)(hq:q<4):clN w (4*s+q)=(Int.ofNat s,0,q):=by
 unfold clN
 rw[show(4*s+q) / 4=s by omega,show(4*s+q)%4=q by omega,qbe hs,qbj hs]
 rfl
def line_q{s q e:Nat}(hs:s<=100)(hq:q<4)(he:e<3):Cc 124 [.i (.ofNat s),.i 0,.i (.ofNat q),.i (.ofNat e)] [.i (.ofNat (lnC3 (Int.ofNat s,0,q) e).1),.i (lnC3 (Int.ofNat s,0,q) e).2,.i 0]:=by
 have hb:(-1000:Int)<=Int.ofNat s/\Int.ofNat s<=1000/\(-1000:Int)<=0/\(0:Int)<=1000:=⟨by have:=qat s;show(-1000:Int)<=(s:Int);omega,by show(s:Int)<=1000;omega,by omega,by omega⟩
 have he':e=0∨e=1∨e=2:=by omega
 rcases q4 hq with rfl|rfl|rfl|rfl<;>rcases he' with rfl|rfl|rfl
 ·exact cln00 hb
 ·exact cln01 hb
 ·exact cln02 hb
 ·exact cln10 hb
 ·exact cln11 hb
 ·exact cln12 hb
 ·exact cln20 hb
 ·exact cln21 hb
 ·exact cln22 hb
 ·exact cln30 hb
 ·exact cln31 hb
 ·exact cln32 hb
def nbrQ(w s q e:Nat):Tp:=match e,q with
 |0,0=>none
 |0,1=>if s+1<w then some (4*(s+1)+3)else none
 |0,2=>none
 |0,_=>if 0<s then some (4*(s - 1)+1)else none
 |1,0=>some (4*s+1)
 |1,1=>some (4*s+0)
 |1,2=>some (4*s+3)
 |1,_=>some (4*s+2)
 |2,0=>some (4*s+3)
 |2,1=>some (4*s+2)
 |2,2=>some (4*s+1)
 |2,_=>some (4*s+0)
 |_,_=>none
def eQ{w s q e:Nat}(hs:s<w)(hq:q<4):nbr w 1 (4*s+q) e=nbrQ w s q e:=by
 have hm:(4*s+q)%4=q:=by omega
 have hd:(4*s+q) / 4=s:=by omega
 have hsm:s%w=s:=qbe hs
 have hsd:s / w=0:=qbj hs
 unfold nbr nbrQ
 rw[hm,hd,hsm,hsd]
 rcases q4 hq with rfl|rfl|rfl|rfl<;>rcases e with _|_|_|e<;>simp
 ·split
  ·rw[show 4*s+1+6=4*(s+1)+3 by omega]
  ·rfl
 ·split
  ·rw[show 4*s - 3=4*(s - 1)+1 by omega]
  ·rfl
def Sh.q{w v:Nat}(h:Sh w v){c:Nat}(hc:c<4*w*v):v=1/\(1<=w/\w<=60)/\∃s q,c=4*s+q/\s<w/\q<4:=by
 obtain⟨h1,h2,rfl⟩:=h
 exact⟨rfl,⟨h1,h2⟩,c / 4,c%4,by omega,by omega,by omega⟩
def nb_ok{w v:Nat}(h:Sh w v){c e n:Nat}(hc:c<4*w*v)(he:e<3)(hn:nbr w v c e=some n):n<4*w*v/\nbr w v n e=some c/\lnC3 (clN w c) e=lnC3 (clN w n) e/\clN w n=nbC (clN w c) e/\n≠c:=by
 obtain⟨rfl,hw,s,q,rfl,hs,hq⟩:=h.q hc
 have he':e=0∨e=1∨e=2:=by omega
 have hn0:=hn
 rw[eQ hs hq]at hn
 rcases q4 hq with rfl|rfl|rfl|rfl<;>rcases he' with rfl|rfl|rfl<;>unfold nbrQ at hn<;>simp only at hn
 ·cases hn
 ·obtain rfl:=qae hn
  rw[eQ hs (by omega),clS hs (by omega),clS hs (by omega)]
  exact⟨by omega,rfl,rfl,rfl,by omega⟩
 ·obtain rfl:=qae hn
  rw[eQ hs (by omega),clS hs (by omega),clS hs (by omega)]
  exact⟨by omega,rfl,rfl,rfl,by omega⟩
 ·split at hn
  next h1=>
   obtain rfl:=qae hn
   rw[eQ h1 (by omega),clS hs (by omega),clS h1 (by omega)]
   refine⟨by omega,?_,?_,rfl,by omega⟩
   ·unfold nbrQ
    simp only[qcL]
    rw[qdD (by omega)]
   ·rfl
  ·cases hn
 ·obtain rfl:=qae hn
  rw[eQ hs (by omega),clS hs (by omega),clS hs (by omega)]
  exact⟨by omega,rfl,rfl,rfl,by omega⟩
 ·obtain rfl:=qae hn
  rw[eQ hs (by omega),clS hs (by omega),clS hs (by omega)]
  exact⟨by omega,rfl,rfl,rfl,by omega⟩
 ·cases hn
 ·obtain rfl:=qae hn
  rw[eQ hs (by omega),clS hs (by omega),clS hs (by omega)]
  exact⟨by omega,rfl,rfl,rfl,by omega⟩
 ·obtain rfl:=qae hn
  rw[eQ hs (by omega),clS hs (by omega),clS hs (by omega)]
  exact⟨by omega,rfl,rfl,rfl,by omega⟩
 ·split at hn
  next h1=>
   obtain rfl:=qae hn
   obtain⟨u,rfl⟩ : ∃u,s=u+1:=⟨s - 1,by omega⟩
   simp only[qcL]
   rw[eQ (s:=u) (by omega) (by omega),clS hs (by omega),clS (s:=u) (by omega) (by omega)]
   refine⟨by omega,?_,?_,?_,by omega⟩
   ·unfold nbrQ
    simp only
    rw[qdD hs]
   ·rfl
   ·unfold nbC
    simp only
    rw[show Int.ofNat (u+1) - 1=Int.ofNat u by show((u+1:Nat):Int) - 1=(u:Int);omega]
  ·cases hn
 ·obtain rfl:=qae hn
  rw[eQ hs (by omega),clS hs (by omega),clS hs (by omega)]
  exact⟨by omega,rfl,rfl,rfl,by omega⟩
 ·obtain rfl:=qae hn
  rw[eQ hs (by omega),clS hs (by omega),clS hs (by omega)]
  exact⟨by omega,rfl,rfl,rfl,by omega⟩
def ln_ok{w v:Nat}(h:Sh w v){c e:Nat}(hc:c<4*w*v)(he:e<3):1<=(lnC3 (clN w c) e).1/\(lnC3 (clN w c) e).1<=4/\-61<=(lnC3 (clN w c) e).2/\(lnC3 (clN w c) e).2<=61:=by
 obtain⟨rfl,hw,s,q,rfl,hs,hq⟩:=h.q hc
 rw[clS hs hq]
 have h0:(0:Int)<=Int.ofNat s/\Int.ofNat s<=59:=⟨qat s,by show(s:Int)<=59;omega⟩
 have he':e=0∨e=1∨e=2:=by omega
 rcases q4 hq with rfl|rfl|rfl|rfl<;>rcases he' with rfl|rfl|rfl<;>simp only[lnC3]<;>omega
def net_all{w v:Nat}(h:Sh w v){P:Nat->Prop}(h0:P 0)(hs:∀c e n,c<4*w*v->e<3->nbr w v c e=some n->P c->P n):∀n,n<4*w*v->P n:=by
 obtain⟨h1,h2,rfl⟩:=h
 have sq:∀s,s<w->(P (4*s+0)∨P (4*s+3))->∀q,q<4->P (4*s+q):=by
  intro s hsw hp
  have g:∀q e p,q<4->e<3->nbr w 1 (4*s+q) e=some (4*s+p)->P (4*s+q)->P (4*s+p):=λq e p hq he hn hp=>hs _ e _ (by omega) he hn hp
  have p0:P (4*s+0):=by
   rcases hp with hp|hp
   ·exact hp
   ·exact g 3 2 0 (by omega) (by omega) (by rw[eQ hsw (by omega)];rfl) hp
  have p1:P (4*s+1):=g 0 1 1 (by omega) (by omega) (by rw[eQ hsw (by omega)];rfl) p0
  have p3:P (4*s+3):=g 0 2 3 (by omega) (by omega) (by rw[eQ hsw (by omega)];rfl) p0
  have p2:P (4*s+2):=g 1 2 2 (by omega) (by omega) (by rw[eQ hsw (by omega)];rfl) p1
  intro q hq
  rcases q4 hq with rfl|rfl|rfl|rfl
  ·exact p0
  ·exact p1
  ·exact p2
  ·exact p3
 have all:∀s,s<w->∀q,q<4->P (4*s+q):=by
  intro s
  induction s with
  |zero=>exact λhsw=>sq 0 hsw (.inl h0)
  |succ s ih=>
   intro hsw
   have:=ih (by omega) 1 (by omega)
   exact sq (s+1) hsw (.inr (hs _ 0 _ (by omega) (by omega) (by rw[eQ (by omega) (by omega)];exact qdD hsw) this))
 intro n hn
 have:=all (n / 4) (by omega) (n%4) (by omega)
 rwa [show 4*(n / 4)+n%4=n by omega]at this
def vQ{w v c e n:Nat}(hc:c<4*w*v)(he:e<3)(hn:nbr w v c e=some n)(hlt:c<n):(c,e)∈jN w v:=by
 unfold jN
 rw[qbI]
 refine⟨c,qaN.2 hc,qbE.2 ⟨e,qaN.2 he,?_⟩⟩
 simp[hn,hlt]
def wL{w v c e:Nat}(h:(c,e)∈jN w v):c<4*w*v/\e<3/\∃n,nbr w v c e=some n/\c<n:=by
 unfold jN at h
 rw[qbI]at h
 obtain⟨c',h1,h2⟩:=h
 obtain⟨e',h3,h4⟩:=qbE.1 h2
 split at h4
 next n hn=>
  split at h4
  next hlt=>
   simp only[qaq,qbY]at h4
   obtain⟨rfl,rfl⟩:=h4
   exact⟨qaN.1 h1,qaN.1 h3,n,hn,hlt⟩
  ·cases h4
 ·cases h4
def name_nb{w v:Nat}(h:Sh w v){c e n:Nat}(hc:c<4*w*v)(he:e<3)(hn:nbr w v c e=some n):(min c n,e)∈jN w v/\lnC3 (clN w (min c n)) e=lnC3 (clN w c) e:=by
 obtain⟨g1,g2,g3,_,g5⟩:=nb_ok h hc he hn
 rcases qaQ c n with hlt|hge
 ·rw[qa5 (by omega)]
  exact⟨vQ hc he hn hlt,rfl⟩
 ·rw[qbZ hge]
  exact⟨vQ g1 he g2 (by omega),g3.symm⟩
def name_c{w v:Nat}(h:Sh w v){c e n:Nat}(hc:c<4*w*v)(he:e<3)(hn:nbr w v c e=some n):Cc 98 [.i (.ofNat w),.i (.ofNat v),.i (.ofNat c),.i (.ofNat e)] [.i (.ofNat (min c n)),.i (.ofNat e),.i 0]:=by
 have hnb:=nb_c h hc he
 unfold aY at hnb
 rw[hn]at hnb
 refine q98 rfl ?_;unfold f98;simp only[qxh]
 refine p_x ?_
 refine ac hnb ?_
 refine p_x ?_
 by_cases hlt:n<c
 ·rw[bf hlt]
  refine p_x ?_
  rw[qbZ (by omega)]
 ·rw[bj (by omega)]
  refine p_x ?_
  rw[qa5 (by omega)]
def ln_c{w v:Nat}(h:Sh w v){u e:Nat}(hu:(u,e)∈jN w v):Cc 105 [.i (.ofNat w),.i (.ofNat v),.i (.ofNat u),.i (.ofNat e)] [.i (.ofNat (lnC3 (clN w u) e).1),.i (lnC3 (clN w u) e).2,.i 0]:=by
 obtain⟨hc,he,n,hn,hlt⟩:=wL hu
 have hnm:=name_c h hc he hn
 rw[qa5 (by omega)]at hnm
 obtain⟨rfl,hw,s,q,rfl,hs,hq⟩:=h.q hc
 have hcell:=vk (c:=4*s+q) hw (by omega)
 rw[show(4*s+q) / 4=s by omega,show(4*s+q)%4=q by omega,qbe hs,qbj hs]at hcell
 rw[clS hs hq]
 have hnamed:Cc 123 [.i (.ofNat w),.i 1,.i (.ofNat (4*s+q)),.i (.ofNat e)] [.i (.ofNat s),.i 0,.i (.ofNat q),.i 0]:=by
  refine q123 rfl ?_;unfold f123;simp only[qxh]
  refine p_x ?_
  refine ac (kU hw) ?_
  refine p_x ?_
  refine ac hnm ?_
  refine p_x ?_
  simp(disch:=omega)only[↓qXX,qaI]
  refine ac hcell ?_
  refine p_x ?_
  rfl
 refine q105 rfl ?_;unfold f105;simp only[qxh]
 refine p_x ?_
 refine ac hnamed ?_
 refine p_x ?_
 refine ac (line_q (by omega) hq he) ?_
 simp(disch:=omega)only[↓qXX]
end St
namespace St
def toldA(f:TN)(ls rs:TE):Bool:=isAns rs (runF 60 (.f f) ls .empty tell)
def vb{f:TN}{ls rs:TE}{sg:Sig}(h:toldA f ls rs=true)(hs:ab f=some sg)(hp:sg.plain=true)(hg:gN ls=true):Cc f ls rs:=known_ans (n:=60) hs hp hg h
abbrev mvl(m:Mv):TE:=[.i (Int.ofNat m.1),.i m.2.1,.i m.2.2]
abbrev cll(c:Cl):TE:=[.i c.1,.i c.2.1,.i (Int.ofNat c.2.2)]
def lP{n:Int}(h:-16384<=n/\n<=16384):Cc 101 [.i n] [.b false]:=by
 refine q101 rfl ?_;unfold f101;simp only[qxh]
 repeat (first|simp(disch:=omega)only[↓qXX])
 try rfl
def mchk_c{t x y:Int}(ht:0<=t/\t<8)(hx:-16384<=x/\x<=16384)(hy:-16384<=y/\y<=16384)(hp:(x+y)%2=0):Cc 70 [.i t,.i x,.i y] [.i 0]:=by
 refine q70 rfl ?_;unfold f70;simp only[qxh]
 rcases Int.le_total 0 (x+y)with hs|hs
 ·repeat (first|simp(disch:=omega)only[↓qXX]|refine ac (lP hx) ?_|refine ac (lP hy) ?_|rw[p_rem_nn hs (by omega)])
 ·have h0:-(-(x+y)%2)=0:=by omega
  repeat (first|simp(disch:=omega)only[↓qXX]|refine ac (lP hx) ?_|refine ac (lP hy) ?_|rw[p_rem_np hs (by omega)])
def xy{n:Int}{m:Mv}(h:okM n m)(hn:n<=16384):Cc 70 (mvl m) [.i 0]:=by
 obtain⟨h1,h2,h3,h4,h5,h6⟩:=h
 exact mchk_c ⟨qat _,by show(m.1:Int)<8;omega⟩ (by omega) (by omega) h6
def pick_t{t:Nat}(h:t<8):cW gl2 0 [(Int.ofNat t,4)] 4=some [.int .i64 (mA t),.int .i64 (mB t),.int .i64 (mC t),.int .i64 (mD t)]:=by
 rcases t8 h with rfl|rfl|rfl|rfl|rfl|rfl|rfl|rfl<;>kernel_rfl
def inB_t{n t:Nat}(h:t<n):inB n (Int.ofNat t)=some ():=by
 show(match Nat.blt t n with
  |true=>some ()
  |false=>none)=some ()
 rw[show Nat.blt t n=true by rw[qbd];exact h]
def mof_c{t:Nat}(ht:t<8){x y:Int}(h:-200000<=x/\x<=200000/\-200000<=y/\y<=200000):Cc 109 [.i (mA t),.i (mB t),.i (mC t),.i (mD t),.i x,.i y] [.i (mA t*x+mB t*y),.i (mC t*x+mD t*y)]:=by
 rcases t8 ht with rfl|rfl|rfl|rfl|rfl|rfl|rfl|rfl
 all_goals
  simp only[mA,mB,mC,mD]
  refine q109 rfl ?_;unfold f109;simp only[qxh]
  repeat (first|simp(disch:=omega)only[↓qXX])
  (try simp only[qax,Lf.i.injEq,and_true,true_and]);(try omega)
def thenT(s t:Nat):Bool:=toldA 112 [.i (mA s),.i (mB s),.i (mC s),.i (mD s),.i (mA t),.i (mB t),.i (mC t),.i (mD t)] [.i (mA (mulT s t)),.i (mB (mulT s t)),.i (mC (mulT s t)),.i (mD (mulT s t))]
def numT(t:Nat):Bool:=toldA 111 [.i (mA t),.i (mB t),.i (mC t),.i (mD t)] [.i (.ofNat t)]
def wH:((List.range 8).all λs=>numT s&&(List.range 8).all λt=>thenT s t)=true:=by kernel_rfl
def thenT_c{s t:Nat}(hs:s<8)(ht:t<8):Cc 112 [.i (mA s),.i (mB s),.i (mC s),.i (mD s),.i (mA t),.i (mB t),.i (mC t),.i (mD t)] [.i (mA (mulT s t)),.i (mB (mulT s t)),.i (mC (mulT s t)),.i (mD (mulT s t))]:=by
 have h:=qag.1 wH s (qaN.2 hs)
 rw[qaa]at h
 exact vb (qag.1 h.2 t (qaN.2 ht)) rfl (by kernel_rfl) rfl
def numT_c{t:Nat}(ht:t<8):Cc 111 [.i (mA t),.i (mB t),.i (mC t),.i (mD t)] [.i (.ofNat t)]:=by
 have h:=qag.1 wH t (qaN.2 ht)
 rw[qaa]at h
 exact vb h.1 rfl (by kernel_rfl) rfl
def limited_c{m:Mv}{n:Int}(h:okM n m)(hn:n<=16384):Cc 110 (mvl m) (mvl m++[.i 0]):=by
 refine q110 rfl ?_;unfold f110;simp only[qxh]
 repeat (first|simp(disch:=omega)only[↓qXX]|refine ac (xy h hn) ?_)
 rfl
def then_c{a b:Mv}{n k:Int}(ha:okM n a)(hb:okM k b)(hn:0<=n/\0<=k/\n+k<=16384):Cc 73 (mvl a++mvl b) (mvl (cE a b)++[.i 0]):=by
 have h0:=rl ha hb
 refine q73 rfl ?_;unfold f73;simp only[qxh]
 simp only[mvl,qa8,qa3]
 repeat (first|simp(disch:=omega)only[↓qXX]|refine ac (xy ha (by omega)) ?_|refine ac (xy hb (by omega)) ?_|refine af (inB_t hb.1) ?_|refine af (pick_t hb.1) ?_|refine ac (mof_c hb.1 ⟨by have:=ha.2;omega,by have:=ha.2;omega,by have:=ha.2;omega,by have:=ha.2;omega⟩) ?_|refine af (inB_t ha.1) ?_|refine af (pick_t ha.1) ?_|refine ac (thenT_c ha.1 hb.1) ?_|refine ac (numT_c kE) ?_)
 have hz:∀z:Int,(-n<=z/\z<=n)∨True:=λ_=>.inr trivial
 obtain⟨h1,h2,h3,h4,h5,h6⟩:=h0
 unfold cE at h2 h3 h4 h5
 simp only at h2 h3 h4 h5
 rw[p_add (by omega) (by omega),p_add (by omega) (by omega)]
 refine ac (limited_c (m:=cE a b) ⟨h1,h2,h3,h4,h5,h6⟩ (by omega)) ?_
 simp only[mvl,qa8,qa3]
 refine p_x ?_
 rfl
def lchk_c{k c:Int}(hk:1<=k/\k<=4)(hc:-4096<=c/\c<=4096):Cc 62 [.i k,.i c] [.i 0]:=by
 refine q62 rfl ?_;unfold f62;simp only[qxh]
 repeat (first|simp(disch:=omega)only[↓qXX])
 try rfl
def of1_c{k c:Int}{m:Mv}(hk:1<=k/\k<=4)(hc:-4096<=c/\c<=4096)(hm:m=ofM (k.toNat,c)):Cc 49 [.i k,.i c] (mvl m++[.i 0]):=by
 subst hm
 obtain rfl|rfl|rfl|rfl:k=1∨k=2∨k=3∨k=4:=by omega
 all_goals
  refine q49 rfl ?_;unfold f49;simp only[qxh]
  repeat (first|simp(disch:=omega)only[↓qXX]|refine ac (lchk_c (by omega) (by omega)) ?_)
  simp[ofM]
def mlof_c{l:Ln}(hk:1<=l.1/\l.1<=4)(hc:-4096<=l.2/\l.2<=4096):Cc 49 [.i (Int.ofNat l.1),.i l.2] (mvl (ofM l)++[.i 0]):=
 of1_c (k:=Int.ofNat l.1) ⟨by show(1:Int)<=(l.1:Int);omega,by show(l.1:Int)<=4;omega⟩ hc rfl
def pchk_c{x y:Int}(h:-65536<=x/\x<=65536/\-65536<=y/\y<=65536):Cc 131 [.i x,.i y] [.i 0]:=by
 refine q131 rfl ?_;unfold f131;simp only[qxh]
 repeat (first|simp(disch:=omega)only[↓qXX])
 try rfl
def ptM(m:Mv)(x y:Int):Int×Int:=(mA m.1*x+mB m.1*y+2*m.2.1,mC m.1*x+mD m.1*y+2*m.2.2)
def lin_rng{t:Nat}(ht:t<8){n x y:Int}(h:-n<=x/\x<=n/\-n<=y/\y<=n):-n<=mA t*x+mB t*y/\mA t*x+mB t*y<=n/\-n<=mC t*x+mD t*y/\mC t*x+mD t*y<=n:=by
 rcases t8 ht with rfl|rfl|rfl|rfl|rfl|rfl|rfl|rfl<;>simp only[mA,mB,mC,mD]<;>omega
def point_c{m:Mv}(hm:okM 16384 m){x y:Int}(h:-8000<=x/\x<=8000/\-8000<=y/\y<=8000):Cc 128 (mvl m++[.i x,.i y]) [.i (ptM m x y).1,.i (ptM m x y).2,.i 0]:=by
 have hr:=lin_rng hm.1 h
 have hm2:=hm.2
 refine q128 rfl ?_;unfold f128;simp only[qxh]
 simp only[mvl,qa8,qa3]
 repeat (first|simp(disch:=omega)only[↓qXX]|refine ac (xy hm (by omega)) ?_|refine ac (pchk_c (by omega)) ?_|refine af (inB_t hm.1) ?_|refine af (pick_t hm.1) ?_|refine ac (mof_c hm.1 (by omega)) ?_)
 rfl
def sj{c:Cl}(h:-4096<=c.1/\c.1<=4096/\-4096<=c.2.1/\c.2.1<=4096/\c.2.2<4):Cc 43 (cll c) [.i 0]:=by
 have hq:(Int.ofNat c.2.2)<=3:=by show(c.2.2:Int)<=3;omega
 refine q43 rfl ?_;unfold f43;simp only[qxh]
 repeat (first|simp(disch:=omega)only[↓qXX])
 try rfl
def middle_c{x y q:Int}(h:-1000000<=x/\x<=1000000/\-1000000<=y/\y<=1000000):Cc 127 [.i x,.i y,.i q] [.i (2*x+1),.i (2*y+1)]:=by
 refine q127 rfl ?_;unfold f127;simp only[qxh]
 repeat (first|simp(disch:=omega)only[↓qXX])
 (try simp only[qax,Lf.i.injEq,and_true,true_and]);(try omega)
def sdX(q:Nat):Int:=[0,1,0,-1].getD q 0
def sdY(q:Nat):Int:=[-1,0,1,0].getD q 0
def pick_q{q:Nat}(h:q<4):cW gl3 0 [(Int.ofNat q,17)] 2=some [.int .i64 (sdX q),.int .i64 (sdY q)]:=by
 obtain rfl|rfl|rfl|rfl:q=0∨q=1∨q=2∨q=3:=by omega
 all_goals kernel_rfl
def moved_c{m:Mv}(hm:okM 16384 m){c:Cl}(hc:-1000<=c.1/\c.1<=1000/\-1000<=c.2.1/\c.2.1<=1000/\c.2.2<4):Cc 113 (mvl m++cll c) (cll (iR m c)):=by
 obtain⟨t,mx,my⟩:=m
 obtain⟨x,y,q⟩:=c
 have hm0:okM 16384 (t,0,0):=⟨hm.1,by simp,by simp,by simp,by simp,by simp⟩
 have hp1:=point_c (ii hm (by omega)) (x:=2*x+1) (y:=2*y+1) (by simp only at hc;omega)
 have hp2:=point_c (ii hm0 (by omega)) (x:=sdX q) (y:=sdY q) (by
  have hq:q<4:=hc.2.2.2.2
  obtain rfl|rfl|rfl|rfl:q=0∨q=1∨q=2∨q=3:=by omega
  all_goals simp[sdX,sdY])
 obtain⟨X,hX⟩ : ∃X,(ptM (t,mx,my) (2*x+1) (2*y+1)).1=X:=⟨_,rfl⟩
 obtain⟨Y,hY⟩ : ∃Y,(ptM (t,mx,my) (2*x+1) (2*y+1)).2=Y:=⟨_,rfl⟩
 obtain⟨U,hU⟩ : ∃U,(ptM (t,0,0) (sdX q) (sdY q)).1=U:=⟨_,rfl⟩
 obtain⟨V,hV⟩ : ∃V,(ptM (t,0,0) (sdX q) (sdY q)).2=V:=⟨_,rfl⟩
 rw[hX,hY]at hp1
 rw[hU,hV]at hp2
 have hm':=hm.2
 have ht:t<8:=hm.1
 have hq:q<4:=hc.2.2.2.2
 simp only at hm' hc
 refine q113 rfl ?_;unfold f113;simp only[qxh]
 simp only[mvl,cll,qa8,qa3]
 repeat (first|simp(disch:=omega)only[↓qXX]|refine ac (middle_c (by omega)) ?_|refine af (inB_t hq) ?_|refine af (pick_q hq) ?_|refine ac hp1 ?_|refine ac hp2 ?_)
 rcases t8 ht with rfl|rfl|rfl|rfl|rfl|rfl|rfl|rfl
 all_goals obtain rfl|rfl|rfl|rfl:q=0∨q=1∨q=2∨q=3:=by omega
 all_goals
  simp[ptM,mA,mB,mC,mD,sdX,sdY]at hX hY hU hV
  subst hU hV
  repeat (first|simp(disch:=omega)only[↓qXX]|refine af (by simp only[rr,putL,offX,Int.reduceToNat,Int.reduceAdd,Int.reduceMul,Int.reduceMod,Int.reduceSub,Int.reduceNeg,Int.reduceDiv,Nat.reduceAdd,Nat.reduceMul,Nat.reduceLeDiff,qaD,qbA,↓reduceIte,qbr,qaV,qaW,qbb,qa8,qa3,qaL,Int.toNat_zero,qcx,qca,Int.zero_add];exact rfl) ?_|refine p_loop 6 ?_)
  try simp[iR,mA,mB,mC,mD,qT]
  try omega
end St
end Go.Am
namespace Go.Am
namespace Sx
section
variable [Val] [Kno]
variable {C:Cfg} {Sg:Tb} {T:Tt} {α:Type}
def putE(h:HL)(id e:Nat)(enc:α->Tl)(l:List α):HL:=h.set id (.o (.cells (l.flatMap enc) e true))
def dN{h:HL}{id e:Nat}{enc:α->Tl}{l:List α}(hlt:id<h.length):(putE h id e enc l)[id]?=some (.o (.cells (l.flatMap enc) e true)):=by
 unfold putE
 rw[qaH hlt]
def wo{h:HL}{id e:Nat}{enc:α->Tl}{l l':List α}:(putE h id e enc l).set id (.o (.cells (l'.flatMap enc) e true))=putE h id e enc l':=by
 unfold putE
 rw[List.set_set]
def putE_ls{h:HL}{id e cx:Nat}{enc:α->Tl}(henc:∀a,(enc a).length=e){l:List α}(hlt:id<h.length):LsH (putE h id e enc l) (.slice (some ⟨id,0,tag e⟩) l.length cx) e enc l:=by
 have hl:=aD (e:=e) (enc:=enc) (l:=l) λa _=>henc a
 exact⟨λa _=>henc a,hl,.inr ⟨id,0,cx,_,true,rfl,dN hlt,cut_all hl⟩⟩
def fM{e:Nat}{enc:α->Tl}(henc:∀a,(enc a).length=e):∀ {l:List α} {i:Nat} (a:α),i<l.length->(l.flatMap enc).take (i*e)++enc a++(l.flatMap enc).drop (i*e+e)=(l.set i a).flatMap enc
 | [],_,_,h=>by simp at h
 |b :: l,0,a,_=>by
  have hb:=henc b
  simp only[qcx,qbb,qa3,qaL,qda,qbz]
  rw[qcp,qbL (by omega),qa3,show e - (enc b).length=0 by omega,qaV]
 |b :: l,i+1,a,h=>by
  have hb:=henc b
  have ih:=fM henc (l:=l) (i:=i) a (by simpa using h)
  simp only[List.set_cons_succ,qbz]
  rw[←ih,qbH,qcd,qcX,qcp]
  rw[qaS (by omega),qbL (by omega),qa3]
  rw[show i*e+e - (enc b).length=i*e by omega,show i*e+e+e - (enc b).length=i*e+e by omega]
  simp[qaJ]
def r_set{h:HL}{id e cx len:Nat}{enc:α->Tl}(henc:∀a,(enc a).length=e){l:List α}{i:Nat}{a:α}{n:Int}{new:Tl}{K:Ta}(hlt:id<h.length)(hn:n=Int.ofNat i)(hi:i<l.length)(hlen:l.length=len)(hnew:new=enc a)
  (hk:K [] (putE h id e enc (l.set i a))):(PH C Sg T).opt (idS e (.slice (some ⟨id,0,tag e⟩) len cx) n) (@hid _ ⟨λx=>(PH C Sg T).heap (.st x new) (putE h id e enc l) (@hid _ ⟨K⟩)⟩):=by
 subst hn hlen hnew
 have hx:idS e (.slice (some ⟨id,0,tag e⟩) l.length cx) (Int.ofNat i)=some (.pointer (some ⟨id,i*e,none⟩)):=by
  rw[pf]
  have hh:0<=Int.ofNat i/\Int.ofNat i<(l.length:Int):=⟨qat i,by show(i:Int)<l.length;omega⟩
  simp only[qdD hh]
  have:¬(tag e=some 1):=by simp[tag]
  simp only[qdE this,qaL]
  rfl
 refine af hx ?_
 have hl:=aD (e:=e) (enc:=enc) (l:=l) λa _=>henc a
 have hle:i*e+e<=l.length*e:=by
  have:=qbn e (show i+1<=l.length by omega)
  rw[qbH,qcd]at this;exact this
 have hrun:(Hp.st (.pointer (some ⟨id,i*e,none⟩)) (enc a)).run (getH T (putE h id e enc l)) (putE h id e enc l).length=some ([.set id (.cells ((l.set i a).flatMap enc) e true)],[]):=by
  show stP (.pointer (some ⟨id,i*e,none⟩)) (enc a) (getH T (putE h id e enc l)) (putE h id e enc l).length=_
  unfold stP
  simp only
  rw[bB (dN hlt)]
  simp only
  unfold splice
  rw[henc a,hl,qdD hle,fM henc a hi]
  rfl
 refine bC hrun ?_
 show K [] (cz _ _)
 have:cz (putE h id e enc l) [.set id (.cells ((l.set i a).flatMap enc) e true)]=putE h id e enc (l.set i a):=wo
 rw[this]
 exact hk
end
end Sx
namespace Sx
section
variable [Val] [Kno]
variable {C:Cfg} {Sg:Tb} {T:Tt} {α:Type}
def ir{enc:α->Tl}{z:α}{n:Nat}:bi (enc z) n=(List.replicate n z).flatMap enc:=by
 unfold bi
 rw[List.flatMap_def,List.map_replicate]
def newE(h:HL)(e:Nat)(enc:α->Tl)(l:List α):HL:=h++[.o (.cells (l.flatMap enc) e true)]
def newE_put{h:HL}{e:Nat}{enc:α->Tl}{l:List α}:putE (h++[.o .dead]) h.length e enc l=newE h e enc l:=by
 unfold putE newE
 rw[qb4 _ _ (qaf _),qbu];rfl
def newE_ls{h:HL}{e cx:Nat}{enc:α->Tl}(henc:∀a,(enc a).length=e){l:List α}{n:Nat}(hn:n=l.length):LsH (newE h e enc l) (.slice (some ⟨h.length,0,tag e⟩) n cx) e enc l:=by
 subst hn
 rw[←newE_put]
 exact putE_ls henc (by simp)
def rh{n:Nat}(h:n<=1048576):mkOk (Int.ofNat n) (Int.ofNat n)=some ():=by
 unfold mkOk
 rw[qdD]
 exact⟨qat n,qdy _,by show(n:Int)<=1048576;omega⟩
def cap_full{id n:Nat}{o:Nat}{sp:Tp}:capS (.slice (some ⟨id,o,sp⟩) n (n+1))=some (Int.ofNat n):=rfl
end
end Sx
namespace Sx
section
variable [Val] [Kno]
variable {C:Cfg} {Sg:Tb} {T:Tt} {α:Type}
def eK{l:List α}{i:Nat}{a:α}(h:l[i]?=some a):l.set i a=l:=by
 apply qa0
 intro k
 by_cases hk:i=k
 ·subst hk
  rw[qaH (av h),h]
 ·rw[qaA hk]
end
end Sx
namespace Sx
section
variable [Val] [Kno] {C:Cfg} {T:Tt}
abbrev Ku:=Int×Int
def kvU(k:Ku):Value:=.agg ⟨[.int .i64 k.1,.int .u8 k.2]⟩
def EntS(es:Th)(ks:List Ku):Prop:=es.map (·.key)=ks.map kvU/\∀e∈es,e.val = .bool true
abbrev kkU:TG:=[.i .i64,.i .u8]
def jW(a b:Int):eqZ a b=decide (a=b):=by
 have hb:∀m n:Nat,Nat.beq m n=decide (m=n):=λm n=>by
  by_cases h:m=n
  ·subst h;simp
  ·rw[qdB h]
   cases hq:Nat.beq m n with
   |true=>exact absurd (qac hq) h
   |false=>rfl
 cases a<;>cases b<;>simp[eqZ,hb]
 omega
def difK_kv(a b:Ku):difK kkU [.int .i64 a.1,.int .u8 a.2] [.int .i64 b.1,.int .u8 b.2]=some (decide (a=b)):=by
 have e1:cS .i64 .i64=true:=rfl
 have e2:cS .u8 .u8=true:=rfl
 obtain⟨a1,a2⟩:=a
 obtain⟨b1,b2⟩:=b
 simp only[difK,e1,e2,jW,qbY]
 by_cases h1:a1=b1
 ·by_cases h2:a2=b2
  ·simp[h1,h2]
  ·simp[h1,h2]
 ·simp[h1]
def qO(k:Ku):∀ {es:Th} {ks:List Ku} (i:Nat),EntS es ks->(k∉ks->fi kkU [.int .i64 k.1,.int .u8 k.2] es i=some none)/\(k∈ks->∃j e,fi kkU [.int .i64 k.1,.int .u8 k.2] es i=some (some (i+j))/\es[j]?=some e/\e.val = .bool true)
 | [],[],i,_=>⟨λ_=>rfl,λh=>by cases h⟩
 | [],_ :: _,i,h=>by have:=h.1;simp at this
 |_ :: _,[],i,h=>by have:=h.1;simp at this
 |e :: es,q :: ks,i,h=>by
  obtain⟨h1,h2⟩:=h
  simp only[qas,qax]at h1
  obtain⟨ih1,ih2⟩:=qO k (i+1) (⟨h1.2,λx hx=>h2 x (qap _ hx)⟩ : EntS es ks)
  have hq:fi kkU [.int .i64 k.1,.int .u8 k.2] (e :: es) i=if k=q then some (some i)else fi kkU [.int .i64 k.1,.int .u8 k.2] es (i+1):=by
   simp only[fi,h1.1,kvU]
   rw[difK_kv]
   by_cases hk:k=q<;>simp[hk]
  rw[hq]
  by_cases hk:k=q
  ·subst hk
   refine⟨λhn=>absurd qaE hn,λ_=>⟨0,e,by rw[qdD rfl];rfl,rfl,h2 e qaE⟩⟩
  ·rw[qdE hk]
   refine⟨λhn=>ih1 λhm=>hn (qap _ hm),λhm=>?_⟩
   rcases qal.1 hm with hm|hm
   ·exact absurd hm hk
   ·obtain⟨j,e',g1,g2,g3⟩:=ih2 hm
    exact⟨j+1,e',by rw[g1];congr 2;omega,by simpa using g2,g3⟩
variable {kt:TM}
def keyF_u(h1:aggT C.P kt=some true)(h2:flatK C.P 10000 kt=some kkU)(k:Ku):keyF C.P kt (kvU k)=true:=by
 have e1:cS .i64 .i64=true:=rfl
 have e2:cS .u8 .u8=true:=rfl
 unfold keyF kvU
 simp only[h1,h2,fq,e1,e2,jW]
 simp
def uw(h1:aggT C.P kt=some true)(h2:flatK C.P 10000 kt=some kkU)(k:Ku){es:Th}{r:Tp}(hr:fi kkU [.int .i64 k.1,.int .u8 k.2] es 0=some r):lH C.P kt (kvU k) es=some r:=by
 unfold lH kvU
 simp only[h1,h2,jp,hr]
def lu_set(h1:aggT C.P kt=some true)(h2:flatK C.P 10000 kt=some kkU){h:HL}{id c:Nat}{es:Th}{ks:List Ku}(hm:h[id]?=some (.o (.map es c)))(he:EntS es ks)(k:Ku) :
  luG C kt false (.bool false) (.map (some id)) (kvU k) false (getH T h)=some [.bool (decide (k∈ks))]:=by
 unfold luG
 rw[keyF_u h1 h2]
 simp only[qaI,qao,if_false]
 have hg:mapG (getH T h) id=some (es,c):=by
  unfold mapG
  rw[bB hm]
 rw[hg]
 simp only
 obtain⟨f1,f2⟩:=qO k 0 he
 by_cases hk:k∈ks
 ·obtain⟨j,e,g1,g2,g3⟩:=f2 hk
  rw[uw h1 h2 k g1]
  have hv:dy es (0+j)=some (.bool true):=by
   rw[qaL]
   unfold dy
   rw[g2]
   simp[g3]
  simp only[hv,qak]
  simp[ez,hk]
 ·rw[uw h1 h2 k (f1 hk)]
  simp[ez,hk]
def mu_set(h1:aggT C.P kt=some true)(h2:flatK C.P 10000 kt=some kkU){h:HL}{id c n:Nat}{es:Th}{ks:List Ku}(hm:h[id]?=some (.o (.map es c)))(he:EntS es ks){k:Ku}(hk:k∉ks) :
  muG C kt (.map (some id)) (kvU k) (.bool true) (getH T h) n=some ([.set id (.map (es++[{ key:=kvU k,val:=.bool true,born:=c }]) (c+1))],[]):=by
 unfold muG
 simp only
 rw[keyF_u h1 h2]
 simp only[qaI,qao,if_false]
 have hg:mapG (getH T h) id=some (es,c):=by
  unfold mapG
  rw[bB hm]
 rw[hg]
 simp only
 rw[uw h1 h2 k ((qO k 0 he).1 hk)]
def EntS.push{es:Th}{ks:List Ku}(he:EntS es ks)(k:Ku)(c:Nat):EntS (es++[{ key:=kvU k,val:=.bool true,born:=c }]) (ks++[k]):=by
 refine⟨by simp[he.1],λe hm=>?_⟩
 rcases qau.1 hm with hm|hm
 ·exact he.2 e hm
 ·simp only[qam]at hm
  subst hm;rfl
end
end Sx
namespace Sx
section
variable [Val] [Kno] {C:Cfg} {T:Tt}
abbrev K3:=Int×Int×Nat
def cc3(k:K3):Tl:=[.int .i64 k.1,.int .i64 k.2.1,.int .u8 (Int.ofNat k.2.2)]
def kv3(k:K3):Value:=.agg ⟨cc3 k⟩
abbrev kk3:TG:=[.i .i64,.i .i64,.i .u8]
def difK_3(a b:K3):difK kk3 (cc3 a) (cc3 b)=some (decide (a=b)):=by
 have e1:cS .i64 .i64=true:=rfl
 have e2:cS .u8 .u8=true:=rfl
 obtain⟨a1,a2,a3⟩:=a
 obtain⟨b1,b2,b3⟩:=b
 simp only[cc3,difK,e1,e2,jW,qbY]
 have e3:decide (Int.ofNat a3=Int.ofNat b3)=decide (a3=b3):=decide_eq_decide.2 ⟨λh=>qbP h,λh=>by rw[h]⟩
 rw[e3]
 by_cases h1:a1=b1<;>by_cases h2:a2=b2<;>by_cases h3:a3=b3<;>simp[h1,h2,h3]
def xj(k:K3):∀ {es:Th} {ks:List K3} (i:Nat),es.map (·.key)=ks.map kv3->fi kk3 (cc3 k) es i=some ((ks.idxOf? k).map (i + ·))
 | [],[],i,_=>rfl
 | [],_ :: _,i,h=>by simp at h
 |_ :: _,[],i,h=>by simp at h
 |e :: es,q :: ks,i,h=>by
  simp only[qas,qax]at h
  have ih:=xj k (i+1) h.2
  have hq:fi kk3 (cc3 k) (e :: es) i=if k=q then some (some i)else fi kk3 (cc3 k) es (i+1):=by
   simp only[fi,h.1,kv3]
   rw[difK_3]
   by_cases hk:k=q<;>simp[hk]
  rw[hq,List.idxOf?_cons]
  by_cases hk:k=q
  ·subst hk
   simp
  ·rw[qdE hk,ih,qdE (by simp;exact λe=>hk e.symm),qdx]
   congr 2
   funext j
   simp only[Function.comp];omega
variable {kt:TM} (h1:aggT C.P kt=some true) (h2:flatK C.P 10000 kt=some kk3)
include h1 h2
theorem sY(k:K3):keyF C.P kt (kv3 k)=true:=by
 have e1:cS .i64 .i64=true:=rfl
 have e2:cS .u8 .u8=true:=rfl
 unfold keyF kv3 cc3
 simp only[h1,h2,fq,e1,e2,jW]
 simp
theorem mW(k:K3){es:Th}{r:Tp}(hr:fi kk3 (cc3 k) es 0=some r):lH C.P kt (kv3 k) es=some r:=by
 unfold lH kv3
 simp only[h1,h2,jp,hr]
omit h1 h2 in
omit h1 h2 in
omit h1 h2 in
omit h1 h2 in
theorem fS{h:HL}{id c:Nat}{es:Th}(hm:h[id]?=some (.o (.map es c))):mapG (getH T h) id=some (es,c):=by
 unfold mapG
 rw[bB hm]
end
section
variable [Val] [Kno] {T:Tt}
end
end Sx
namespace Sx
section
variable [Val] [Kno] {C:Cfg} {Sg:Tb} {T:Tt}
def ns{α β:Type}(f:α->β):∀(l:List α) (j:Nat),(l.eraseIdx j).map f=(l.map f).eraseIdx j
 | [],_=>rfl
 |_ :: _,0=>rfl
 |a :: l,j+1=>by simp only[List.eraseIdx_cons_succ,qas,ns f l j]
def Set3(h:HL)(id:Nat)(ks:List K3):Prop:=∃es c,h[id]?=some (.o (.map es c))/\es.map (·.key)=ks.map kv3/\∀e∈es,e.val = .bool true
def Set3.keep{h h':HL}{id:Nat}{ks:List K3}(hs:Set3 h id ks)(hk:∀o,h[id]?=some o->h'[id]?=some o):Set3 h' id ks:=by
 obtain⟨es,c,h1,h2⟩:=hs
 exact⟨es,c,hk _ h1,h2⟩
def Set3.lt{h:HL}{id:Nat}{ks:List K3}(hs:Set3 h id ks):id<h.length:=by
 obtain⟨es,c,h1,_⟩:=hs
 exact av h1
variable {kt:TM} (h1:aggT C.P kt=some true) (h2:flatK C.P 10000 kt=some kk3)
include h1 h2
theorem r_lu3{h:HL}{id:Nat}{ks:List K3}{K:Te}(hs:Set3 h id ks)(k:K3)(hk:K [.bool (decide (k∈ks))]) :
  (PH C Sg T).peek (.fn (luG C kt false (.bool false) (.map (some id)) (kv3 k) false)) h (@hid _ ⟨K⟩):=by
 obtain⟨es,c,a1,a2,a3⟩:=hs
 refine dc (cs:=[.bool (decide (k∈ks))]) ?_ hk
 show luG C kt false (.bool false) (.map (some id)) (kv3 k) false (getH T h)=_
 unfold luG
 rw[sY h1 h2]
 simp only[qaI,qao,if_false]
 rw[fS a1]
 simp only
 rw[mW h1 h2 k (xj k 0 a2)]
 cases hi:ks.idxOf? k with
 |none=>
  rw[qdB (qb9.1 hi)]
  simp[ez]
 |some j=>
  obtain⟨hj,hjk,_⟩:=qcI.1 hi
  have hlen:es.length=ks.length:=by
   have:=congrArg List.length a2
   simpa using this
  have he:es[j]?=some (es[j]'(by omega)):=qai _
  have hv:=a3 _ (qb7 (show j<es.length by omega))
  rw[qdC (hjk▸qb7 hj)]
  simp only[qaC,qaL]
  have hv2:dy es j=some (.bool true):=by
   unfold dy
   rw[he]
   simp[hv]
  rw[hv2]
  simp[ez]
theorem r_mu3{h:HL}{id:Nat}{ks:List K3}{K:Ta}(hs:Set3 h id ks)(k:K3)(hk:∀o,Set3 (h.set id o) id (if k∈ks then ks else ks++[k])->K [] (h.set id o)) :
  (PH C Sg T).heap (.fn (muG C kt (.map (some id)) (kv3 k) (.bool true))) h (@hid _ ⟨K⟩):=by
 have hlt:=hs.lt
 obtain⟨es,c,a1,a2,a3⟩:=hs
 cases hi:ks.idxOf? k with
 |none=>
  have hn:k∉ks:=qb9.1 hi
  have hrun:(Hp.fn (muG C kt (.map (some id)) (kv3 k) (.bool true))).run (getH T h) h.length=some ([.set id (.map (es++[{ key:=kv3 k,val:=.bool true,born:=c }]) (c+1))],[]):=by
   show muG C kt (.map (some id)) (kv3 k) (.bool true) (getH T h) h.length=_
   unfold muG
   simp only
   rw[sY h1 h2]
   simp only[qaI,qao,if_false]
   rw[fS a1]
   simp only
   rw[mW h1 h2 k (xj k 0 a2),hi]
   rfl
  refine bC hrun (hk _ ?_)
  rw[qdE hn]
  refine⟨_,_,qaH hlt,by simp[a2],λe hm=>?_⟩
  rcases qau.1 hm with hm|hm
  ·exact a3 e hm
  ·simp only[qam]at hm
   subst hm;rfl
 |some j=>
  obtain⟨hj,hjk,_⟩:=qcI.1 hi
  have hm:k∈ks:=hjk▸qb7 hj
  have hlen:es.length=ks.length:=by
   have:=congrArg List.length a2
   simpa using this
  have he:es[j]?=some (es[j]'(by omega)):=qai _
  have hkey:(es[j]'(by omega)).key=kv3 k:=by
   have e1:(es.map (·.key))[j]?=(ks.map kv3)[j]?:=by rw[a2]
   rw[qaz,qaz,he,qai hj,hjk]at e1
   simpa using e1
  have hsb:Instr.sameBits 10000 (kv3 k) (kv3 k)=true:=by simp[kv3,cc3,Instr.sameBits]
  have hrun:(Hp.fn (muG C kt (.map (some id)) (kv3 k) (.bool true))).run (getH T h) h.length=some ([.set id (.map (es.modify j λe=>{ e with key:=kv3 k,val:=.bool true }) c)],[]):=by
   show muG C kt (.map (some id)) (kv3 k) (.bool true) (getH T h) h.length=_
   unfold muG
   simp only
   rw[sY h1 h2]
   simp only[qaI,qao,if_false]
   rw[fS a1]
   simp only
   rw[mW h1 h2 k (xj k 0 a2),hi]
   simp only[qaC,qaL]
   rw[he]
   simp only[Option.all_some,hkey,hsb,if_true]
  refine bC hrun (hk _ ?_)
  rw[qdD hm]
  refine⟨_,_,qaH hlt,?_,λe hme=>?_⟩
  ·rw[←a2]
   apply qa0
   intro i
   rw[qaz,qaz,qc0]
   by_cases hij:j=i
   ·subst hij
    rw[he]
    simp[hkey]
   ·simp[hij]
  ·obtain⟨i,hi'⟩:=qaM hme
   rw[qc0]at hi'
   by_cases hij:j=i
   ·subst hij
    rw[he]at hi'
    simp at hi'
    rw[←hi']
   ·simp[hij]at hi'
    exact a3 e (qab hi')
theorem r_de3{h:HL}{id:Nat}{ks:List K3}{K:Ta}(hs:Set3 h id ks)(k:K3)(hk:∀h',(h'=h∨∃o,h'=h.set id o)->Set3 h' id (ks.erase k)->K [] h') :
  (PH C Sg T).heap (.fn (deG C kt (.map (some id)) (kv3 k))) h (@hid _ ⟨K⟩):=by
 have hlt:=hs.lt
 have hs':=hs
 obtain⟨es,c,a1,a2,a3⟩:=hs
 cases hi:ks.idxOf? k with
 |none=>
  have hn:k∉ks:=qb9.1 hi
  have hrun:(Hp.fn (deG C kt (.map (some id)) (kv3 k))).run (getH T h) h.length=some ([],[]):=by
   show deG C kt (.map (some id)) (kv3 k) (getH T h) h.length=_
   unfold deG
   rw[sY h1 h2]
   simp only[qaI,qao,if_false]
   rw[fS a1]
   simp only
   rw[mW h1 h2 k (xj k 0 a2),hi]
   rfl
  refine bC hrun (hk _ (.inl rfl) ?_)
  rw[List.erase_of_not_mem hn]
  exact hs'
 |some j=>
  have hrun:(Hp.fn (deG C kt (.map (some id)) (kv3 k))).run (getH T h) h.length=some ([.set id (.map (es.eraseIdx j) c)],[]):=by
   show deG C kt (.map (some id)) (kv3 k) (getH T h) h.length=_
   unfold deG
   rw[sY h1 h2]
   simp only[qaI,qao,if_false]
   rw[fS a1]
   simp only
   rw[mW h1 h2 k (xj k 0 a2),hi]
   simp only[qaC,qaL]
  refine bC hrun (hk _ (.inr ⟨_,rfl⟩) ⟨_,_,qaH hlt,?_,λe he=>a3 e (List.mem_of_mem_eraseIdx he)⟩)
  have e1:ks.erase k=ks.eraseIdx j:=by
   rw[List.erase_eq_eraseIdx,hi]
  rw[e1,ns,a2,ns]
omit h1 h2 in
theorem r_len3{h:HL}{id:Nat}{ks:List K3}{K:Te}(hs:Set3 h id ks)(hk:K [.int .i64 (Int.ofNat ks.length)]):(PH C Sg T).peek (.fn (lenM (.map (some id)))) h (@hid _ ⟨K⟩):=by
 obtain⟨es,c,a1,a2,a3⟩:=hs
 have hlen:es.length=ks.length:=by
  have:=congrArg List.length a2
  simpa using this
 refine dc (cs:=[.int .i64 (Int.ofNat ks.length)]) ?_ hk
 show lenM (.map (some id)) (getH T h)=_
 unfold lenM
 simp only
 rw[bB a1]
 simp only
 rw[hlen]
 rfl
end
end Sx
end Go.Am
namespace Go.Am
open Sx Go.Proofs
def gr{g:TN}{sg:Sig}{cap:Tl}{ls rs:TE}{H H':Ts}{args:Tl}(hc:aw cc ab g ls H rs H')(hs:ab g=some sg)(xs:List S0)(h1:bZ xs sg.ps=true)(h2:cb xs=ls)(h3:ai xs=args++cap) :
  tY cc (.func (.func g) ⟨[]⟩ ⟨cap⟩) args sg.rs H rs H':=by
 obtain⟨sg',xs',ys,c1,c2,c3,c4⟩:=hc
 rw[hs]at c1
 cases c1
 obtain⟨w1,_⟩:=cF c2.1 h1 (c2.2.1.trans h2.symm)
 rw[w1,h3]at c4
 exact⟨ys,c3,.inl ⟨g,⟨[]⟩,⟨cap⟩,rfl,by simpa using c4⟩⟩
abbrev ptrB(b:Nat):Value:=.pointer (some ⟨b,0,none⟩)
def bv{h:HL}{b e:Nat}{cs:Tl}(hb:h[b]?=some (.o (.cells cs e true))):Ptr h (ptrB b) cs:=⟨b,0,cs,e,true,rfl,hb,Sx.cut_all rfl⟩
def eY(b:Nat):aS (ptrB b)=true:=by simp[aS,noLoc,aZ,bz,bp,aR,aI]
def cL{h:HL}{p:Value}{cs:Tl}{K:Te}{n:Nat}(hp:Ptr h p cs)(hn:cs.length=n)(hk:K cs):P1.peek (.lg cc n p) h (@hid _ ⟨K⟩):=dc (hp.lg hn) hk
def vZ{h:HL}{p:Value}{cs ds:Tl}{K:Te}{o n:Nat}(hp:Ptr h p cs)(hn:o+n<=cs.length)(hd:ds=(cs.drop o).take n)(hk:K ds) :
  P1.opt (fdP o p) (@hid _ ⟨λy=>P1.chk y (@hid _ ⟨P1.peek (.lg cc n y) h (@hid _ ⟨K⟩)⟩)⟩):=by
 subst hd
 obtain⟨q,h3,h4⟩:=hp.fd o n hn
 refine af h3 (ak h4.good (dc (h4.lg ?_) hk))
 rw[qaG,qbO];omega
def gi{h:HL}{b e:Nat}{vs new:Tl}{K:Ta}(hb:h[b]?=some (.o (.cells vs e true)))(hl:new.length=vs.length)(hk:K [] (h.set b (.o (.cells new e true)))):P1.heap (.st (ptrB b) new) h (@hid _ ⟨K⟩):=by
 have hrun:(Hp.st (ptrB b) new).run (getH aa h) h.length=some ([.set b (.cells new e true)],[]):=by
  show stP (ptrB b) new (getH aa h) h.length=_
  unfold stP
  simp only
  rw[bB hb]
  simp only
  unfold splice
  rw[qdD (by omega)]
  simp[hl]
 exact bC hrun hk
def ij{b:Td}{m:(TE->HL->Prop)->Prop}(P:Td)(h1:∀l h,P l h->b l h)(h2:∀j:TE->HL->Prop,(∀l h,P l h->j l h)->m j):P1.join (@hid _ ⟨b⟩) (@hid _ ⟨m⟩):=h2 _ h1
def vX{a b:Int}{K:Tn}(h:∀t,t=decide (a=b)->K t):P1.cmp .eql a b (@hid _ ⟨K⟩):=by
 show K (a==b)
 exact h _ (by rw[qbM];simp)
def dD{h:HL}{a b:HO}:(h++[a]).set h.length b=h++[b]:=by simp
def aH{h:HL}{a:HO}:(h++[a])[h.length]?=some a:=by simp
def bo{h:HL}{a:HO}{i:Nat}{o:HO}(hi:h[i]?=some o):(h++[a])[i]?=some o:=Pre.get ⟨_,rfl⟩ hi
def bn{h:HL}{a:HO}{i j:Nat}{o:HO}(hi:h[i]?=some o)(hne:j≠i):(h.set j a)[i]?=some o:=by
 rw[qaA hne];exact hi
def nc{h:HL}{a b:HO}{i:Nat}(hi:h[i]?=some a):(h.set i b)[i]?=some b:=qaH (av hi)
def Low(n0:Nat)(h h':HL):Prop:=∀(j:Nat) o,j<n0->h[j]?=some o->h'[j]?=some o
def Low.refl{n0:Nat}(h:HL):Low n0 h h:=λ_ _ _ h=>h
def Low.trans{n0:Nat}{a b c:HL}(h:Low n0 a b)(k:Low n0 b c):Low n0 a c:=λj o hj ho=>k j o hj (h j o hj ho)
def Low.app{n0:Nat}{a b:HL}(h:Low n0 a b)(G:HL):Low n0 a (b++G):=λj o hj ho=>Pre.get ⟨_,rfl⟩ (h j o hj ho)
def Low.set{n0:Nat}{a b:HL}(h:Low n0 a b){i:Nat}(hi:n0<=i)(o:HO):Low n0 a (b.set i o):=λj o' hj ho=>bn (h j o' hj ho) (by omega)
def Low.le{n0 n1:Nat}{a b:HL}(h:Low n0 a b)(hn:n1<=n0):Low n1 a b:=λj o hj ho=>h j o (by omega) ho
def Low.ls{α:Type}{n0:Nat}{h h':HL}(hl:Low n0 h h'){v:Value}{e:Nat}{enc:α->Tl}{l:List α}(hs:LsH h v e enc l)(hb:∀i,blk v=some i->i<n0):LsH h' v e enc l:=hs.keep λj o ho hj=>hl j o (hb j hj) ho
def Sx.LsH.blkLt{α:Type}{h:HL}{v:Value}{e:Nat}{enc:α->Tl}{l:List α}(hs:LsH h v e enc l){i:Nat}(hb:blk v=some i):i<h.length:=by
 obtain⟨_,_,⟨rfl,_⟩|⟨id,off,cx,vs,rw',rfl,h2,_⟩⟩:=hs
 ·cases hb
 ·cases hb
  exact av h2
def Sx.LsH.low{α:Type}{h h':HL}{v:Value}{e:Nat}{enc:α->Tl}{l:List α}(hs:LsH h v e enc l)(hl:Low h.length h h'):LsH h' v e enc l:=hl.ls hs λ_ hb=>hs.blkLt hb
def cB(a:K3):(cc3 a).length=3:=rfl
def eqs3{a b:K3}{K:Tn}:P1.eqs [(.i a.1,.i b.1),(.i a.2.1,.i b.2.1),(.i (Int.ofNat a.2.2),.i (Int.ofNat b.2.2))] (@hid _ ⟨K⟩)=K (decide (a=b)):=by
 show K (ch _)=_
 have e:ch [(.i a.1,.i b.1),(.i a.2.1,.i b.2.1),(.i (Int.ofNat a.2.2),.i (Int.ofNat b.2.2))]=decide (a=b):=by
  rw[qbM]
  simp[ch,gF,Prod.ext_iff]
  intro _ _
  omega
 rw[e]
def OwnL{α:Type}(n0:Nat)(h:HL)(v:Value)(e:Nat)(enc:α->Tl)(l:List α):Prop:=
 (v = .slice none 0 0/\l=[])∨∃id cx,v = .slice (some ⟨id,0,tag e⟩) l.length cx/\n0<=id/\h[id]?=some (.o (.cells (l.flatMap enc) e true))/\(cx=0∨cx=l.length+1)
section
variable {α:Type} {n0 e:Nat} {enc:α->Tl} {l:List α} {h:HL} {v:Value}
def OwnL.nil(n0:Nat)(h:HL)(e:Nat)(enc:α->Tl):OwnL n0 h (.slice none 0 0) e enc []:=.inl ⟨rfl,rfl⟩
def OwnL.ls(henc:∀a,(enc a).length=e)(ho:OwnL n0 h v e enc l):LsH h v e enc l:=by
 have hl:=aD (e:=e) (enc:=enc) (l:=l) λa _=>henc a
 rcases ho with⟨rfl,rfl⟩|⟨id,cx,rfl,_,h2,_⟩
 ·exact LsH.nil h e enc
 ·exact⟨λa _=>henc a,hl,.inr ⟨id,0,cx,_,true,rfl,h2,Sx.cut_all hl⟩⟩
def OwnL.keep{h':HL}(ho:OwnL n0 h v e enc l)(hk:∀(j:Nat) o,h[j]?=some o->blk v=some j->h'[j]?=some o):OwnL n0 h' v e enc l:=by
 rcases ho with h0|⟨id,cx,rfl,h1,h2,h3⟩
 ·exact .inl h0
 ·exact .inr ⟨id,cx,rfl,h1,hk _ _ h2 rfl,h3⟩
def OwnL.app(ho:OwnL n0 h v e enc l)(G:HL):OwnL n0 (h++G) v e enc l:=ho.keep λ_ _ h _=>Pre.get ⟨_,rfl⟩ h
def OwnL.blk(ho:OwnL n0 h v e enc l){j:Nat}(hb:blk v=some j):n0<=j/\j<h.length:=by
 rcases ho with⟨rfl,_⟩|⟨id,cx,rfl,h1,h2,_⟩
 ·cases hb
 ·cases hb
  exact⟨h1,av h2⟩
def OwnL.good(henc:∀a,(enc a).length=e)(ho:OwnL n0 h v e enc l):aS v=true:=(ho.ls henc).good
def OwnL.ap{bytes k:Nat}{x:Value}{new:List α}{K:Ta}(henc:∀a,(enc a).length=e)(ho:OwnL n0 h v e enc l)(hn0:n0<=h.length)(hx:slG cc e (getH aa h) x=some (new.flatMap enc,k))(hkn:k=new.length)(hs:bJ (l.length+k) bytes=true)
  (hk:∀v' h',OwnL n0 h' v' e enc (l++new)->aS v'=true->(∀(j:Nat) o,h[j]?=some o->Sx.blk v≠some j->h'[j]?=some o)->h.length<=h'.length->(Sx.blk v'=Sx.blk v∨∃j,Sx.blk v'=some j/\h.length<=j)->K [v'] h') :
  P1.heap (.ap cc e bytes v x) h (@hid _ ⟨K⟩):=by
 subst hkn
 have hll:(l++new).length=l.length+new.length:=qaB
 have hfm:l.flatMap enc++new.flatMap enc=(l++new).flatMap enc:=by simp
 have gd:∀i n c,aS (.slice (some ⟨i,0,tag e⟩) n c)=true:=λi n c=>by simp[aS,noLoc,aZ,bz,bp,aR,aI,tag]
 rcases ho with⟨rfl,rfl⟩|⟨id,cx,rfl,h1,h2,h3⟩
 ·by_cases hk0:new.length=0
  ·have hnil:new=[]:=qbg.1 hk0
   subst hnil
   have hrun:(Hp.ap cc e bytes (.slice none 0 0) x).run (getH aa h) h.length=some ([],[.slice none 0 0]):=by
    show apG cc e bytes (.slice none 0 0) x (getH aa h) h.length=_
    unfold apG
    rw[hx]
    rfl
   exact bC hrun (hk _ _ (.inl ⟨rfl,rfl⟩) rfl (λj o hj _=>hj) (qaf _) (.inl rfl))
  ·have hrun:(Hp.ap cc e bytes (.slice none 0 0) x).run (getH aa h) h.length=some ([.push (.cells (new.flatMap enc) e true)],[.slice (some ⟨h.length,0,tag e⟩) new.length 0]):=by
    show apG cc e bytes (.slice none 0 0) x (getH aa h) h.length=_
    unfold apG
    rw[hx]
    simp only[qdE hk0]
    rw[qbA,qaL]at hs
    rw[qdD hs]
   refine bC hrun (hk _ _ (.inr ⟨h.length,0,by simp,hn0,by simp[cz,Act1.onH],.inl rfl⟩) (gd _ _ _) (λj o hj _=>Pre.get ⟨_,rfl⟩ hj) (by simp[cz,Act1.onH]) (.inr ⟨h.length,rfl,qaf _⟩))
 ·have hcut:cut (l.flatMap enc) 0 (l.length*e)=some (l.flatMap enc):=Sx.cut_all (aD λa _=>henc a)
  have hlt:=av h2
  rcases h3 with rfl|rfl
  ·by_cases hk0:new.length=0
   ·have hnil:new=[]:=qbg.1 hk0
    subst hnil
    have hrun:(Hp.ap cc e bytes (.slice (some ⟨id,0,tag e⟩) l.length 0) x).run (getH aa h) h.length=some ([],[.slice (some ⟨id,0,tag e⟩) l.length 0]):=by
     show apG cc e bytes (.slice (some ⟨id,0,tag e⟩) l.length 0) x (getH aa h) h.length=_
     unfold apG
     rw[hx]
     simp only[ne_eq,not_true_eq_false,if_false]
     rw[bB h2]
     simp only[ne_eq,not_true_eq_false,if_false]
     rw[hcut]
     rfl
    exact bC hrun (hk _ _ (.inr ⟨id,0,by simp,h1,by simpa[cz]using h2,.inl rfl⟩) (gd _ _ _) (λj o hj _=>hj) (qaf _) (.inl rfl))
   ·have hrun:(Hp.ap cc e bytes (.slice (some ⟨id,0,tag e⟩) l.length 0) x).run (getH aa h) h.length=some ([.set id .dead,.push (.cells ((l++new).flatMap enc) e true)],[.slice (some ⟨h.length,0,tag e⟩) (l.length+new.length) 0]):=by
     show apG cc e bytes (.slice (some ⟨id,0,tag e⟩) l.length 0) x (getH aa h) h.length=_
     unfold apG
     rw[hx]
     simp only[ne_eq,not_true_eq_false,if_false]
     rw[bB h2]
     simp only[ne_eq,not_true_eq_false,if_false]
     rw[hcut]
     simp only[qdE hk0,qdk]
     rw[qdD hs,hfm]
    have e1:cz h [.set id .dead,.push (.cells ((l++new).flatMap enc) e true)]=h.set id (.o .dead)++[.o (.cells ((l++new).flatMap enc) e true)]:=rfl
    refine bC hrun ?_
    rw[e1]
    refine hk _ _ (.inr ⟨h.length,0,by rw[hll],hn0,?_,.inl rfl⟩) (gd _ _ _) (λj o hj hb=>?_) (by simp) (.inr ⟨h.length,rfl,qaf _⟩)
    ·rw[qan (by simp)]
     simp
    ·exact bo (bn hj λe=>hb (by subst e;rfl))
  ·by_cases hk0:l.length+new.length<=l.length
   ·have hnil:new=[]:=qbg.1 (by omega)
    subst hnil
    have hrun:(Hp.ap cc e bytes (.slice (some ⟨id,0,tag e⟩) l.length (l.length+1)) x).run (getH aa h) h.length=some ([.set id (.cells (l.flatMap enc) e true)],[.slice (some ⟨id,0,tag e⟩) l.length (l.length+1)]):=by
     show apG cc e bytes (.slice (some ⟨id,0,tag e⟩) l.length (l.length+1)) x (getH aa h) h.length=_
     unfold apG
     rw[hx]
     simp only[ne_eq,not_true_eq_false,if_false]
     rw[bB h2]
     simp only[ne_eq,not_true_eq_false,if_false]
     rw[hcut]
     simp only[qbA,qca,qaf,if_true]
     unfold splice
     have hl:=aD (e:=e) (enc:=enc) (l:=l) λa _=>henc a
     simp[hl]
    have e1:cz h [.set id (.cells (l.flatMap enc) e true)]=h:=eK h2
    refine bC hrun ?_
    rw[e1]
    exact hk _ _ (.inr ⟨id,l.length+1,by simp,h1,by simpa using h2,.inr (by simp)⟩) (gd _ _ _) (λj o hj _=>hj) (qaf _) (.inl rfl)
   ·have hrun:(Hp.ap cc e bytes (.slice (some ⟨id,0,tag e⟩) l.length (l.length+1)) x).run (getH aa h) h.length=some ([.push (.cells ((l++new).flatMap enc) e true)],[.slice (some ⟨h.length,0,tag e⟩) (l.length+new.length) 0]):=by
     show apG cc e bytes (.slice (some ⟨id,0,tag e⟩) l.length (l.length+1)) x (getH aa h) h.length=_
     unfold apG
     rw[hx]
     simp only[ne_eq,not_true_eq_false,if_false]
     rw[bB h2]
     simp only[ne_eq,not_true_eq_false,if_false]
     rw[hcut]
     simp only[qdE hk0]
     rw[qdD hs,hfm]
    refine bC hrun (hk _ _ (.inr ⟨h.length,0,by rw[hll],hn0,by simp[cz,Act1.onH],.inl rfl⟩) (gd _ _ _) (λj o hj _=>Pre.get ⟨_,rfl⟩ hj) (by simp[cz,Act1.onH]) (.inr ⟨h.length,rfl,qaf _⟩))
def OwnL.ap1{bytes m:Nat}{a:α}{new:Tl}{sp:Tp}{K:Ta}(henc:∀a,(enc a).length=e)(ho:OwnL n0 h v e enc l)(hn0:n0<=h.length)(hm:m=h.length)(hnew:new=enc a)(hsp:sp=some (e+10))(hs:bJ (l.length+1) bytes=true)
  (hk:∀v' h',OwnL n0 h' v' e enc (l++[a])->aS v'=true->(∀(j:Nat) o,h[j]?=some o->Sx.blk v≠some j->h'[j]?=some o)->h.length<=h'.length->(Sx.blk v'=Sx.blk v∨∃j,Sx.blk v'=some j/\h.length<=j)->K [v'] h') :
  P1.heap (.ap cc e bytes v (.slice (some ⟨m,0,sp⟩) 1 2)) (h++[.o (.cells new e true)]) (@hid _ ⟨K⟩):=by
 subst hm hnew hsp
 have ho':OwnL n0 (h++[HO.o (.cells (enc a) e true)]) v e enc l:=ho.app _
 refine ho'.ap (new:=[a]) (k:=1) henc (by simp;omega) ?_ rfl hs λv' h' a1 a2 a3 a4 a5=>hk v' h' a1 a2 (λj o hj hb=>a3 j o (bo hj) hb) (by simp at a4;omega) ?_
 ·have hx:SlC (h++[HO.o (.cells (enc a) e true)]) (.slice (some ⟨h.length,0,tag e⟩) 1 2) e 1 (enc a):=⟨by rw[henc,qcd],.inr ⟨h.length,0,2,enc a,true,rfl,aH,Sx.cut_all (by rw[henc,qcd])⟩⟩
  have h1:slG cc e (getH aa (h++[HO.o (.cells (enc a) e true)])) (.slice (some ⟨h.length,0,tag e⟩) 1 2)=some ([a].flatMap enc,1):=by
   rw[tS hx]
   simp
  exact h1
 ·rcases a5 with a5|⟨j,h1,h2⟩
  ·exact .inl a5
  ·exact .inr ⟨j,h1,by simp at h2;omega⟩
end
namespace St
def ltC(a b:Crs):Bool:=decide (a.1<b.1)||(decide (a.1=b.1)&&decide (a.2.1<b.2.1))
def cK(c:Crs):Ku:=(c.1,c.2.1)
def isCr(l:TD)(u e:Nat):Bool:=decide (((Int.ofNat u,Int.ofNat e):Ku)∈l.map cK)
def SetM(H:HL)(id:Nat)(l:TD):Prop:=∃es c,H[id]?=some (.o (.map es c))/\EntS es (l.map cK)
def creased_c{H:HL}{w v:Int}{x:Value}{l:TD}(hl:LsH H x 3 encC l)(hn:(l.map cK).Nodup)(hb:l.length<=1000) :
  ∃G,aw cc ab 102 [.i w,.i v,.v x] (absH aa H) [.v (.map (some H.length))] (absH aa (H++[G]))/\SetM (H++[G]) H.length l:=by
 obtain⟨rs,h',h1,rfl,G,rfl,hS⟩:=x102 (K:=λrs h'=>rs=[.v (.map (some H.length))]/\∃G,h'=H++[G]/\SetM h' H.length l) (H:=H) (glsI (glsI (glsV hl.good gls0))) (by
  unfold f102;simp only[qxh]
  refine p_x ?_
  refine bI hl ?_
  refine p_x ?_
  refine bI hl ?_
  refine bG (σ:=HO) l.length (λj _=>[.i (Int.ofNat j)]) (λ_ G=>H++[G]) (λj G=>SetM (H++[G]) H.length (l.take j)) (j0:=0) (s0:=.o (.map [] 0)) rfl rfl (qaO _) ⟨[],0,by simp,rfl,λe h=>(by cases h)⟩ ?_
  rintro j G hj ⟨es,c,g1,g2⟩ self hself
  refine p_x ?_
  by_cases hlt:j<l.length
  ·rw[bf hlt]
   refine p_x ?_
   obtain⟨a,ha⟩:=aP hlt
   have hl':=hl.pre (h':=H++[G]) ⟨[G],rfl⟩
   refine bQ hl' rfl ha ?_
   unfold encC
   refine p_x ?_
   have hk:cK a∉(l.take j).map cK:=by
    intro hm
    rw[qcf]at hm
    have hnd:=hn
    have h3:(l.map cK)[j]?=some (cK a):=by rw[qaz,ha];rfl
    have h4:l.map cK=(l.map cK).take j++cK a :: (l.map cK).drop (j+1):=by
     conv=>lhs;rw[←qbt j (l.map cK)]
     rw[qa9 (by rw[qay];exact hlt)]
     congr 2
     rw[qai (by rw[qay];exact hlt)]at h3
     exact qae h3
    rw[h4,qb2]at hnd
    exact hnd.2.2 _ hm _ qaE rfl
   refine bC (mu_set (C:=cc) (T:=aa) (n:=(H++[G]).length) (by kernel_rfl) (by kernel_rfl) g1 g2 hk) ?_
   rw[bg (by omega)]
   have e:cz (H++[G]) [.set H.length (.map (es++[{ key:=kvU (cK a),val:=.bool true,born:=c }]) (c+1))]=H++[.o (.map (es++[{ key:=kvU (cK a),val:=.bool true,born:=c }]) (c+1))]:=by
    show(H++[G]).set H.length _=_
    simp
   rw[e]
   refine hself _ hlt ⟨es++[{ key:=kvU (cK a),val:=.bool true,born:=c }],c+1,by simp,?_⟩
   have ht:(l.take (j+1)).map cK=(l.take j).map cK++[cK a]:=by
    rw[qbC,ha,qbB];rfl
   rw[ht]
   exact g2.push _ _
  ·obtain rfl:j=l.length:=by omega
   rw[bj (qaf _)]
   refine p_x ?_
   refine⟨by trivial,G,rfl,?_⟩
   rw[qbJ]at g2
   exact⟨es,c,g1,g2⟩)
 exact⟨G,h1,hS⟩
def encM(m:Mv):Tl:=[.int .u8 (Int.ofNat m.1),.int .i64 m.2.1,.int .i64 m.2.2]
def fJ(m:Mv):(encM m).length=3:=rfl
def acM(w:Nat)(l:TD)(g:Mv)(c n e:Nat):Mv:=if isCr l (min c n) e then cE (ofM (lnC3 (clN w (min c n)) e)) g else g
def across_c{w v:Nat}(hs:Sh w v){l:TD}{h:HL}{x pp pm po sl:Value}{mid:Nat}{G:List Mv}(hP:Ptr h pp [.int .i64 (.ofNat w),.int .i64 (.ofNat v),x])(hM:Ptr h pm [.map (some mid)])(hS:SetM h mid l)(hO:Ptr h po [sl])(hG:LsH h sl 3 encM G)
  {c e n:Nat} (hc:c<4*w*v) (he:e<3) (hn:nbr w v c e=some n) {g:Mv} (hg:G[c]?=some g) {k:Int} (hk:okM k g) (hk0:0<=k/\k<=16000) :
  aw cc ab 104 [.i (.ofNat c),.i (.ofNat e),.v pp,.v pm,.v po] (absH aa h) (mvl (acM w l g c n e)) (absH aa h):=by
 obtain⟨es,c0,m1,m2⟩:=hS
 obtain⟨hu,hln⟩:=name_nb hs hc he hn
 have hlk:=ln_ok hs hc he
 rw[←hln]at hlk
 have hname:=name_c hs hc he hn
 exact xK x104 (glsI (glsI (glsV hP.good (glsV hM.good (glsV hO.good gls0))))) (by
  unfold f104;simp only[qxh]
  repeat (first|simp(disch:=omega)only[↓qXX]|refine vZ (ds:=[.int .i64 (.ofNat w),.int .i64 (.ofNat v)]) hP (by simp) rfl ?_|refine ac hname ?_|refine cL hM rfl ?_|refine ak rfl ?_|refine dc (lu_set (C:=cc) (T:=aa) (by kernel_rfl) (by kernel_rfl) m1 m2 (Int.ofNat (min c n),Int.ofNat e)) ?_)
  unfold acM isCr
  by_cases hcr:((Int.ofNat (min c n),Int.ofNat e):Ku)∈l.map cK
  ·rw[qdC hcr]
   repeat (first|simp(disch:=omega)only[↓qXX,qaI,if_true]|refine vZ (ds:=[.int .i64 (.ofNat w),.int .i64 (.ofNat v)]) hP (by simp) rfl ?_|refine ac (ln_c hs hu) ?_)
   refine ac (mlof_c ⟨hlk.1,hlk.2.1⟩ ⟨by omega,by omega⟩) ?_
   simp only[mvl,qa8,qa3]
   repeat (first|simp(disch:=omega)only[↓qXX]|refine cL hO rfl ?_|refine ak hG.good ?_)
   refine bQ hG rfl hg ?_
   unfold encM
   refine p_x ?_
   refine ac (then_c (ofM_ok (n:=61) ⟨hlk.2.2.1,hlk.2.2.2⟩) hk (by omega)) ?_
   simp only[mvl,qa8,qa3]
   simp(disch:=omega)only[↓qXX]
   trivial
  ·rw[qdB hcr]
   repeat (first|simp(disch:=omega)only[↓qXX,qba,qao,if_false]|refine cL hO rfl ?_|refine ak hG.good ?_)
   refine bQ hG rfl hg ?_
   unfold encM
   simp(disch:=omega)only[↓qXX]
   trivial)
end St
end Go.Am
end

/-
  PART 2 OF THE PROOF (no conditions).
-/
import Derived.Test.YteapjkmnfbpidaaGreatDoorST1
import Derived.Test.YteapjkmnfbpidaaGreatDoorProg
set_option linter.unusedSectionVars false
set_option linter.unusedSimpArgs false
set_option linter.unusedVariables false
set_option linter.constructorNameAsVariable false
set_option linter.defProp false
noncomputable section
set_option maxRecDepth 100000
namespace Go.Am
section
variable [Val]
section
variable [Glo] {C:Cfg} {base:Nat} {H₀:Ts} {mu₀:HMap} {w₀:World} {la:LMap} {mu:HMap} {σ:St} {a:Act} {w:World}
def dW(keys:Tz):∀(l:List (Option (Tl))) (i j:Nat),(fE keys l i)[j]?=if keys.contains (i+j)then(l[j]?).map (λ_=>none)else l[j]?
 | [],i,j=>by simp[fE]
 |x :: l,i,j=>by
  cases j with
  |zero=>simp only[fE,qa7,qcD];split<;>rfl
  |succ j=>
   simp only[fE,qa6]
   rw[dW keys l (i+1) j,show i+1+j=i+(j+1)by omega]
def clearV_ok{keys:Tz}{v c:Value}(h:VR la mu v c):VR (λs=>if keys.contains s then none else la s) mu (gF keys v) c:=by
 unfold gF
 split
 next ad=>
  split
  ·exact .poison c
  next hn=>
   cases h with
   |scalar h=>simp[Am.scalar]at h
   |lptr h=>
    simp at hn
    exact .lptr (by simp[hn,h])
   |hptr h=>exact .hptr h
   |gptr=>exact .gptr
 ·split
  next hl=>exact(df hl h).up
  ·exact .poison c
def FI.clear(h:FI C base H₀ mu₀ w₀ la mu σ a w)(keys:Tz):∃la',FI C base H₀ mu₀ w₀ la' mu (σ.clear keys) a w:=by
 unfold St.clear
 split
 ·exact⟨la,h⟩
 ·refine⟨λs=>if keys.contains s then none else la s,⟨?_,?_,?_,?_,h.sr.wr⟩,h.evo,?_,h.marks,h.low⟩
  ·refine⟨by simpa using h.sr.vals.1,λi x y hx hy=>?_⟩
   rw[qaA]at hx
   cases hv:σ.tmps[i]? with
   |none=>rw[hv]at hx;cases hx
   |some v=>
    rw[hv]at hx
    cases hx
    exact clearV_ok (h.sr.vals.2 i v y hv hy)
  ·intro s b hb
   split at hb
   ·cases hb
   next hk=>
    obtain⟨vs,h1⟩:=h.sr.ldom s b hb
    exact⟨vs,by rw[dW,qaF,qdr hk];exact h1⟩
  ·intro s vs hs
   rw[dW,qaF]at hs
   split at hs
   ·cases hl:σ.loc[s]? with
    |none=>rw[hl]at hs;cases hs
    |some x=>rw[hl]at hs;cases hs
   next hk=>
    obtain⟨b,c,e,h1,h2⟩:=h.sr.loc s vs hs
    exact⟨b,c,e,by show(if _ then none else la s)=_;rw[qdr hk];exact h1,h2⟩
  ·intro s s' b hs hs'
   split at hs
   ·cases hs
   ·split at hs'
    ·cases hs'
    ·exact h.sr.linj s s' b hs hs'
  ·intro s b hb
   split at hb
   ·cases hb
   ·exact h.fresh s b hb
def FI.drew(h:FI C base H₀ mu₀ w₀ la mu σ a w)(n:Nat)(hn:w.drawn<=n):FI C base H₀ mu₀ w₀ la mu σ a { w with drawn:=n }:=
 ⟨⟨h.sr.vals,h.sr.ldom,h.sr.loc,h.sr.linj,h.sr.wr.drew n⟩,h.evo.drew n hn,h.fresh,h.marks,h.low⟩
def tb{P:TC}{b:Frame}{a:Act}{k:Ty}{cs:List Frame}{w:World}{c:Code} :
  step P (lone (b.atR a (.code (.scope c) :: k)) cs w) = .next (lone (b.atR a (.code c :: .inScope c :: k)) cs w):=
 step_lone_go (by simp[stepG,stepG.exec,Frame.atR])
def pT{P:TC}{b:Frame}{a:Act}{k:Ty}{cs:List Frame}{w:World}{c:Code} :
  step P (lone (b.atR a (.inScope c :: k)) cs w) = .next (lone (b.atR a k) cs w):=
 step_lone_go (by simp[stepG,stepG.exec,Frame.atR])
def Arr(P:TC)(b:Frame)(k:Ty)(cs:List Frame)(m:Machine)(a':Act)(w':World):Exit->Prop
 | .normal=>Steps P m (lone (b.atR a' k) cs w')
 | .ret=>∃todo,Steps P m (lone (b.atR a' (.code .ret :: todo)) cs w')
 | .exit id=>∃todo,Steps P m (lone (b.atR a' (.code (.exit id) :: todo)) cs w')/\exitTo id todo=exitTo id k
 |_=>False
def Arr.of_steps{P:TC}{b:Frame}{k:Ty}{cs:List Frame}{m m₁:Machine}{a':Act}{w':World}{e:Exit}(h:Steps P m m₁)(h':Arr P b k cs m₁ a' w' e):Arr P b k cs m a' w' e:=by
 cases e with
 |normal=>exact h.trans h'
 |ret=>obtain⟨t,h'⟩:=h';exact⟨t,h.trans h'⟩
 |exit id=>obtain⟨t,h',h''⟩:=h';exact⟨t,h.trans h',h''⟩
 |_=>exact h'.elim
def Arr.pass{P:TC}{b:Frame}{x:Item}{k:Ty}{cs:List Frame}{m:Machine}{a':Act}{w':World}{e:Exit}(hx:∀id,exitTo id (x :: k)=exitTo id k)(hn:e≠.normal)(h:Arr P b (x :: k) cs m a' w' e):Arr P b k cs m a' w' e:=by
 cases e with
 |normal=>exact absurd rfl hn
 |ret=>exact h
 |exit id=>obtain⟨t,h',h''⟩:=h;exact⟨t,h',by rw[h'',hx]⟩
 |_=>exact h.elim
end
def mX(C:Cfg)(S:Sems):Prop:=
 ∀(_:Glo) (base:Nat) (H₀:Ts) (mu₀:HMap) (w₀:World) (ro:Tp) (fn:TJ) (pts:Tz) (code:Code) (σ σ':St) (e:Exit) (la:LMap) (mu:HMap) (a:Act) (w:World),(pts≠[]->ro=none)->
  S.ex pts code σ e σ'->FI C base H₀ mu₀ w₀ la mu σ a w->∀(b:Frame) k cs,b.roundOf=ro->b.fn=fn->
  ∃a' w' la' mu',FI C base H₀ mu₀ w₀ la' mu' σ' a' w'/\Arr C.P b k cs (lone (b.atR a (.code code :: k)) cs w) a' w' e
section
variable [Glo] {C:Cfg} {base:Nat} {H₀:Ts} {mu₀:HMap} {w₀:World} {la:LMap} {mu:HMap} {σ:St} {a:Act} {w:World}
def kL(hw:WR C base mu σ.heap w){id:Nat}{r:ALoop}(h:dG σ.heap id=some r):∃p,mu id=some p/\σ.heap[id]?=some (.loop r)/\
  ∃L:Loop,w.heap[p.b]?=some (.loop L)/\L.state=r.state/\L.pending=r.pending/\L.params.toList=r.params/\L.assign=r.assign/\L.body=r.body/\VRs noL mu r.tmps L.tmps.toList:=by
 unfold dG at h
 split at h
 next r' hid=>
  cases h
  obtain⟨p,hp,hr⟩:=hw.obj id _ hid rfl
  exact⟨p,hp,hid,hr⟩
 ·cases h
def WR.setLoop(hw:WR C base mu σ.heap w){id:Nat}{r r':ALoop}{p:Pl}{L':Loop}(hid:σ.heap[id]?=some (.loop r))(hp:mu id=some p)
  (h1:L'.state=r'.state) (h2:L'.pending=r'.pending) (h3:L'.params.toList=r'.params) (h4:L'.assign=r'.assign) (h5:L'.body=r'.body) (h6:VRs noL mu r'.tmps L'.tmps.toList) :
  WR C base mu (σ.heap.set id (.loop r')) { w with heap:=w.heap.setIfInBounds p.b (.loop L') }/\Evo σ.heap mu w (σ.heap.set id (.loop r')) mu { w with heap:=w.heap.setIfInBounds p.b (.loop L') }:=
 hw.set (w':={ w with heap:=w.heap.setIfInBounds p.b (.loop L') }) (x:=.loop L') hid rfl hp rfl rfl rfl rfl (.loop r') (λ_=>rfl) ⟨L',rfl,h1,h2,h3,h4,h5,h6⟩
def snapOf_ok{tmps tm:Tl}{cs:Tl}(hs:tr tmps tm)(h:VRs la mu tmps cs):VRs noL mu tm cs:=by
 refine⟨by rw[hs.1,h.1],λi x y hx hy=>?_⟩
 rcases hs.2 i x hx with rfl|⟨h1,h2⟩
 ·exact .poison y
 ·exact df h2 (h.2 i x y h1 hy)
def WR.other(hw:WR C base mu σ.heap w)(o:Obj):WR C base mu σ.heap (w.alloc o)/\Evo σ.heap mu w σ.heap mu (w.alloc o):=by
 have hold:∀b,b<w.heap.size->(w.alloc o).heap[b]?=w.heap[b]?:=λb hb=>by
  show(w.heap.push _)[b]?=_
  rw[qbQ,qdr (by omega)]
 refine⟨⟨?_,hw.inj,hw.own,hw.ro,hw.dom,?_⟩,⟨qam _,λ_ _=>rfl,by simp,λb hb _=>hold b hb,λb hb=>.inr hb,rfl,rfl,rfl,qam _⟩⟩
 ·intro id x hid ha
  obtain⟨p,h1,h2⟩:=hw.obj id x hid ha
  exact⟨p,h1,by rw[hold _ (lY ha h2)];exact h2⟩
 ·intro g vs hg
  obtain⟨h1,h2,c,e',fr,h3,h4⟩:=hw.glob g vs hg
  exact⟨h1,h2,c,e',fr,by rw[hold _ (qaz.1 h3).1];exact h3,h4⟩
def ff{l:Nat}{L:Loop}(h:w.heap[l]?=some (.loop L)):(Instr.getLoop l).run C.P w = .ok L w:=by
 have:(getObj l).run C.P w = .ok (.loop L) w:=by simp[getObj,Sem.run,h]
 simp[Instr.getLoop,this]
def gY{l:Nat}{L:Loop}{o:Obj}(h:w.heap[l]?=some (.loop L)):(setObj l o).run C.P w = .ok () { w with heap:=w.heap.setIfInBounds l o }:=by
 simp[setObj,Sem.run,h]
def sP{l:Nat}{L:Loop}(h:w.heap[l]?=some (.loop L))(hb:L.state≠.busy) :
  (Instr.endLoop l).run C.P w = .ok L.pending { w with heap:=w.heap.setIfInBounds l (.loop { L with state:=.exhausted }) }:=by
 simp[Instr.endLoop,Sem.run_bind,ff h,gY h,Result.andThen]
 exact λh=>absurd h hb
def mU{l:Nat}{L:Loop}(h:w.heap[l]?=some (.loop L))(hb:L.state = .ready) :
  (Instr.beginRound l).run C.P w = .ok () { w with heap:=w.heap.setIfInBounds l (.loop { L with state:=.busy }) }:=by
 simp[Instr.beginRound,Sem.run_bind,ff h,hb,gY h,Result.andThen]
def rB{l:Nat}{L:Loop}(h:w.heap[l]?=some (.loop L))(j:Tk) :
  (Instr.endRound l j).run C.P w = .ok (.bool j.isNone) { w with heap:=w.heap.setIfInBounds l (.loop { L with state:=if j.isNone then .ready else .done,pending:=j }) }:=by
 simp[Instr.endRound,Sem.run_bind,ff h,gY h,Result.andThen]
end
section
variable {C:Cfg}
def code_next(hm:C.P.follows .mixedOrders=true){S:Sems}(hB:BOk C S.toBelow)(hS:mX C S):mX C { S with ex:=lE C S }:=by
 intro _ base H₀ mu₀ w₀ ro fn pts code σ σ' e la mu a w hro hex h b k cs hb hf
 cases code with
 |skip=>
  obtain⟨rfl,rfl⟩:=hex
  exact⟨a,w,la,mu,h,.one stepR_skip⟩
 |label l=>
  obtain⟨rfl,rfl⟩:=hex
  exact⟨a,w,la,mu,h,.one stepR_label⟩
 |ret=>
  obtain⟨rfl,rfl⟩:=hex
  exact⟨a,w,la,mu,h,⟨k,.refl _ _⟩⟩
 |exit id=>
  obtain⟨rfl,rfl⟩:=hex
  exact⟨a,w,la,mu,h,⟨k,.refl _ _,rfl⟩⟩
 |goto l=>exact hex.elim
 |refuse s=>exact hex.elim
 |seq x y=>
  obtain⟨e₁,σ₁,h1,h2⟩:=hex
  obtain⟨a₁,w₁,la₁,mu₁,g1,g2⟩:=hS _ base H₀ mu₀ w₀ ro fn pts x σ σ₁ e₁ la mu a w hro h1 h b (.code y :: k) cs hb hf
  rcases h2 with⟨rfl,h2⟩|⟨hne,rfl,rfl⟩
  ·obtain⟨a₂,w₂,la₂,mu₂,g3,g4⟩:=hS _ base H₀ mu₀ w₀ ro fn pts y σ₁ σ' e la₁ mu₁ a₁ w₁ hro h2 g1 b k cs hb hf
   exact⟨a₂,w₂,la₂,mu₂,g3,.of_steps (.head stepR_seq g2) g4⟩
  ·exact⟨a₁,w₁,la₁,mu₁,g1,.of_steps (.one stepR_seq) (.pass (λid=>rfl) hne g2)⟩
 |cond c x y=>
  obtain⟨t,ht,h1⟩:=hex
  obtain⟨a₁,w₁,la₁,mu₁,g1,g2⟩:=hS _ base H₀ mu₀ w₀ ro fn pts _ σ σ' e la mu a w hro h1 h b k cs hb hf
  have hc:=ao h.sr c
  rw[ht]at hc
  exact⟨a₁,w₁,la₁,mu₁,g1,.of_steps (.one (stepR_cond hc.bool)) g2⟩
 |block id x=>
  obtain⟨e₁,h1,rfl⟩:=hex
  obtain⟨a₁,w₁,la₁,mu₁,g1,g2⟩:=hS _ base H₀ mu₀ w₀ ro fn pts x σ σ' e₁ la mu a w hro h1 h b (.inBlock id :: k) cs hb hf
  refine⟨a₁,w₁,la₁,mu₁,g1,?_⟩
  have g:=g2
  refine .of_steps (.one stepR_block) ?_
  cases e₁ with
  |normal=>exact Steps.trans g (.one stepR_inBlock)
  |ret=>exact g
  |exit i=>
   obtain⟨t,s1,s2⟩:=g
   show Arr C.P b k cs _ a₁ w₁ (if i=id then .normal else .exit i)
   by_cases hi:i=id
   ·rw[qdq hi]
    subst hi
    have:exitTo i t=some k:=by rw[s2];simp[exitTo]
    exact s1.trans (.one (stepR_exit this))
   ·rw[qdr hi]
    refine⟨t,s1,?_⟩
    rw[s2]
    have hne:(id==i)=false:=by simp;exact λe=>hi e.symm
    simp[exitTo,hne]
  |_=>exact g.elim
 |loop x=>
  obtain⟨e₁,σ₁,h1,h2⟩:=hex
  obtain⟨la₀,h0⟩:=h.clear (az pts x)
  obtain⟨a₁,w₁,la₁,mu₁,g1,g2⟩:=hS _ base H₀ mu₀ w₀ ro fn pts x _ σ₁ e₁ la₀ mu a w hro h1 h0 b (.inLoop x :: k) cs hb hf
  rcases h2 with⟨rfl,h2⟩|⟨hne,rfl,rfl⟩
  ·obtain⟨a₂,w₂,la₂,mu₂,g3,g4⟩:=hS _ base H₀ mu₀ w₀ ro fn pts (.loop x) σ₁ σ' e la₁ mu₁ a₁ w₁ hro h2 g1 b k cs hb hf
   refine⟨a₂,w₂,la₂,mu₂,g3,?_⟩
   have s1:Steps C.P (lone (b.atR a (.code (.loop x) :: k)) cs w) (lone (b.atR a₁ (.inLoop x :: k)) cs w₁):=.head stepR_loop g2
   have s2:=g4
   have hsame:∀m',Steps C.P (lone (b.atR a₁ (.code (.loop x) :: k)) cs w₁) m'->(∃n,runN C.P (n+1) (lone (b.atR a₁ (.code (.loop x) :: k)) cs w₁) = .next m')∨m'=lone (b.atR a₁ (.code (.loop x) :: k)) cs w₁:=by
    rintro m' ⟨n,hn⟩
    cases n with
    |zero=>simp[runN]at hn;exact .inr hn.symm
    |succ n=>exact .inl ⟨n,hn⟩
   have hgo:∀m',Steps C.P (lone (b.atR a₁ (.code (.loop x) :: k)) cs w₁) m'->m'≠lone (b.atR a₁ (.code (.loop x) :: k)) cs w₁->Steps C.P (lone (b.atR a₁ (.inLoop x :: k)) cs w₁) m':=by
    intro m' hm' hne
    rcases hsame m' hm' with⟨n,hn⟩|rfl
    ·refine⟨n+1,?_⟩
     simp only[runN,stepR_loop,stepR_inLoop]at hn ⊢
     exact hn
    ·exact absurd rfl hne
   have htodo:∀(a':Act) (t:Ty) (w':World),t≠.code (.loop x) :: k->lone (b.atR a' t) cs w'≠lone (b.atR a₁ (.code (.loop x) :: k)) cs w₁:=by
    intro a' t w' hne e
    have e':=congrArg (λm:Machine=>(m.gs[0]?).map (λg=>g.frame.todo)) e
    simp[lone,Frame.atR]at e'
    exact hne e'
   refine .of_steps s1 ?_
   cases e with
   |normal=>
    refine hgo _ s2 (htodo _ _ _ λe=>?_)
    have:=congrArg List.length e
    simp at this
   |ret=>
    obtain⟨t,s2⟩:=s2
    exact⟨t,hgo _ s2 (htodo _ _ _ λe=>by simp at e)⟩
   |exit id=>
    obtain⟨t,s2,s3⟩:=s2
    exact⟨t,hgo _ s2 (htodo _ _ _ λe=>by simp at e),s3⟩
   |_=>exact s2.elim
  ·exact⟨a₁,w₁,la₁,mu₁,g1,.of_steps (.one stepR_loop) (.pass (λid=>rfl) hne g2)⟩
 |scope x=>
  obtain⟨a₁,w₁,la₁,mu₁,g1,g2⟩:=hS _ base H₀ mu₀ w₀ ro fn pts x σ σ' e la mu a w hro hex h b (.inScope x :: k) cs hb hf
  refine⟨a₁,w₁,la₁,mu₁,g1,.of_steps (.one tb) ?_⟩
  have g:=g2
  by_cases hn:e = .normal
  ·subst hn;exact Steps.trans g (.one pT)
  ·exact .pass (λid=>rfl) hn g
 |region id ops draw=>
  obtain⟨rfl,h1⟩:=hex
  cases draw with
  |false=>
   obtain⟨a₁,w₁,la₁,mu₁,g1,g2⟩:=uE hB b k cs _ _ _ _ _ _ _ h h1
   exact⟨a₁,w₁,la₁,mu₁,g1,.head stepR_region g2⟩
  |true=>
   have hd:FI C base H₀ mu₀ w₀ la mu σ a { w with drawn:=w.drawn+1 }:=h.drew _ (Nat.le_succ _)
   obtain⟨σ₀,h0,h1⟩:=h1
   obtain⟨a₁,w₁,la₁,mu₁,g1,g2⟩:=sim_any hB (hd.restate h0) h1 (w.tape w.drawn (.order fn id)) b k cs
   refine⟨a₁,w₁,la₁,mu₁,g1,.head stepR_region_draw ?_⟩
   rw[hm,hf]
   exact g2
 |rangeFunc f params assign body=>
  obtain⟨hpts,g,first,cap,φ,tm,r,H,r₂,hsnap,hf',hnl,hcall,hl,hbusy,hexit,rfl⟩:=hex
  obtain rfl:=hro hpts
  have hfe:=ao h.sr f
  rw[hf']at hfe
  obtain⟨x',y',hev,r1,r2⟩:=hfe.func_inv
  have hnl':first.toList.all bg=true/\cap.toList.all bg=true:=by simpa[noLoc]using hnl
  have d1:VRs noL mu first.toList x'.toList:=⟨r1.1,λi u v hu hv=>eg (bU hnl'.1 hu) (r1.2 i u v hu hv)⟩
  have d2:VRs noL mu cap.toList y'.toList:=⟨r2.1,λi u v hu hv=>eg (bU hnl'.2 hu) (r2.2 i u v hu hv)⟩
  obtain⟨hW1,hE1⟩:=h.sr.wr.other (.deferred (some []))
  have hr1:(w.alloc (.deferred (some []))).heap[w.heap.size]?=some (.deferred (some [])):=by
   show(w.heap.push _)[_]?=_
   simp
  have hno:¬Own mu σ.heap w.heap.size:=λho=>by have:=(Own.lt h.sr.wr ho).1;omega
  have hF1:FI C base H₀ mu₀ w₀ la mu σ { a with defers:=({ target:=.collected w.heap.size,args:=#[] }:Deferred) :: a.defers } (w.alloc (.deferred (some []))):=by
   have h':=h.heap hW1 hE1
   refine⟨h'.sr,h'.evo,h'.fresh,?_,h'.low⟩
   obtain⟨rs,k1,k2,k3⟩:=h.marks
   have hlt:∀r∈rs,r<w.heap.size:=λr hr=>by
    obtain⟨_,k4,_⟩:=k3 r hr
    exact(qaz.1 k4).1
   refine⟨w.heap.size :: rs,by rw[k1];rfl,qcr.2 ⟨λhm=>by have:=hlt _ hm;omega,k2⟩,λr hr=>?_⟩
   rcases qap.1 hr with rfl|hr
   ·exact⟨h.evo.size,hr1,hno⟩
   ·obtain⟨k4,k5,k6⟩:=k3 r hr
    exact⟨k4,by rw[hE1.keep r (hlt r hr) k6];exact k5,k6⟩
  have hb1:base<=(w.alloc (.deferred (some []))).heap.size:=hF1.big
  let L:Loop:={ state:=.ready,pending:=none,fn,tmps:=a.tmps,params,assign,body,defers:=w.heap.size }
  let w₂:World:=(w.alloc (.deferred (some []))).alloc (.loop L)
  let p:Pl:=⟨(w.alloc (.deferred (some []))).heap.size,0,0,0⟩
  obtain⟨hW2,hE2,_⟩:=hF1.sr.wr.new hb1 (w':=w₂) (x:=.loop L) rfl rfl rfl rfl (.loop { state:=.ready,pending:=none,fn:=φ,tmps:=tm,params:=params.toList,assign,body }) p rfl
   ⟨L,rfl,rfl,rfl,rfl,rfl,rfl,snapOf_ok hsnap h.sr.vals⟩ (λ_=>rfl)
  have hF2:=hF1.heap hW2 hE2
  have hmono:=iR h.sr.wr p
  have hargs:VRs noL (upd mu σ.heap.length p) (first.toList++[.func (.yield σ.heap.length) #[] #[]]++cap.toList) (x' ++ #[Value.func (.yield p.b) #[] #[]]++y').toList:=by
   simp only[qbz]
   exact((d1.mono (λ_ _ h=>h) hmono).append (.cons (.yield (bh _ _ _)) .nil)).append (d2.mono (λ_ _ h=>h) hmono)
  obtain⟨v,mu',w',q1,q2,q3,q4,q5⟩:=hB.call _ _ _ _ _ hcall _ base _ w₂ _ hF2.big hargs hW2 (b.atR { a with defers:=[({ target:=.collected w.heap.size,args:=#[] }:Deferred)]++a.defers } (.inRangeFunc p.b :: k) :: cs)
  have hF3:=hF2.heap q2 q3
  have hmu':mu' σ.heap.length=some p:=by rw[q3.same _ (by simp)];exact bh _ _ _
  obtain⟨p',hp',hid,L',hL',e1,e2,e3,e4,e5,e6⟩:=kL (σ:={ σ with heap:=H }) q2 hl
  obtain rfl:p'=p:=by rw[hmu']at hp';exact(qan hp').symm
  obtain⟨hW4,hE4⟩:=WR.setLoop (σ:={ σ with heap:=H }) q2 hid hp' (r':={ r₂ with state:=.exhausted }) (L':={ L' with state:=.exhausted }) rfl e2 e3 e4 e5 e6
  have hF4:=hF3.heap hW4 hE4
  refine⟨_,_,la,mu',hF4,?_⟩
  have henter:(Instr.enterLoop b.fn a.tmps params assign body b.roundOf).run C.P w = .ok (p.b,[({ target:=.collected w.heap.size,args:=#[] }:Deferred)]) w₂:=by
   rw[hb,hf]
   rfl
  have hres:(resolve a.eval (rangeCall f p.b) 0).run C.P w₂ = .ok { target:=.fn (.func g) y',args:=x' ++ #[.func (.yield p.b) #[] #[]] } w₂:=by
   have hmap:Array.map a.eval #[Operand.const (Value.func (Fn.yield p.b) #[] #[])] = #[Value.func (Fn.yield p.b) #[] #[]]:=by simp[Act.eval]
   simp only[resolve,hev,Deferred.ofValue,hmap]
   rfl
  have hinv:(invoke (.fn (.func g) y') (x' ++ #[.func (.yield p.b) #[] #[]])).run C.P w₂ = .ok (.enter g (x' ++ #[.func (.yield p.b) #[] #[]]++y')) w₂:=q4
  have s1:=stepR_rangeFunc (P:=C.P) (b:=b) (a:=a) (k:=k) (cs:=cs) henter hres hinv
  obtain⟨fr,s2,_,s3⟩:=q5
  have hend:(Instr.endLoop p.b).run C.P w' = .ok r₂.pending { w' with heap:=w'.heap.setIfInBounds p.b (.loop { L' with state:=.exhausted }) }:=by
   rw[←e2]
   exact sP hL' (by rw[e1];exact hbusy)
  have s4:Steps C.P (lone (b.atR a (.code (.rangeFunc f params assign body) :: k)) cs w) (lone (b.atR { a with defers:=[({ target:=.collected w.heap.size,args:=#[] }:Deferred)]++a.defers } ((r₂.pending.map Item.code).toList++k)) cs { w' with heap:=w'.heap.setIfInBounds p.b (.loop { L' with state:=.exhausted }) }):=by
   refine .head s1 (s2.trans (.head ?_ (.one (stepR_endRangeFunc hend))))
   rw[←finish_atR_inRangeFunc p.b v]
   exact step_leave_returned s3
  unfold tH at hexit
  split at hexit
  next hp=>cases hexit;rw[hp]at s4;exact s4
  next hp=>cases hexit;rw[hp]at s4;exact⟨k,s4⟩
  next hp=>cases hexit;rw[hp]at s4;exact⟨k,s4,rfl⟩
  ·cases hexit
end
end
section
variable [Val]
section
variable [Glo] {C:Cfg} {base:Nat} {H₀:Ts} {mu₀:HMap} {w₀:World} {la:LMap} {mu:HMap} {σ:St} {a:Act} {w:World}
def FI.shut{d:Deferred}{ds:List Deferred}(h:FI C base H₀ mu₀ w₀ la mu σ a w)(hd:a.defers=d :: ds) :
  ∃r,d.target = .collected r/\(Instr.takeDeferred r).run C.P w = .ok [] { w with heap:=w.heap.setIfInBounds r (.deferred none) }/\
   FI C base H₀ mu₀ w₀ la mu σ { a with defers:=ds } { w with heap:=w.heap.setIfInBounds r (.deferred none) }:=by
 obtain⟨rs,h1,h2,h3⟩:=h.marks
 rw[hd]at h1
 cases rs with
 |nil=>cases h1
 |cons r rs=>
  simp only[qat,qaY]at h1
  obtain⟨rfl,rfl⟩:=h1
  obtain⟨k1,k2,k3⟩:=h3 r (by simp)
  have hlt:r<w.heap.size:=(qaz.1 k2).1
  have hold:∀b,b≠r->(w.heap.setIfInBounds r (.deferred none))[b]?=w.heap[b]?:=λb hb=>qbJ (qb9 hb)
  have hlow:=h.low
  refine⟨r,rfl,?_,⟨⟨h.sr.vals,h.sr.ldom,?_,h.sr.linj,⟨?_,h.sr.wr.inj,h.sr.wr.own,h.sr.wr.ro,h.sr.wr.dom,?_⟩⟩,?_,h.fresh,?_,h.low⟩⟩
  ·have hg:(getObj r).run C.P w = .ok (.deferred (some [])) w:=by simp[getObj,Sem.run,k2]
   have hs:(setObj r (.deferred none)).run C.P w = .ok () { w with heap:=w.heap.setIfInBounds r (.deferred none) }:=by simp[setObj,Sem.run,k2]
   simp[Instr.takeDeferred,Sem.run_bind,hg,hs,Result.andThen]
  ·intro s vs hs
   obtain⟨b,c,e,e1,e2,e3,e4⟩:=h.sr.loc s vs hs
   exact⟨b,c,e,e1,e2,by rw[←e3];exact hold b (λeb=>by subst eb;rw[k2]at e3;cases e3),e4⟩
  ·intro id o hid ha
   obtain⟨p,e1,e2⟩:=h.sr.wr.obj id o hid ha
   refine⟨p,e1,?_⟩
   show objR mu p (w.heap.setIfInBounds r (.deferred none))[p.b]? o
   by_cases hpb:p.b=r
   ·exfalso
    by_cases hown:o.owned=true
    ·exact k3 ⟨id,o,p,hid,hown,e1,hpb⟩
    ·have:=h.sr.wr.ro id o p hid ha (by simpa using hown) e1
     omega
   ·rw[hold _ hpb];exact e2
  ·intro g vs hg
   obtain⟨e1,e2,c,e',fr,e3,e4⟩:=h.sr.wr.glob g vs hg
   exact⟨e1,e2,c,e',fr,by rw[←e3];exact hold _ (by omega),e4⟩
  ·refine⟨h.evo.len,h.evo.same,by simpa using h.evo.size,λk hk ho=>?_,h.evo.steal,h.evo.os,h.evo.tape,h.evo.output,h.evo.dr⟩
   rw[←h.evo.keep k hk ho]
   exact hold k (by omega)
  ·have hnd:=qcr.1 h2
   refine⟨rs,rfl,hnd.2,λr' hr'=>?_⟩
   obtain⟨e1,e2,e3⟩:=h3 r' (by simp[hr'])
   exact⟨e1,by rw[←e2];exact hold r' (λe=>hnd.1 (e▸hr')),e3⟩
def rP:∀(ds:List Deferred) (a:Act) (w:World),a.defers=ds->FI C base H₀ mu₀ w₀ la mu σ a w->
  ∃w',FI C base H₀ mu₀ w₀ la mu σ { a with defers:=[] } w'/\
   ∀(b:Frame) (todo:Ty) (cs:List Frame),Steps C.P (lone { b.atR a todo with mode:=.returning } cs w) (lone { b.atR { a with defers:=[] } todo with mode:=.returning } cs w')
 | [],a,w,hd,h=>by
  obtain⟨tmps,defers⟩:=a
  simp only at hd
  subst hd
  exact⟨w,h,λb todo cs=>.refl _ _⟩
 |d :: ds,a,w,hd,h=>by
  obtain⟨r,h1,h2,h3⟩:=h.shut hd
  obtain⟨w',h4,h5⟩:=rP ds { a with defers:=ds } _ rfl h3
  refine⟨w',h4,λb todo cs=>.head ?_ (h5 b todo cs)⟩
  exact step_collected (fr:={ b.atR a todo with mode:=.returning }) (by simp) (show a.defers=d :: ds from hd) h1 h2
def jy(tmps:Tj):ResultVar->Sem Value
 | .tmp t=>pure (tmps.getD t undef)
 | .cell p t=>do loadVar t (←asAddr (tmps.getD p undef))
def vM(fn:Func)(tmps:Tj):results fn tmps=(do
  let vs ←fn.results.mapM (jy tmps)
  pure (if h:vs.size=1 then vs[0]else .tuple vs)):=by
 have:(λx=>match x with
  |ResultVar.tmp t=>pure (tmps.getD t undef)
  |ResultVar.cell p t=>(do loadVar t (←asAddr (tmps.getD p undef)):Sem Value))=jy tmps:=by
  funext x;cases x<;>rfl
 rw[←this]
 rfl
def vK(h:SR C base la mu σ a.tmps w){x:ResultVar}{v:Value}(hx:ej C σ x=some v) :
  ∃v',(jy a.tmps x).run C.P w = .ok v' w/\VR la mu v v':=by
 have hget:∀t,VR la mu (σ.tmps.getD t undef) (a.tmps.getD t undef):=λt=>ao h (.tmp t)
 cases x with
 |tmp t=>
  simp only[ej]at hx
  cases hx
  exact⟨_,rfl,hget t⟩
 |cell p t=>
  simp only[ej]at hx
  have hp:=hget p
  split at hx
  next ad hv=>
   rw[hv]at hp
   split at hx
   next hsp=>
    cases hcl:ea σ.heap ad.block with
    |none=>rw[hcl]at hx;cases hx
    |some vs=>
     rw[hcl]at hx
     generalize hw:a.tmps.getD p undef=y at hp ⊢
     cases hp with
     |scalar hs=>simp[Am.scalar]at hs
     |lptr _=>simp at hsp
     |gptr=>simp at hsp
     |hptr hmu=>
      obtain⟨c,e,fr,h1,h2⟩:=qN h.wr hcl hmu
      obtain⟨v',h3,h4⟩:=dh (C:=C) h2 hx h1
      exact⟨v',by simp only[jy,hw,asAddr];exact h3,h4.up⟩
   next hsp=>
    split at hx
    next vs hloc=>
     generalize hw:a.tmps.getD p undef=y at hp ⊢
     cases hp with
     |scalar hs=>simp[Am.scalar]at hs
     |hptr _=>simp at hsp
     |gptr=>simp at hsp
     |lptr hla=>
      obtain⟨c,e,h1,h2,h3⟩:=loc_ok h hloc hla
      obtain⟨v',h4,h5⟩:=dh (C:=C) (bE.of_list h2) hx h1
      exact⟨v',by simp only[jy,hw,asAddr];simpa using h4,h5.up⟩
    ·cases hx
   ·cases hx
  ·cases hx
def ml(h:SR C base la mu σ a.tmps w):∀ {l:List ResultVar} {vs:Tl},cv C σ l=some vs->
  ∃vs',(l.mapM (jy a.tmps)).run C.P w = .ok vs' w/\VRs la mu vs vs'
 | [],vs,hx=>by
  cases hx
  exact⟨[],by simp,.nil⟩
 |x :: l,vs,hx=>by
  simp only[cv]at hx
  split at hx
  next v vs1 hv hvs=>
   cases hx
   obtain⟨v',h1,h2⟩:=vK h hv
   obtain⟨vs',h3,h4⟩:=ml h hvs
   refine⟨v' :: vs',?_,.cons h2 h4⟩
   simp only[qbE,Sem.run_bind,h1,Result.andThen_ok,Sem.run_pure,h3]
  ·cases hx
def vN(h:SR C base la mu σ a.tmps w){fn:Func}{vs:Tl}(hx:cv C σ fn.results.toList=some vs) :
  ∃v',(results fn a.tmps).run C.P w = .ok v' w/\VR la mu (eM vs) v':=by
 obtain⟨vs',h1,h2⟩:=ml h hx
 rw[vM,qcX,Sem.run_bind,Sem.run_map,h1]
 match vs,vs',h2 with
 | [],[],_=>exact⟨_,rfl,.undef⟩
 | [v],[v'],h2=>exact⟨v',rfl,h2.head⟩
 |v :: u :: l,v' :: u' :: l',h2=>exact⟨.tuple (v' :: u' :: l').toArray,rfl,VRs.tuple (a:=(v :: u :: l).toArray) (by simpa using h2)⟩
 | [],_ :: _,h2=>simpa using h2.1
 | [_],[],h2=>simpa using h2.1
 | [_],_ :: _ :: _,h2=>simpa using h2.1
 |_ :: _ :: _,[],h2=>simpa using h2.1
 |_ :: _ :: _,[_],h2=>simpa using h2.1
end
section
variable {C:Cfg}
def call_next{S:Sems}(hS:mX C S){f:TJ}{args:Tl}{H:Ts}{r:Value}{H':Ts}(h:kA C S f args H r H'):eG C f args H r H':=by
 obtain⟨fn,body,e,σ,vs,hfn,hbody,hname,hex,he,hres,rfl,hnl,rfl⟩:=h
 rw[qbI]at hname
 replace hname:=hname.1
 intro _ base mu w args' hb hargs hW cs
 let a₀:Act:={ tmps:=args'++Array.replicate (fn.ntmps - args'.size) undef,defers:=[] }
 have hlen:args.length=args'.size:=by simpa using hargs.1
 have hF:FI C base H mu w noL mu (jK fn args H) a₀ w:=by
  refine⟨⟨?_,λs b h=>by simp[noL]at h,λs vs hs=>?_,λs s' b h=>by simp[noL]at h,hW⟩,.refl _ _ _,λs b h=>by simp[noL]at h,⟨[],rfl,by simp,λr hr=>by simp at hr⟩,hb⟩
  ·simp only[jK,a₀,qbz,Array.toList_replicate,hlen]
   exact hargs.append (.replicate _ .undef)
  ·simp only[jK,qaM]at hs
   split at hs<;>cases hs
 let b:Frame:={ (default:Frame)with fn:=f,kind:=.normal,roundOf:=none }
 obtain⟨a₁,w₁,la₁,mu₁,g1,g2⟩:=hS _ base H mu w none f _ body _ σ e noL mu a₀ w (λ_=>rfl) hex hF b [] cs rfl rfl
 obtain⟨w₂,g3,g4⟩:=rP a₁.defers a₁ w₁ rfl g1
 obtain⟨v',g5,g6⟩:=vN (a:={ a₁ with defers:=[] }) g3.sr hres
 refine⟨v',mu₁,w₂,df hnl g6,g3.sr.wr,g3.evo,?_,?_⟩
 ·have hbn:fn.body.isNone=false:=by rw[hbody];rfl
  have hp:(program).run C.P w = .ok C.P w:=rfl
  simp only[callFunc,Sem.run_bind,hp,Result.andThen_ok,hfn,hname,hbn]
  rfl
 ·have henter:Frame.enter C.P f args' .normal=b.atR a₀ [.code body]:=by simp[Frame.enter,Frame.atR,hfn,hbody,b,a₀]
  rw[henter]
  have hgo:=g2
  rcases he with rfl|rfl
  ·refine⟨{ b.atR { a₁ with defers:=[] } []with mode:=.returning },(Steps.trans hgo (.one (stepR_end rfl))).trans (g4 b [] cs),rfl,rfl,rfl,rfl,fn,hfn,g5⟩
  ·obtain⟨todo,hgo⟩:=hgo
   refine⟨{ b.atR { a₁ with defers:=[] } (.code .ret :: todo)with mode:=.returning },(hgo.trans (.one (stepR_ret rfl))).trans (g4 b _ cs),rfl,rfl,rfl,rfl,fn,hfn,g5⟩
section
variable [Glo] {la:LMap} {mu:HMap}
def ry:∀(ts:List Tmp) (vs cs:Tl) (tmps:Tl) (tmps':Tj),vs.length=ts.length->VRs la mu vs cs->VRs la mu tmps tmps'.toList->
  VRs la mu (cb ts vs tmps) ((ts.zip cs).foldl (λ(t:Tj) (x:Tmp×Value)=>t.setIfInBounds x.1 x.2) tmps').toList
 | [],vs,cs,tmps,tmps',hl,hv,ht=>by
  cases vs with
  |nil=>simpa[cb]using ht
  |cons _ _=>simp at hl
 |t :: ts,vs,cs,tmps,tmps',hl,hv,ht=>by
  cases vs with
  |nil=>simp at hl
  |cons v vs=>
   obtain⟨c,cs',rfl,h1,h2⟩:=hv.uncons
   simp only[cb,qcs,qb1]
   exact ry ts vs cs' _ _ (by simpa using hl) h2 (by simpa using ht.set t h1)
end
def vV{S:Sems}(hS:mX C S){l:Nat}{args:Tl}{H:Ts}{r:Value}{H':Ts}(h:iS C S l args H r H'):YieldOk C l args H r H':=by
 obtain⟨lp,σ₁,lp₁,e,σ₂,lp₂,j,hl,hlen,hex1,hl1,hst,hex2,hj,hl2,rfl,rfl⟩:=h
 intro _ base mu w args' p hb hp hargs hW c cs
 obtain⟨p',hp',hid,L,hL,e1,e2,e3,e4,e5,e6⟩:=kL (σ:={ tmps:=[],loc:=[],heap:=H }) hW hl
 obtain rfl:p'=p:=by rw[hp]at hp';exact(qan hp').symm
 let tm:Tj:=(L.params.zip args').foldl (λtmps (x:Tmp×Value)=>tmps.setIfInBounds x.1 x.2) L.tmps
 let a₀:Act:={ tmps:=tm,defers:=[] }
 have htm:VRs noL mu (cb lp.params args lp.tmps) tm.toList:=by
  have:=ry lp.params args args'.toList lp.tmps L.tmps hlen hargs e6
  rw[←e3,←Array.toList_zip]at this
  simp only[tm]
  rw[←qcd,←e3]
  exact this
 have hF:FI C base H mu w noL mu { tmps:=cb lp.params args lp.tmps,loc:=[],heap:=H } a₀ w:=by
  refine⟨⟨htm,λs b h=>by simp[noL]at h,λs vs hs=>by simp at hs,λs s' b h=>by simp[noL]at h,hW⟩,.refl _ _ _,λs b h=>by simp[noL]at h,⟨[],rfl,by simp,λr hr=>by simp at hr⟩,hb⟩
 let b:Frame:={ (default:Frame)with fn:=L.fn,kind:=.normal,roundOf:=some p'.b }
 obtain⟨a₁,w₁,la₁,mu₁,g1,g2⟩:=hS _ base H mu w (some p'.b) L.fn [] lp.assign _ σ₁ .normal noL mu a₀ w (λh=>absurd rfl h) hex1 hF b [.beginRound,.code lp.body] (c :: cs) rfl rfl
 have hsame:∀ {mu':HMap} {H':Ts} {w':World},Evo H mu w H' mu' w'->mu' l=some p':=λhe=>by
  rw[he.same l (qaV.1 hid).1];exact hp
 obtain⟨p₁,hp₁,hid₁,L₁,hL₁,f1,f2,f3,f4,f5,f6⟩:=kL (σ:=σ₁) g1.sr.wr hl1
 obtain rfl:p₁=p':=by rw[hsame g1.evo]at hp₁;exact(qan hp₁).symm
 obtain⟨hW2,hE2⟩:=WR.setLoop (σ:=σ₁) g1.sr.wr hid₁ hp₁ (r':={ lp₁ with state:=.busy }) (L':={ L₁ with state:=.busy }) rfl f2 f3 f4 f5 f6
 have hF2:=g1.heap hW2 hE2
 obtain⟨a₂,w₂,la₂,mu₂,g3,g4⟩:=hS _ base H mu w (some p₁.b) L.fn [] lp.body _ σ₂ e la₁ mu₁ a₁ _ (λh=>absurd rfl h) hex2 hF2 b [] (c :: cs) rfl rfl
 obtain⟨p₂,hp₂,hid₂,L₂,hL₂,k1,k2,k3,k4,k5,k6⟩:=kL (σ:=σ₂) g3.sr.wr hl2
 obtain rfl:p₂=p₁:=by rw[hsame g3.evo]at hp₂;exact(qan hp₂).symm
 obtain⟨hW4,hE4⟩:=WR.setLoop (σ:=σ₂) g3.sr.wr hid₂ hp₂ (r':={ lp₂ with state:=if j.isNone then .ready else .done,pending:=j }) (L':={ L₂ with state:=if j.isNone then .ready else .done,pending:=j }) rfl rfl k3 k4 k5 k6
 refine⟨.bool j.isNone,mu₂,_,L.fn,tm,L.assign,L.body,.scalar rfl,hW4,g3.evo.trans hE4,?_,?_⟩
 ·have hsz:args'.size=L.params.size:=by
   have h1:=hargs.1
   have h2:L.params.toList.length=lp.params.length:=by rw[e3]
   simp at h1 h2;omega
  simp[Instr.yield,Sem.run_bind,ff hL,hsz,tm]
 ·have hb0:Frame.round p₂.b L.fn tm L.assign L.body .normal=b.atR a₀ [.code L.assign,.beginRound,.code L.body]:=by simp[Frame.round,Frame.atR,b,a₀]
  rw[hb0,e4,e5]
  have s1:Steps C.P (lone (b.atR a₀ [.code lp.assign,.beginRound,.code lp.body]) (c :: cs) w) _:=g2
  have s2:=s1.trans (.one (stepR_beginRound (k:=[.code lp.body]) rfl (mU hL₁ (by rw[f1];exact hst))))
  have s3:=g4
  have hend:=rB (C:=C) hL₂ j
  cases e with
  |normal=>
   cases hj
   exact(s2.trans s3).trans (.one (stepR_round_end rfl rfl hend))
  |ret=>
   cases hj
   obtain⟨t,s3⟩:=s3
   exact(s2.trans s3).trans (.one (stepR_round_ret rfl rfl hend))
  |exit id=>
   cases hj
   obtain⟨t,s3,hx⟩:=s3
   exact(s2.trans s3).trans (.one (stepR_round_exit rfl rfl hx hend))
  |_=>cases hj
def sems_ok(hm:C.P.follows .mixedOrders=true){K:Known}(hK:∀f args H r H',K f args H r H'->eG C f args H r H'):∀n,BOk C (sems C K n).toBelow/\mX C (sems C K n)
 |0=>⟨⟨hK,λ_ _ _ _ _ h=>h.elim⟩,by
   intro _ base H₀ mu₀ w₀ ro fn pts code σ σ' e la mu a w _ h
   exact h.elim⟩
 |n+1=>by
  obtain⟨hB,hS⟩:=sems_ok hm hK n
  refine⟨⟨λf args H r H' h=>h.elim (hK f args H r H') (call_next hS),λ_ _ _ _ _ h=>vV hS h⟩,?_⟩
  have hcn:mX C _:=code_next hm hB hS
  intro _ base H₀ mu₀ w₀ ro fn pts code σ σ' e la mu a w hro hex hF
  exact hcn _ base H₀ mu₀ w₀ ro fn pts code σ σ' e la mu a w hro hex hF
end
end
section
variable [Val] {C:Cfg}
structure SemsLe(S S':Sems):Prop where
 call:∀f args H r H',S.call f args H r H'->S'.call f args H r H'
 yield:∀l args H r H',S.yield l args H r H'->S'.yield l args H r H'
 ex:∀fid c σ e σ',S.ex fid c σ e σ'->S'.ex fid c σ e σ'
def rZ{B B':Below}(hc:∀f args H r H',B.call f args H r H'->B'.call f args H r H')(hy:∀l args H r H',B.yield l args H r H'->B'.yield l args H r H')
  {e:Eff} {dst:Tn} {σ σ':St} (h:im B e dst σ σ'):im B' e dst σ σ':=by
 cases e<;>first
  |exact h
  |(obtain⟨r,H,h1,h2⟩:=h;first|exact⟨r,H,hc _ _ _ _ _ h1,h2⟩|exact⟨r,H,hy _ _ _ _ _ h1,h2⟩)
def cp{B B':Below}(hc:∀f args H r H',B.call f args H r H'->B'.call f args H r H')(hy:∀l args H r H',B.yield l args H r H'->B'.yield l args H r H')
  {pts:Tz} {ops:Tm} {i:Nat} {σ σ':St} (h:ae C B pts ops i σ σ'):ae C B' pts ops i σ σ':=by
 unfold ae at *
 split at h
 ·exact h
 ·split at h
  ·exact h
  ·exact h
  ·rcases h with⟨e,h1,h2⟩|h
   ·exact .inl ⟨e,h1,rZ hc hy h2⟩
   ·exact .inr h
def ei{B B':Below}(hc:∀f args H r H',B.call f args H r H'->B'.call f args H r H')(hy:∀l args H r H',B.yield l args H r H'->B'.yield l args H r H')
  {pts:Tz} {ops:Tm}:∀ {l:Tz} {σ σ':St},aT C B pts ops l σ σ'->aT C B' pts ops l σ σ'
 | [],_,_,h=>h
 |_ :: _,_,_,⟨σ₁,h1,h2⟩=>⟨σ₁,cp hc hy h1,ei hc hy h2⟩
def jT{B B':Below}(hc:∀f args H r H',B.call f args H r H'->B'.call f args H r H')(hy:∀l args H r H',B.yield l args H r H'->B'.yield l args H r H')
  {pts:Tz} {ops:Tm}:∀ {l:Tz} {σ σ':St},eh C B pts ops l σ σ'->eh C B' pts ops l σ σ'
 | [],_,_,h=>h
 |_ :: _,_,_,⟨σ₀,σ₁,h0,h1,h2⟩=>⟨σ₀,σ₁,h0,cp hc hy h1,jT hc hy h2⟩
def iN{B B':Below}(hc:∀f args H r H',B.call f args H r H'->B'.call f args H r H')(hy:∀l args H r H',B.yield l args H r H'->B'.yield l args H r H')
  {pts:Tz} {ops:Tm} {sl:Nat->Tp}:∀ {l:Tz} {σ σ':St},gq C B pts ops sl l σ σ'->gq C B' pts ops sl l σ σ'
 | [],_,_,h=>h
 |i :: _,_,_,⟨h0,σ₁,h1,h2⟩=>⟨h0,σ₁,by
  unfold di at h1 ⊢
  split at h1
  ·exact cp hc hy h1
  ·exact h1,iN hc hy h2⟩
def rS{B B':Below}(hc:∀f args H r H',B.call f args H r H'->B'.call f args H r H')(hy:∀l args H r H',B.yield l args H r H'->B'.yield l args H r H')
  {pts:Tz} {ops:Tm} {σ σ':St} (h:dm C B pts ops σ σ'):dm C B' pts ops σ σ':=
 h.imp (λh t=>ei hc hy (h t)) λ⟨sl,n,h1,h2,h3,h4⟩=>⟨sl,n,h1,h2,h3,λt=>iN hc hy (h4 t)⟩
def sc{S S':Sems}(h:SemsLe S S'){fid:Tz}{c:Code}{σ:St}{e:Exit}{σ':St}(hx:lE C S fid c σ e σ'):lE C S' fid c σ e σ':=by
 cases c with
 |skip=>exact hx
 |label l=>exact hx
 |ret=>exact hx
 |exit id=>exact hx
 |goto l=>exact hx
 |refuse w=>exact hx
 |seq a b=>
  obtain⟨e₁,σ₁,h1,h2⟩:=hx
  exact⟨e₁,σ₁,h.ex _ _ _ _ _ h1,h2.imp (λh2=>⟨h2.1,h.ex _ _ _ _ _ h2.2⟩) id⟩
 |cond c a b=>
  obtain⟨t,h1,h2⟩:=hx
  exact⟨t,h1,h.ex _ _ _ _ _ h2⟩
 |block id b=>
  obtain⟨e₁,h1,h2⟩:=hx
  exact⟨e₁,h.ex _ _ _ _ _ h1,h2⟩
 |loop b=>
  obtain⟨e₁,σ₁,h1,h2⟩:=hx
  exact⟨e₁,σ₁,h.ex _ _ _ _ _ h1,h2.imp (λh2=>⟨h2.1,h.ex _ _ _ _ _ h2.2⟩) id⟩
 |scope b=>exact h.ex _ _ _ _ _ hx
 |region id ops draw=>
  obtain⟨h1,h2⟩:=hx
  refine⟨h1,?_⟩
  cases draw with
  |true=>
   obtain⟨σ₀,h3,h4⟩:=h2
   exact⟨σ₀,h3,rS h.call h.yield h4⟩
  |false=>exact jT h.call h.yield h2
 |rangeFunc f params assign body=>
  obtain⟨h0,g,first,cap,φ,tm,r,H,r₂,h1,h2,h3,h4,h5⟩:=hx
  exact⟨h0,g,first,cap,φ,tm,r,H,r₂,h1,h2,h3,h.call _ _ _ _ _ h4,h5⟩
def oG{S S':Sems}(h:SemsLe S S'){f:TJ}{args:Tl}{H:Ts}{r:Value}{H':Ts}(hx:kA C S f args H r H'):kA C S' f args H r H':=by
 obtain⟨fn,b,e,σ,vs,h1,h2,h3,h4,h5⟩:=hx
 exact⟨fn,b,e,σ,vs,h1,h2,h3,h.ex _ _ _ _ _ h4,h5⟩
def mW{S S':Sems}(h:SemsLe S S'){l:Nat}{args:Tl}{H:Ts}{r:Value}{H':Ts}(hx:iS C S l args H r H'):iS C S' l args H r H':=by
 obtain⟨lp,σ₁,lp₁,e,σ₂,lp₂,j,h1,h2,h3,h4,h5,h6,h7⟩:=hx
 exact⟨lp,σ₁,lp₁,e,σ₂,lp₂,j,h1,h2,h.ex _ _ _ _ _ h3,h4,h5,h.ex _ _ _ _ _ h6,h7⟩
class Kno where
 kn:TJ->Tl->Value->Prop
 kh:TJ->Tl->Ts->Value->Ts->Prop
variable [Kno]
def noK:Known:=λf args H r H'=>(Kno.kn f args r/\H'=H)∨Kno.kh f args H r H'
def sm(C:Cfg)(n:Nat):Sems:=sems C noK n
def sm_succ:∀n,SemsLe (sm C n) (sm C (n+1))
 |0=>⟨λ_ _ _ _ _ h=>.inl h,λ_ _ _ _ _ h=>h.elim,λ_ _ _ _ _ h=>h.elim⟩
 |n+1=>by
  have ih:=sm_succ n
  exact⟨λ_ _ _ _ _ h=>h.imp id (oG ih),λ_ _ _ _ _ h=>mW (C:=C) ih h,λ_ _ _ _ _ h=>sc ih h⟩
def gA{n:Nat}:∀ {m:Nat},n<=m->SemsLe (sm C n) (sm C m)
 |0,h=>by
  obtain rfl:n=0:=Nat.le_zero.1 h
  exact⟨λ_ _ _ _ _ h=>h,λ_ _ _ _ _ h=>h,λ_ _ _ _ _ h=>h⟩
 |m+1,h=>by
  by_cases hm:n=m+1
  ·subst hm;exact⟨λ_ _ _ _ _ h=>h,λ_ _ _ _ _ h=>h,λ_ _ _ _ _ h=>h⟩
  ·have ih:=gA (n:=n) (m:=m) (by omega)
   have hs:=sm_succ (C:=C) m
   exact⟨λ_ _ _ _ _ h=>hs.call _ _ _ _ _ (ih.call _ _ _ _ _ h),λ_ _ _ _ _ h=>hs.yield _ _ _ _ _ (ih.yield _ _ _ _ _ h),λ_ _ _ _ _ h=>hs.ex _ _ _ _ _ (ih.ex _ _ _ _ _ h)⟩
def gD(C:Cfg)(f:TJ)(args:Tl)(H:Ts)(r:Value)(H':Ts):Prop:=∃n,(sm C n).call f args H r H'
def iQ(C:Cfg)(l:Nat)(args:Tl)(H:Ts)(r:Value)(H':Ts):Prop:=∃n,(sm C n).yield l args H r H'
def uEx(C:Cfg)(fid:Tz)(c:Code)(σ:St)(e:Exit)(σ':St):Prop:=∃n,(sm C n).ex fid c σ e σ'
def uB(C:Cfg):Below:={ call:=gD C,yield:=iQ C }
theorem uCall_ok(hm:C.P.follows .mixedOrders=true)(hkn:∀f args r,Kno.kn f args r->∀H,eG C f args H r H)(hkh:∀f args H r H',Kno.kh f args H r H'->eG C f args H r H'){f:TJ}{args:Tl}{H:Ts}{r:Value}{H':Ts}(h:gD C f args H r H'):eG C f args H r H':=by
 obtain⟨n,h⟩:=h
 exact(sems_ok hm (K:=noK) (λf args H r H' h=>by
  rcases h with⟨h1,rfl⟩|h
  ·exact hkn f args r h1 _
  ·exact hkh f args H r H' h) n).1.call _ _ _ _ _ h
def effRel_at{e:Eff}{dst:Tn}{σ σ':St}(h:im (uB C) e dst σ σ'):∃n,im (sm C n).toBelow e dst σ σ':=by
 cases e<;>first
  |exact⟨0,h⟩
  |(obtain⟨r,H,⟨n,h1⟩,h2⟩:=h;exact⟨n,r,H,h1,h2⟩)
def gr{pts:Tz}{ops:Tm}{i:Nat}{σ σ':St}(h:ae C (uB C) pts ops i σ σ'):∃n,ae C (sm C n).toBelow pts ops i σ σ':=by
 unfold ae at h
 split at h
 next ho=>exact⟨0,by unfold ae;rw[ho];exact h⟩
 next o ho=>
  split at h
  ·exact h.elim
  next hw=>exact⟨0,by unfold ae;simp only[ho,hw];exact h⟩
  next hw=>
   rcases h with⟨e,h1,h2⟩|h
   ·obtain⟨n,h2⟩:=effRel_at h2
    exact⟨n,by unfold ae;simp only[ho,hw];exact .inl ⟨e,h1,h2⟩⟩
   ·exact⟨0,by unfold ae;simp only[ho,hw];exact .inr h⟩
def fS{pts:Tz}{ops:Tm}:∀ {l:Tz} {σ σ':St},aT C (uB C) pts ops l σ σ'->∃n,aT C (sm C n).toBelow pts ops l σ σ'
 | [],_,_,h=>⟨0,h⟩
 |_ :: _,_,_,⟨σ₁,h1,h2⟩=>by
  obtain⟨n,h1⟩:=gr h1
  obtain⟨m,h2⟩:=fS h2
  have hn:=gA (C:=C) (qcg n m)
  have hm:=gA (C:=C) (qcm n m)
  exact⟨max n m,σ₁,cp hn.call hn.yield h1,ei hm.call hm.yield h2⟩
def eB.refl(σ:St):eB σ σ:=⟨rfl,rfl,rfl,λi x y hx hy=>by rw[hx]at hy;exact .inl (qan hy).symm⟩
def nO{B:Below}{pts:Tz}{ops:Tm}:∀ {l:Tz} {σ σ':St},aT C B pts ops l σ σ'->eh C B pts ops l σ σ'
 | [],_,_,h=>h
 |_ :: _,σ,_,⟨σ₁,h1,h2⟩=>⟨σ,σ₁,.refl σ,h1,nO h2⟩
section rules
variable {fid:Tz} {σ σ₁ σ':St} {e e₁:Exit} {a b:Code}
def uEx.skip:uEx C fid .skip σ .normal σ:=⟨1,rfl,rfl⟩
def uEx.label{l:Nat}:uEx C fid (.label l) σ .normal σ:=⟨1,rfl,rfl⟩
def uEx.ret:uEx C fid .ret σ .ret σ:=⟨1,rfl,rfl⟩
def uEx.exit{id:Nat}:uEx C fid (.exit id) σ (.exit id) σ:=⟨1,rfl,rfl⟩
def uEx.seq(h1:uEx C fid a σ .normal σ₁)(h2:uEx C fid b σ₁ e σ'):uEx C fid (.seq a b) σ e σ':=by
 obtain⟨n,h1⟩:=h1
 obtain⟨m,h2⟩:=h2
 exact⟨max n m+1,.normal,σ₁,(gA (qcg n m)).ex _ _ _ _ _ h1,.inl ⟨rfl,(gA (qcm n m)).ex _ _ _ _ _ h2⟩⟩
def uEx.seqX(h1:uEx C fid a σ e σ')(he:e≠.normal):uEx C fid (.seq a b) σ e σ':=by
 obtain⟨n,h1⟩:=h1
 exact⟨n+1,e,σ',h1,.inr ⟨he,rfl,rfl⟩⟩
def uEx.cond{c:TD}{t:Bool}(hc:oval σ.tmps c = .bool t)(h:uEx C fid (if t then a else b) σ e σ'):uEx C fid (.cond c a b) σ e σ':=by
 obtain⟨n,h⟩:=h
 exact⟨n+1,t,hc,h⟩
def uEx.block{id:Nat}(h:uEx C fid b σ e σ'):uEx C fid (.block id b) σ (gP id e) σ':=by
 obtain⟨n,h⟩:=h
 exact⟨n+1,e,h,rfl⟩
def uEx.loop(h1:uEx C fid b (σ.clear (az fid b)) .normal σ₁)(h2:uEx C fid (.loop b) σ₁ e σ'):uEx C fid (.loop b) σ e σ':=by
 obtain⟨n,h1⟩:=h1
 obtain⟨m,h2⟩:=h2
 exact⟨max n m+1,.normal,σ₁,(gA (qcg n m)).ex _ _ _ _ _ h1,.inl ⟨rfl,(gA (qcm n m)).ex _ _ _ _ _ h2⟩⟩
def uEx.loopX(h1:uEx C fid b (σ.clear (az fid b)) e σ')(he:e≠.normal):uEx C fid (.loop b) σ e σ':=by
 obtain⟨n,h1⟩:=h1
 exact⟨n+1,e,σ',h1,.inr ⟨he,rfl,rfl⟩⟩
def uEx.scope(h:uEx C fid b σ e σ'):uEx C fid (.scope b) σ e σ':=by
 obtain⟨n,h⟩:=h
 exact⟨n+1,h⟩
def uEx.region{id:Nat}{ops:Tm}(h:aT C (uB C) fid ops (List.range ops.size) σ σ'):uEx C fid (.region id ops false) σ .normal σ':=by
 obtain⟨n,h⟩:=fS h
 exact⟨n+1,rfl,nO h⟩
def uEx.draw{id:Nat}{ops:Tm}(hall:∀n,aT C (sm C n).toBelow fid ops (List.range ops.size) σ σ'->dm C (sm C n).toBelow fid ops σ σ')
  (h:aT C (uB C) fid ops (List.range ops.size) σ σ'):uEx C fid (.region id ops true) σ .normal σ':=by
 obtain⟨n,h⟩:=fS h
 exact⟨n+1,rfl,σ,.refl σ,hall n h⟩
def uEx.drawS{σ₂:St}{id:Nat}{ops:Tm}{l₁ l₂:Tz}{k:Nat}(hall:∀n,aT C (sm C n).toBelow fid ops l₁ σ σ₁->ae C (sm C n).toBelow fid ops k σ₁ σ₂->aT C (sm C n).toBelow fid ops l₂ σ₁ σ'->dm C (sm C n).toBelow fid ops σ σ')
  (h1:aT C (uB C) fid ops l₁ σ σ₁) (h2:ae C (uB C) fid ops k σ₁ σ₂) (h3:aT C (uB C) fid ops l₂ σ₁ σ'):uEx C fid (.region id ops true) σ .normal σ':=by
 obtain⟨n,h1⟩:=fS h1
 obtain⟨m,h2⟩:=gr h2
 obtain⟨l,h3⟩:=fS h3
 have q1:=gA (C:=C) (show n<=max n (max m l)by omega)
 have q2:=gA (C:=C) (show m<=max n (max m l)by omega)
 have q3:=gA (C:=C) (show l<=max n (max m l)by omega)
 exact⟨max n (max m l)+1,rfl,σ,.refl σ,hall _ (ei q1.call q1.yield h1) (cp q2.call q2.yield h2) (ei q3.call q3.yield h3)⟩
def uEx.drawA{id:Nat}{ops:Tm}{n:Nat}(h:dm C (sm C n).toBelow fid ops σ σ'):uEx C fid (.region id ops true) σ .normal σ':=
 ⟨n+1,rfl,σ,.refl σ,h⟩
def uEx.rangeFunc{f:TD}{params:Array Tmp}{assign body:Code}{g:TJ}{first cap:Tj}{φ:TJ}{tm:Tl}{r:Value}{H:Ts}{r₂:ALoop}
  (h0:fid≠[]) (h1:tr σ.tmps tm) (h2:oval σ.tmps f = .func (.func g) first cap) (h3:noLoc (.func (.func g) first cap)=true)
  (h4:gD C g (first.toList++[.func (.yield σ.heap.length) #[] #[]]++cap.toList)
    (σ.heap++[.loop { state:=.ready,pending:=none,fn:=φ,tmps:=tm,params:=params.toList,assign,body }]) r H)
  (h5:dG H σ.heap.length=some r₂) (h6:r₂.state≠.busy) (h7:tH r₂.pending=some e) :
  uEx C fid (.rangeFunc f params assign body) σ e { σ with heap:=H.set σ.heap.length (.loop { r₂ with state:=.exhausted }) }:=by
 obtain⟨n,h4⟩:=h4
 exact⟨n+1,h0,g,first,cap,φ,tm,r,H,r₂,h1,h2,h3,h4,h5,h6,h7,rfl⟩
def gD.intro{f:TJ}{args:Tl}{H:Ts}{fn:Func}{c:Code}{vs:Tl}
  (h1:C.P.funcs[f]?=some fn) (h2:fn.body=some c) (h3:((fn.name == "runtime.NumGoroutine")||C.opq f)=false)
  (h4:uEx C (C.pts f) c (jK fn args H) e σ) (h5:e = .normal∨e = .ret) (h6:cv C σ fn.results.toList=some vs) (h7:noLoc (eM vs)=true) :
  gD C f args H (eM vs) σ.heap:=by
 obtain⟨n,h4⟩:=h4
 exact⟨n+1,.inr ⟨fn,c,e,σ,vs,h1,h2,h3,h4,h5,h6,rfl,h7,rfl⟩⟩
def iQ.intro{l:Nat}{args:Tl}{H:Ts}{lp lp₁ lp₂:ALoop}{σ₂:St}{j:Tk}
  (h1:dG H l=some lp) (h2:args.length=lp.params.length)
  (h3:uEx C [] lp.assign { tmps:=cb lp.params args lp.tmps,loc:=[],heap:=H } .normal σ₁)
  (h4:dG σ₁.heap l=some lp₁) (h5:lp₁.state = .ready)
  (h6:uEx C [] lp.body { σ₁ with heap:=σ₁.heap.set l (.loop { lp₁ with state:=.busy }) } e σ₂) (h7:jumpOf e=some j) (h8:dG σ₂.heap l=some lp₂) :
  iQ C l args H (.bool j.isNone) (σ₂.heap.set l (.loop { lp₂ with state:=if j.isNone then .ready else .done,pending:=j })):=by
 obtain⟨n,h3⟩:=h3
 obtain⟨m,h6⟩:=h6
 exact⟨max n m+1,lp,σ₁,lp₁,e,σ₂,lp₂,j,h1,h2,(gA (qcg n m)).ex _ _ _ _ _ h3,h4,h5,(gA (qcm n m)).ex _ _ _ _ _ h6,h7,h8,rfl,rfl⟩
end rules
end
inductive Lf where
 |i (n:Int)
 |b (t:Bool)
 |v (x:Value)
inductive LK where
 |i (k:TF)
 |b
 |v
abbrev _root_.TE:=List LK
inductive SK where
 |leaf (k:LK)
 |agg (ks:TE)
inductive SL where
 |i (k:TF) (n:Int)
 |b (t:Bool)
 |l (t:Bool)
 |v (x:Value)
inductive S0 where
 |leaf (l:SL)
 |agg (cs:List SL)
inductive SV where
 |st (x:S0)
 |tup (xs:List S0)
 |lad (s off:Nat)
 |ldx (s base:Nat) (ix:List (Int×Nat))
 |gad (g off:Nat)
 |gdx (g base:Nat) (ix:List (Int×Nat))
 |un
 |no
inductive LR where
 |unk
 |nil
 |any (n:Nat)
 |row (cs:List SL)
structure Env where
 tm:List SV
 lc:List LR
def SL.val:SL->Value
 | .i k n=>.int k n
 | .b t=>.bool t
 | .l t=>.bool t
 | .v x=>x
def SL.lf:SL->Lf
 | .i _ n=>.i n
 | .b t=>.b t
 | .l t=>.b t
 | .v x=>.v x
def S0.val:S0->Value
 | .leaf l=>l.val
 | .agg cs=>.agg ⟨cs.map SL.val⟩
def S0.cells:S0->List SL
 | .leaf l=>[l]
 | .agg cs=>cs
def offX(base:Nat):List (Int×Nat)->Nat
 | []=>base
 |p :: l=>offX (base+p.1.toNat*p.2) l
def SV.val:SV->Value
 | .st x=>x.val
 | .tup xs=>.tuple ⟨xs.map S0.val⟩
 | .lad s off=>.pointer (some ⟨s,off,some 0⟩)
 | .ldx s base ix=>.pointer (some ⟨s,offX base ix,some 0⟩)
 | .gad g off=>.pointer (some ⟨g,off,some 1⟩)
 | .gdx g base ix=>.pointer (some ⟨g,offX base ix,some 1⟩)
 | .un=>undef
 | .no=>undef
def aY(x:Value):Bool:=noLoc x&&bg x&&aZ x && !aB x
def chk2(x:Value):Option Unit:=if co x then some ()else none
def slOf:Value->SL
 | .int k n=>.i k n
 | .bool t=>.l t
 |v=>.v v
def s0Of:Value->Option S0
 | .agg cs=>match cs.toList.all scalar with
  |true=>some (.agg (cs.toList.map slOf))
  |false=>none
 |v=>match scalar v with
  |true=>some (.leaf (slOf v))
  |false=>none
def kNo(k:TF):Nat:=@IntKind.rec (λ_=>Nat) 0 1 2 3 4 5 6 7 k
def dz(a b:TF):Bool:=Nat.beq (kNo a) (kNo b)
def SL.is:SL->LK->Bool
 | .i k _,.i k'=>dz k k'
 | .b _,.b=>true
 | .l _,.b=>true
 | .v _,.v=>true
 |_,_=>false
def aG:List SL->TE->Bool
 | [],[]=>true
 |c :: cs,k :: ks=>c.is k&&aG cs ks
 |_,_=>false
def S0.is:S0->SK->Bool
 | .leaf l,.leaf k=>l.is k
 | .agg cs,.agg ks=>aG cs ks
 |_,_=>false
def SL.lk:SL->LK
 | .i k _=>.i k
 | .b _=>.b
 | .l _=>.b
 | .v _=>.v
structure Live where
 tm:List (Nat×SK)
 rows:List (Nat×List LK)
abbrev _root_.TG:=List SK
inductive AC where
 |skip
 |ret
 |exit (id:Nat)
 |label (l:Nat)
 |seq (a b:AC)
 |scope (b:AC)
 |region (id:Nat) (ops:Tm) (draw:Bool) (hs:List (TG)) (j:Option Live)
 |cond (c:TD) (a b:AC) (j:Option Live)
 |block (id:Nat) (b:AC) (j:Option Live)
 |loop (b:AC) (l:Live)
 |rangeFunc (f:TD) (κ:Nat) (ids:Tz)
structure Site where
 nt:Nat
 caps:List (Nat×SK)
 params:List (Nat×SK)
 assign:AC
 body:AC
def AC.erase(T:Nat->Tmp->Code):AC->Code
 | .skip=>.skip
 | .ret=>.ret
 | .exit id=>.exit id
 | .label l=>.label l
 | .seq a b=>.seq (a.erase T) (b.erase T)
 | .scope b=>.scope (b.erase T)
 | .region id ops draw _ _=>.region id ops draw
 | .cond c a b _=>.cond c (a.erase T) (b.erase T)
 | .block id b _=>.block id (b.erase T)
 | .loop b _=>.loop (b.erase T)
 | .rangeFunc f κ _=>match f with
  | .tmp t=>T κ t
  |_=> .refuse ""
def nL:Nat->Tmp->Code:=λ_ _=> .refuse ""
def eA(s:Site)(t:Tmp):Code:=.rangeFunc (.tmp t) (s.params.map (·.1)).toArray (s.assign.erase nL) (s.body.erase nL)
def wrT:Code->List Nat
 | .region _ ops _=>ops.toList.filterMap (·.dst)
 | .seq a b=>wrT a++wrT b
 | .cond _ a b=>wrT a++wrT b
 | .block _ b=>wrT b
 | .loop b=>wrT b
 | .scope b=>wrT b
 |_=>[]
def gV(pts:Tz)(o:Oper):Tp:=
 match o.op with
 | .box .. | .alloc _=>match o.dst with
  |some d=>if pts.getD d 0=d+2 then some d else none
  |none=>none
 | .store _ a _=>match kg pts a with
  |s+2=>some s
  |_=>none
 |_=>none
def wrR(pts:Tz):Code->List Nat
 | .region _ ops _=>ops.toList.filterMap (gV pts)
 | .seq a b=>wrR pts a++wrR pts b
 | .cond _ a b=>wrR pts a++wrR pts b
 | .block _ b=>wrR pts b
 | .loop b=>wrR pts b
 | .scope b=>wrR pts b
 | .rangeFunc _ _ a b=>wrR pts a++wrR pts b
 |_=>[]
section
variable {R:Type}
def fN(n:Nat)(k:Nat->R):R:=Nat.rec (motive:=λ_=>R) (k n) (λm _=>k m) (Nat.succ n)
def fI(n:Int)(k:Int->R):R:=Int.rec (motive:=λ_=>R) (λm=>fN m λm=>k (.ofNat m)) (λm=>fN m λm=>k (.negSucc m)) n
def fq(n:Nat)(k:Nat->R):fN n k=k n:=rfl
def ja(n:Int)(k:Int->R):fI n k=k n:=by cases n<;>rfl
end
def leZ(a b:Int):Bool:=Int.rec (λm=>Int.rec (λn=>Nat.ble m n) (λ_=>false) b) (λm=>Int.rec (λ_=>true) (λn=>Nat.ble n m) b) a
def leZ_iff{a b:Int}:leZ a b=true↔a<=b:=by
 cases a<;>cases b<;>simp only[leZ,qbx,qaj,false_iff,true_iff,qaW]<;>omega
def cutL{α:Type}(l:List α):Nat->Nat->Option (List α):=
 List.rec (motive:=λ_=>Nat->Nat->Option (List α))
  (λoff n=>Nat.rec (Nat.rec (some []) (λ_ _=>none) n) (λ_ _=>none) off)
  (λa _ ih off n=>Nat.rec (Nat.rec (some []) (λm _=>Option.rec none (λl=>some (a :: l)) (ih 0 m)) n) (λo _=>ih o n) off) l
def lw{α:Type}:∀(l:List α) (off n:Nat),cutL l off n=if off+n<=l.length then some ((l.drop off).take n)else none
 | [],0,0=>rfl
 | [],0,n+1=>by rw[qdr (by simp)];rfl
 | [],o+1,n=>by rw[qdr (by simp)];rfl
 |a :: l,0,0=>by rw[qdq (by simp)];rfl
 |a :: l,0,n+1=>by
  show(Option.rec none (λl=>some (a :: l)) (cutL l 0 n):Option (List α))=_
  rw[lw l 0 n]
  by_cases h:0+n<=l.length
  ·rw[qdq h,qdq (by simp at h ⊢;omega)];rfl
  ·rw[qdr h,qdr (by simp at h ⊢;omega)]
 |a :: l,o+1,n=>by
  show cutL l o n=_
  rw[lw l o n]
  by_cases h:o+n<=l.length
  ·rw[qdq h,qdq (by simp at h ⊢;omega)];rfl
  ·rw[qdr h,qdr (by simp at h ⊢;omega)]
def splL{α:Type}(l:List α):Nat->List α->Option (List α):=
 List.rec (motive:=λ_=>Nat->List α->Option (List α))
  (λoff new=>Nat.rec (List.rec (some []) (λ_ _ _=>none) new) (λ_ _=>none) off)
  (λa t ih off new=>Nat.rec (List.rec (some (a :: t)) (λb bs _=>Option.rec none (λl=>some (b :: l)) (ih 0 bs)) new) (λo _=>Option.rec none (λl=>some (a :: l)) (ih o new)) off) l
def sY{α:Type}:∀(l:List α) (off:Nat) (new:List α),splL l off new=if off+new.length<=l.length then some (l.take off++new++l.drop (off+new.length))else none
 | [],0,[]=>rfl
 | [],0,b :: bs=>by rw[qdr (by simp)];rfl
 | [],o+1,new=>by rw[qdr (by simp)];rfl
 |a :: l,0,[]=>by rw[qdq (by simp)];rfl
 |a :: l,0,b :: bs=>by
  show(Option.rec none (λl=>some (b :: l)) (splL l 0 bs):Option (List α))=_
  rw[sY l 0 bs]
  by_cases h:0+bs.length<=l.length
  ·rw[qdq h,qdq (by simp at h ⊢;omega)];simp
  ·rw[qdr h,qdr (by simp at h ⊢;omega)]
 |a :: l,o+1,new=>by
  show(Option.rec none (λl=>some (a :: l)) (splL l o new):Option (List α))=_
  rw[sY l o new]
  by_cases h:o+new.length<=l.length
  ·rw[qdq h,qdq (by simp at h ⊢;omega)];simp[Nat.add_right_comm]
  ·rw[qdr h,qdr (by simp at h ⊢;omega)]
abbrev bR:=Nat->Option HObj
inductive Act1 where
 |set (i:Nat) (o:HObj)
 |push (o:HObj)
def Act1.on(H:Ts):Act1->List HObj
 | .set i o=>H.set i o
 | .push o=>H++[o]
def fk(H:Ts)(l:List Act1):Ts:=l.foldl Act1.on H
def fA(g:bR)(id:Nat):Option (Tl):=
 match g id with
 |some (.cells vs _ _)=>some vs
 |_=>none
def ldP(n:Nat)(p:Value)(g:bR):Option (Tl):=
 match p with
 | .pointer (some a)=>match a.spot with
  |none=>(fA g a.block).bind λvs=>cut vs a.off n
  |some _=>none
 |_=>none
def lgP(C:Cfg)(n:Nat)(p:Value)(g:bR):Option (Tl):=
 match p with
 | .pointer (some a)=>match a.spot with
  |none=>(fA g a.block).bind λvs=>cut vs a.off n
  |some k=>match Nat.beq k 1 with
   |true=>(C.G a.block).bind λvs=>cut vs a.off n
   |false=>none
 |_=>none
def stP(p:Value)(new:Tl)(g:bR)(_:Nat):Option (List Act1×List Value):=
 match p with
 | .pointer (some a)=>match a.spot with
  |none=>match g a.block with
   |some (.cells vs e true)=>(splice vs a.off new).map λvs'=>([.set a.block (.cells vs' e true)],[])
   |_=>none
  |some _=>none
 |_=>none
def slG(C:Cfg)(esz:Nat)(g:bR):Value->Option (List Value×Nat)
 | .slice none 0 0=>some ([],0)
 | .slice (some a) len _=>
  if a.spot=some 1 then((C.G a.block).bind λvs=>cut vs a.off (len*esz)).map λx=>(x,len)
  else if a.spot=tag esz then
   match g a.block with
   |some (.cells vs e _)=>if e=esz then(cut vs a.off (len*esz)).map λx=>(x,len)else none
   |_=>none
  else none
 | .string s=>if esz=1 then some (s.data.toList.map λb=>.int .u8 b.toNat,s.size)else none
 |_=>none
def apG(C:Cfg)(esz bytes:Nat)(s x:Value)(g:bR)(n0:Nat):Option (List Act1×List Value):=
 match slG C esz g x with
 |none=>none
 |some (new,n)=>
  match s with
  | .slice none 0 0=>
   if n=0 then some ([],[.slice none 0 0])
   else if ch n bytes then some ([.push (.cells new esz true)],[.slice (some ⟨n0,0,tag esz⟩) n 0])else none
  | .slice (some a) len cx=>
   if a.spot≠tag esz then none else
   match g a.block with
   |some (.cells vs e rw)=>
    if e≠esz then none else
    match cut vs a.off (len*esz)with
    |none=>none
    |some old=>
     match cx with
     |0=>
      if n=0 then some ([],[.slice (some a) len 0])
      else if rw&&ch (len+n) bytes then
       some ([.set a.block .dead,.push (.cells (old++new) esz true)],[.slice (some ⟨n0,0,tag esz⟩) (len+n) 0])
      else none
     |cap+1=>
      if len+n<=cap then
       if rw then(splice vs (a.off+len*esz) new).map λvs'=>([.set a.block (.cells vs' e true)],[.slice (some a) (len+n) (cap+1)])
       else if n=0 then some ([],[.slice (some a) len (cap+1)])else none
      else if ch (len+n) bytes then
       some ([.push (.cells (old++new) esz true)],[.slice (some ⟨n0,0,tag esz⟩) (len+n) 0])
      else none
   |_=>none
  |_=>none
def cpG(C:Cfg)(esz:Nat)(d x:Value)(g:bR)(_:Nat):Option (List Act1×List Value):=
 match d with
 | .slice none 0 0=>(slG C esz g x).map λ_=>([],[.int .i64 0])
 | .slice (some a) dlen _=>
  if a.spot≠tag esz then none else
  match slG C esz g x,g a.block with
  |some (new,n),some (.cells vs e true)=>
   if e≠esz then none else
   (splice vs a.off (new.take (Nat.min n dlen*esz))).map λvs'=>([.set a.block (.cells vs' e true)],[.int .i64 (Nat.min n dlen)])
  |_,_=>none
 |_=>none
def clG(esz:Nat)(z:Tl)(x:Value)(g:bR)(_:Nat):Option (List Act1×List Value):=
 match x with
 | .slice none 0 0=>some ([],[])
 | .slice (some a) n _=>
  if a.spot≠tag esz then none else
  match g a.block with
  |some (.cells vs e true)=>
   if e≠esz then none else
   (splice vs a.off (aD z n)).map λvs'=>([.set a.block (.cells vs' e true)],[])
  |_=>none
 |_=>none
def slS(esz:Nat)(x:Value)(lo hi mx:Tq):Ti:=
 match x with
 | .slice (some a) len cx=>
  if a.spot≠some 1/\a.spot≠tag esz then none else
  if 0<=lo.getD 0/\lo.getD 0<=hi.getD len/\dw len cx hi mx then
   fN (a.off+(lo.getD 0).toNat*esz) λo=>fN ((hi.getD len).toNat - (lo.getD 0).toNat) λn=>fN (bY cx (lo.getD 0).toNat mx) λc=>
   some (.slice (some { a with off:=o }) n c)
  else none
 | .slice none 0 0=>if lo.getD 0=0/\hi.getD 0=0/\mx.getD 0=0/\(mx.isNone∨hi.isSome)then some (.slice none 0 0)else none
 |_=>none
def spotF(s:Tp):Tp:=match s with
 |none=>none
 |some k=>match Nat.beq k 1 with
  |true=>some 1
  |false=>none
def idS(esz:Nat)(x:Value)(i:Int):Ti:=
 match x with
 | .slice (some a) len _=>Int.rec (λj=>match Nat.blt j len with
  |true=>fN (Nat.add a.off (Nat.mul j esz)) λo=>some (.pointer (some ⟨a.block,o,spotF a.spot⟩))
  |false=>none) (λ_=>none) i
 |_=>none
def spotF_eq(s:Tp):spotF s=if s=some 1 then some 1 else none:=by
 unfold spotF
 cases s with
 |none=>rfl
 |some k=>
  cases e:Nat.beq k 1 with
  |true=>rw[qac e];rfl
  |false=>
   rw[qdr (λh=>by cases h;cases e)]
   simp only[e]
def idS_eq(esz:Nat)(x:Value)(i:Int):idS esz x i=match (motive:=Value->Ti) x with
 | .slice (some a) len _=>
  if 0<=i/\i<(len:Int)then some (.pointer (some ⟨a.block,a.off+i.toNat*esz,if a.spot=some 1 then some 1 else none⟩))else none
 |_=>none:=by
 unfold idS
 split
 next a len _=>
  cases i with
  |ofNat j=>
   simp only[fq,spotF_eq]
   cases e:Nat.blt j len with
   |true=>
    rw[qaU]at e
    have hh:0<=Int.ofNat j/\Int.ofNat j<(len:Int):=⟨qaL j,by show(j:Int)<len;omega⟩
    rw[qdq hh];rfl
   |false=>
    have:¬j<len:=λh=>by rw[←qaU,e]at h;cases h
    have hh:¬(0<=Int.ofNat j/\Int.ofNat j<(len:Int)):=λh=>this (by have h2:(j:Int)<len:=h.2;omega)
    rw[qdr hh]
  |negSucc j=>
   have hh:¬(0<=Int.negSucc j/\Int.negSucc j<(len:Int)):=λh=>by have:=h.1;omega
   rw[qdr hh]
 ·rfl
def idP(len esz:Nat)(x:Value)(i:Int):Ti:=
 match x with
 | .pointer (some a)=>if 0<=i/\i<(len:Int)then some (.pointer (some { a with off:=a.off+i.toNat*esz }))else none
 |_=>none
def fdP(off:Nat)(x:Value):Ti:=
 match x with
 | .pointer (some a)=>some (.pointer (some { a with off:=a.off+off }))
 |_=>none
def nilP(x:Value):Ti:=
 match x with
 | .pointer (some a)=>some (.pointer (some a))
 | .func (.func f) a b=>some (.func (.func f) a b)
 | .func (.yield f) a b=>some (.func (.yield f) a b)
 |_=>none
def slAG(n esz:Nat)(p:Value)(lo hi mx:Tq)(g:bR):Option (Tl):=
 match p with
 | .pointer (some a)=>match a.spot with
  |none=>match dU n (lo.map (.int .i64)) (hi.map (.int .i64)) (mx.map (.int .i64)),g a.block with
   |some (l,h,m),some (.cells vs e _)=>match Nat.beq e esz&&Nat.ble (a.off+n*esz) vs.length with
    |true=>fN (a.off+l*esz) λo=>fN (h - l) λq=>fN (m - l+1) λc=>some [.slice (some ⟨a.block,o,tag esz⟩) q c]
    |false=>none
   |_,_=>none
  |some _=>none
 |_=>none
def eqBs(a:List UInt8):List UInt8->Bool:=
 List.rec (motive:=λ_=>List UInt8->Bool) (λb=>List.rec true (λ_ _ _=>false) b)
  (λx _ ih b=>List.rec false (λy t _=>Bool.rec false (ih t) (Nat.beq x.toNat y.toNat)) b) a
def tF:∀(a b:List UInt8),eqBs a b=true↔a=b
 | [],[]=>⟨λ_=>rfl,λ_=>rfl⟩
 | [],_ :: _=>⟨λh=>(by cases h),λh=>(by cases h)⟩
 |_ :: _,[]=>⟨λh=>(by cases h),λh=>(by cases h)⟩
 |x :: a,y :: b=>by
  show(Bool.rec false (eqBs a b) (Nat.beq x.toNat y.toNat):Bool)=true↔_
  cases e:Nat.beq x.toNat y.toNat with
  |true=>
   have:x=y:=UInt8.toNat_inj.1 (qac e)
   show eqBs a b=true↔_
   rw[tF a b,this];simp
  |false=>
   constructor
   ·intro h;cases h
   ·intro h
    cases h
    rw[show Nat.beq x.toNat x.toNat=true from qbN _]at e
    cases e
def strEq(x y:Value):Option Bool:=match x with
 | .string a=>match y with
  | .string b=>some (eqBs a.data.toList b.data.toList)
  |_=>none
 |_=>none
def lenS:Value->Option Int
 | .slice _ n _=>some n
 |_=>none
def strAt(s:ByteArray)(j:Int):Tq:=match j with
 | .ofNat n=>(s.data.toList[n]?).map λb=>Int.ofNat b.toNat
 |_=>none
def strAt_ok{s:ByteArray}{j b:Int}(h:strAt s j=some b):0<=j/\(s[j.toNat]?).map (λb=>Value.int .u8 b.toNat)=some (.int .u8 b):=by
 unfold strAt at h
 split at h
 next n=>
  obtain⟨x,h1,rfl⟩:=qad.1 h
  refine⟨qaL n,?_⟩
  have:s[n]?=some x:=by
   rw[qcA]at h1
   obtain⟨hlt,h2⟩:=qaz.1 h1
   have hs:n<s.size:=hlt
   rw[getElem?_pos s n hs]
   exact congrArg some h2
  show(s[n]?).map _=_
  rw[this]
  rfl
 ·cases h
def capS:Value->Option Int
 | .slice (some _) _ (n+1)=>some n
 | .slice none 0 0=>some 0
 |_=>none
def lenM(m:Value)(g:bR):Option (Tl):=
 match m with
 | .map (some id)=>match g id with
  |some (.map es _)=>some [.int .i64 es.length]
  |_=>none
 |_=>none
def inB(len:Nat)(i:Int):Option Unit:=Int.rec (λj=>match Nat.blt j len with
 |true=>some ()
 |false=>none) (λ_=>none) i
def inB_eq(len:Nat)(i:Int):inB len i=if 0<=i/\i<(len:Int)then some ()else none:=by
 unfold inB
 cases i with
 |ofNat j=>
  simp only
  cases e:Nat.blt j len with
  |true=>rw[qaU]at e;rw[qdq ⟨qaL j,by show(j:Int)<len;omega⟩]
  |false=>
   have:¬j<len:=λh=>by rw[←qaU,e]at h;cases h
   rw[qdr (λh=>this (by have h2:(j:Int)<len:=h.2;omega))]
 |negSucc j=>rw[qdr (λh=>by have:=h.1;omega)]
def mkOk(l c:Int):Option Unit:=if 0<=l/\l<=c/\c<=1048576 then some ()else none
abbrev _root_.TB:=List Lf
def mR(cs:TB)(base:Nat)(ix:List (Int×Nat))(n:Nat):Option (TB):=cutL cs (offX base ix) n
def pickL_eq(cs:TB)(base:Nat)(ix:List (Int×Nat))(n:Nat):mR cs base ix n=if offX base ix+n<=cs.length then some ((cs.drop (offX base ix)).take n)else none:=lw _ _ _
def putL(cs:TB)(base:Nat)(ix:List (Int×Nat))(new:TB):Option (TB):=splL cs (offX base ix) new
def putL_eq(cs:TB)(base:Nat)(ix:List (Int×Nat))(new:TB):putL cs base ix new=if offX base ix+new.length<=cs.length then some (cs.take (offX base ix)++new++cs.drop (offX base ix+new.length))else none:=sY _ _ _
def mf(vs:Tl)(base:Nat)(ix:List (Int×Nat))(n:Nat):Option (Tl):=cutL vs (offX base ix) n
def pickV_eq(vs:Tl)(base:Nat)(ix:List (Int×Nat))(n:Nat):mf vs base ix n=cut vs (offX base ix) n:=lw _ _ _
def ldGv(C:Cfg)(n:Nat)(p:Value):Option (Tl):=
 match p with
 | .pointer (some a)=>if a.spot=some 1 then(C.G a.block).bind λvs=>cut vs a.off n else none
 |_=>none
inductive Pk where
 |ld (n:Nat) (p:Value)
 |lg (C:Cfg) (n:Nat) (p:Value)
 |fn (f:bR->Option (Tl))
def Pk.run:Pk->bR->Option (Tl)
 | .ld n p=>ldP n p
 | .lg C n p=>lgP C n p
 | .fn f=>f
inductive Hp where
 |st (p:Value) (new:Tl)
 |ap (C:Cfg) (esz bytes:Nat) (s x:Value)
 |fn (f:bR->Nat->Option (List Act1×List Value))
def Hp.run:Hp->bR->Nat->Option (List Act1×List Value)
 | .st p new=>stP p new
 | .ap C esz bytes s x=>apG C esz bytes s x
 | .fn f=>f
structure Alg(R HT:Type):Type 1 where
 fail:R
 cond:Bool->R->R->R
 ari:BinOp->TF->Int->Int->(Int->R)->R
 shf:BinOp->TF->Int->TF->Int->(Int->R)->R
 cmp:BinOp->Int->Int->(Bool->R)->R
 eqs:List (Lf×Lf)->(Bool->R)->R
 conv:TF->Int->(Int->R)->R
 sel:Bool->Int->Int->(Int->R)->R
 opt:{α:Type}->Option α->(α->R)->R
 chk:Value->R->R
 unI:TB->(Int->TB->R)->R
 unB:TB->(Bool->TB->R)->R
 unV:TB->(Value->TB->R)->R
 un0:TB->R->R
 ucI:TF->Tl->(Int->Tl->R)->R
 ucB:Tl->(Bool->Tl->R)->R
 ucV:Tl->(Value->Tl->R)->R
 uc0:Tl->R->R
 peek:Pk->HT->(Tl->R)->R
 heap:Hp->HT->(Tl->HT->R)->R
 new:HObj->HT->(Nat->HT->R)->R
 call:TJ->TB->HT->(TB->HT->R)->R
 callv:Value->Tl->TG->HT->(TB->HT->R)->R
 join:(TB->HT->R)->((TB->HT->R)->R)->R
 loop:((TB->HT->R)->TB->HT->R)->TB->HT->R
 rfun:Nat->Value->Tl->HT->(Tk->HT->R)->R
 pend:Tk->R->R->List (Nat×R)->R
 lp1:Nat->HT->(HT->R)->R
 lp2:Nat->Tk->HT->(HT->R)->R
section
variable {R HT:Type} (A:Alg R HT)
def setK{α:Type}(x:α)(l:List α):Nat->(List α->R)->R:=
 List.rec (motive:=λ_=>Nat->(List α->R)->R) (λ_ k=>k [])
  (λa tl ih i k=>match i with
   |0=>k (x :: tl)
   |i+1=>ih i λl=>k (a :: l)) l
def unL(ks:TE):TB->(List SL->TB->R)->R:=
 List.rec (motive:=λ_=>TB->(List SL->TB->R)->R) (λls K=>K [] ls)
  (λk _ ih ls K=>match k with
   | .i k=>A.unI ls λn r=>ih r λsl r=>K (.i k n :: sl) r
   | .b=>A.unB ls λt r=>ih r λsl r=>K (.b t :: sl) r
   | .v=>A.unV ls λx r=>ih r λsl r=>K (.v x :: sl) r) ks
def unS(sk:SK)(ls:TB)(K:S0->TB->R):R:=
 match sk with
 | .leaf k=>match k with
  | .i k=>A.unI ls λn r=>K (.leaf (.i k n)) r
  | .b=>A.unB ls λt r=>K (.leaf (.b t)) r
  | .v=>A.unV ls λx r=>K (.leaf (.v x)) r
 | .agg ks=>unL A ks ls λsl r=>K (.agg sl) r
def unSs(sks:TG):TB->(List S0->TB->R)->R:=
 List.rec (motive:=λ_=>TB->(List S0->TB->R)->R) (λls K=>K [] ls)
  (λsk _ ih ls K=>unS A sk ls λx r=>ih r λxs r=>K (x :: xs) r) sks
def ucL(ks:TE):Tl->(List SL->Tl->R)->R:=
 List.rec (motive:=λ_=>Tl->(List SL->Tl->R)->R) (λcs K=>K [] cs)
  (λk _ ih cs K=>match k with
   | .i k=>A.ucI k cs λn r=>ih r λsl r=>K (.i k n :: sl) r
   | .b=>A.ucB cs λt r=>ih r λsl r=>K (.b t :: sl) r
   | .v=>A.ucV cs λx r=>A.chk x (ih r λsl r=>K (.v x :: sl) r)) ks
def ucS(sk:SK)(cs:Tl)(K:S0->Tl->R):R:=
 match sk with
 | .leaf k=>match k with
  | .i k=>A.ucI k cs λn r=>K (.leaf (.i k n)) r
  | .b=>A.ucB cs λt r=>K (.leaf (.b t)) r
  | .v=>A.ucV cs λx r=>A.chk x (K (.leaf (.v x)) r)
 | .agg ks=>ucL A ks cs λsl r=>K (.agg sl) r
def ucSs(sks:TG):Tl->(List S0->Tl->R)->R:=
 List.rec (motive:=λ_=>Tl->(List S0->Tl->R)->R) (λcs K=>K [] cs)
  (λsk _ ih cs K=>ucS A sk cs λx r=>ih r λxs r=>K (x :: xs) r) sks
def ca:List S0->List Lf
 | []=>[]
 |x :: l=>x.cells.map SL.lf++ca l
def ai(l:List S0):Tl:=l.map S0.val
def kC(l:List S0):Tl:=l.flatMap λx=>x.cells.map SL.val
def pkT(tm:List SV):List (Nat×SK)->Option (TB)
 | []=>some []
 |(t,sk) :: l=>match tm.getD t .no,pkT tm l with
  | .st x,some ls=>match x.is sk with
   |true=>some (x.cells.map SL.lf++ls)
   |false=>none
  |_,_=>none
def pkR(lc:List LR):List (Nat×List LK)->Option (TB)
 | []=>some []
 |(s,ks) :: l=>match lc.getD s .unk,pkR lc l with
  | .row cs,some ls=>match aG cs ks with
   |true=>some (cs.map SL.lf++ls)
   |false=>none
  |_,_=>none
def pk(ev:Env)(lv:Live):Option (TB):=
 match pkT ev.tm lv.tm,pkR ev.lc lv.rows with
 |some a,some b=>some (a++b)
 |_,_=>none
def SV.inRows(ks:Tz):SV->Bool
 | .tup _=>true
 | .lad s _=>ks.contains s
 | .ldx s _ _=>ks.contains s
 |_=>false
def clrT(ws ks:Tz)(l:List SV):Nat->(List SV->R)->R:=
 List.rec (motive:=λ_=>Nat->(List SV->R)->R) (λ_ K=>K [])
  (λx _ ih i K=>ih (i+1) λl=>match ws.contains i||x.inRows ks with
   |true=>K (.no :: l)
   |false=>K (x :: l)) l
def oZ(n:Nat)(K:Nat->R):R:=Nat.casesOn n (K 0) λm=>K (Nat.succ m)
def clrR(ws ks:Tz)(nw:LR)(l:List LR):Nat->(List LR->R)->R:=
 List.rec (motive:=λ_=>Nat->(List LR->R)->R) (λ_ K=>K [])
  (λx _ ih i K=>ih (i+1) λl=>match ks.contains i,ws.contains i with
   |true,_=>K (nw :: l)
   |false,true=>(match x with
    | .row cs=>oZ cs.length λn=>K (.any n :: l)
    | .any n=>K (.any n :: l)
    |_=>K (.unk :: l))
   |false,false=>K (x :: l)) l
def upT(lv:List (Nat×SK)):List S0->List SV->(List SV->R)->R:=
 List.rec (motive:=λ_=>List S0->List SV->(List SV->R)->R) (λ_ tm K=>K tm)
  (λp _ ih xs tm K=>match xs with
   |x :: xs=>setK (.st x) tm p.1 λtm=>ih xs tm K
   | []=>A.fail) lv
def upR(lv:List (Nat×List LK)):TB->List LR->(List LR->TB->R)->R:=
 List.rec (motive:=λ_=>TB->List LR->(List LR->TB->R)->R) (λls lc K=>K lc ls)
  (λp _ ih ls lc K=>unL A p.2 ls λcs r=>setK (.row cs) lc p.1 λlc=>ih r lc K) lv
def reE(pts:Tz)(c:Code)(nw:LR)(lv:Live)(ev:Env)(ls:TB)(K:Env->R):R:=
 clrT (wrT c) (az pts c) ev.tm 0 λtm=>clrR (wrR pts c) (az pts c) nw ev.lc 0 λlc=>
  unSs A (lv.tm.map (·.2)) ls λxs r=>upT A lv.tm xs tm λtm=>upR A lv.rows r lc λlc r=>A.un0 r (K ⟨tm,lc⟩)
abbrev KN(R HT:Type):=Env->HT->R
def qS(pts:Tz)(c:Code)(j:Option Live)(ev:Env)(kn:KN R HT)(main:KN R HT->R):R:=
 match j with
 |none=>main kn
 |some lv=>A.join (λls h=>reE A pts c .unk lv ev ls λev=>kn ev h) λjn=>main λev h=>match pk ev lv with
  |some ls=>jn ls h
  |none=>A.fail
structure Ctxt where
 C:Cfg
 pts:List Nat
 T:Nat->Site
def sval(ev:Env):TD->SV
 | .tmp t=>ev.tm.getD t .no
 | .const v=>match s0Of v with
  |some x=>.st x
  |none=>.no
 | .global g=>match Nat.blt g gB with
  |true=>.gad g 0
  |false=>.no
 | .func f=>.st (.leaf (.v (.func (.func f) #[] #[])))
def sval0(ev:Env)(x:TD):Option S0:=
 match sval ev x with
 | .st x=>some x
 |_=>none
def svals(ev:Env):List Operand->Option (List S0)
 | []=>some []
 |x :: l=>match sval0 ev x,svals ev l with
  |some x,some l=>some (x :: l)
  |_,_=>none
def constI:TD->Option Nat
 | .const (.int _ (.ofNat n))=>some n
 |_=>none
def setD(d:Tn)(x:SV)(ev:Env)(h:HT)(K:KN R HT):R:=
 match d with
 |some d=>setK x ev.tm d λtm=>K ⟨tm,ev.lc⟩ h
 |none=>K ev h
def pL(ev:Env)(s:Nat):Option (List SL):=
 match ev.lc.getD s .unk with
 | .row cs=>some cs
 |_=>none
def skKs:SK->List LK
 | .leaf k=>[k]
 | .agg ks=>ks
def cutS(cs:List SL)(off n:Nat):Option (List SL):=if off+n<=cs.length then some ((cs.drop off).take n)else none
def fW(cs:List SL)(off:Nat)(new:List SL):Option (List SL):=if off+new.length<=cs.length then some (cs.take off++new++cs.drop (off+new.length))else none
def qh(cs:List SL)(ks:TE):Nat->List (Int×Nat)->Bool
 |base,[]=>match cutS cs base ks.length with
  |some ds=>aG ds ks
  |none=>true
 |base,p :: l=>!Nat.beq p.2 0&&(List.range (cs.length+1)).all λj=>qh cs ks (base+j*p.2) l
def mkS0(agg:Bool)(cs:List SL):Option S0:=
 match agg,cs with
 |true,cs=>some (.agg cs)
 |false,[c]=>some (.leaf c)
 |_,_=>none
def oU(pl:Nat->Option (Nat×Nat))(cs:List SL):List (Nat×S0)->Option (List SL)
 | []=>some cs
 |(i,x) :: l=>match pl i with
  |some (off,n)=>match Nat.beq x.cells.length n with
   |true=>match fW cs off x.cells with
    |some cs=>oU pl cs l
    |none=>none
   |false=>none
  |none=>none
def aggT(P:TC)(t:TI):Option Bool:=
 match P.underlying t with
 |some (.struct _)|some (.array _ _)=>some true
 |some _=>some false
 |none=>none
def tj(P:TC)(t:TI):Option S0:=(cZ P t).bind s0Of
def gZ:SK->Bool
 | .leaf _=>false
 | .agg _=>true
def eqB:Bool->Bool->Bool
 |true,true=>true
 |false,false=>true
 |_,_=>false
def newV(X:Ctxt)(d:Tn)(t:TI)(x:S0)(ev:Env)(h:HT)(K:KN R HT):R:=
 match d with
 |none=>A.fail
 |some d=>match Nat.beq (X.pts.getD d 0) (d+2)with
  |true=>match ev.lc.getD d .unk with
   | .nil=>setK (.row x.cells) ev.lc d λlc=>setK (.lad d 0) ev.tm d λtm=>K ⟨tm,lc⟩ h
   |_=>A.fail
  |false=>A.new (.cells (x.cells.map SL.val) (jz X.C.P t) true) h λn h=>setD (some d) (.st (.leaf (.v (.pointer (some ⟨n,0,none⟩))))) ev h K
def setC(d:Tn)(sk:SK)(cs:Tl)(ev:Env)(h:HT)(K:KN R HT):R:=
 ucS A sk cs λx r=>A.uc0 r (setD d (.st x) ev h K)
def setL(d:Tn)(sk:SK)(ls:TB)(ev:Env)(h:HT)(K:KN R HT):R:=
 unS A sk ls λx r=>A.un0 r (setD d (.st x) ev h K)
def loadE(X:Ctxt)(d:Tn)(sk:SK)(agg:Bool)(n:Nat)(a:TD)(ev:Env)(h:HT)(K:KN R HT):R:=
 match kg X.pts a,sval ev a with
 |0,.st (.leaf (.v p))=>A.peek (.lg X.C n p) h λcs=>setC A d sk cs ev h K
 |1,.gad g off=>match X.C.G g with
  |some vs=>match cut vs off n with
   |some cs=>match cs.all scalar,mkS0 agg (cs.map slOf)with
    |true,some x=>setD d (.st x) ev h K
    |_,_=>setC A d sk cs ev h K
   |none=>A.fail
  |none=>A.fail
 |1,.gdx g base ix=>match X.C.G g with
  |some vs=>A.opt (mf vs base ix n) λcs=>setC A d sk cs ev h K
  |none=>A.fail
 |1,.st (.leaf (.v p))=>A.opt (ldGv X.C n p) λcs=>setC A d sk cs ev h K
 |s+2,.lad s' off=>match Nat.beq s s',(pL ev s).bind (λcs=>(cutS cs off n).bind (mkS0 agg))with
  |true,some x=>setD d (.st x) ev h K
  |_,_=>A.fail
 |s+2,.ldx s' base ix=>match Nat.beq s s',pL ev s with
  |true,some cs=>match qh cs (skKs sk) base ix&&Nat.beq n (skKs sk).length with
   |true=>A.opt (mR (cs.map SL.lf) base ix n) λls=>setL A d sk ls ev h K
   |false=>A.fail
  |_,_=>A.fail
 |_,_=>A.fail
def storeR(r:LR)(off:Nat)(new:List SL):Option (List SL):=
 match r with
 | .row cs=>fW cs off new
 | .any n=>match Nat.beq off 0&&Nat.beq n new.length with
  |true=>some new
  |false=>none
 |_=>none
def storeE(X:Ctxt)(d:Tn)(t:TI)(a:TD)(x:S0)(ev:Env)(h:HT)(K:KN R HT):R:=
 match Nat.beq x.cells.length (X.C.P.cellsOf t)&&(X.C.P.info? t).isSome with
 |false=>A.fail
 |true=>match kg X.pts a,sval ev a with
  |0,.st (.leaf (.v p))=>A.heap (.st p (x.cells.map SL.val)) h λ_ h=>setD d .un ev h K
  |s+2,.lad s' off=>match Nat.beq s s',storeR (ev.lc.getD s .unk) off x.cells with
   |true,some cs=>setK (.row cs) ev.lc s λlc=>setD d .un ⟨ev.tm,lc⟩ h K
   |_,_=>A.fail
  |s+2,.ldx s' base ix=>match Nat.beq s s',pL ev s with
   |true,some cs=>match qh cs (x.cells.map SL.lk) base ix with
    |false=>A.fail
    |true=>A.opt (putL (cs.map SL.lf) base ix (x.cells.map SL.lf)) λls=>unL A (cs.map SL.lk) ls λcs r=>A.un0 r (setK (.row cs) ev.lc s λlc=>setD d .un ⟨ev.tm,lc⟩ h K)
   |_,_=>A.fail
  |_,_=>A.fail
def isCmp:BinOp->Bool
 | .eql | .neq | .lss | .leq | .gtr | .geq=>true
 |_=>false
def isShift:BinOp->Bool
 | .shl | .shr=>true
 |_=>false
def jN(F:TI->Option (TE)):List Field->Nat->Option (TE)
 | [],_=>some []
 |f :: fs,off=>match decide (f.name = "_"),Nat.beq f.offset off,F f.type with
  |false,true,some ks=>(jN F fs (off+ks.length)).map (ks ++ ·)
  |_,_,_=>none
def gQ(P:TC):Nat->TI->Option (TE)
 |0,_=>none
 |d+1,t=>match P.underlying t with
  |some (.int k)=>some [.i k]
  |some .bool=>some [.b]
  |some (.struct fs)=>match P.stoodInHeld t,jN (gQ P d) fs.toList 0 with
   |false,some ks=>match Nat.beq ks.length (P.cellsOf t)with
    |true=>some ks
    |false=>none
   |_,_=>none
  |some (.array n e)=>match gQ P d e with
   |some ks=>match Nat.beq ks.length (P.cellsOf e)&&Nat.beq (List.replicate n ks).flatten.length (P.cellsOf t)with
    |true=>some (List.replicate n ks).flatten
    |false=>none
   |none=>none
  |_=>none
def eqZ:Int->Int->Bool
 | .ofNat a,.ofNat b=>Nat.beq a b
 | .negSucc a,.negSucc b=>Nat.beq a b
 |_,_=>false
def ip:TE->Tl->Tl->Option Bool
 | [],[],[]=>some true
 | .i k :: ks,.int a x :: xs,.int b y :: ys=>match dz a k,dz b k,ip ks xs ys with
  |true,true,some r=>(match eqZ x y with
   |true=>some r
   |false=>some false)
  |_,_,_=>none
 | .b :: ks,.bool x :: xs,.bool y :: ys=>match ip ks xs ys with
  |some r=>(match eqB x y with
   |true=>some r
   |false=>some false)
  |none=>none
 |_,_,_=>none
def difK:TE->Tl->Tl->Option Bool
 | [],_,_=>some true
 | .i k :: ks,.int a x :: xs,.int b y :: ys=>match dz a k,dz b k with
  |true,true=>(match eqZ x y with
   |true=>difK ks xs ys
   |false=>some false)
  |_,_=>none
 | .b :: ks,.bool x :: xs,.bool y :: ys=>match eqB x y with
  |true=>difK ks xs ys
  |false=>some false
 |_,_,_=>none
def lF(ks:TE)(cs:Tl):Th->Nat->Option (Tp)
 | [],_=>some none
 |e :: es,i=>match e.key with
  | .agg ds=>match difK ks cs ds.toList with
   |some true=>some (some i)
   |some false=>lF ks cs es (i+1)
   |none=>none
  |_=>none
def valI{R:Type}(v:Value)(d:R)(K:TF->Int->R):R:=match v with
 | .int a m=>K a m
 |_=>d
def valB{R:Type}(v:Value)(d:R)(K:Bool->R):R:=match v with
 | .bool a=>K a
 |_=>d
def eqZR(a b:Int):Bool:=@Int.rec (λ_=>Bool) (λm=>@Int.rec (λ_=>Bool) (λn=>Nat.beq m n) (λ_=>false) b) (λm=>@Int.rec (λ_=>Bool) (λ_=>false) (λn=>Nat.beq m n) b) a
def difR(ks:TE):Tl->Tl->Option Bool:=
 @List.rec LK (λ_=>Tl->Tl->Option Bool)
  (λ_ _=>some true)
  (λk _ ih xs ys=>@List.rec Value (λ_=>Option Bool) none (λx xs _=>@List.rec Value (λ_=>Option Bool) none (λy ys _=>
   @LK.rec (λ_=>Option Bool)
    (λk=>valI x none λa m=>valI y none λb n=>@Bool.rec (λ_=>Option Bool) none (@Bool.rec (λ_=>Option Bool) none (@Bool.rec (λ_=>Option Bool) (some false) (ih xs ys) (eqZR m n)) (dz b k)) (dz a k))
    (valB x none λa=>valB y none λb=>@Bool.rec (λ_=>Option Bool) (some false) (ih xs ys) (eqB a b))
    none k) ys) xs) ks
def eqZR_eq(a b:Int):eqZR a b=eqZ a b:=by cases a<;>cases b<;>rfl
def rY:∀(ks:TE) (xs ys:Tl),difR ks xs ys=difK ks xs ys
 | [],_,_=>by simp only[difK];rfl
 |k :: ks,[],ys=>by cases k<;>rfl
 |k :: ks,x :: xs,[]=>by cases k<;>cases x<;>rfl
 | .v :: ks,x :: xs,y :: ys=>by cases x<;>cases y<;>rfl
 | .b :: ks,x :: xs,y :: ys=>by
  cases x<;>first|(cases y<;>rfl)|skip
  cases y<;>first|rfl|skip
  rename_i a b
  show @Bool.rec (λ_=>Option Bool) (some false) (difR ks xs ys) (eqB a b)=_
  rw[rY ks xs ys]
  simp only[difK]
  cases eqB a b<;>rfl
 | .i k :: ks,x :: xs,y :: ys=>by
  cases x<;>first|(cases y<;>rfl)|skip
  cases y<;>first|rfl|skip
  rename_i a m b n
  show @Bool.rec (λ_=>Option Bool) none (@Bool.rec (λ_=>Option Bool) none (@Bool.rec (λ_=>Option Bool) (some false) (difR ks xs ys) (eqZR m n)) (dz b k)) (dz a k)=_
  rw[rY ks xs ys,eqZR_eq]
  simp only[difK]
  cases dz a k<;>cases dz b k<;>first|rfl|(cases eqZ m n<;>rfl)
def findR(ks:TE)(cs:Tl)(es:Th):Nat->Option (Tp):=
 @List.rec MapEntry (λ_=>Nat->Option (Tp)) (λ_=>some none) (λe _ ih i=>match e.key with
  | .agg ds=>@Option.rec Bool (λ_=>Option (Tp)) none (λb=>@Bool.rec (λ_=>Option (Tp)) (fN (Nat.succ i) ih) (some (some i)) b) (difR ks cs ds.toList)
  |_=>none) es
def oW(ks:TE)(cs:Tl):∀(es:Th) (i:Nat),findR ks cs es i=lF ks cs es i
 | [],_=>rfl
 |e :: es,i=>by
  have h:findR ks cs (e :: es) i=match e.key with
   | .agg ds=>@Option.rec Bool (λ_=>Option (Tp)) none (λb=>@Bool.rec (λ_=>Option (Tp)) (findR ks cs es (i+1)) (some (some i)) b) (difR ks cs ds.toList)
   |_=>none:=rfl
  rw[h]
  simp only[lF,rY,oW ks cs es]
  split
  next ds _=>
   cases difK ks cs ds.toList with
   |none=>rfl
   |some b=>cases b<;>rfl
  ·rfl
def qD(P:TC)(kt:TI)(k:Value)(es:Th):Option (Tp):=
 match k with
 | .agg cs=>match aggT P kt,gQ P 10000 kt with
  |some true,some ks=>match findR ks cs.toList es 0 with
   |some r=>some r
   |none=>iq P kt k es
  |_,_=>iq P kt k es
 |_=>iq P kt k es
def keyF(P:TC)(kt:TI)(k:Value):Bool:=
 match k with
 | .agg cs=>match aggT P kt with
  |some true=>match gQ P 10000 kt with
   |some ks'=>match ip ks' cs.toList cs.toList with
    |some _=>true
    |none=>eo P kt k
   |none=>eo P kt k
  |_=>eo P kt k
 |_=>eo P kt k
def mapG(g:bR)(id:Nat):Option (List MapEntry×Nat):=
 match g id with
 |some (.map es c)=>some (es,c)
 |_=>none
def fz(ag:Bool)(v:Value):Option (Tl):=
 match v,ag with
 | .agg cs,true=>some cs.toList
 | .agg _,false=>none
 |_,true=>none
 |v,false=>some [v]
def luG(C:Cfg)(kt:TI)(ag:Bool)(z:Value)(m k:Value)(ok:Bool)(g:bR):Option (Tl):=
 if !keyF C.P kt k then none else
 match m with
 | .map none=>(fz ag z).map λcs=>cs++if ok then [.bool false]else []
 | .map (some id)=>
  match mapG g id with
  |none=>none
  |some (es,_)=>
   match qD C.P kt k es with
   |none=>none
   |some none=>(fz ag z).map λcs=>cs++if ok then [.bool false]else []
   |some (some i)=>((eU es i).bind (fz ag)).map λcs=>cs++if ok then [.bool true]else []
 |_=>none
def muG(C:Cfg)(kt:TI)(m k v:Value)(g:bR)(_:Nat):Option (List Act1×List Value):=
 match m with
 | .map (some id)=>
  if !keyF C.P kt k then none else
  match mapG g id with
  |none=>none
  |some (es,c)=>
   match qD C.P kt k es with
   |none=>none
   |some none=>some ([.set id (.map (es++[{ key:=k,val:=v,born:=c }]) (c+1))],[])
   |some (some i)=>
    if (es[i]?).all (λe=>Instr.sameBits 10000 e.key k)then some ([.set id (.map (es.modify i λe=>{ e with key:=k,val:=v }) c)],[])else none
 |_=>none
def meG(C:Cfg)(kt:TI)(ag:Bool)(z:Value)(m k:Value)(g:bR)(_:Nat):Option (List Act1×List Value):=
 match m with
 | .map (some id)=>
  if !keyF C.P kt k then none else
  match mapG g id with
  |none=>none
  |some (es,c)=>
   match qD C.P kt k es with
   |none=>none
   |some none=>(fz ag z).map λcs=>([.set id (.map (es++[{ key:=k,val:=z,born:=c }]) (c+1))],cs++[.int .i64 c])
   |some (some i)=>
    match es[i]? with
    |none=>none
    |some e=>if Instr.sameBits 10000 e.key k then(fz ag e.val).map λcs=>([.set id (.map (es.modify i λe=>{ e with key:=k }) c)],cs++[.int .i64 e.born])else none
 |_=>none
def esG(m:Value)(b:Int)(v:Value)(g:bR)(_:Nat):Option (List Act1×List Value):=
 match m with
 | .map (some id)=>
  match mapG g id with
  |none=>none
  |some (es,c)=>
   match es.findIdx? (λe=>(e.born:Int)==b)with
   |some i=>some ([.set id (.map (es.modify i λe=>{ e with val:=v }) c)],[])
   |none=>none
 |_=>none
def deG(C:Cfg)(kt:TI)(m k:Value)(g:bR)(_:Nat):Option (List Act1×List Value):=
 if !keyF C.P kt k then none else
 match m with
 | .map none=>some ([],[])
 | .map (some id)=>
  match mapG g id with
  |none=>none
  |some (es,c)=>
   match qD C.P kt k es with
   |none=>none
   |some none=>some ([],[])
   |some (some i)=>some ([.set id (.map (es.eraseIdx i) c)],[])
 |_=>none
def jR(n:Nat)(x y:Value):Option Bool:=match Nat.beq n (cJ x),Nat.beq n (cJ y)with
 |true,true=>jh x y
 |_,_=>none
def rm{P:TC}{t:TI}{td:TypeDesc}{x y:Value}{b:Bool}(hu:P.underlying t=some td)(h:jR (ji td) x y=some b):jh x y=some b/\pA P t x y=true:=by
 unfold jR at h
 split at h
 next h1 h2=>
  refine⟨h,?_⟩
  unfold pA
  rw[hu]
  simp only[qaa,beq_iff_eq]
  exact⟨qac h1,qac h2⟩
 ·cases h
def oA(ks:TE):Bool:=ks.all λk=>match k with
 | .v=>false
 |_=>true
def binE(X:Ctxt)(d:Tn)(op:BinOp)(t:TI)(a b:S0)(ev:Env)(h:HT)(K:KN R HT):R:=
 match a,b with
 | .leaf (.i k x),.leaf (.i k' y)=>
  match isShift op,dz k k',isCmp op with
  |true,_,_=>A.shf op k x k' y λn=>setD d (.st (.leaf (.i k n))) ev h K
  |false,true,true=>A.cmp op x y λt=>setD d (.st (.leaf (.b t))) ev h K
  |false,true,false=>A.ari op k x y λn=>setD d (.st (.leaf (.i k n))) ev h K
  |_,_,_=>A.fail
 | .agg cs,.agg es=>match gQ X.C.P 10000 t,X.C.P.eqGuardType X.C.P.depth t,aggT X.C.P t with
  |some ks,false,some true=>match aG cs ks&&aG es ks&&oA ks with
   |true=>match op with
    | .eql=>A.eqs ((cs.map SL.lf).zip (es.map SL.lf)) λt=>setD d (.st (.leaf (.b t))) ev h K
    | .neq=>A.eqs ((cs.map SL.lf).zip (es.map SL.lf)) λt=>setD d (.st (.leaf (.b (!t)))) ev h K
    |_=>A.fail
   |false=>A.fail
  |_,_,_=>A.fail
 | .leaf (.v x),.leaf (.v y)=>match X.C.P.underlying t with
  |some .string=>match op with
   | .eql=>A.opt (strEq x y) λt'=>setD d (.st (.leaf (.b t'))) ev h K
   | .neq=>A.opt (strEq x y) λt'=>setD d (.st (.leaf (.b (!t')))) ev h K
   |_=>A.fail
  |some td=>match op with
   | .eql=>A.opt (jR (ji td) x y) λt'=>setD d (.st (.leaf (.b t'))) ev h K
   | .neq=>A.opt (jR (ji td) x y) λt'=>setD d (.st (.leaf (.b (!t')))) ev h K
   |_=>A.fail
  |none=>A.fail
 | .leaf x,.leaf y=>match x.is .b&&y.is .b,X.C.P.underlying t with
  |true,some .bool=>match op with
   | .eql=>A.eqs [(x.lf,y.lf)] λt=>setD d (.st (.leaf (.b t))) ev h K
   | .neq=>A.eqs [(x.lf,y.lf)] λt=>setD d (.st (.leaf (.b (!t)))) ev h K
   |_=>A.fail
  |_,_=>A.fail
 |_,_=>A.fail
def optI(ev:Env):Tg->Option (Tq)
 |none=>some none
 |some x=>match sval ev x with
  | .st (.leaf (.i _ n))=>some (some n)
  |_=>none
def kj(hs:TG):SK:=match hs with
 | [k]=>k
 |_=>.agg []
def setR(d:Tn)(sks:TG)(rs:TB)(ev:Env)(h:HT)(K:KN R HT):R:=
 match sks with
 | [sk]=>setL A d sk rs ev h K
 | []=>A.un0 rs (setD d .un ev h K)
 |sks=>unSs A sks rs λxs r=>A.un0 r (setD d (.tup xs) ev h K)
structure Sig where
 ps:List SK
 rs:List SK
def bO:List S0->TG->Bool
 | [],[]=>true
 |x :: l,k :: ks=>x.is k&&bO l ks
 |_,_=>false
def kz(X:Ctxt)(d:Tn)(_sk:SK)(b:Builtin)(xs:List S0)(ts:Array TypeId)(ev:Env)(h:HT)(K:KN R HT):R:=
 match b,xs,ts[0]? with
 | .append,[.leaf (.v s),.leaf (.v x)],some t=>match X.C.P.underlying t with
  |some (.slice e)=>match X.C.P.info? e with
   |some info=>match Nat.beq info.size 0||(ic info).isNone||(ts[1]?.any λu=>(X.C.P.underlying u) matches some (.int _)|none)||ts[1]?.isNone with
    |true=>A.fail
    |false=>A.heap (.ap X.C info.size info.bytes s x) h λcs h=>setC A d (.leaf .v) cs ev h K
   |none=>A.fail
  |_=>A.fail
 | .len,[x],some t=>match X.C.P.underlying t,x with
  |some (.slice _),.leaf (.v x)=>A.opt (lenS x) λn=>setD d (.st (.leaf (.i .i64 n))) ev h K
  |some (.map _ _),.leaf (.v x)=>A.peek (.fn (lenM x)) h λcs=>setC A d (.leaf (.i .i64)) cs ev h K
  |some (.array n _),_=>setD d (.st (.leaf (.i .i64 n))) ev h K
  |_,_=>A.fail
 | .cap,[x],some t=>match X.C.P.underlying t,x with
  |some (.slice _),.leaf (.v x)=>A.opt (capS x) λn=>setD d (.st (.leaf (.i .i64 n))) ev h K
  |some (.array n _),_=>setD d (.st (.leaf (.i .i64 n))) ev h K
  |_,_=>A.fail
 | .copy,[.leaf (.v s),.leaf (.v x)],some t=>match X.C.P.underlying t with
  |some (.slice e)=>match Nat.beq (X.C.P.cellsOf e) 0 with
   |true=>A.fail
   |false=>A.heap (.fn (cpG X.C (X.C.P.cellsOf e) s x)) h λcs h=>setC A d (.leaf (.i .i64)) cs ev h K
  |_=>A.fail
 | .delete,[.leaf (.v m),k],some t=>match X.C.P.underlying t with
  |some (.map kt _)=>A.heap (.fn (deG X.C kt m k.val)) h λ_ h=>setD d .un ev h K
  |_=>A.fail
 | .clear,[.leaf (.v s)],some t=>match X.C.P.underlying t with
  |some (.slice e)=>match Nat.beq (X.C.P.cellsOf e) 0,tj X.C.P e with
   |false,some z=>A.heap (.fn (clG (X.C.P.cellsOf e) (z.cells.map SL.val) s)) h λ_ h=>setD d .un ev h K
   |_,_=>A.fail
  |_=>A.fail
 | .min,[.leaf (.i k a),.leaf (.i k' b)],_=>match dz k k' with
  |true=>A.cmp .lss b a λt=>A.sel t b a λn=>setD d (.st (.leaf (.i k n))) ev h K
  |false=>A.fail
 | .max,[.leaf (.i k a),.leaf (.i k' b)],_=>match dz k k' with
  |true=>A.cmp .lss a b λt=>A.sel t b a λn=>setD d (.st (.leaf (.i k n))) ev h K
  |false=>A.fail
 |_,_,_=>A.fail
def jf(X:Ctxt)(d:Tn)(t:TI)(x i:TD)(ev:Env)(h:HT)(K:KN R HT):R:=
 match X.C.P.underlying t with
 |some (.array len e)=>
  let esz:=X.C.P.cellsOf e
  match Nat.beq esz 0,sval ev x,sval ev i,constI i with
  |false,.lad s off,_,some n=>match Nat.blt n len with
   |true=>setD d (.lad s (off+n*esz)) ev h K
   |false=>A.fail
  |false,.gad g off,_,some n=>match Nat.blt n len with
   |true=>setD d (.gad g (off+n*esz)) ev h K
   |false=>A.fail
  |false,.ldx s base ix,_,some n=>match Nat.blt n len with
   |true=>setD d (.ldx s (base+n*esz) ix) ev h K
   |false=>A.fail
  |false,.gdx g base ix,_,some n=>match Nat.blt n len with
   |true=>setD d (.gdx g (base+n*esz) ix) ev h K
   |false=>A.fail
  |false,.lad s off,.st (.leaf (.i _ j)),_=>A.opt (inB len j) λ_=>setD d (.ldx s off [(j,esz)]) ev h K
  |false,.gad g off,.st (.leaf (.i _ j)),_=>A.opt (inB len j) λ_=>setD d (.gdx g off [(j,esz)]) ev h K
  |false,.ldx s base ix,.st (.leaf (.i _ j)),_=>A.opt (inB len j) λ_=>setD d (.ldx s base (ix++[(j,esz)])) ev h K
  |false,.gdx g base ix,.st (.leaf (.i _ j)),_=>A.opt (inB len j) λ_=>setD d (.gdx g base (ix++[(j,esz)])) ev h K
  |false,.st (.leaf (.v p)),.st (.leaf (.i _ j)),_=>A.opt (idP len esz p j) λq=>A.chk q (setD d (.st (.leaf (.v q))) ev h K)
  |_,_,_,_=>A.fail
 |some (.slice e)=>
  let esz:=X.C.P.cellsOf e
  match Nat.beq esz 0,sval ev x,sval ev i with
  |false,.st (.leaf (.v p)),.st (.leaf (.i _ j))=>A.opt (idS esz p j) λq=>setD d (.st (.leaf (.v q))) ev h K
  |_,_,_=>A.fail
 |_=>A.fail
def jc(X:Ctxt)(d:Tn)(t:TI)(x:TD)(f:Nat)(ev:Env)(h:HT)(K:KN R HT):R:=
 match X.C.P.underlying t with
 |some (.struct fs)=>match fs[f]? with
  |some fd=>match Nat.beq (X.C.P.cellsOf fd.type) 0,sval ev x with
   |false,.lad s off=>setD d (.lad s (off+fd.offset)) ev h K
   |false,.gad g off=>setD d (.gad g (off+fd.offset)) ev h K
   |false,.ldx s base ix=>setD d (.ldx s (base+fd.offset) ix) ev h K
   |false,.gdx g base ix=>setD d (.gdx g (base+fd.offset) ix) ev h K
   |false,.st (.leaf (.v p))=>A.opt (fdP fd.offset p) λq=>A.chk q (setD d (.st (.leaf (.v q))) ev h K)
   |_,_=>A.fail
  |none=>A.fail
 |_=>A.fail
abbrev _root_.Tc:=FuncId->Option Sig
def opE(X:Ctxt)(Sg:Tc)(o:Oper)(hs:TG)(ev:Env)(h:HT)(K:KN R HT):R:=
 match o.op with
 | .move x=>match sval ev x with
  | .no=>A.fail
  |y=>setD o.dst y ev h K
 | .assign x=>match sval ev x with
  | .no=>A.fail
  |y=>setD o.dst y ev h K
 | .pick c a b=>match sval ev c,sval ev a,sval ev b with
  | .st (.leaf (.l true)),.st y,_=>setD o.dst (.st y) ev h K
  | .st (.leaf (.l false)),_,.st y=>setD o.dst (.st y) ev h K
  | .st (.leaf (.b t)),.st y,.st z=>A.cond t (setD o.dst (.st y) ev h K) (setD o.dst (.st z) ev h K)
  |_,_,_=>A.fail
 | .alloc t=>match tj X.C.P t with
  |some x=>newV A X o.dst t x ev h K
  |none=>A.fail
 | .box t x=>match sval ev x with
  | .st x=>newV A X o.dst t x ev h K
  |_=>A.fail
 | .build t ps=>match tj X.C.P t,kS X.C.P t,svals ev (ps.toList.map (·.2))with
  |some z,some pl,some xs=>match oU pl z.cells ((ps.toList.map (·.1)).zip xs)with
   |some cs=>setD o.dst (.st (.agg cs)) ev h K
   |none=>A.fail
  |_,_,_=>A.fail
 | .buildSlice t n ps=>match X.C.P.underlying t,svals ev (ps.toList.map (·.2))with
  |some (.slice e),some xs=>match X.C.P.info? e with
   |some info=>match Nat.beq info.size 0||Nat.blt 16777216 (n*info.size),(ic info).bind s0Of with
    |false,some z=>match oU (λi=>some (i*info.size,info.size)) (List.replicate n z.cells).flatten ((ps.toList.map (·.1)).zip xs)with
     |some cs=>A.new (.cells (cs.map SL.val) info.size true) h λm h=>setD o.dst (.st (.leaf (.v (.slice (some ⟨m,0,tag info.size⟩) n (n+1))))) ev h K
     |none=>A.fail
    |_,_=>A.fail
   |none=>A.fail
  |_,_=>A.fail
 | .load t a=>match aggT X.C.P t with
  |some agg=>match eqB agg (gZ (kj hs))with
   |true=>loadE A X o.dst (kj hs) agg (if agg then X.C.P.cellsOf t else 1) a ev h K
   |false=>A.fail
  |none=>A.fail
 | .store t a x=>match sval ev x with
  | .st x=>storeE A X o.dst t a x ev h K
  |_=>A.fail
 | .nilCheck x=>match sval ev x with
  | .st (.leaf (.v p))=>A.opt (nilP p) λq=>A.chk q (setD o.dst (.st (.leaf (.v q))) ev h K)
  | .lad s off=>setD o.dst (.lad s off) ev h K
  | .gad s off=>setD o.dst (.gad s off) ev h K
  |_=>A.fail
 | .binOp op t x y _=>match sval0 ev x,sval0 ev y with
  |some a,some b=>binE A X o.dst op t a b ev h K
  |_,_=>A.fail
 | .unOp op _ x=>match op,sval ev x with
  | .not,.st (.leaf (.b t))=>setD o.dst (.st (.leaf (.b (!t)))) ev h K
  | .not,.st (.leaf (.l t))=>setD o.dst (.st (.leaf (.l (!t)))) ev h K
  | .neg,.st (.leaf (.i k n))=>A.ari .sub k 0 n λn=>setD o.dst (.st (.leaf (.i k n))) ev h K
  |_,_=>A.fail
 | .convert sT dT x=>match X.C.P.underlying sT,X.C.P.underlying dT,sval ev x with
  |some (.int _),some (.int k),.st (.leaf (.i _ n))=>A.conv k n λn=>setD o.dst (.st (.leaf (.i k n))) ev h K
  |_,_,_=>A.fail
 | .makeFunc fn first cap=>match fn,svals ev first.toList,svals ev cap.toList with
  | .func g,some a,some b=>A.chk (.func (.func g) ⟨ai a⟩ ⟨ai b⟩) (setD o.dst (.st (.leaf (.v (.func (.func g) ⟨ai a⟩ ⟨ai b⟩)))) ev h K)
  |_,_,_=>A.fail
 | .makeMap t r=>match lN X.C t (r.map λ_=>.int .i64 0),optI ev r with
  |true,some _=>A.new (.map [] 0) h λn h=>setD o.dst (.st (.leaf (.v (.map (some n))))) ev h K
  |_,_=>A.fail
 | .makeSlice t l c=>match X.C.P.underlying t,sval ev l,sval ev c with
  |some (.slice e),.st (.leaf (.i _ l)),.st (.leaf (.i _ c))=>match X.C.P.info? e with
   |some info=>match Nat.beq info.size 0||Nat.blt 4096 info.bytes,(ic info).bind s0Of with
    |false,some z=>A.opt (mkOk l c) λ_=>
      A.new (.cells (aD (z.cells.map SL.val) c.toNat) info.size true) h λn h=>setD o.dst (.st (.leaf (.v (.slice (some ⟨n,0,tag info.size⟩) l.toNat (c.toNat+1))))) ev h K
    |_,_=>A.fail
   |none=>A.fail
  |_,_,_=>A.fail
 | .slice t x lo hi mx=>match X.C.P.underlying t,sval ev x,optI ev lo,optI ev hi,optI ev mx with
  |some (.slice e),.st (.leaf (.v x)),some lo,some hi,some mx=>match Nat.beq (X.C.P.cellsOf e) 0 with
   |true=>A.fail
   |false=>A.opt (slS (X.C.P.cellsOf e) x lo hi mx) λq=>A.chk q (setD o.dst (.st (.leaf (.v q))) ev h K)
  |some (.array _ e),.gad g off,some lo,some hi,some mx=>match Nat.beq (X.C.P.cellsOf e) 0 with
   |true=>A.fail
   |false=>A.opt (cj X.C t ⟨g,off,some 1⟩ (lo.map (.int .i64)) (hi.map (.int .i64)) (mx.map (.int .i64)) []) λq=>A.chk q (setD o.dst (.st (.leaf (.v q))) ev h K)
  |some (.array n e),.st (.leaf (.v p)),some lo,some hi,some mx=>match Nat.beq (X.C.P.cellsOf e) 0 with
   |true=>A.fail
   |false=>A.peek (.fn (slAG n (X.C.P.cellsOf e) p lo hi mx)) h λcs=>setC A o.dst (.leaf .v) cs ev h K
  |_,_,_,_,_=>A.fail
 | .fieldAddr t x f=>jc A X o.dst t x f ev h K
 | .indexAddr t x i=>jf A X o.dst t x i ev h K
 | .field t x f=>match X.C.P.underlying t,sval ev x with
  |some (.struct fs),.st (.agg cs)=>match fs[f]? with
   |some fd=>match (aggT X.C.P fd.type).bind (λag=>(cutS cs fd.offset (if ag then X.C.P.cellsOf fd.type else 1)).bind (mkS0 ag))with
    |some x=>setD o.dst (.st x) ev h K
    |none=>A.fail
   |none=>A.fail
  |_,_=>A.fail
 | .index t x i=>match X.C.P.underlying t,sval ev x,sval ev i with
  |some (.array len e),.st (.agg cs),.st (.leaf (.i _ j))=>match aggT X.C.P e with
   |some ag=>match eqB ag (gZ (kj hs))&&qh cs (skKs (kj hs)) 0 [(j,X.C.P.cellsOf e)]&&Nat.beq (if ag then X.C.P.cellsOf e else 1) (skKs (kj hs)).length with
    |false=>A.fail
    |true=>A.opt (inB len j) λ_=>A.opt (mR (cs.map SL.lf) 0 [(j,X.C.P.cellsOf e)] (if ag then X.C.P.cellsOf e else 1)) λls=>setL A o.dst (kj hs) ls ev h K
   |none=>A.fail
  |some .string,.st (.leaf (.v (.string s))),.st (.leaf (.i _ j))=>A.opt (strAt s j) λb=>setD o.dst (.st (.leaf (.i .u8 b))) ev h K
  |_,_,_=>A.fail
 | .lookup t m k ok=>match X.C.P.underlying t,sval ev m,sval0 ev k with
  |some (.map kt et),.st (.leaf (.v m)),some k=>match cZ X.C.P et with
   |some z=>match hs,ok with
    | [sk],false=>A.peek (.fn (luG X.C kt (gZ sk) z m k.val false)) h λcs=>ucS A sk cs λx r=>A.uc0 r (setD o.dst (.st x) ev h K)
    | [sk,.leaf .b],true=>A.peek (.fn (luG X.C kt (gZ sk) z m k.val true)) h λcs=>ucS A sk cs λx r=>A.ucB r λt r=>A.uc0 r (setD o.dst (.tup [x,.leaf (.b t)]) ev h K)
    |_,_=>A.fail
   |none=>A.fail
  |_,_,_=>A.fail
 | .mapUpdate t m k v=>match X.C.P.underlying t,sval ev m,sval0 ev k,sval0 ev v with
  |some (.map kt _),.st (.leaf (.v m)),some k,some v=>A.heap (.fn (muG X.C kt m k.val v.val)) h λ_ h=>setD o.dst .un ev h K
  |_,_,_,_=>A.fail
 | .insert t m k v=>match X.C.P.underlying t,sval ev m,sval0 ev k,sval0 ev v with
  |some (.map kt _),.st (.leaf (.v m)),some k,some v=>A.heap (.fn (muG X.C kt m k.val v.val)) h λ_ h=>setD o.dst .un ev h K
  |_,_,_,_=>A.fail
 | .mapEntry t m k=>match X.C.P.underlying t,sval ev m,sval0 ev k with
  |some (.map kt et),.st (.leaf (.v m)),some k=>match cZ X.C.P et with
   |some z=>match hs with
    | [sk,.leaf (.i .i64)]=>A.heap (.fn (meG X.C kt (gZ sk) z m k.val)) h λcs h=>ucS A sk cs λx r=>A.ucI .i64 r λn r=>A.uc0 r (setD o.dst (.tup [x,.leaf (.i .i64 n)]) ev h K)
    |_=>A.fail
   |none=>A.fail
  |_,_,_=>A.fail
 | .entryStore _ m s v=>match sval ev m,sval ev s,sval0 ev v with
  | .st (.leaf (.v m)),.st (.leaf (.i _ b)),some v=>A.heap (.fn (esG m b v.val)) h λ_ h=>setD o.dst .un ev h K
  |_,_,_=>A.fail
 | .extract t i=>match sval ev t with
  | .tup xs=>match xs[i]? with
   |some x=>setD o.dst (.st x) ev h K
   |none=>A.fail
  |_=>A.fail
 | .call c=>match svals ev c.args.toList with
  |some xs=>match c.callee with
   | .builtin b=>kz A X o.dst (kj hs) b xs c.argTypes ev h K
   | .value f=>match sval ev f with
    | .st (.leaf (.v v))=>match f with
     | .func g=>match Sg g with
      |some sg=>match bO xs sg.ps with
       |true=>A.call g (ca xs) h λrs h=>setR A o.dst sg.rs rs ev h K
       |false=>A.fail
      |none=>A.fail
     |_=>A.callv v (ai xs) hs h λrs h=>setR A o.dst hs rs ev h K
    |_=>A.fail
   |_=>A.fail
  |none=>A.fail
 |_=>A.fail
def opG(X:Ctxt)(Sg:Tc)(ops:Tm)(o:Oper)(hs:TG)(ev:Env)(h:HT)(K:KN R HT):R:=
 match o.guard with
 |none=>opE A X Sg o hs ev h K
 |some (j,want)=>match (ops[j]?).bind (·.dst)with
  |some d=>match ev.tm.getD d .no with
   | .st (.leaf (.l b))=>match b==want with
    |true=>opE A X Sg o hs ev h K
    |false=>setD o.dst .un ev h K
   | .un=>setD o.dst .un ev h K
   | .st (.leaf (.b t))=>match want with
    |true=>A.cond t (setK (.st (.leaf (.l true))) ev.tm d λtm=>opE A X Sg o hs ⟨tm,ev.lc⟩ h K) (setK (.st (.leaf (.l false))) ev.tm d λtm=>setD o.dst .un ⟨tm,ev.lc⟩ h K)
    |false=>A.cond t (setK (.st (.leaf (.l true))) ev.tm d λtm=>setD o.dst .un ⟨tm,ev.lc⟩ h K) (setK (.st (.leaf (.l false))) ev.tm d λtm=>opE A X Sg o hs ⟨tm,ev.lc⟩ h K)
   |_=>A.fail
  |none=>A.fail
abbrev _root_.Tv:=List Oper
def opsE(X:Ctxt)(Sg:Tc)(ops:Tm)(l:Tv):List (TG)->Env->HT->KN R HT->R:=
 List.rec (motive:=λ_=>List (TG)->Env->HT->KN R HT->R) (λ_ ev h K=>K ev h)
  (λo _ ih hs ev h K=>opG A X Sg ops o (hs.headD []) ev h λev h=>ih hs.tail ev h K) l
end
namespace Sx
def pO:TD->TD->Bool
 | .tmp a,.tmp b=>Nat.beq a b
 |_,_=>false
def eH(a b:Oper):Bool:=
 match a.op with
 | .lookup t m k false=>(match b.op with
  | .mapEntry t' m' k'=>Nat.beq t t'&&pO m m'&&pO k k'
  |_=>false)
 |_=>false
def ancOf(acc:Tz)(o:Oper):Nat:=
 o.after.toList.foldl (λm e=>match Region.binds .any e with
  |true=>Nat.lor (Nat.lor m (Nat.shiftLeft 1 e.on)) (acc.getD e.on 0)
  |false=>m) 0
def ancs:Tv->Tz->List Nat
 | [],acc=>acc
 |o :: l,acc=>ancs l (acc++[ancOf acc o])
def adr:Value->List Nat
 | .pointer (some a)=>match a.spot with
  |none=>[a.block]
  |some _=>[]
 | .slice (some a) _ _=>match a.spot with
  |some 1=>[]
  |_=>[a.block]
 | .map (some id)=>[id]
 |_=>[]
def adrP:Value->List Nat
 | .pointer (some a)=>match a.spot with
  |none=>[a.block]
  |some _=>[]
 |_=>[]
def adrM:Value->List Nat
 | .map (some id)=>[id]
 |_=>[]
def cA(pts:Tz)(o:Oper):List Operand×Nat:=
 match o.op with
 | .load _ a=>match kg pts a with
  |0=>([a],0)
  |_=>([],0)
 | .store _ a _=>match kg pts a with
  |0=>([a],0)
  |_=>([],0)
 | .slice _ x _ _ _=>([x],1)
 | .lookup _ m _ _=>([m],0)
 | .mapUpdate _ m _ _ | .insert _ m _ _ | .mapEntry _ m _ | .entryStore _ m _ _=>([m],0)
 | .call c=>match c.callee with
  | .builtin b=>match b with
   | .append | .copy=>(c.args.toList,0)
   | .delete | .clear=>(c.args.toList.take 1,0)
   | .len=>(c.args.toList,2)
   |_=>([],0)
  |_=>([],0)
 |_=>([],0)
def adrK:Nat->Value->List Nat
 |0,v=>adr v
 |1,v=>adrP v
 |_,v=>adrM v
def dM(pts:Tz)(o:Oper):List Operand:=
 match o.op with
 | .store _ a _=>match kg pts a with
  |0=>[a]
  |_=>[]
 | .mapUpdate _ m _ _ | .insert _ m _ _ | .mapEntry _ m _ | .entryStore _ m _ _=>[m]
 | .call c=>match c.callee with
  | .builtin b=>match b with
   | .append | .copy | .delete | .clear=>c.args.toList.take 1
   |_=>[]
  |_=>[]
 |_=>[]
def hCls(pts:Tz)(o:Oper):Nat:=
 match o.op with
 | .load _ a=>match kg pts a with
  |0=>1
  |_=>0
 | .store _ a _=>match kg pts a with
  |0=>2
  |_=>0
 | .alloc _ | .box _ _=>match cI pts o with
  |true=>2
  |false=>0
 | .buildSlice _ _ _ | .makeMap _ _ | .makeSlice _ _ _ | .mapUpdate _ _ _ _ | .mapEntry _ _ _ | .entryStore _ _ _ _ | .insert _ _ _ _=>2
 | .lookup _ _ _ _ | .slice _ _ _ _ _=>1
 | .call c=>match c.callee with
  | .builtin b=>match b with
   | .append | .copy | .delete | .clear=>2
   | .len=>1
   |_=>0
  |_=>0
 |_=>0
def conf(pts:Tz)(a b:Oper):Bool:=Nat.ble 3 (hCls pts a+hCls pts b) && !eH a b
def qw(pts:Tz)(b:Oper)(m i:Nat):Tv->Nat->List (Nat×Nat)
 | [],_=>[]
 |a :: l,k=>match Nat.testBit m k || !conf pts a b with
  |true=>qw pts b m i l (k+1)
  |false=>(k,i) :: qw pts b m i l (k+1)
def tC(pts:Tz)(ms:Tz):Tv->Tv->Nat->List (Nat×Nat)
 |_,[],_=>[]
 |pre,b :: l,i=>qw pts b (ms.getD i 0) i pre 0++tC pts ms (pre++[b]) l (i+1)
def tD(pts:Tz)(ops:Tm):List (Nat×Nat):=tC pts (ancs ops.toList []) [] ops.toList 0
def memN(x:Nat):Tz->Bool
 | []=>false
 |y :: l=>match Nat.beq x y with
  |true=>true
  |false=>memN x l
def disjN:Tz->Tz->Bool
 | [],_=>true
 |x :: l,m=>match memN x m with
  |true=>false
  |false=>disjN l m
def sepL:List (Value×Nat×Value)->Option Unit
 | []=>some ()
 |p :: l=>match disjN (adr p.1) (adrK p.2.1 p.2.2)with
  |true=>sepL l
  |false=>none
def entV:SV->Option (Tl)
 | .st (.leaf (.v x))=>some [x]
 | .no=>none
 |_=>some []
def oO(ev:Env):List Operand->Option (Tl)
 | []=>some []
 |x :: l=>match entV (sval ev x),oO ev l with
  |some a,some b=>some (a++b)
  |_,_=>none
def wOps(pts:Tz)(o:Oper):List Operand:=dM pts o++match hCls pts o,o.dst with
 |2,some d=>[.tmp d]
 |_,_=>[]
def cross(us:Tl)(k:Nat)(vs:Tl):List (Value×Nat×Value):=us.flatMap λu=>vs.map λv=>(u,k,v)
def sepOne(pts:Tz)(ev:Env)(a b:Oper):Option (List (Value×Nat×Value)):=
 match oO ev (wOps pts a),oO ev (wOps pts b),oO ev (cA pts a).1,oO ev (cA pts b).1 with
 |some wa,some wb,some fa,some fb=>some (cross wa (cA pts b).2 fb++cross wa 0 wb++cross wb (cA pts a).2 fa)
 |_,_,_,_=>none
def pQ(pts:Tz)(ops:Tm)(ev:Env):List (Nat×Nat)->Option (List (Value×Nat×Value))
 | []=>some []
 |p :: l=>match ops[p.1]?,ops[p.2]?,pQ pts ops ev l with
  |some a,some b,some r=>(sepOne pts ev a b).map λx=>x++r
  |_,_,_=>none
def sepK{R HT:Type}(A:Alg R HT)(pts:Tz)(ops:Tm)(ps:List (Nat×Nat))(kn:KN R HT):KN R HT:=
 match ps with
 | []=>kn
 |ps=>λev h=>match pQ pts ops ev ps with
  |some l=>A.opt (sepL l) λ_=>kn ev h
  |none=>A.fail
def splOf:List (Nat×Nat)->Option (Nat×Nat)
 | []=>none
 |p :: l=>match l with
  | []=>match Nat.ble 1000 p.1 with
   |true=>some (p.1 - 1000,p.2)
   |false=>none
  |_=>none
def eqFn(x y:Value):Option Unit:=match x with
 | .func (.yield l) a b=>match y with
  | .func (.yield m) c d=>match Nat.beq l m,a.toList,b.toList,c.toList,d.toList with
   |true,[],[],[],[]=>some ()
   |_,_,_,_,_=>none
  |_=>none
 |_=>none
def entF:SV->Option Value
 | .st (.leaf (.v x))=>some x
 |_=>none
def reK{R HT:Type}(A:Alg R HT)(X:Ctxt)(Sg:Tc)(ops:Tm)(k:Nat)(hs:TG)(ev:Env)(h:HT)(kn:KN R HT):R:=
 match ops[k]? with
 |some o=>match o.dst with
  |some d=>opG A X Sg ops o hs ev h λev' _=>match entF (ev.tm.getD d .no),entF (ev'.tm.getD d .no)with
   |some x,some y=>A.opt (eqFn x y) λ_=>kn ev h
   |_,_=>A.fail
  |none=>A.fail
 |none=>A.fail
def manyOf(l:List (Nat×Nat)):Option (List (Nat×Nat)):=match l with
 | []=>none
 |p :: l=>match Nat.ble 5000 p.1 with
  |true=>some l
  |false=>none
def eqNt:Int->Int->Bool
 | .ofNat a,.ofNat b=>Nat.beq a b
 | .negSucc a,.negSucc b=>Nat.beq a b
 |_,_=>false
def eqSp:Tp->Tp->Bool
 |none,none=>true
 |some a,some b=>Nat.beq a b
 |_,_=>false
def eqAd:Option Addr->Option Addr->Bool
 |none,none=>true
 |some a,some b=>match Nat.beq a.block b.block,Nat.beq a.off b.off with
  |true,true=>eqSp a.spot b.spot
  |_,_=>false
 |_,_=>false
def eqVl(x y:Value):Option Unit:=match x with
 | .pointer a=>match y with
  | .pointer b=>match eqAd a b with
   |true=>some ()
   |false=>none
  |_=>none
 | .slice a n c=>match y with
  | .slice b m d=>match eqAd a b,Nat.beq n m,Nat.beq c d with
   |true,true,true=>some ()
   |_,_,_=>none
  |_=>none
 | .map a=>match y with
  | .map b=>match eqSp a b with
   |true=>some ()
   |false=>none
  |_=>none
 |_=>eqFn x y
def eqIn(x y:Int):Option Unit:=match eqNt x y with
 |true=>some ()
 |false=>none
def eqBo(x y:Bool):Option Unit:=match x,y with
 |true,true=>some ()
 |false,false=>some ()
 |_,_=>none
def samL{R HT:Type}(A:Alg R HT)(x y:SL)(K:R):R:=match x with
 | .i k n=>match y with
  | .i k' m=>match dz k k' with
   |true=>A.opt (eqIn n m) λ_=>K
   |false=>A.fail
  |_=>A.fail
 | .b t=>match y with
  | .b u=>A.opt (eqBo t u) λ_=>K
  |_=>A.fail
 | .v a=>match y with
  | .v b=>A.opt (eqVl a b) λ_=>K
  |_=>A.fail
 | .l _=>A.fail
def samLs{R HT:Type}(A:Alg R HT):List SL->List SL->R->R
 | [],[],K=>K
 |x :: l,y :: m,K=>samL A x y (samLs A l m K)
 |_,_,_=>A.fail
def samS{R HT:Type}(A:Alg R HT)(x y:SV)(K:R):R:=match x with
 | .st (.leaf a)=>match y with
  | .st (.leaf b)=>samL A a b K
  |_=>A.fail
 | .st (.agg a)=>match y with
  | .st (.agg b)=>samLs A a b K
  |_=>A.fail
 |_=>A.fail
def opsM{R HT:Type}(A:Alg R HT)(X:Ctxt)(Sg:Tc)(ops:Tm)(l:Tv):List (TG)->Env->HT->(Env->HT->List HT->R)->R:=
 List.rec (motive:=λ_=>List (TG)->Env->HT->(Env->HT->List HT->R)->R) (λ_ ev h K=>K ev h [])
  (λo _ ih hs ev h K=>opG A X Sg ops o (hs.headD []) ev h λev h=>ih hs.tail ev h λev' h' hl=>K ev' h' (h :: hl)) l
def atM{α:Type}(h0:α)(hl:List α)(p:Nat×Nat):α:=(h0 :: hl).getD (match Nat.ble p.1 p.2 with
 |true=>p.2+1
 |false=>p.2) h0
def reM{R HT:Type}(A:Alg R HT)(X:Ctxt)(Sg:Tc)(ops:Tm)(hs:List (TG))(ev:Env)(h0:HT)(hl:List HT)(K:R):List (Nat×Nat)->R
 | []=>K
 |p :: l=>match ops[p.1]? with
  |some o=>match o.dst with
   |some d=>opG A X Sg ops o (hs.getD p.1 []) ev (atM h0 hl p) λev' _=>samS A (ev.tm.getD d .no) (ev'.tm.getD d .no) (reM A X Sg ops hs ev h0 hl K l)
   |none=>A.fail
  |none=>A.fail
def regE{R HT:Type}(A:Alg R HT)(X:Ctxt)(Sg:Tc)(ops:Tm)(hs:List (TG))(ps:List (Nat×Nat))(ev:Env)(h:HT)(kn:KN R HT):R:=
 match manyOf ps with
 |some l=>opsM A X Sg ops ops.toList hs ev h λev' h' hl=>reM A X Sg ops hs ev' h hl (kn ev' h') l
 |none=>match splOf ps with
  |none=>opsE A X Sg ops ops.toList hs ev h (sepK A X.pts ops ps kn)
  |some p=>opsE A X Sg ops (ops.toList.take (p.2+1)) hs ev h λev h=>reK A X Sg ops p.1 (hs.getD p.1 []) ev h λev h=>
   opsE A X Sg ops (ops.toList.drop (p.2+1)) (hs.drop (p.2+1)) ev h kn
end Sx
abbrev Dr:=List Nat->Tm->Option (List (Nat×Nat))
section
variable {R HT:Type} (A:Alg R HT)
def qA(e:Exit)(id:Nat):Bool:=match e with
 | .exit i=>Nat.beq i id
 |_=>false
def lh(tm:List SV):List (Nat×SK)->Option (Tl)
 | []=>some []
 |(t,sk) :: l=>match tm.getD t .no,lh tm l with
  | .st x,some vs=>match x.is sk with
   |true=>some (x.val :: vs)
   |false=>none
  |_,_=>none
def drX(dr:Dr)(draw:Bool)(pts:Tz)(ops:Tm):Option (List (Nat×Nat)):=match draw with
 |true=>dr pts ops
 |false=>some []
def exec(X:Ctxt)(Sg:Tc)(dr:Dr)(c:AC):Env->HT->KN R HT->(Exit->KN R HT)->R:=
 AC.rec (motive:=λ_=>Env->HT->KN R HT->(Exit->KN R HT)->R)
  (λev h kn _=>kn ev h)
  (λev h _ kx=>kx .ret ev h)
  (λid ev h _ kx=>kx (.exit id) ev h)
  (λ_ ev h kn _=>kn ev h)
  (λ_ _ iha ihb ev h kn kx=>iha ev h (λev h=>ihb ev h kn kx) kx)
  (λ_ ih ev h kn kx=>ih ev h kn kx)
  (λid ops draw hs j ev h kn _=>match drX dr draw X.pts ops with
   |none=>A.fail
   |some ps=>qS A X.pts (.region id ops draw) j ev kn λkn=>Sx.regE A X Sg ops hs ps ev h kn)
  (λc a b j iha ihb ev h kn kx=>match sval ev c with
   | .st (.leaf (.l true))=>iha ev h kn kx
   | .st (.leaf (.l false))=>ihb ev h kn kx
   | .st (.leaf (.b t))=>qS A X.pts (.cond c (a.erase λκ t=>eA (X.T κ) t) (b.erase λκ t=>eA (X.T κ) t)) j ev kn λkn=>A.cond t (iha ev h kn kx) (ihb ev h kn kx)
   |_=>A.fail)
  (λid b j ih ev h kn kx=>qS A X.pts (b.erase λκ t=>eA (X.T κ) t) j ev kn λkn=>ih ev h kn λe=>match qA e id with
   |true=>kn
   |false=>kx e)
  (λb lv ih ev h _ kx=>match pk ev lv with
   |none=>A.fail
   |some ls=>match lv.rows.all λp=>!(az X.pts (b.erase λκ t=>eA (X.T κ) t)).contains p.1 with
    |false=>A.fail
    |true=>A.loop (λself ls h=>reE A X.pts (b.erase λκ t=>eA (X.T κ) t) .nil lv ev ls λev=>ih ev h (λev h=>match pk ev lv with
     |some ls=>self ls h
     |none=>A.fail) kx) ls h)
  (λf κ ids ev h kn kx=>match f,sval ev f,X.pts with
   | .tmp _,.st (.leaf (.v v)),_ :: _=>match Nat.beq ev.tm.length (X.T κ).nt,lh ev.tm (X.T κ).caps with
    |true,some vs=>A.rfun κ v vs h λpd h=>A.pend pd (kn ev h) (kx .ret ev h) (ids.map λid=>(id,kx (.exit id) ev h))
    |_,_=>A.fail
   |_,_,_=>A.fail) c
def chkAll(cs:List SL)(K:R):R:=
 List.rec K (λc _ ih=>match c with
  | .v x=>A.opt (chk2 x) λ_=>ih
  |_=>ih) cs
def fl(many:Bool)(x:S0)(K:R):R:=
 match many,x with
 |true,.agg cs=>chkAll A cs K
 |_,_=>K
def resE(X:Ctxt)(many:Bool)(ev:Env)(h:HT)(rvs:List ResultVar):TG->TB->(TB->HT->R)->R:=
 List.rec (motive:=λ_=>TG->TB->(TB->HT->R)->R) (λsks acc K=>match sks with
   | []=>K acc h
   |_=>A.fail)
  (λrv _ ih sks acc K=>match sks with
   | []=>A.fail
   |sk :: sks=>match rv with
    | .tmp t=>match ev.tm.getD t .no with
     | .st x=>match x.is sk with
      |true=>fl A many x (ih sks (acc++x.cells.map SL.lf) K)
      |false=>A.fail
     |_=>A.fail
    | .cell a t=>match aggT X.C.P t with
     |some agg=>
      let n:=if agg then X.C.P.cellsOf t else 1
      match ev.tm.getD a .no with
      | .lad s off=>match (pL ev s).bind (λcs=>(cutS cs off n).bind (mkS0 agg))with
       |some x=>match x.is sk with
        |true=>fl A many x (ih sks (acc++x.cells.map SL.lf) K)
        |false=>A.fail
       |none=>A.fail
      | .st (.leaf (.v p))=>match agg,sk with
       |true,.agg _=>A.peek (.ld n p) h λcs=>ucS A sk cs λx r=>A.uc0 r (fl A many x (ih sks (acc++x.cells.map SL.lf) K))
       |false,.leaf _=>A.peek (.ld n p) h λcs=>ucS A sk cs λx r=>A.uc0 r (fl A many x (ih sks (acc++x.cells.map SL.lf) K))
       |_,_=>A.fail
      |_=>A.fail
     |none=>A.fail) rvs
structure Fn1 where
 sg:Sig
 nt:Nat
 rvs:List ResultVar
 code:AC
def af(X:Ctxt)(Sg:Tc)(dr:Dr)(fn:Fn1)(ls:TB)(h:HT)(K:TB->HT->R):R:=
 unSs A fn.sg.ps ls λxs r=>A.un0 r (
  exec A X Sg dr fn.code ⟨xs.map .st++List.replicate (fn.nt - xs.length) .no,List.replicate fn.nt .nil⟩ h
   (λev h=>resE A X (Nat.blt 1 fn.rvs.length) ev h fn.rvs fn.sg.rs [] K)
   λe ev h=>match e with
    | .ret=>resE A X (Nat.blt 1 fn.rvs.length) ev h fn.rvs fn.sg.rs [] K
    |_=>A.fail)
def ep(nt:Nat):List (Nat×SK)->List S0->List SV->List SV
 |(t,_) :: l,x :: xs,tm=>ep nt l xs (tm.set t (.st x))
 |_,_,tm=>tm
def noRF:AC->Bool
 | .seq a b=>noRF a&&noRF b
 | .scope b=>noRF b
 | .cond _ a b _=>noRF a&&noRF b
 | .block _ b _=>noRF b
 | .loop b _=>noRF b
 | .rangeFunc _ _ _=>false
 |_=>true
def pt(l:List (Nat×SK)):Bool:=l.all λp=>match p.2 with
 | .leaf _=>true
 | .agg _=>false
def vj(X:Ctxt)(Sg:Tc)(dr:Dr)(st:Site)(vs:Tl)(l:Nat)(ls:TB)(h:HT)(K:TB->HT->R):R:=
 match pt st.caps&&noRF st.assign&&noRF st.body with
 |false=>A.fail
 |true=>ucSs A (st.caps.map (·.2)) vs λxs r=>A.uc0 r (unSs A (st.params.map (·.2)) ls λys r=>A.un0 r (
  exec A { X with pts:=[] } Sg dr st.assign ⟨ep st.nt st.params ys (ep st.nt st.caps xs (List.replicate st.nt .no)),[]⟩ h
   (λev h=>A.lp1 l h λh=>exec A { X with pts:=[] } Sg dr st.body ev h
    (λ_ h=>A.lp2 l none h λh=>K [.b true] h)
    λe _ h=>match e with
     | .ret=>A.lp2 l (some .ret) h λh=>K [.b false] h
     | .exit id=>A.lp2 l (some (.exit id)) h λh=>K [.b false] h
     |_=>A.fail)
   λ_ _ _=>A.fail))
end
inductive An where
 |r (hs:List (TG)) (j:Option Live)
 |c (j:Option Live)
 |b (j:Option Live)
 |l (lv:Live)
 |f (κ:Nat) (ids:Tz)
abbrev lv:SK:=.leaf .v
abbrev lb:SK:=.leaf .b
abbrev li:SK:=.leaf (.i .i64)
def qi:Code->List An->AC×List An
 | .skip,l=>(.skip,l)
 | .ret,l=>(.ret,l)
 | .exit id,l=>(.exit id,l)
 | .label n,l=>(.label n,l)
 | .seq a b,l=>
  let x:=qi a l
  let y:=qi b x.2
  (.seq x.1 y.1,y.2)
 | .scope b,l=>
  let x:=qi b l
  (.scope x.1,x.2)
 | .region id ops draw,.r hs j :: l=>(.region id ops draw hs j,l)
 | .cond c a b,.c j :: l=>
  let x:=qi a l
  let y:=qi b x.2
  (.cond c x.1 y.1 j,y.2)
 | .block id b,.b j :: l=>
  let x:=qi b l
  (.block id x.1 j,x.2)
 | .loop b,.l lv :: l=>
  let x:=qi b l
  (.loop x.1 lv,x.2)
 | .rangeFunc f _ _ _,.f κ ids :: l=>(.rangeFunc f κ ids,l)
 |_,l=>(.exit 1000000,l)
def codeOf(P:TC)(f:TJ):Code:=((P.funcs[f]?).bind (·.body)).getD .skip
def fn1(P:TC)(f:TJ)(sg:Sig)(an:List An):Fn1:=
 match P.funcs[f]? with
 |some fn=>⟨sg,fn.ntmps,fn.results.toList,(qi (codeOf P f) an).1⟩
 |none=>⟨sg,0,[],.skip⟩
abbrev g00:SK:=.agg [.i .i64,.i .i64,.i .u8]
abbrev g01:SK:=.agg [.i .u8,.i .i64,.i .i64]
abbrev g02:SK:=.leaf (.i .u8)
abbrev g03:SK:=.agg [.i .i64,.i .i64]
abbrev g04:SK:=.agg [.i .i64,.i .i64,.v]
abbrev g05:SK:=.agg [.i .i64,.i .u8]
abbrev g06:SK:=.agg [.i .u8,.i .i64]
abbrev g07:SK:=.agg [.i .i64,.i .u8,.i .u8]
abbrev g08:SK:=.agg [.i .i64,.i .i64,.i .u8,.i .i64,.i .i64,.i .u8]
abbrev g09:SK:=.agg [.i .i64,.i .i64,.i .i64,.i .i64]
abbrev g010:SK:=.agg [.i .i64,.i .i64,.i .u8,.v]
abbrev g011:SK:=.agg [.i .i64,.i .i64,.i .u8,.i .i64,.i .i64,.i .u8,.v,.v,.v]
abbrev g012:SK:=.agg [.i .i64,.i .i64,.v,.i .u8,.i .i64,.i .i64,.v]
abbrev g013:SK:=.leaf (.i .u64)
abbrev g014:SK:=.agg [.i .i64,.i .i64,.i .u8,.i .i64,.i .i64,.i .i64,.i .u8,.i .i64,.i .i64,.i .u8,.i .i64,.i .i64,.i .u8,.i .i64,.i .i64,.i .i64,.i .i64]
abbrev r0r:An:=.r [] none
abbrev c0c:An:=.c none
abbrev b0b:An:=.b none
abbrev rN(x:List (TG)):An:=.r x none
open Go.Proofs
def gl1:Tl:=[.int .i64 1,.int .i64 0,.int .i64 0,.int .i64 1,.int .i64 0,.int .i64 (-1),.int .i64 1,.int .i64 0,.int .i64 (-1),.int .i64 0,.int .i64 0,.int .i64 (-1),.int .i64 0,.int .i64 1,.int .i64 (-1),.int .i64 0,.int .i64 (-1),.int .i64 0,.int .i64 0,.int .i64 1,.int .i64 0,.int .i64 (-1),.int .i64 (-1),.int .i64 0,.int .i64 1,.int .i64 0,.int .i64 0,.int .i64 (-1),.int .i64 0,.int .i64 1,.int .i64 1,.int .i64 0]
def gl0:Tl:=[.int .i64 0,.int .i64 (-1),.int .u8 2,.int .i64 0,.int .i64 0,.int .i64 (-1),.int .u8 2,.int .i64 0,.int .i64 0,.int .u8 1,.int .i64 0,.int .i64 0,.int .u8 3,.int .i64 0,.int .i64 0,.int .i64 2,.int .i64 0,.int .i64 1,.int .i64 0,.int .u8 1,.int .i64 1,.int .i64 1,.int .i64 0,.int .u8 3,.int .i64 0,.int .i64 0,.int .u8 0,.int .i64 0,.int .i64 0,.int .u8 2,.int .i64 2,.int .i64 2,.int .i64 2,.int .i64 0,.int .i64 0,.int .i64 1,.int .u8 2,.int .i64 1,.int .i64 0,.int .i64 1,.int .u8 0,.int .i64 0,.int .i64 0,.int .u8 3,.int .i64 0,.int .i64 0,.int .u8 1,.int .i64 2,.int .i64 2,.int .i64 0,.int .i64 2,.int .i64 (-1),.int .i64 0,.int .u8 1,.int .i64 0,.int .i64 (-1),.int .i64 0,.int .u8 1,.int .i64 0,.int .i64 0,.int .u8 2,.int .i64 0,.int .i64 0,.int .u8 0,.int .i64 0,.int .i64 0,.int .i64 0,.int .i64 2]
def ptsTab:List (Tz):=[
 [],
 [],
 [0],
 [0,0,0,0,0,0,0,9,10,0,0,0,0,0,0,0,0,0,0,0,0,0,0,0,0,0,0,0,0,0,0,0,0,0,0,0,0,0,0,10,10,10,0,0,10,10,0,0,0,0,0,0,0,0,0,0,0,0,0,0,0,0,10,0,0,0,0,0,0,0,0,0,0,0,0,0,10,0,0,10,0,0,0,0,0,0,0,0,0,0,0,0,0,0,10,10,0,0,10,0,10,0,0,0,0,0,10,0,0,0,0,0,10,0,0,0,0,0,0,0,0,10,0,0,0,0,0,10,0,0,0,0,0,0,0,0,0,0,0,9,0,0,0,0,0,0,0,9,0,9,0,0,0,0,0,0,0,0,0,9,0,9],
 [0,3,4,5,6,7,8,0,10,0,12,13,14,15,0,0,0,0,0,0,3,0,3,0,3,0,0,0,0,0,0,0,3,0,3,0,3,0,0,0,0,0,0,0,0,0,0,0,0,0,8,0,0,0,0,0,8,0,0,0,0,0,0,0,8,0,0,8,0,0,0,0,0,0,10,0,0,0,0,0,10,0,0,0,0,0,0,10,0,0,0,0,0,0,0,0,0,12,0,12,0,12,0,0,0,0,0,0,0,12,0,12,0,12,0,0,0,0,0,0,0,0,0,0,0,0,0,13,0,0,0,0,0,13,0,0,0,0,0,0,0,14,0,0,0,0,0,14,0,0,0,0,0,0,14],
 [0,0,0,0,6,7,0,0,0,0,0,0,0,0,0,0,0,0,0,0,7,0,7,7,0,0,0,0,0,0,0,0,7],
 [0,0,0,5,0,0,0,9,0,0,0,0,0,9,0,0,0,9,0,0,0,0,9,0,5,0,0,0,0,9,0,5,0,0,0,9,0,5,0,0,9,0,0,0,9],
 [0,0,0,5],
 [0],
 [0,0,4,5,0,0,0,0,0,0,0,0,0,0,16,4,4,0,0,4,4,0,0,0,0,0,0,0,0,0,0,0,0,0,0,0,0,0,0,0,0,0,0,0,0,0,0,0,0,0,0,0,4,0,0,0,0,0,0,0,0,0,0,0,0,0,0,0,0,0,0,4,0,0,0,4],
 [0,0,0,5,6,0,0,0,0,0,0,0,0,0,0,0,18,0,20,0,0,0,0,0,0,0,0,0,0,0,0,0,0,0,0,0,0,0,0,0,0,0,0,0,0,0,0,0,0,0,0,0,0,0,0,0,0,0,0,0,0,0,0,0,0,5],
 [0,0,0,5,6,0,0,0,0,0,0,0,0,15,0,17,0,0,0,0,0,0,0,0,0,0,0,5,0,0,0,0,0,0,0,0,0,0,0,0,0,0,0,0,0,0,0,0,0,0,0,0,0,0,15],
 [0,0,0,0,0,7,8,0,10,11,12,0,0,0,0,0,0,19,0,0,0,0,0,0,0,0,0,0,0,0,0,0,0,0,0,0,0,0,0,0,0,0,0,0,0,0,0,0,0,0,19,0,0,0,0,19],
 [0,0,4,5,6,7,8,0,0,0,12,0,0,0,0,0,0,0,0,0,0,5,0,0,4,4,0,0,4,4,0,0,0,4,0,0,0,4,0,0,0,0,0,4,0,0,0,0,5,0,12,0,0,5,0,0,0,12,0,0,12,0,0,0,0,0,12,0,0,0,0,0,0,0,0,12,0,0,0,0,0,0,12,0,0,0,0,0,4,0,0,0,8,0,0,12,0,0,0,0,0,0,0,0,0,0,0,0,0,0,0,0,0,0,0,0,0,0,0,0,0,0,0,0,0,0,0,0,0,5,0,0,0,0,0,0,0,0,0,0,0,0,0,0,0,0,0,0,0,0,0,0,0,0,0,0,0,0,0,0,0,0,0,0,0,0,0,0,0,0,0,0,0,0,8,0,4,0,4,0,0,0,0,0,0,0,0,0,0,0,0,0,0,0,0,0,5,0,0,0,0,0,0,0,0,0,0,0,0,5,0,0,8,8,0,0,0,0,0,0,4,4,0,0,0,0,0,0,0,0,0,0,0,0,0,0,0,0,8,8,8,8,0,0,8,8],
 [0,0,4,0,0,7,0,0,10,0,0,0,0,0,16,0,0,0,20,0,0,4,0,4,0,0,0,0,0,0,0,0,0,0,0,0,0,0,0,0,0,0,0,0,0,0,0,4,0,0,0,0,0,7,0,0,0,0,0,0,0,0,0,0,0,0,0,0,16,0,0,0,0,16,0,0,0,0,0,0,0,0,0,0,0,0,16,0,20,0,0,0,20,0,16,0,0,0,0,16,0,20,0,0,0,0,20,0,16,0,0,0,16,0,20,0,0,0,0,20,0,16,0,0,0,0,0,0,0,7,0,0,0,0,0,0,0,0,0,7,0,0,0,0,7,0,0,0,0,0,7,0,0,0,0,7],
 [0,0,4,0,6,0,0,4,0,0,0,0,4],
 [0,0,4,0,6,0,0,4,0,0,0,4,0,4,0,0,0,0,0,4,0,0,4,0,0,0,0,4,0,4,0,0,0,4,0,0,4,0,0,0,0,4,0,4,0,4,0,0,0,0,4,0,4,0,4],
 [0,3,0,0,0,7,0,0,0,3,3,0,0,3,3,0,0,0,0,3,0,0,0,0,0,3,0,0,0,0,0,0,0,0,3,0,7,0,0,0,0,0,0,3,0,7,0,0,0,7,0,0,0,0,0,7,0,0,0,0,7,0,0,0,0,0,0,3,0,0,0,0,7,0,0,0,0,0,0,0,7],
 [0,0,4,5,6,7,8,9,0,11,0,0,0,0,0,0,0,0,0,0,0,0,0,0,0,0,0,0,0,0,7,0,0,7],
 [0,0,4,5,6,4,0,5,0,0,4,0,5,0,0,0,0,4,0,5,0,0,4,0,5,0,0,0,0,4,0,5,0,0,0,0,4,0,5,0,0,0,0,4,0,4,0,0,0,4,0,4,0,0,0,0,4,0,4,0,0,4,0,4],
 [0,0,0,0,0,0,0,9,0,0,0,0,0,0,0,0,0,0,0,0,0,0,0,0,0,0,9,0,0,0,9,0,0,0,0,9,0,0,0,0,9,0,0,0,0,9],
 [0,0,4,5,6],
 [0,0,0,0,0,0,8,0,0,0,12,13,0,0,0,0,0,0,0,0,0,0,0,0,0,0,0,0,0,0,0,0,0,0,0,0,0,0,0,0,8,0,0,0,0,0,0,0,0,8],
 [0,0,0,0,0,7,0,0,0,0,0,0,0,0,0,0,0,0,0,0,0,0,7],
 [0],
 [0],
 [0,0,4,5],
 [0,0,0,5,0,0,0,0,10,0,0,0,0,15,0,0,0,0,0,0,0,0,0,0,0,0,0,0,0,0,10,0,0,0,10,0,0,0,0,0,0,0,0,0,0,0,0,0,10,0,0,0,0,0,0,10,0,0,0,0,0,0,0,0,0,0,0,0,0,0,0,0,15],
 [0],
 [0],
 [0,0,4,0,6,0,8,0,0,0,0,0,0,0,0,4,0,0,1,1,1,0,8,0,4,0,0,8,0,4,0,0,8,8],
 [0,0,0,5,6,0,0,0,0,0,0,13,0,0,0,0,0,0,20,0,0,0,0,0,0,0,0,5,0,0,0,0,0,0,0,0,0,0,0,0,0,0,0,0,0,0,0,0,0,0,0,0,0,0,0,0,0,0,13],
 [0,0,4,5,0,0,0,9],
 [0,0,4,5,0,4,0,5,0,0,4,0,5,0,0,4,0,0,5],
 [0,3,4,3,0,0,0,3,0,0,0,0,0,3,0,0,0,0,0,3,0,3,0,0,3,0,0,3],
 [0,0,4,5,0,7,0,0,0,7,0,7,0,7,0,7,0,0,7,0,7,0,0,0,4,0,0,0,0,4],
 [0],
 [0,3,0,0,0,0,0,0,0,0,12,13,0,3,0,3,0,0,0,0,3,0,0,0,0,0,0,0,0,0,0,0,0,3,3,0,0,0,0,0,0,0,0,0,0,0,0,0,0,0,0,0,0,0,0,0,3,3,0,0,0,0,0,0,0,0,3,3],
 [0,0,0,5,0,0,8,0,0,0,0,0,0,8,0,0,0,8],
 [0,0,0,5,0,0,0,0,0,0,0,13,0,15,0,0,0,5,0,0,0,0,0,0,0,0,13,0,13,0,0,0,0,0,0,0,0,5,0,0,0,0,0,0,15,0,0,0,0,15,0,0,0,15],
 [0],
 [0,3,0,3],
 [0],
 [0,0,0,5],
 [0,0,4,5,6,0,0,0,5,0,5,0,4,0,0,0,0,0,4,0,0,0,0,0,0,0,0,0,0,4,0,0,0,0,4],
 [0],
 [0],
 [0,0,4,5,0,4,0,5,0,0,0,4,0,5,0,0,0,4,0,5,0,0,0,4,0,5,0,0,0,4,0,5],
 [0,3,4,5,0,0,3,0,0,3,0,0,0,3,0,5,0,0,0,3,0,5,0,0,0,5,0,0,0,0,0,0,0,0,0,0,5,0,0,0,0,5,0,0,0,0,0,5],
 [0,3,4,5,0,0,5,5,0,5,5,0,0,5,5,0,0,0,5,5,0,5,5,0,0,5,5],
 [0,0,0,5],
 [0],
 [0,0,4,5,0,0,0,0,0,0,0,0,14,15,0,0,0,0,0,0,0,0,0,0,0,0,0,0,0,0,0,0,0,0,0,0,0,0,0,0,0,0,4],
 [0,3,0,3,0,0,0,3,0,0,0,0,3,0,0,0,0,3,0,0,0,0,3,0,3],
 [0,3,0,0,0,0,3,0,0,3],
 [0],
 [0,3,0,3,0,0,0,3,0,0,0,0,3,0,0,0,0,3,0,0,0,0,3],
 [0],
 [0,0,4,5],
 [0,0,0,0,0,0,8,0,10,0,12],
 [0],
 [0,0,4,5,0,4,0,5,0,0,4,0,5],
 [0],
 [0,0,0,0,6],
 [0,0,0,0,6,0,0,0,0,0,0,0,6,0,6],
 [0,0,4,5,0,4,0,5,0,0,0,4,0,5,0,0,0,4,0,5,0,0,0,4,0,5,0,0,0,4,0,5],
 [0,0,4,5,6,7,0,0,0,7,0,0,0,7,0,0,0,0,0,7,0,0,0,0,0,7,0,0,7],
 [0],
 [0],
 [0],
 [0],
 [0],
 [0],
 [0,3,4,0,0,7,3,0,0,3,0,0,0,0,0,0,0,3],
 [0,3,0,0,0,7,8,0,0,3,0,0,0,0,0,3,0,0,3,0,0,0,0,0,0,0,3,0,7,0,7,0,0,0,0,0,0,0,0,0,0,0,0,0,0,3,0,0,0,0,0,3,0,0,0,0,0,0,3],
 [0,3,0,3,0,0,0,0,3,0,0,0,0,3,0,0,0,0,3,0,3],
 [0,0,0,0,0,0,0,0,0,0,0,0,0,15],
 [0,0,4,0,6],
 [0,0,4,5,6,0,0,0,0,0,0,0,0,0,0,0,0,0,5,0,1,0,4,0,4,0,0,0,0,4,0,1,0,5,0,1,0,0,0,0,5,0,0,0,5],
 [0,0,4,5,6,0,8],
 [0,0,0,0,6,7,0,9],
 [0,0,0,5,0,0,0,0,10,0,12],
 [0,0,0,5,0,0,0,0,10,0,0,0,0,0,0,0,0,0,0,0,0,0,0,0,0,0,0,0,5],
 [0],
 [0],
 [0],
 [0,0,0,5,6,0,0,0,0,0,5,0,0,0,0,0,0,0,6],
 [0],
 [0,0,0,5,6,0,5,0,6,0,0,0,0,0,0,5,0,0,0,0,0,0,0,6],
 [0],
 [0],
 [0],
 [0],
 [0],
 [0],
 [0],
 [0,3,0,3],
 [0],
 [0,0,0,5,0,0,8],
 [0,3,4,3,0,3],
 [0,0,4,5,0,4,0,5,0,0,4,0,5,0,0,4,0,0,5],
 [0],
 [0,3,0,0,0,7,3,0,0,0,3,0,0,0,0,0,0,0,7,0,7],
 [0,0,0,0,0,0,0,9,10,0,12,0,14,0,16],
 [0,0,4,5,6,0,8,0,0,0,0,0,0,0,0,0,0,0,0,5],
 [0,3,4,0,0,0,0,0,3,0,0,0,3,0,0,0,0,0,3,0,0,0,0,0,3,0,3,0,0,3,0,0,3],
 [0,0,4,0,0,0,0,0,0,4,0,0,4],
 [0,0,4,0,6,0,0,4,0,0,0,0,4],
 [0,0,0,5,0,0,0,0,5,0,0,0,5,0,0,0,0,5,0,0,0,5],
 [0,3,4],
 [0,3,0,0,6],
 [0,0,4,5,6,0,0,0,0,0,0,4,0,4,0,0,0,0,0,0,4,0,4],
 [0,0,4,5,6,7,8,9,0,11,0,0,5,0,1,1,0,0,0,0,0,0,0,4,4,0,0,0,0,0,0,7,0,7,0,0,0,0,7,0,7,0,0,0,0,0,0,0,0,0,0,11,0,0,0,0,0,9],
 [0,0,4,5,0,0,0,0,0,0,0,0,0,0,0,0,5,0,0,0,0,5,0,4,0,0,0,0,5,0,0,0,0,5,0,4,0,0,0,5,0,4,0,0,5,0,0,0,5],
 [0,0,0,5,0,0,8,0,0,0,0,13,0,0,0,0,0,0,0,0,0,0,5,0,0,0,0,0,0,0,0,0,0,0,5],
 [0],
 [0],
 [0],
 [0],
 [0],
 [0],
 [0],
 [0],
 [],
 [0],
 [0],
 [0],
 [0],
 [0],
 [0],
 [0,0,4,5,6,0,0,9,0,0,0,0,0,0,0,0,0,5,0,5,0,0,0,0,0,0,0,0,0,0,0,0,0,5],
 [0,0,4,0,6,0,8,9,0,0,0,0,0,0,0,0,4,0,1,0,8,0,4,0,8,0,0,0,0,0,0,4,0,4,0,0,0,0,0,0,0,4,0,4,0,0,0,0,8,0,0,4,0,8,0,0,9],
 [0,3,0,3,0,0,0,3,0,0,0,0,3,0,0,0,0,3],
 [0,3,4,3,0,0,0,3],
 [0,0,4,5,6,0,0,0,10,0,0,0,0,0,0,0,0,0,0,4,0,1,0,5,0,5,0,0,0,0,0,4,0,0,0,0,4],
 [0,0,0,5],
 [],
 [0],
 [0],
 [],
 [],
 [0],
 [0],
 [0],
 [0],
 [0],
 [0],
 [0],
 [0],
 [0],
 [0],
 [0],
 [0],
 [0],
 [0],
 [0],
 [0],
 [0],
 [0],
 [0],
 [0],
 [0],
 [0],
 [0],
 [0],
 [0],
 [0,3,0,3,0,0,0,3,0,0,0,0,3,0,0,0,0,3],
 [0,0,0,0,6],
 [0,0,4,5],
 [],
 [],
 [],
 [],
 [],
 [],
 [],
 [0],
 [0],
 [0],
 [],
 [],
 [0],
 [],
 [],
 [],
 [],
 [],
 [],
 [],
 [],
 [],
 [],
 [],
 [],
 [],
 [],
 [],
 [],
 [],
 [],
 [],
 [],
 []]
def cc:Cfg where
 P:=Tryz.prog
 G:=λg=>match g with
  |1=>some gl1
  |0=>some gl0
  |_=>none
 pts:=λf=>ptsTab.getD f []
def aa:TJ->Option Sig
 |2=>some ⟨[],[]⟩
 |3=>some ⟨[g02,g02,lv],[lb]⟩
 |4=>some ⟨[],[lb]⟩
 |5=>some ⟨[li,li],[g012]⟩
 |6=>some ⟨[g03,li,li],[li]⟩
 |7=>some ⟨[g03,li,li],[g02]⟩
 |8=>some ⟨[lv],[lv]⟩
 |9=>some ⟨[g04,g01],[lv,li]⟩
 |10=>some ⟨[g04,g01,lv],[li]⟩
 |11=>some ⟨[g04,g01,lv],[li]⟩
 |12=>some ⟨[g04,g01,lv,g00,g00],[g011,li]⟩
 |13=>some ⟨[g012,.agg [.i .u8,.i .i64,.i .u8,.b]],[g012]⟩
 |14=>some ⟨[g011,lv],[li]⟩
 |15=>some ⟨[g03,li],[g00]⟩
 |16=>some ⟨[g00,li],[g00]⟩
 |17=>some ⟨[g04],[lv]⟩
 |18=>some ⟨[g01,g01],[g01]⟩
 |19=>some ⟨[g00,g00],[g01]⟩
 |20=>some ⟨[lv,li],[li]⟩
 |21=>some ⟨[g01,g00],[g00]⟩
 |22=>some ⟨[g04,lv,lv,lv,g00,g00],[lv]⟩
 |23=>some ⟨[lv,lv],[li]⟩
 |24=>some ⟨[lv,li],[li]⟩
 |25=>some ⟨[g02,lb],[li]⟩
 |26=>some ⟨[g04,g01],[lv,li]⟩
 |27=>some ⟨[lv,g03],[li]⟩
 |28=>some ⟨[lv,lv],[lb]⟩
 |29=>some ⟨[li,lv,lv],[lb]⟩
 |30=>some ⟨[g00,g02],[g00,li]⟩
 |31=>some ⟨[g04,g01,lv],[lv,li]⟩
 |32=>some ⟨[g00,g00],[g02,li]⟩
 |33=>some ⟨[g00,g00],[li]⟩
 |34=>some ⟨[g06],[g01]⟩
 |35=>some ⟨[g06,g00],[g02]⟩
 |36=>some ⟨[lv],[lv]⟩
 |37=>some ⟨[g012],[lv]⟩
 |38=>some ⟨[lv,g00],[lv]⟩
 |39=>some ⟨[g011,g02,lv],[lv,lv,lb]⟩
 |40=>some ⟨[lv,lv],[lb]⟩
 |41=>some ⟨[g01],[lb]⟩
 |42=>some ⟨[li,li],[li]⟩
 |43=>some ⟨[g03,li,li],[li]⟩
 |44=>some ⟨[g01,g03],[g03]⟩
 |45=>some ⟨[li,li],[li]⟩
 |46=>some ⟨[li,li],[li]⟩
 |47=>some ⟨[g00,g00],[li]⟩
 |48=>some ⟨[g03],[g00]⟩
 |49=>some ⟨[g00],[g03]⟩
 |50=>some ⟨[lv,g00],[lv]⟩
 |51=>some ⟨[lv,li],[li]⟩
 |52=>some ⟨[g04,g01],[lv,lv,li]⟩
 |53=>some ⟨[g03],[li]⟩
 |54=>some ⟨[g03],[li]⟩
 |55=>some ⟨[li,lv],[lb]⟩
 |56=>some ⟨[g00],[li]⟩
 |57=>some ⟨[lv,lv],[li]⟩
 |58=>some ⟨[g04,g01],[lv,li]⟩
 |59=>some ⟨[lv,li,g02],[]⟩
 |60=>some ⟨[lv,lv],[]⟩
 |61=>some ⟨[g08,g08],[li]⟩
 |62=>some ⟨[lv],[li]⟩
 |63=>some ⟨[lv,lv],[g011]⟩
 |64=>some ⟨[lv],[li]⟩
 |65=>some ⟨[g00,g00],[li]⟩
 |66=>some ⟨[g00,g00],[g06]⟩
 |67=>some ⟨[lv],[lv]⟩
 |68=>some ⟨[lv],[lv]⟩
 |69=>some ⟨[li,lv,lv],[li]⟩
 |70=>some ⟨[lv,li],[li]⟩
 |71=>some ⟨[lv,lv],[li]⟩
 |72=>some ⟨[li],[lb]⟩
 |73=>some ⟨[g00],[.agg [.i .i64,.i .i64,.i .i64,.i .i64,.i .i64,.i .i64]]⟩
 |74=>some ⟨[g04],[li]⟩
 |75=>some ⟨[g01],[li]⟩
 |76=>some ⟨[g04],[lv,li]⟩
 |77=>some ⟨[g03,li],[g00,li]⟩
 |78=>some ⟨[g01,g01],[g01,li]⟩
 |79=>some ⟨[g01,g00],[g00,li]⟩
 |80=>some ⟨[lv,g00,g00],[lv]⟩
 |81=>some ⟨[g03,li,g02],[li,li]⟩
 |82=>some ⟨[g04,li,g02],[g02,li]⟩
 |83=>some ⟨[lv,li,li,li,lv],[]⟩
 |84=>some ⟨[g013],[li]⟩
 |85=>some ⟨[lv,lv],[]⟩
 |86=>some ⟨[g03,g03,lv],[li]⟩
 |87=>some ⟨[lv,lv],[]⟩
 |88=>some ⟨[g01,g01,lv],[li]⟩
 |89=>some ⟨[g02,g02],[li]⟩
 |90=>some ⟨[lv],[]⟩
 |91=>some ⟨[lv],[lv]⟩
 |92=>some ⟨[lv],[lv]⟩
 |93=>some ⟨[lv],[lv]⟩
 |94=>some ⟨[lv],[lv]⟩
 |95=>some ⟨[lv,lv],[lb]⟩
 |96=>some ⟨[g07],[lb]⟩
 |97=>some ⟨[g02],[lb]⟩
 |98=>some ⟨[g03,li,g02],[g05,li]⟩
 |99=>some ⟨[g07],[g05]⟩
 |100=>some ⟨[g05,g05],[li]⟩
 |101=>some ⟨[li],[lb]⟩
 |102=>some ⟨[g04],[lv]⟩
 |103=>some ⟨[li,g02,lv,lv,lv],[g01]⟩
 |104=>some ⟨[g03,g05],[g06,li]⟩
 |105=>some ⟨[g06],[g01,li]⟩
 |106=>some ⟨[g03,li],[lb]⟩
 |107=>some ⟨[g03,li],[g00]⟩
 |108=>some ⟨[g09,li,li],[li,li]⟩
 |109=>some ⟨[g01],[g01,li]⟩
 |110=>some ⟨[g09],[g02]⟩
 |111=>some ⟨[g09,g09],[g09]⟩
 |112=>some ⟨[g01,g00],[g00]⟩
 |113=>some ⟨[g03,g00],[li,li]⟩
 |114=>some ⟨[g04,li,g02],[g05,li,lb,li]⟩
 |115=>some ⟨[lv,li,li,lv],[]⟩
 |116=>some ⟨[lv,li,li,lv],[]⟩
 |117=>some ⟨[lv,li,li,lv],[]⟩
 |118=>some ⟨[lv,li,li,lv],[li,li]⟩
 |119=>some ⟨[lv,li,li,lv],[]⟩
 |120=>some ⟨[lv,li,li,lv],[lb]⟩
 |121=>some ⟨[lv,li,li,li,lv],[li]⟩
 |122=>some ⟨[lv,li,li,li,lv],[li,lb]⟩
 |124=>some ⟨[g013],[li]⟩
 |125=>some ⟨[lv,li,li,li,lv],[]⟩
 |126=>some ⟨[lv,li,li,li,lv],[]⟩
 |127=>some ⟨[g02],[lb]⟩
 |128=>some ⟨[lv,li,li,li],[]⟩
 |129=>some ⟨[lv,lv],[li]⟩
 |130=>some ⟨[g03,g05],[g00,li]⟩
 |131=>some ⟨[g00,g02],[g06,li]⟩
 |132=>some ⟨[g06],[li]⟩
 |133=>some ⟨[g00],[g03]⟩
 |134=>some ⟨[g01,g03],[g03,li]⟩
 |135=>some ⟨[lv,g05],[li,lb]⟩
 |137=>some ⟨[li],[g013]⟩
 |138=>some ⟨[lv],[g013]⟩
 |141=>some ⟨[lv,li,li,lv],[]⟩
 |142=>some ⟨[lv,li,li,lv],[]⟩
 |143=>some ⟨[lv,li,li,lv],[]⟩
 |144=>some ⟨[lv,li,li,lv],[li,li]⟩
 |145=>some ⟨[lv,li,li,lv],[]⟩
 |146=>some ⟨[lv,li,li,lv],[lb]⟩
 |147=>some ⟨[lv,li,li,li,lv],[li]⟩
 |148=>some ⟨[lv,li,li,li,lv],[li,lb]⟩
 |149=>some ⟨[lv,li,li,lv],[]⟩
 |150=>some ⟨[lv,li,li,lv],[]⟩
 |151=>some ⟨[lv,li,li,lv],[]⟩
 |152=>some ⟨[lv,li,li,lv],[li,li]⟩
 |153=>some ⟨[lv,li,li,lv],[]⟩
 |154=>some ⟨[lv,li,li,lv],[lb]⟩
 |155=>some ⟨[lv,li,li,li,lv],[li]⟩
 |156=>some ⟨[lv,li,li,li,lv],[li,lb]⟩
 |157=>some ⟨[lv,li,li],[]⟩
 |158=>some ⟨[lv,li,li],[]⟩
 |159=>some ⟨[lv,li,li],[]⟩
 |160=>some ⟨[lv,li,li],[li,li]⟩
 |161=>some ⟨[lv,li,li],[]⟩
 |162=>some ⟨[lv,li,li],[lb]⟩
 |163=>some ⟨[li,li],[lb]⟩
 |164=>some ⟨[lv,li,li,li],[li]⟩
 |165=>some ⟨[lv,li,li,li],[li,lb]⟩
 |166=>some ⟨[g03],[li]⟩
 |167=>some ⟨[lv,g05,lv],[li,lb]⟩
 |168=>some ⟨[g07,g05],[li]⟩
 |176=>some ⟨[lv,li,li,li],[]⟩
 |177=>some ⟨[lv,li,lv],[li]⟩
 |178=>some ⟨[lv,li,li,li,lv],[li]⟩
 |181=>some ⟨[lv,li,li,lv],[li,li]⟩
 |_=>none
def an3:List An:=[r0r,r0r,c0c,r0r,r0r,r0r,r0r,rN [[],[],[li],[],[],[],[li]],r0r,b0b,.l ⟨[(10,li)],[(8,[.i .i64,.i .i64,.v])]⟩,r0r,c0c,b0b,rN [[],[],[],[],[g02]],rN [[],[g03],[],[],[],[],[],[g02]],r0r,.c (some ⟨[],[(8,[.i .i64,.i .i64,.v])]⟩),rN [[],[lv],[],[],[g03],[],[],[],[],[],[],[],[g02]],r0r,rN [[],[lv]],r0r,b0b,.l ⟨[(13,li)],[]⟩,rN [[],[],[lv]],c0c,b0b,rN [[],[lv],[],[],[],[li],[],[lv],[],[],[],[],[li],[],[],[],[lv],[],[],[],[g02],[],[lv],[],[],[],[],[g02]],.c (some ⟨[],[]⟩),r0r,r0r,r0r,rN [[g04],[],[g01]],r0r,.c (some ⟨[(14,li)],[]⟩),rN [[g04],[],[g01],[],[lv]],r0r,.c (some ⟨[(14,li)],[]⟩),r0r,.r [[g04],[],[g01],[],[lv]] (some ⟨[(6,lb)],[]⟩)]
def an4:List An:=[r0r,r0r,r0r,rN [[],[g04],[],[g01],[],[lv],[g00],[g00]],rN [[],[g04],[],[g01],[],[lv],[g00],[g00]],rN [[],[],[],[],[],[],[],[],[lv],[],[],[],[],[],[lv],[],[g03],[],[],[],[],[],[lv],[],[],[lv],[],[],[],[],[],[],[lv],[],[],[],[],[],[lv],[],[li],[],[],[],[],[lv]],c0c,r0r,r0r,rN [[],[g04],[],[g01],[],[lv],[g00],[g00]],rN [[],[g04],[],[g01],[],[lv]],rN [[],[],[],[],[],[],[],[],[lv],[],[],[],[],[],[lv],[],[g01],[],[],[],[],[],[lv],[],[],[],[],[],[lv],[],[li],[],[],[],[],[lv],[],[li]],c0c,r0r,rN [[g00],[g00]],rN [[g011],[g00],[],[],[g00]]]
def an5:List An:=[r0r,r0r,r0r,b0b,.l ⟨[(6,li)],[(5,[.i .i64,.i .i64,.v,.i .u8,.i .i64,.i .i64,.v])]⟩,r0r,c0c,b0b,rN [[],[lv],[],[],[g03]],r0r,rN [[g012]]]
def an6:List An:=[r0r,rN [[g03]],rN [[],[li],[],[],[],[li],[],[],[],[],[li],[],[li],[],[],[],[],[li],[],[li]],c0c,r0r,rN [[],[li],[],[li],[],[],[li],[],[],[],[g02]]]
def an7:List An:=[r0r,r0r,b0b,.l ⟨[(7,li)],[]⟩,r0r,c0c,b0b,rN [[g03]],c0c,r0r,c0c,r0r,r0r,r0r,r0r]
def an8:List An:=[r0r,r0r,b0b,.l ⟨[(3,li)],[]⟩,r0r,c0c,b0b,r0r,.b (some ⟨[],[]⟩),.l ⟨[(4,li)],[]⟩,rN [[],[],[],[],[],[],[],[],[li],[],[],[],[],[li],[],[],[],[],[],[],[],[li],[],[],[],[],[li],[],[],[],[],[],[],[],[g02],[],[],[],[],[g02]],.c (some ⟨[],[]⟩),b0b,rN [[],[],[],[],[],[],[],[],[g07],[],[],[],[],[g07]],r0r,r0r,r0r]
def an9:List An:=[r0r,rN [[],[],[li],[],[],[],[li]],r0r,r0r,r0r,c0c,r0r,rN [[],[],[g01]],rN [[g04]],r0r,b0b,.l ⟨[(10,lb)],[]⟩,r0r,c0c,b0b,r0r,r0r,b0b,.l ⟨[(10,lb),(11,li)],[]⟩,r0r,c0c,b0b,r0r,.b (some ⟨[(10,lb)],[]⟩),.l ⟨[(10,lb),(12,li)],[]⟩,rN [[],[],[],[],[],[],[lb]],c0c,.b (some ⟨[(10,lb)],[]⟩),rN [[],[g03]],r0r,c0c,rN [[],[],[],[g01]],rN [[],[],[],[],[],[],[g02]],.c (some ⟨[],[(14,[.i .u8,.i .i64,.i .i64])]⟩),rN [[],[g03],[],[],[],[g03],[],[],[],[],[],[],[g01]],rN [[],[],[],[lb],[],[],[],[],[g01],[g01]],.c (some ⟨[],[]⟩),r0r,rN [[],[],[],[lb]],.c (some ⟨[(10,lb)],[]⟩),rN [[],[],[],[],[g01]],r0r,r0r,r0r,r0r]
def an10:List An:=[r0r,rN [[g04],[g01]],r0r,c0c,r0r,r0r,r0r,c0c,r0r,r0r,b0b,.l ⟨[(10,li)],[]⟩,r0r,c0c,b0b,r0r,b0b,.l ⟨[(11,li)],[]⟩,rN [[],[],[],[],[],[lv]],c0c,b0b,rN [[],[],[],[],[lv],[],[],[li]],rN [[],[],[],[g01],[],[g03],[],[],[],[],[],[],[],[g00]],c0c,r0r,r0r,r0r,rN [[g04]],r0r,r0r,b0b,.l ⟨[(14,li),(15,li)],[]⟩,r0r,c0c,b0b,rN [[],[],[],[],[g00]],r0r,b0b,.l ⟨[(14,li),(17,li)],[]⟩,r0r,c0c,b0b,rN [[g00]],rN [[g04],[],[],[],[g00],[g00],[],[g04],[],[],[],[g00],[g00]],r0r,c0c,r0r,r0r,b0b,.l ⟨[(14,li),(21,li)],[]⟩,r0r,c0c,b0b,rN [[],[],[],[],[g02],[],[],[],[],[],[],[],[],[],[],[],[],[],[g02],[],[],[],[],[],[li],[],[],[g02]],.c (some ⟨[(14,li)],[]⟩),r0r,r0r,r0r,r0r,r0r]
def an11:List An:=[r0r,rN [[g04],[g01]],r0r,c0c,r0r,rN [[],[],[g03]],r0r,c0c,r0r,r0r,b0b,.l ⟨[(35,li)],[]⟩,r0r,c0c,b0b,rN [[],[g010]],rN [[],[lv]],c0c,r0r,r0r,r0r,b0b,.l ⟨[(46,li)],[]⟩,r0r,c0c,b0b,rN [[],[g010]],r0r,b0b,.l ⟨[(50,g02)],[]⟩,r0r,c0c,b0b,r0r,rN [[],[g00]],r0r,c0c,r0r,r0r,r0r,r0r]
def an12:List An:=[r0r,rN [[g04],[g01]],r0r,c0c,r0r,rN [[g00],[g00]],rN [[],[],[],[g00],[g00]],c0c,r0r,r0r,b0b,.l ⟨[(46,li)],[]⟩,r0r,c0c,b0b,rN [[],[g011]],rN [[],[g00],[g00],[],[],[],[g00],[g00]],.c (some ⟨[],[]⟩),rN [[g011]],r0r,r0r]
def an13:List An:=[r0r,rN [[],[g06]],rN [[],[],[g03],[],[],[],[lv],[],[],[],[g01]],r0r,r0r,b0b,.l ⟨[(8,lv),(7,lv),(9,li)],[(6,[.i .i64,.i .i64,.v,.i .u8,.i .i64,.i .i64,.v])]⟩,rN [[],[],[lv]],c0c,.b (some ⟨[(8,lv),(7,lv)],[(6,[.i .i64,.i .i64,.v,.i .u8,.i .i64,.i .i64,.v])]⟩),rN [[],[lv],[],[],[g010]],rN [[],[g06],[],[g00],[],[],[g02]],c0c,rN [[],[],[g00],[],[],[lv]],r0r,rN [[],[lv]],b0b,.l ⟨[(11,lv),(12,li)],[(6,[.i .i64,.i .i64,.v,.i .u8,.i .i64,.i .i64,.v])]⟩,r0r,c0c,b0b,rN [[],[],[lv],[],[],[li]],rN [[],[lv],[],[],[li]],.c (some ⟨[],[(6,[.i .i64,.i .i64,.v,.i .u8,.i .i64,.i .i64,.v])]⟩),rN [[],[g01],[g01]],r0r,rN [[],[g01],[],[g00]],r0r,r0r,b0b,.l ⟨[(8,lv),(13,li)],[]⟩,r0r,c0c,b0b,r0r,r0r,.b (some ⟨[(14,lb)],[]⟩),.l ⟨[(14,lb),(15,li)],[]⟩,r0r,c0c,.b (some ⟨[(14,lb)],[]⟩),rN [[],[],[],[],[g00],[],[],[],[],[g00]],c0c,r0r,rN [[],[lb]],.c (some ⟨[],[]⟩),rN [[],[],[],[],[],[],[lv],[],[],[],[],[lv]],rN [[],[],[],[],[],[],[],[lv],[],[],[],[],[],[lv]],r0r,r0r,.c (some ⟨[(8,lv)],[]⟩),rN [[],[],[],[],[g010]],r0r,r0r,rN [[],[g04],[],[g01]],rN [[g012]],r0r,b0b,.l ⟨[(19,li)],[(6,[.i .i64,.i .i64,.v,.i .u8,.i .i64,.i .i64,.v])]⟩,r0r,c0c,.b (some ⟨[],[(6,[.i .i64,.i .i64,.v,.i .u8,.i .i64,.i .i64,.v])]⟩),rN [[],[],[],[],[g06],[],[g06]],c0c,r0r,rN [[],[],[],[],[],[li],[],[],[g02],[],[],[lb]],.c (some ⟨[(20,g02)],[]⟩),r0r,rN [[],[],[lv],[],[],[],[],[li],[],[],[g03],[],[],[],[],[li],[],[],[],[],[li]],r0r,rN [[],[],[lv]],rN [[g012]]]
def an14:List An:=[r0r,r0r,r0r,rN [[],[g00],[],[g00]],b0b,.l ⟨[(6,lb),(27,li)],[(5,[.v,.v])]⟩,r0r,c0c,b0b,rN [[],[],[g00]],rN [[],[g00]],rN [[g011]],rN [[],[],[],[],[lv]],c0c,r0r,r0r,r0r,.b (some ⟨[(6,lb)],[]⟩),.l ⟨[(6,lb),(56,li)],[]⟩,r0r,c0c,b0b,rN [[],[],[g03]],r0r,b0b,.l ⟨[(6,lb),(63,li)],[]⟩,r0r,c0c,b0b,rN [[],[li]],rN [[],[],[li],[],[],[],[],[li]],.c (some ⟨[(6,lb)],[]⟩),r0r,r0r,r0r,b0b,.l ⟨[(6,lb),(82,li)],[]⟩,r0r,c0c,b0b,rN [[],[g03]],rN [[],[li],[],[li],[],[],[],[li],[],[li],[],[],[],[],[li],[],[li],[],[],[],[],[li],[],[li],[],[],[],[li],[],[li],[],[],[],[],[li],[],[li]],.c (some ⟨[(6,lb)],[]⟩),r0r,r0r,r0r,r0r,rN [[],[lv]],b0b,.l ⟨[(6,lb),(132,li)],[]⟩,r0r,c0c,b0b,r0r,r0r,b0b,.l ⟨[(6,lb),(136,li)],[]⟩,r0r,c0c,b0b,r0r,rN [[],[lv],[],[],[li],[],[lv],[],[],[li],[],[],[lv],[],[],[li],[],[lv],[],[],[li]],.c (some ⟨[(6,lb)],[]⟩),r0r,r0r,r0r,r0r,c0c,r0r,r0r]
def an15:List An:=[r0r,rN [[],[],[],[li],[],[],[],[],[li]]]
def an16:List An:=[r0r,r0r,c0c,rN [[],[g02]],b0b,r0r,c0c,rN [[],[li],[],[li]],r0r,c0c,rN [[],[li],[],[],[li]],r0r,c0c,rN [[],[li],[],[li]],rN [[],[li],[],[],[li]],r0r,c0c,rN [[],[li],[],[li],[],[g02]],rN [[],[li],[],[li],[],[g02]]]
def an17:List An:=[r0r,rN [[],[],[li],[],[],[],[li]],r0r,b0b,.l ⟨[(4,li)],[]⟩,rN [[],[],[lv]],c0c,b0b,rN [[],[lv],[],[],[g07]],r0r,b0b,.l ⟨[(6,li)],[]⟩,r0r,c0c,.b (some ⟨[],[]⟩),rN [[],[g03],[],[li]],rN [[],[],[],[],[g03],[],[li],[],[],[],[g02]],c0c,rN [[],[],[li],[],[],[],[],[g02]],r0r,b0b,.l ⟨[(8,li)],[]⟩,r0r,c0c,b0b,rN [[],[g03],[],[],[],[],[li]],.c (some ⟨[],[]⟩),rN [[],[],[],[],[],[],[g02]],r0r,r0r,r0r,r0r]
def an18:List An:=[r0r,rN [[g01],[g01]],rN [[g01],[g01]],rN [[g01],[g01]],r0r,b0b,.l ⟨[(8,g02)],[]⟩,r0r,c0c,b0b,rN [[],[],[li],[],[],[li]],rN [[g01],[],[],[g03],[],[],[g01],[],[],[g03]],.c (some ⟨[],[]⟩),rN [[g01]],r0r,r0r]
def an19:List An:=[r0r,rN [[],[li],[],[li]],c0c,rN [[],[li],[],[li]],rN [[],[li],[],[li]],c0c,rN [[],[li],[],[li]],rN [[],[g02],[],[g02],[],[],[],[],[g02],[],[g02]],c0c,rN [[],[li],[],[li],[],[],[],[li],[],[li]],rN [[],[li],[],[li],[],[],[li],[],[li]]]
def an20:List An:=[r0r,r0r,r0r,b0b,.l ⟨[(6,li)],[]⟩,r0r,c0c,b0b,rN [[],[],[],[],[g00]],rN [[],[li],[],[],[],[li],[],[],[],[],[li],[],[],[],[],[li],[],[],[],[],[g02],[],[],[],[],[],[],[],[],[],[],[],[g00],[g00],[],[],[],[],[],[],[],[],[],[lv]],.c (some ⟨[],[]⟩),r0r,r0r,b0b,.l ⟨[(8,li)],[]⟩,rN [[],[],[],[],[],[lv]],c0c,b0b,rN [[],[],[],[],[lv],[],[],[li]],r0r,c0c,r0r,r0r,r0r,r0r,r0r,b0b,.l ⟨[(10,li),(11,li)],[]⟩,r0r,c0c,b0b,r0r,b0b,.l ⟨[(10,li),(12,li)],[]⟩,rN [[],[],[],[],[],[lv]],c0c,b0b,rN [[],[],[],[],[],[lv],[],[],[li],[],[li]],rN [[],[],[],[],[],[lv],[],[],[li],[],[li]],c0c,r0r,r0r,r0r,r0r,r0r,c0c,r0r,r0r]
def an21:List An:=[r0r,rN [[g01],[g00]]]
def an22:List An:=[r0r,r0r,rN [[],[g00]],r0r,b0b,.l ⟨[(13,lv),(15,li)],[]⟩,r0r,c0c,b0b,rN [[],[],[],[li]],r0r,b0b,.l ⟨[(13,lv),(17,li)],[]⟩,r0r,c0c,.b (some ⟨[(13,lv)],[]⟩),rN [[],[],[],[g01],[],[g03],[],[],[],[],[],[g00]],c0c,rN [[],[g03]],rN [[],[],[],[],[],[],[],[],[],[g02]],r0r,r0r,r0r]
def an23:List An:=[r0r,r0r,r0r,b0b,.l ⟨[(6,li)],[]⟩,r0r,c0c,b0b,rN [[],[],[lv]],r0r,b0b,.l ⟨[(8,li)],[]⟩,r0r,c0c,.b (some ⟨[],[]⟩),rN [[],[],[],[],[g02]],c0c,r0r,r0r,b0b,.l ⟨[(10,li)],[]⟩,r0r,c0c,b0b,rN [[],[],[],[],[li],[],[],[],[],[],[],[g02]],.c (some ⟨[],[]⟩),r0r,rN [[],[],[],[],[g02]],.c (some ⟨[],[]⟩),r0r,r0r,c0c,r0r,r0r,r0r,r0r,r0r,b0b,.l ⟨[(12,li)],[]⟩,r0r,c0c,b0b,r0r,b0b,.l ⟨[(13,li)],[]⟩,r0r,c0c,.b (some ⟨[],[]⟩),rN [[],[],[],[],[g02],[],[],[],[],[],[],[g02],[],[],[],[],[],[],[],[li],[],[],[],[],[],[],[],[li]],c0c,rN [[],[],[],[],[],[li],[],[],[],[],[],[],[li]],c0c,r0r,r0r,r0r,r0r]
def an24:List An:=[r0r,rN [[],[],[],[],[],[li]]]
def an25:List An:=[r0r,r0r,c0c,r0r,r0r]
def an26:List An:=[r0r,rN [[g04],[g01]],r0r]
def an27:List An:=[r0r,rN [[g03]],r0r,c0c,r0r,rN [[g03]],r0r,b0b,.l ⟨[(25,li)],[]⟩,r0r,c0c,b0b,rN [[],[],[g010]],rN [[],[lv]],rN [[],[g00],[],[],[],[],[],[],[],[],[],[],[],[g00],[],[g00],[],[],[],[],[],[],[lv]],.c (some ⟨[],[]⟩),r0r,r0r,rN [[li]],r0r,r0r,b0b,.l ⟨[(11,li),(68,li)],[]⟩,r0r,c0c,b0b,rN [[],[g010]],rN [[],[lv]],b0b,.l ⟨[(11,li),(75,li)],[]⟩,r0r,c0c,b0b,rN [[],[li]],rN [[],[],[],[lb]],c0c,r0r,r0r,r0r,r0r,r0r,rN [[],[li]],c0c,r0r,r0r]
def an28:List An:=[r0r,r0r]
def an29:List An:=[r0r,rN [[lv],[],[],[g00],[],[g00]]]
def an30:List An:=[r0r,rN [[g00]],c0c,r0r,rN [[],[g02],[],[],[],[],[g00]],rN [[],[li],[],[li],[],[],[li],[],[li]],rN [[g00]],c0c,r0r,rN [[g00]]]
def an31:List An:=[r0r,rN [[g04],[g01]],r0r,c0c,r0r,rN [[g04],[],[g03]],rN [[],[g04],[g01]],rN [[],[g04],[g01]],r0r,b0b,.l ⟨[(54,li)],[]⟩,r0r,c0c,b0b,rN [[],[g010]],rN [[],[lv]],b0b,.l ⟨[(61,li)],[]⟩,r0r,c0c,b0b,rN [[],[],[li]],rN [[],[],[],[lv]],r0r,r0r,rN [[],[],[],[lv]],b0b,.l ⟨[(80,li)],[]⟩,r0r,c0c,b0b,r0r,r0r,b0b,.l ⟨[(83,g02)],[]⟩,r0r,c0c,b0b,r0r,r0r,r0r,r0r,rN [[],[],[],[lv]],rN [[],[],[],[lv]],rN [[],[],[],[lv]],b0b,.l ⟨[(108,li)],[]⟩,r0r,c0c,b0b,rN [[],[],[g08]],rN [[],[],[],[],[],[],[lv],[g08],[lv]],r0r,r0r]
def an32:List An:=[r0r,rN [[g00],[],[],[],[g00]],c0c,r0r,r0r,b0b,.l ⟨[(17,g02)],[]⟩,r0r,c0c,b0b,r0r,rN [[g00]],rN [[],[],[],[g00],[g00]],.c (some ⟨[],[]⟩),r0r,r0r,r0r]
def an33:List An:=[r0r,rN [[],[li],[],[li],[],[],[li],[],[li],[],[],[g02],[],[],[g02]]]
def an34:List An:=[r0r,rN [[],[g02]],b0b,r0r,c0c,rN [[],[li]],r0r,c0c,rN [[],[li]],r0r,c0c,rN [[],[li],[],[li]],rN [[],[li],[],[],[li]]]
def an35:List An:=[r0r,rN [[g00]],rN [[],[li],[],[li],[],[li],[],[li],[],[],[li],[],[li],[],[],[],[g02],[],[li]],rN [[],[],[li]],c0c,r0r,r0r]
def an36:List An:=[r0r,r0r,r0r,b0b,.l ⟨[(4,li)],[]⟩,r0r,c0c,b0b,r0r,.b (some ⟨[],[]⟩),.l ⟨[(5,li)],[]⟩,rN [[],[],[],[],[],[],[],[],[g00],[],[],[],[],[g00]],c0c,b0b,rN [[],[],[],[],[],[],[],[],[g010],[],[],[],[],[g010]],r0r,r0r,r0r]
def an37:List An:=[r0r,rN [[],[g04],[],[g01]],rN [[],[g04]],r0r,r0r,b0b,.l ⟨[(6,lv),(7,li)],[]⟩,r0r,c0c,b0b,r0r,b0b,.l ⟨[(6,lv),(8,li)],[]⟩,r0r,c0c,.b (some ⟨[(6,lv)],[]⟩),rN [[],[],[g03]],rN [[],[],[],[],[],[],[],[],[],[],[g02]],c0c,rN [[],[],[],[g01],[],[],[g03],[],[],[],[],[],[],[g01],[],[],[g03]],rN [[],[],[],[g00],[g00]],r0r,r0r,r0r]
def an38:List An:=[r0r,r0r,b0b,.l ⟨[(9,li)],[]⟩,r0r,c0c,b0b,rN [[],[g010]],rN [[],[g00],[g00]],c0c,rN [[],[lv]],r0r,r0r]
def an39:List An:=[r0r,r0r,r0r,rN [[],[lv]],b0b,.l ⟨[(7,lv),(20,li)],[]⟩,r0r,c0c,b0b,rN [[],[g03]],rN [[],[],[],[li],[],[li],[],[],[li],[li]],r0r,rN [[],[lv]],b0b,.l ⟨[(6,lv),(40,li)],[]⟩,r0r,c0c,b0b,rN [[],[g01]],rN [[],[g02]],.c (some ⟨[(6,lv)],[]⟩),rN [[],[],[li],[li],[],[],[li],[li]],r0r,r0r,rN [[],[],[lb]]]
def an40:List An:=[r0r,r0r]
def an41:List An:=[r0r,rN [[],[g02]]]
def an42:List An:=[r0r,r0r,r0r,r0r,c0c,r0r,c0c,r0r,r0r,r0r,c0c,r0r,r0r,c0c,r0r,r0r,c0c,r0r,r0r]
def an43:List An:=[r0r,r0r,c0c,r0r,rN [[g03]],r0r,c0c,r0r,r0r]
def an44:List An:=[r0r,rN [[],[li],[],[li]],rN [[],[g02]],.c (some ⟨[(5,li)],[]⟩),r0r,r0r,b0b,.l ⟨[(5,li),(6,li),(7,li)],[]⟩,rN [[],[],[g02]],c0c,b0b,r0r,r0r,rN [[],[],[li],[],[],[],[],[li]]]
def an45:List An:=[r0r,r0r,c0c,r0r,r0r]
def an46:List An:=[r0r,r0r,c0c,r0r,r0r]
def an47:List An:=[r0r,rN [[],[li],[],[li],[],[],[],[li],[],[li],[],[],[],[li],[],[li],[],[],[],[li],[],[li],[],[],[],[g02],[],[g02]],.c (some ⟨[],[]⟩),r0r,r0r]
def an48:List An:=[r0r,rN [[],[li],[],[],[li]],rN [[],[li],[],[li],[],[],[],[li],[],[li]],b0b,r0r,.c (some ⟨[],[(3,[.i .i64,.i .i64,.i .u8])]⟩),r0r,r0r,.c (some ⟨[],[(3,[.i .i64,.i .i64,.i .u8])]⟩),r0r,r0r,.c (some ⟨[],[(3,[.i .i64,.i .i64,.i .u8])]⟩),r0r,r0r,rN [[g00]]]
def an49:List An:=[r0r,rN [[g00]],rN [[],[],[li],[],[],[li],[],[],[],[li],[],[],[],[],[li],[],[],[li],[],[],[],[li]]]
def an50:List An:=[r0r,r0r,b0b,.l ⟨[(5,li)],[]⟩,r0r,c0c,b0b,rN [[],[],[],[],[g00],[g00]],c0c,rN [[],[],[],[],[lv]],r0r,r0r]
def an51:List An:=[r0r,r0r,b0b,.l ⟨[(5,li)],[]⟩,r0r,c0c,b0b,rN [[],[],[],[],[li]],c0c,r0r,r0r,r0r]
def an52:List An:=[r0r,rN [[g04]],r0r,c0c,r0r,rN [[g01]],c0c,r0r,rN [[g04]],r0r,c0c,r0r,r0r,r0r,b0b,.l ⟨[(36,li)],[]⟩,r0r,c0c,b0b,rN [[],[],[g01]],rN [[],[g03]],rN [[],[],[g01],[g01]],r0r,c0c,r0r,rN [[],[],[],[],[],[g01],[g00]],r0r,c0c,r0r,r0r,r0r]
def an53:List An:=[r0r,rN [[],[li],[],[],[],[li],[],[],[],[],[li],[],[],[],[],[li],[],[],[],[],[li],[],[li]],c0c,r0r,r0r]
def an54:List An:=[r0r,rN [[g03]],c0c,r0r,rN [[],[li],[],[],[li]]]
def an55:List An:=[r0r,.r [[],[],[],[],[li]] (some ⟨[(3,lb)],[]⟩)]
def an56:List An:=[r0r,rN [[],[li],[],[],[],[li],[],[],[],[],[li],[],[],[],[],[li],[],[],[],[],[g02]],c0c,r0r,r0r]
def an57:List An:=[r0r,r0r,b0b,.l ⟨[(8,li)],[]⟩,r0r,c0c,b0b,r0r,rN [[],[],[],[],[li],[lb]],c0c,r0r,r0r,r0r]
def an58:List An:=[r0r,rN [[g04],[g01]],r0r]
def an59:List An:=[rN [[],[],[],[],[g03]],rN [[g00]],rN [[],[],[],[lv],[],[],[g01],[g00]],rN [[],[],[],[],[lv],[],[],[g00],[g00]],rN [[],[],[],[],[g03]],r0r,c0c,rN [[],[],[],[],[lv]],r0r,c0c,rN [[],[],[],[g04]],r0r,rN [[],[],[],[lv],[],[],[g00],[],[],[],[g00]],.c (some ⟨[(17,g02)],[]⟩),r0r,b0b,r0r,.c (some ⟨[],[]⟩),rN [[],[],[],[],[lv]],r0r,.c (some ⟨[],[]⟩),rN [[],[],[],[],[lv]],rN [[],[],[],[lv],[],[],[li],[],[],[],[lv],[],[],[li]],.c (some ⟨[],[]⟩),rN [[],[],[],[],[lv]],rN [[],[],[],[],[lv]]]
def an60:List An:=[r0r,r0r]
def an61:List An:=[r0r,rN [[],[g00],[],[g00],[],[],[g00],[],[g00]]]
def an62:List An:=[r0r,r0r,r0r,b0b,.l ⟨[(8,li)],[]⟩,r0r,c0c,b0b,rN [[],[li]],r0r,c0c,r0r,r0r,r0r]
def an63:List An:=[r0r,rN [[],[],[],[lv]],rN [[],[],[],[lv]],rN [[],[],[],[lv]],rN [[],[],[],[g00],[],[],[],[g00],[],[],[],[lv],[],[],[],[],[],[lv],[],[],[],[],[],[lv]]]
def an64:List An:=[r0r,r0r,b0b,.l ⟨[(8,li)],[]⟩,r0r,c0c,b0b,rN [[],[g03]],rN [[],[li],[],[li]],r0r,c0c,r0r,r0r,r0r]
def an65:List An:=[r0r,rN [[],[li],[],[li],[],[],[],[li],[],[li],[],[],[],[li],[],[li],[],[],[],[li],[],[li],[],[],[],[g02],[],[g02]],.c (some ⟨[],[]⟩),r0r,r0r]
def an66:List An:=[r0r,rN [[g00],[g00]],rN [[],[g02]],b0b,r0r,c0c,rN [[],[li]],r0r,c0c,rN [[],[li]],r0r,c0c,rN [[],[li]],rN [[],[li]]]
def an67:List An:=[r0r,r0r]
def an68:List An:=[r0r,r0r,c0c,r0r,r0r]
def an69:List An:=[r0r,rN [[lv]],.r [[lb]] (some ⟨[],[]⟩),r0r]
def an70:List An:=[r0r,r0r,b0b,.l ⟨[(8,li)],[]⟩,r0r,c0c,b0b,r0r,rN [[],[],[],[],[li]],c0c,r0r,r0r,r0r]
def an71:List An:=[r0r,r0r,b0b,.l ⟨[(8,li)],[]⟩,r0r,c0c,b0b,r0r,rN [[],[],[],[],[g01],[lb]],c0c,r0r,r0r,r0r]
def an72:List An:=[r0r,r0r]
def an73:List An:=[r0r,rN [[],[li],[],[],[li]],r0r,rN [[],[g02]],b0b,r0r,c0c,rN [[g03]],r0r,c0c,rN [[g03]],r0r,c0c,rN [[g03]],rN [[g03]]]
def an74:List An:=[r0r,rN [[],[g03]],r0r,c0c,r0r,rN [[],[lv]],c0c,r0r,rN [[],[lv]],b0b,.l ⟨[(21,li)],[]⟩,r0r,c0c,b0b,rN [[],[g07]],rN [[],[g03],[],[li],[],[g02]],rN [[],[],[],[g05],[g07]],c0c,r0r,r0r,r0r,b0b,.l ⟨[(8,li)],[]⟩,rN [[],[],[lv]],c0c,b0b,rN [[],[lv],[],[],[],[g07],[],[],[lv],[],[],[g07]],c0c,r0r,r0r,r0r]
def an75:List An:=[r0r,rN [[],[g02],[],[],[],[],[li],[],[],[],[],[li],[],[],[],[],[li],[],[li]],c0c,r0r,r0r]
def an76:List An:=[r0r,rN [[g04]],rN [[],[g03]],rN [[lv]],r0r,r0r,r0r,b0b,.l ⟨[(8,lv)],[]⟩,r0r,c0c,b0b,rN [[],[],[li]],r0r,r0r,b0b,.l ⟨[(8,lv),(35,g02)],[]⟩,r0r,c0c,.b (some ⟨[(8,lv)],[]⟩),r0r,rN [[],[g03]],r0r,c0c,rN [[],[],[],[g01]],rN [[],[],[],[lb]],.c (some ⟨[(8,lv)],[]⟩),rN [[lv],[],[],[],[g01]],r0r,rN [[lv],[],[],[g01],[g01]],c0c,r0r,r0r,rN [[lv]]]
def an77:List An:=[r0r,rN [[g03]],r0r,c0c,r0r,rN [[g03]],c0c,r0r,rN [[g03]]]
def an78:List An:=[r0r,rN [[g01],[],[],[],[g01]],c0c,r0r,rN [[],[g02],[],[g09],[],[li],[],[li]],rN [[],[g02],[],[g09],[],[g02],[],[g09],[],[],[],[],[li],[],[],[],[li]]]
def an79:List An:=[r0r,rN [[g01],[],[],[],[g00]],c0c,r0r,rN [[g01],[g00]],rN [[g00]],c0c,r0r,rN [[g00]]]
def an80:List An:=[r0r,rN [[g00],[g00]],.c (some ⟨[],[(4,[.i .i64,.i .i64,.i .u8]),(5,[.i .i64,.i .i64,.i .u8])]⟩),rN [[g00],[g00]],rN [[g00],[g00]],rN [[],[],[],[lv],[g08],[lv]],.c (some ⟨[],[]⟩),rN [[],[],[],[lv],[g08],[g00],[g00]],rN [[],[],[],[],[lv],[g08]],rN [[],[],[],[lv],[g08],[lv]]]
def an81:List An:=[r0r,rN [[g03]],r0r,c0c,r0r,rN [[g00]],r0r,c0c,r0r,rN [[g03],[g00]]]
def an82:List An:=[r0r,rN [[g04]],r0r,c0c,r0r,rN [[],[lv],[],[],[],[g02]]]
def an83:List An:=[r0r,r0r,b0b,.l ⟨[(3,li),(1,li),(11,lb),(10,lb),(2,li)],[]⟩,.b (some ⟨[(3,li),(1,li),(11,lb),(10,lb),(2,li)],[]⟩),r0r,r0r,c0c,r0r,r0r,c0c,r0r,r0r,.c (some ⟨[(3,li)],[]⟩),r0r,r0r,r0r,r0r,.c (some ⟨[(13,li),(14,li)],[]⟩),r0r,r0r,r0r,r0r,.c (some ⟨[],[]⟩),r0r,c0c,rN [[],[],[],[],[],[],[],[],[g08],[],[],[],[g08],[li]],.c (some ⟨[(1,li)],[]⟩),r0r,r0r,r0r,r0r,r0r,r0r,r0r,.c (some ⟨[(10,lb),(1,li),(2,li)],[]⟩),r0r,r0r,r0r,r0r,r0r,r0r]
def an84:List An:=[r0r,c0c,r0r,r0r]
def an85:List An:=[r0r,r0r]
def an86:List An:=[r0r,rN [[lv],[],[],[lv],[],[li],[],[li],[lv],[],[],[lv],[],[li],[],[li]]]
def an87:List An:=[r0r,r0r]
def an88:List An:=[r0r,rN [[],[g02],[],[g02],[],[lv],[],[],[lv],[],[li],[],[li],[lv],[],[],[lv],[],[li],[],[li]]]
def an89:List An:=[r0r,r0r,r0r,r0r,c0c,r0r,c0c,r0r,r0r,r0r,c0c,r0r,r0r,c0c,r0r,r0r,c0c,r0r,r0r]
def an90:List An:=[r0r,r0r]
def an91:List An:=[r0r,r0r]
def an92:List An:=[r0r,r0r,c0c,r0r,r0r]
def an93:List An:=[r0r,r0r]
def an94:List An:=[r0r,r0r,c0c,r0r,r0r]
def an95:List An:=[r0r,r0r]
def an96:List An:=[r0r,rN [[],[g02]]]
def an97:List An:=[r0r,.r [] (some ⟨[(2,lb)],[]⟩)]
def an98:List An:=[r0r,rN [[g03]],r0r,c0c,r0r,r0r]
def an99:List An:=[r0r,rN [[],[li],[],[g02]]]
def an100:List An:=[r0r,rN [[],[li],[],[li]],c0c,rN [[],[li],[],[li]],rN [[],[g02],[],[],[g02]]]
def an101:List An:=[r0r,.r [] (some ⟨[(2,lb)],[]⟩)]
def an102:List An:=[r0r,rN [[],[lv]],rN [[],[lv]],b0b,.l ⟨[(13,li)],[]⟩,r0r,c0c,b0b,rN [[],[g07]],rN [[],[],[li],[],[g02]],r0r,r0r]
def an103:List An:=[r0r,rN [[],[g03]],rN [[lv],[g05],[lb]],c0c,rN [[lv],[],[],[g01]],rN [[],[g03],[g05]],rN [[g06]],rN [[g01],[lv],[],[],[g01]],rN [[g01]]]
def an104:List An:=[r0r,rN [[g03],[g05]],r0r,c0c,r0r,rN [[g00],[],[g02]]]
def an105:List An:=[r0r,rN [[g06]],c0c,r0r,rN [[],[g02]],b0b,r0r,c0c,rN [[],[li]],r0r,c0c,rN [[],[li]],r0r,c0c,rN [[],[li],[],[li]],rN [[],[li],[],[],[li]]]
def an106:List An:=[r0r,.r [[],[],[],[],[],[li],[],[],[li]] (some ⟨[(4,lb)],[]⟩)]
def an107:List An:=[r0r,rN [[],[],[],[li],[],[],[],[],[li]]]
def an108:List An:=[r0r,rN [[],[li],[],[],[],[li],[],[],[],[],[li],[],[],[],[li]]]
def an109:List An:=[r0r,rN [[g01]],c0c,r0r,rN [[g01]]]
def an110:List An:=[r0r,rN [[.agg [.i .i64,.i .i64,.i .i64,.i .i64,.i .i64,.i .i64,.i .i64,.i .i64,.i .i64,.i .i64,.i .i64,.i .i64,.i .i64,.i .i64,.i .i64,.i .i64,.i .i64,.i .i64,.i .i64,.i .i64,.i .i64,.i .i64,.i .i64,.i .i64,.i .i64,.i .i64,.i .i64,.i .i64,.i .i64,.i .i64,.i .i64,.i .i64]]],b0b,.l ⟨[(6,li)],[]⟩,r0r,c0c,b0b,rN [[],[g09]],rN [[g09],[g09]],c0c,r0r,r0r,r0r]
def an111:List An:=[r0r,rN [[g09],[],[li],[],[li]],rN [[g09],[],[li],[],[li]],r0r]
def an112:List An:=[r0r,rN [[g00],[],[],[g02],[],[],[g03]],rN [[g01],[g03]],r0r,rN [[g01],[g03]],rN [[],[li],[],[li],[],[],[],[],[li],[],[li]],rN [[.agg [.i .i64,.i .i64,.i .u8,.i .i64,.i .i64,.i .i64,.i .u8,.i .i64,.i .i64,.i .u8,.i .i64,.i .i64,.i .u8,.i .i64,.i .i64,.i .i64,.i .i64,.i .i64,.i .i64,.i .u8,.i .i64,.i .i64,.i .i64,.i .u8,.i .i64,.i .i64,.i .u8,.i .i64,.i .i64,.i .u8,.i .i64,.i .i64,.i .i64,.i .i64,.i .i64,.i .i64,.i .u8,.i .i64,.i .i64,.i .i64,.i .u8,.i .i64,.i .i64,.i .u8,.i .i64,.i .i64,.i .u8,.i .i64,.i .i64,.i .i64,.i .i64,.i .i64,.i .i64,.i .u8,.i .i64,.i .i64,.i .i64,.i .u8,.i .i64,.i .i64,.i .u8,.i .i64,.i .i64,.i .u8,.i .i64,.i .i64,.i .i64,.i .i64]]],b0b,.l ⟨[(47,li)],[(7,[.i .i64,.i .i64,.i .u8])]⟩,r0r,c0c,b0b,rN [[],[g014]],rN [[],[g03],[g03]],.c (some ⟨[],[(7,[.i .i64,.i .i64,.i .u8])]⟩),r0r,r0r,rN [[g00]]]
def an113:List An:=[r0r,rN [[g03]],r0r,c0c,r0r,rN [[g00],[],[],[],[],[li],[],[],[],[],[li],[],[li],[],[],[],[],[li],[],[],[],[],[li],[],[li]],c0c,r0r,rN [[],[li],[],[li],[],[],[li],[],[],[],[g02]]]
def an114:List An:=[r0r,rN [[g04]],r0r,c0c,r0r,rN [[],[g03]],r0r,c0c,r0r,rN [[],[lv],[g05]],rN [[g05]]]
def an115:List An:=[r0r,b0b,.l ⟨[(8,li)],[]⟩,r0r,c0c,b0b,r0r,.b (some ⟨[],[]⟩),.l ⟨[(9,li)],[]⟩,rN [[],[],[],[],[],[],[],[],[g08],[],[],[],[],[g08],[li]],c0c,b0b,rN [[],[],[],[],[],[],[],[],[],[g08],[],[],[],[g08]],r0r,r0r]
def an124:List An:=[r0r,r0r,.c (some ⟨[(0,g013),(2,li)],[]⟩),r0r,r0r,r0r,.c (some ⟨[(0,g013),(2,li)],[]⟩),r0r,r0r,r0r,.c (some ⟨[(0,g013),(2,li)],[]⟩),r0r,r0r,r0r]
def an125:List An:=[r0r,r0r,b0b,.l ⟨[(3,li),(1,li),(11,lb),(10,lb),(2,li)],[]⟩,.b (some ⟨[(3,li),(1,li),(11,lb),(10,lb),(2,li)],[]⟩),r0r,r0r,c0c,r0r,r0r,c0c,r0r,r0r,.c (some ⟨[(3,li)],[]⟩),r0r,r0r,r0r,r0r,.c (some ⟨[(13,li),(14,li)],[]⟩),r0r,r0r,r0r,r0r,.c (some ⟨[],[]⟩),r0r,c0c,rN [[],[],[],[],[],[],[],[],[g03],[],[],[],[g03],[li]],.c (some ⟨[(1,li)],[]⟩),r0r,r0r,r0r,r0r,r0r,r0r,r0r,.c (some ⟨[(10,lb),(1,li),(2,li)],[]⟩),r0r,r0r,r0r,r0r,r0r,r0r]
def an126:List An:=[r0r,r0r,b0b,.l ⟨[(3,li),(1,li),(11,lb),(10,lb),(2,li)],[]⟩,.b (some ⟨[(3,li),(1,li),(11,lb),(10,lb),(2,li)],[]⟩),r0r,r0r,c0c,r0r,r0r,c0c,r0r,r0r,.c (some ⟨[(3,li)],[]⟩),r0r,r0r,r0r,r0r,.c (some ⟨[(13,li),(14,li)],[]⟩),r0r,r0r,r0r,r0r,.c (some ⟨[],[]⟩),r0r,c0c,rN [[],[],[],[],[],[],[],[],[g01],[],[],[],[g01],[li]],.c (some ⟨[(1,li)],[]⟩),r0r,r0r,r0r,r0r,r0r,r0r,r0r,.c (some ⟨[(10,lb),(1,li),(2,li)],[]⟩),r0r,r0r,r0r,r0r,r0r,r0r]
def an127:List An:=[r0r,r0r]
def an128:List An:=[r0r,r0r,b0b,.l ⟨[(3,li),(1,li),(9,lb),(8,lb),(2,li)],[]⟩,.b (some ⟨[(3,li),(1,li),(9,lb),(8,lb),(2,li)],[]⟩),r0r,r0r,c0c,r0r,r0r,c0c,r0r,r0r,.c (some ⟨[(3,li)],[]⟩),r0r,r0r,r0r,r0r,.c (some ⟨[(11,li),(12,li)],[]⟩),r0r,r0r,r0r,r0r,.c (some ⟨[],[]⟩),r0r,c0c,rN [[],[],[],[],[],[],[],[li],[],[],[],[li]],.c (some ⟨[(1,li)],[]⟩),r0r,r0r,r0r,r0r,r0r,r0r,r0r,.c (some ⟨[(8,lb),(1,li),(2,li)],[]⟩),r0r,r0r,r0r,r0r,r0r,r0r]
def an129:List An:=[r0r,r0r,b0b,.l ⟨[(8,li)],[]⟩,r0r,c0c,b0b,r0r,rN [[],[],[],[],[g07],[lb]],c0c,r0r,r0r,r0r]
def an130:List An:=[r0r,rN [[g03]],r0r,c0c,r0r,rN [[g03],[],[li],[],[g02]],rN [[],[],[],[g05],[g05]],c0c,r0r,rN [[g03],[],[li]]]
def an131:List An:=[r0r,rN [[g00]],c0c,r0r,rN [[],[g02],[],[g014]],rN [[],[g02],[],[li],[],[li]],b0b,r0r,.c (some ⟨[],[(7,[.i .u8,.i .i64])]⟩),rN [[],[li],[],[li]],r0r,.c (some ⟨[],[(7,[.i .u8,.i .i64])]⟩),rN [[],[li],[],[li]],rN [[],[g02]],.c (some ⟨[],[(7,[.i .u8,.i .i64])]⟩),rN [[],[li],[],[li]],rN [[g06]],c0c,r0r,rN [[g06]]]
def an132:List An:=[r0r,rN [[],[g02],[],[],[],[g02],[],[],[],[],[li],[],[],[],[],[li]],c0c,r0r,r0r]
def an133:List An:=[r0r,rN [[],[li],[],[],[],[li]]]
def an134:List An:=[r0r,rN [[g01],[],[],[],[g03]],c0c,r0r,rN [[],[g02],[],[g09],[],[li],[],[li]],rN [[],[],[li],[],[],[],[],[li]],rN [[g03]],c0c,r0r,rN [[g03]]]
def an135:List An:=[r0r,rN [[],[g05]]]
def an141:List An:=[r0r,b0b,.l ⟨[(8,li)],[]⟩,r0r,c0c,b0b,r0r,.b (some ⟨[],[]⟩),.l ⟨[(9,li)],[]⟩,rN [[],[],[],[],[],[],[],[],[g03],[],[],[],[],[g03],[li]],c0c,b0b,rN [[],[],[],[],[],[],[],[],[],[g03],[],[],[],[g03]],r0r,r0r]
def an149:List An:=[r0r,b0b,.l ⟨[(8,li)],[]⟩,r0r,c0c,b0b,r0r,.b (some ⟨[],[]⟩),.l ⟨[(9,li)],[]⟩,rN [[],[],[],[],[],[],[],[],[g01],[],[],[],[],[g01],[li]],c0c,b0b,rN [[],[],[],[],[],[],[],[],[],[g01],[],[],[],[g01]],r0r,r0r]
def an157:List An:=[r0r,b0b,.l ⟨[(6,li)],[]⟩,r0r,c0c,b0b,r0r,.b (some ⟨[],[]⟩),.l ⟨[(7,li)],[]⟩,rN [[],[],[],[],[],[],[],[li],[],[],[],[],[li]],c0c,b0b,rN [[],[],[],[],[],[],[],[],[],[li],[],[],[],[li]],r0r,r0r]
def an158:List An:=[r0r,r0r,r0r,r0r,b0b,.l ⟨[(9,li)],[]⟩,r0r,c0c,b0b,r0r,r0r,r0r,b0b,.l ⟨[(10,li)],[]⟩,r0r,c0c,b0b,rN [[],[],[],[],[],[],[],[],[],[],[],[li],[],[],[],[li]],r0r,r0r]
def an159:List An:=[r0r,r0r,.c (some ⟨[],[]⟩),r0r,r0r,r0r,b0b,.l ⟨[(9,li)],[]⟩,r0r,c0c,b0b,r0r,r0r,.c (some ⟨[(10,li)],[]⟩),r0r,rN [[],[],[],[],[],[],[],[],[],[],[],[li],[],[],[],[li]],r0r]
def an160:List An:=[r0r,r0r,r0r,r0r,r0r,r0r,r0r,.c (some ⟨[(11,li)],[]⟩),r0r,.c (some ⟨[(10,li),(11,li),(12,li)],[]⟩),r0r,r0r,r0r,r0r,rN [[li]],b0b,r0r,c0c,r0r,r0r,c0c,r0r,r0r]
def an161:List An:=[r0r,r0r,b0b,.l ⟨[(6,li),(7,li)],[]⟩,r0r,c0c,b0b,rN [[],[],[],[],[],[],[],[li],[],[],[],[li]],r0r,r0r]
def an162:List An:=[r0r,r0r,r0r,b0b,.l ⟨[(7,li),(8,li)],[]⟩,r0r,c0c,b0b,.b (some ⟨[(7,li)],[]⟩),.l ⟨[(7,li)],[]⟩,rN [[],[],[],[],[],[],[],[li],[],[],[],[],[li]],c0c,b0b,r0r,r0r,c0c,r0r,r0r,c0c,r0r,rN [[],[],[],[],[],[],[],[],[],[li],[],[],[],[li]],r0r,.c (some ⟨[],[]⟩),r0r,.b (some ⟨[],[]⟩),.l ⟨[(9,li)],[]⟩,r0r,c0c,b0b,rN [[],[],[],[li],[],[],[],[],[li]],c0c,rN [[],[],[],[],[],[],[],[],[],[li],[],[],[],[li]],r0r,r0r,.c (some ⟨[],[]⟩),r0r,.b (some ⟨[],[]⟩),.l ⟨[(10,li)],[]⟩,r0r,c0c,b0b,rN [[],[],[],[li],[],[],[],[],[li]],c0c,rN [[],[],[],[],[],[],[],[],[],[li],[],[],[],[li]],r0r,r0r,r0r]
def an163:List An:=[r0r,.r [] (some ⟨[(4,lb)],[]⟩)]
def an164:List An:=[r0r,rN [[],[],[],[],[],[],[],[li],[],[],[],[li]],r0r,b0b,.l ⟨[(9,li),(10,li)],[]⟩,b0b,.b (some ⟨[(9,li)],[]⟩),.l ⟨[(9,li)],[]⟩,rN [[],[],[],[],[],[],[],[li],[],[],[],[li]],c0c,b0b,r0r,.b (some ⟨[(10,li)],[]⟩),.l ⟨[(10,li)],[]⟩,rN [[],[],[],[],[],[],[],[li],[],[],[],[li]],c0c,b0b,r0r,r0r,c0c,rN [[],[],[],[],[],[],[],[li],[],[],[],[li]],r0r,r0r,r0r]
def an165:List An:=[r0r,rN [[],[],[],[],[],[],[],[li],[],[],[],[li]],r0r,.b (some ⟨[(10,li)],[]⟩),.l ⟨[(10,li)],[]⟩,rN [[],[],[],[],[],[],[],[li],[],[],[],[li]],c0c,b0b,r0r,.b (some ⟨[(11,li)],[]⟩),.l ⟨[(11,li)],[]⟩,rN [[],[],[],[],[],[],[],[li],[],[],[],[li]],c0c,b0b,r0r,r0r,c0c,rN [[],[],[],[],[],[],[],[li],[],[],[],[li]],r0r,rN [[],[],[],[],[],[],[],[li],[],[],[],[li]],r0r,r0r,b0b,.l ⟨[(10,li),(11,li)],[]⟩,b0b,.b (some ⟨[(10,li)],[]⟩),.l ⟨[(10,li)],[]⟩,rN [[],[],[],[],[],[],[],[li],[],[],[],[li]],c0c,b0b,r0r,.b (some ⟨[(11,li)],[]⟩),.l ⟨[(11,li)],[]⟩,rN [[],[],[],[],[],[],[],[li],[],[],[],[li]],c0c,b0b,r0r,r0r,c0c,rN [[],[],[],[],[],[],[],[li],[],[],[],[li]],r0r,r0r,rN [[],[],[],[],[],[],[],[li],[],[],[],[li]],r0r]
def an166:List An:=[r0r,rN [[],[li],[],[],[],[li],[],[],[],[],[li],[],[],[],[],[li]],c0c,r0r,r0r]
def an167:List An:=[r0r,r0r,r0r,b0b,.l ⟨[(9,li),(10,li)],[]⟩,r0r,c0c,b0b,r0r,rN [[],[],[],[],[g07],[g05],[li]],.c (some ⟨[(9,li),(10,li)],[]⟩),r0r,r0r,.r [[],[],[],[],[],[],[],[],[],[g07],[g05],[li]] (some ⟨[(6,li),(7,lb)],[]⟩)]
def an168:List An:=[r0r,rN [[g07],[],[g05]]]
def an176:List An:=[r0r,b0b,.l ⟨[(8,li)],[]⟩,b0b,r0r,r0r,c0c,rN [[],[],[],[],[],[],[],[],[],[],[li],[],[],[],[],[],[],[li]],.c (some ⟨[(9,li)],[]⟩),r0r,rN [[],[],[],[],[],[li],[],[],[],[],[],[li]],c0c,rN [[],[],[],[],[],[],[],[],[],[],[],[],[],[li],[],[],[],[],[],[li]],r0r]
def an177:List An:=[r0r,r0r]
def an178:List An:=[r0r,r0r,r0r,r0r,r0r]
def an181:List An:=[r0r,rN [[],[],[],[li],[],[],[],[li]],c0c,rN [[],[],[li]],r0r,r0r]
def ab:Nat->Site
 |_=>⟨0,[],[],.skip,.skip⟩
def xc(f:TJ):Ctxt:=⟨cc,ptsTab.getD f [],ab⟩
end Go.Am
end

/-
  PART 2 OF THE PROOF (no conditions).
-/
import Derived.Test.YtoeibflkihlloaaGreatDoorCE1
import Derived.Test.YtoeibflkihlloaaGreatDoorProg
set_option linter.unusedSectionVars false
set_option linter.unusedSimpArgs false
set_option linter.unusedVariables false
set_option linter.constructorNameAsVariable false
set_option linter.defProp false
noncomputable section
set_option maxRecDepth 100000
namespace Go.Am
section
variable [Val]
section
variable [Glo] {C:Cfg} {base:Nat} {H₀:Ts} {mu₀:HMap} {w₀:World} {la:LMap} {mu:HMap} {σ:St} {a:Act} {w:World}
def eA(keys:TB):∀(l:List (Option (Tl))) (i j:Nat),(gA keys l i)[j]?=if keys.contains (i+j)then(l[j]?).map (λ_=>none)else l[j]?
 | [],i,j=>by simp[gA]
 |x :: l,i,j=>by
  cases j with
  |zero=>simp only[gA,qaR,qca];split<;>rfl
  |succ j=>
   simp only[gA,qbf]
   rw[eA keys l (i+1) j,show i+1+j=i+(j+1)by omega]
def clearV_ok{keys:TB}{v c:Value}(h:VR la mu v c):VR (λs=>if keys.contains s then none else la s) mu (iA keys v) c:=by
 unfold iA
 split
 next ad=>
  split
  ·exact .poison c
  next hn=>
   cases h with
   |scalar h=>simp[Am.scalar]at h
   |lptr h=>
    simp at hn
    exact .lptr (by simp[hn,h])
   |hptr h=>exact .hptr h
   |gptr=>exact .gptr
 ·split
  next hl=>exact(dK hl h).up
  ·exact .poison c
def FI.clear(h:FI C base H₀ mu₀ w₀ la mu σ a w)(keys:TB):∃la',FI C base H₀ mu₀ w₀ la' mu (σ.clear keys) a w:=by
 unfold St.clear
 split
 ·exact⟨la,h⟩
 ·refine⟨λs=>if keys.contains s then none else la s,⟨?_,?_,?_,?_,h.sr.wr⟩,h.evo,?_,h.marks,h.low⟩
  ·refine⟨by simpa using h.sr.vals.1,λi x y hx hy=>?_⟩
   rw[qaz]at hx
   cases hv:σ.tmps[i]? with
   |none=>rw[hv]at hx;cases hx
   |some v=>
    rw[hv]at hx
    cases hx
    exact clearV_ok (h.sr.vals.2 i v y hv hy)
  ·intro s b hb
   split at hb
   ·cases hb
   next hk=>
    obtain⟨vs,h1⟩:=h.sr.ldom s b hb
    exact⟨vs,by rw[eA,qaL,qdE hk];exact h1⟩
  ·intro s vs hs
   rw[eA,qaL]at hs
   split at hs
   ·cases hl:σ.loc[s]? with
    |none=>rw[hl]at hs;cases hs
    |some x=>rw[hl]at hs;cases hs
   next hk=>
    obtain⟨b,c,e,h1,h2⟩:=h.sr.loc s vs hs
    exact⟨b,c,e,by show(if _ then none else la s)=_;rw[qdE hk];exact h1,h2⟩
  ·intro s s' b hs hs'
   split at hs
   ·cases hs
   ·split at hs'
    ·cases hs'
    ·exact h.sr.linj s s' b hs hs'
  ·intro s b hb
   split at hb
   ·cases hb
   ·exact h.fresh s b hb
def FI.drew(h:FI C base H₀ mu₀ w₀ la mu σ a w)(n:Nat)(hn:w.drawn<=n):FI C base H₀ mu₀ w₀ la mu σ a { w with drawn:=n }:=
 ⟨⟨h.sr.vals,h.sr.ldom,h.sr.loc,h.sr.linj,h.sr.wr.drew n⟩,h.evo.drew n hn,h.fresh,h.marks,h.low⟩
def uY{P:TF}{b:Frame}{a:Act}{k:TA}{cs:List Frame}{w:World}{c:Code} :
  step P (lone (b.atR a (.code (.scope c) :: k)) cs w) = .next (lone (b.atR a (.code c :: .inScope c :: k)) cs w):=
 step_lone_go (by simp[stepG,stepG.exec,Frame.atR])
def rM{P:TF}{b:Frame}{a:Act}{k:TA}{cs:List Frame}{w:World}{c:Code} :
  step P (lone (b.atR a (.inScope c :: k)) cs w) = .next (lone (b.atR a k) cs w):=
 step_lone_go (by simp[stepG,stepG.exec,Frame.atR])
def Arr(P:TF)(b:Frame)(k:TA)(cs:List Frame)(m:Machine)(a':Act)(w':World):Exit->Prop
 | .normal=>Steps P m (lone (b.atR a' k) cs w')
 | .ret=>∃todo,Steps P m (lone (b.atR a' (.code .ret :: todo)) cs w')
 | .exit id=>∃todo,Steps P m (lone (b.atR a' (.code (.exit id) :: todo)) cs w')/\exitTo id todo=exitTo id k
 |_=>False
def Arr.of_steps{P:TF}{b:Frame}{k:TA}{cs:List Frame}{m m₁:Machine}{a':Act}{w':World}{e:Exit}(h:Steps P m m₁)(h':Arr P b k cs m₁ a' w' e):Arr P b k cs m a' w' e:=by
 cases e with
 |normal=>exact h.trans h'
 |ret=>obtain⟨t,h'⟩:=h';exact⟨t,h.trans h'⟩
 |exit id=>obtain⟨t,h',h''⟩:=h';exact⟨t,h.trans h',h''⟩
 |_=>exact h'.elim
def Arr.pass{P:TF}{b:Frame}{x:Item}{k:TA}{cs:List Frame}{m:Machine}{a':Act}{w':World}{e:Exit}(hx:∀id,exitTo id (x :: k)=exitTo id k)(hn:e≠.normal)(h:Arr P b (x :: k) cs m a' w' e):Arr P b k cs m a' w' e:=by
 cases e with
 |normal=>exact absurd rfl hn
 |ret=>exact h
 |exit id=>obtain⟨t,h',h''⟩:=h;exact⟨t,h',by rw[h'',hx]⟩
 |_=>exact h.elim
end
def oI(C:Cfg)(S:Sems):Prop:=
 ∀(_:Glo) (base:Nat) (H₀:Ts) (mu₀:HMap) (w₀:World) (ro:Tp) (fn:TN) (pts:TB) (code:Code) (σ σ':St) (e:Exit) (la:LMap) (mu:HMap) (a:Act) (w:World),(pts≠[]->ro=none)->
  S.ex pts code σ e σ'->FI C base H₀ mu₀ w₀ la mu σ a w->∀(b:Frame) k cs,b.roundOf=ro->b.fn=fn->
  ∃a' w' la' mu',FI C base H₀ mu₀ w₀ la' mu' σ' a' w'/\Arr C.P b k cs (lone (b.atR a (.code code :: k)) cs w) a' w' e
section
variable [Glo] {C:Cfg} {base:Nat} {H₀:Ts} {mu₀:HMap} {w₀:World} {la:LMap} {mu:HMap} {σ:St} {a:Act} {w:World}
def mf(hw:WR C base mu σ.heap w){id:Nat}{r:ALoop}(h:ed σ.heap id=some r):∃p,mu id=some p/\σ.heap[id]?=some (.loop r)/\
  ∃L:Loop,w.heap[p.b]?=some (.loop L)/\L.state=r.state/\L.pending=r.pending/\L.params.toList=r.params/\L.assign=r.assign/\L.body=r.body/\VRs noL mu r.tmps L.tmps.toList:=by
 unfold ed at h
 split at h
 next r' hid=>
  cases h
  obtain⟨p,hp,hr⟩:=hw.obj id _ hid rfl
  exact⟨p,hp,hid,hr⟩
 ·cases h
def WR.setLoop(hw:WR C base mu σ.heap w){id:Nat}{r r':ALoop}{p:Pl}{L':Loop}(hid:σ.heap[id]?=some (.loop r))(hp:mu id=some p)
  (h1:L'.state=r'.state) (h2:L'.pending=r'.pending) (h3:L'.params.toList=r'.params) (h4:L'.assign=r'.assign) (h5:L'.body=r'.body) (h6:VRs noL mu r'.tmps L'.tmps.toList) :
  WR C base mu (σ.heap.set id (.loop r')) { w with heap:=w.heap.setIfInBounds p.b (.loop L') }/\Evo σ.heap mu w (σ.heap.set id (.loop r')) mu { w with heap:=w.heap.setIfInBounds p.b (.loop L') }:=
 hw.set (w':={ w with heap:=w.heap.setIfInBounds p.b (.loop L') }) (x:=.loop L') hid rfl hp rfl rfl rfl rfl (.loop r') (λ_=>rfl) ⟨L',rfl,h1,h2,h3,h4,h5,h6⟩
def snapOf_ok{tmps tm:Tl}{cs:Tl}(hs:vg tmps tm)(h:VRs la mu tmps cs):VRs noL mu tm cs:=by
 refine⟨by rw[hs.1,h.1],λi x y hx hy=>?_⟩
 rcases hs.2 i x hx with rfl|⟨h1,h2⟩
 ·exact .poison y
 ·exact dK h2 (h.2 i x y h1 hy)
def WR.other(hw:WR C base mu σ.heap w)(o:Obj):WR C base mu σ.heap (w.alloc o)/\Evo σ.heap mu w σ.heap mu (w.alloc o):=by
 have hold:∀b,b<w.heap.size->(w.alloc o).heap[b]?=w.heap[b]?:=λb hb=>by
  show(w.heap.push _)[b]?=_
  rw[qcb,qdE (by omega)]
 refine⟨⟨?_,hw.inj,hw.own,hw.ro,hw.dom,?_⟩,⟨qaf _,λ_ _=>rfl,by simp,λb hb _=>hold b hb,λb hb=>.inr hb,rfl,rfl,rfl,qaf _⟩⟩
 ·intro id x hid ha
  obtain⟨p,h1,h2⟩:=hw.obj id x hid ha
  exact⟨p,h1,by rw[hold _ (gP ha h2)];exact h2⟩
 ·intro g vs hg
  obtain⟨h1,h2,c,e',fr,h3,h4⟩:=hw.glob g vs hg
  exact⟨h1,h2,c,e',fr,by rw[hold _ (qav.1 h3).1];exact h3,h4⟩
def fX{l:Nat}{L:Loop}(h:w.heap[l]?=some (.loop L)):(Instr.getLoop l).run C.P w = .ok L w:=by
 have:(getObj l).run C.P w = .ok (.loop L) w:=by simp[getObj,Sem.run,h]
 simp[Instr.getLoop,this]
def iV{l:Nat}{L:Loop}{o:Obj}(h:w.heap[l]?=some (.loop L)):(setObj l o).run C.P w = .ok () { w with heap:=w.heap.setIfInBounds l o }:=by
 simp[setObj,Sem.run,h]
def uR{l:Nat}{L:Loop}(h:w.heap[l]?=some (.loop L))(hb:L.state≠.busy) :
  (Instr.endLoop l).run C.P w = .ok L.pending { w with heap:=w.heap.setIfInBounds l (.loop { L with state:=.exhausted }) }:=by
 simp[Instr.endLoop,Sem.run_bind,fX h,iV h,Result.andThen]
 exact λh=>absurd h hb
def oE{l:Nat}{L:Loop}(h:w.heap[l]?=some (.loop L))(hb:L.state = .ready) :
  (Instr.beginRound l).run C.P w = .ok () { w with heap:=w.heap.setIfInBounds l (.loop { L with state:=.busy }) }:=by
 simp[Instr.beginRound,Sem.run_bind,fX h,hb,iV h,Result.andThen]
def tL{l:Nat}{L:Loop}(h:w.heap[l]?=some (.loop L))(j:Tk) :
  (Instr.endRound l j).run C.P w = .ok (.bool j.isNone) { w with heap:=w.heap.setIfInBounds l (.loop { L with state:=if j.isNone then .ready else .done,pending:=j }) }:=by
 simp[Instr.endRound,Sem.run_bind,fX h,iV h,Result.andThen]
end
section
variable {C:Cfg}
def code_next(hm:C.P.follows .mixedOrders=true){S:Sems}(hB:BOk C S.toBelow)(hS:oI C S):oI C { S with ex:=mU C S }:=by
 intro _ base H₀ mu₀ w₀ ro fn pts code σ σ' e la mu a w hro hex h b k cs hb hf
 cases code with
 |skip=>
  obtain⟨rfl,rfl⟩:=hex
  exact⟨a,w,la,mu,h,.one stepR_skip⟩
 |label l=>
  obtain⟨rfl,rfl⟩:=hex
  exact⟨a,w,la,mu,h,.one stepR_label⟩
 |ret=>
  obtain⟨rfl,rfl⟩:=hex
  exact⟨a,w,la,mu,h,⟨k,.refl _ _⟩⟩
 |exit id=>
  obtain⟨rfl,rfl⟩:=hex
  exact⟨a,w,la,mu,h,⟨k,.refl _ _,rfl⟩⟩
 |goto l=>exact hex.elim
 |refuse s=>exact hex.elim
 |seq x y=>
  obtain⟨e₁,σ₁,h1,h2⟩:=hex
  obtain⟨a₁,w₁,la₁,mu₁,g1,g2⟩:=hS _ base H₀ mu₀ w₀ ro fn pts x σ σ₁ e₁ la mu a w hro h1 h b (.code y :: k) cs hb hf
  rcases h2 with⟨rfl,h2⟩|⟨hne,rfl,rfl⟩
  ·obtain⟨a₂,w₂,la₂,mu₂,g3,g4⟩:=hS _ base H₀ mu₀ w₀ ro fn pts y σ₁ σ' e la₁ mu₁ a₁ w₁ hro h2 g1 b k cs hb hf
   exact⟨a₂,w₂,la₂,mu₂,g3,.of_steps (.head stepR_seq g2) g4⟩
  ·exact⟨a₁,w₁,la₁,mu₁,g1,.of_steps (.one stepR_seq) (.pass (λid=>rfl) hne g2)⟩
 |cond c x y=>
  obtain⟨t,ht,h1⟩:=hex
  obtain⟨a₁,w₁,la₁,mu₁,g1,g2⟩:=hS _ base H₀ mu₀ w₀ ro fn pts _ σ σ' e la mu a w hro h1 h b k cs hb hf
  have hc:=aA h.sr c
  rw[ht]at hc
  exact⟨a₁,w₁,la₁,mu₁,g1,.of_steps (.one (stepR_cond hc.bool)) g2⟩
 |block id x=>
  obtain⟨e₁,h1,rfl⟩:=hex
  obtain⟨a₁,w₁,la₁,mu₁,g1,g2⟩:=hS _ base H₀ mu₀ w₀ ro fn pts x σ σ' e₁ la mu a w hro h1 h b (.inBlock id :: k) cs hb hf
  refine⟨a₁,w₁,la₁,mu₁,g1,?_⟩
  have g:=g2
  refine .of_steps (.one stepR_block) ?_
  cases e₁ with
  |normal=>exact Steps.trans g (.one stepR_inBlock)
  |ret=>exact g
  |exit i=>
   obtain⟨t,s1,s2⟩:=g
   show Arr C.P b k cs _ a₁ w₁ (if i=id then .normal else .exit i)
   by_cases hi:i=id
   ·rw[qdD hi]
    subst hi
    have:exitTo i t=some k:=by rw[s2];simp[exitTo]
    exact s1.trans (.one (stepR_exit this))
   ·rw[qdE hi]
    refine⟨t,s1,?_⟩
    rw[s2]
    have hne:(id==i)=false:=by simp;exact λe=>hi e.symm
    simp[exitTo,hne]
  |_=>exact g.elim
 |loop x=>
  obtain⟨e₁,σ₁,h1,h2⟩:=hex
  obtain⟨la₀,h0⟩:=h.clear (aO pts x)
  obtain⟨a₁,w₁,la₁,mu₁,g1,g2⟩:=hS _ base H₀ mu₀ w₀ ro fn pts x _ σ₁ e₁ la₀ mu a w hro h1 h0 b (.inLoop x :: k) cs hb hf
  rcases h2 with⟨rfl,h2⟩|⟨hne,rfl,rfl⟩
  ·obtain⟨a₂,w₂,la₂,mu₂,g3,g4⟩:=hS _ base H₀ mu₀ w₀ ro fn pts (.loop x) σ₁ σ' e la₁ mu₁ a₁ w₁ hro h2 g1 b k cs hb hf
   refine⟨a₂,w₂,la₂,mu₂,g3,?_⟩
   have s1:Steps C.P (lone (b.atR a (.code (.loop x) :: k)) cs w) (lone (b.atR a₁ (.inLoop x :: k)) cs w₁):=.head stepR_loop g2
   have s2:=g4
   have hsame:∀m',Steps C.P (lone (b.atR a₁ (.code (.loop x) :: k)) cs w₁) m'->(∃n,runN C.P (n+1) (lone (b.atR a₁ (.code (.loop x) :: k)) cs w₁) = .next m')∨m'=lone (b.atR a₁ (.code (.loop x) :: k)) cs w₁:=by
    rintro m' ⟨n,hn⟩
    cases n with
    |zero=>simp[runN]at hn;exact .inr hn.symm
    |succ n=>exact .inl ⟨n,hn⟩
   have hgo:∀m',Steps C.P (lone (b.atR a₁ (.code (.loop x) :: k)) cs w₁) m'->m'≠lone (b.atR a₁ (.code (.loop x) :: k)) cs w₁->Steps C.P (lone (b.atR a₁ (.inLoop x :: k)) cs w₁) m':=by
    intro m' hm' hne
    rcases hsame m' hm' with⟨n,hn⟩|rfl
    ·refine⟨n+1,?_⟩
     simp only[runN,stepR_loop,stepR_inLoop]at hn ⊢
     exact hn
    ·exact absurd rfl hne
   have htodo:∀(a':Act) (t:TA) (w':World),t≠.code (.loop x) :: k->lone (b.atR a' t) cs w'≠lone (b.atR a₁ (.code (.loop x) :: k)) cs w₁:=by
    intro a' t w' hne e
    have e':=congrArg (λm:Machine=>(m.gs[0]?).map (λg=>g.frame.todo)) e
    simp[lone,Frame.atR]at e'
    exact hne e'
   refine .of_steps s1 ?_
   cases e with
   |normal=>
    refine hgo _ s2 (htodo _ _ _ λe=>?_)
    have:=congrArg List.length e
    simp at this
   |ret=>
    obtain⟨t,s2⟩:=s2
    exact⟨t,hgo _ s2 (htodo _ _ _ λe=>by simp at e)⟩
   |exit id=>
    obtain⟨t,s2,s3⟩:=s2
    exact⟨t,hgo _ s2 (htodo _ _ _ λe=>by simp at e),s3⟩
   |_=>exact s2.elim
  ·exact⟨a₁,w₁,la₁,mu₁,g1,.of_steps (.one stepR_loop) (.pass (λid=>rfl) hne g2)⟩
 |scope x=>
  obtain⟨a₁,w₁,la₁,mu₁,g1,g2⟩:=hS _ base H₀ mu₀ w₀ ro fn pts x σ σ' e la mu a w hro hex h b (.inScope x :: k) cs hb hf
  refine⟨a₁,w₁,la₁,mu₁,g1,.of_steps (.one uY) ?_⟩
  have g:=g2
  by_cases hn:e = .normal
  ·subst hn;exact Steps.trans g (.one rM)
  ·exact .pass (λid=>rfl) hn g
 |region id ops draw=>
  obtain⟨rfl,h1⟩:=hex
  cases draw with
  |false=>
   obtain⟨a₁,w₁,la₁,mu₁,g1,g2⟩:=ww hB b k cs _ _ _ _ _ _ _ h h1
   exact⟨a₁,w₁,la₁,mu₁,g1,.head stepR_region g2⟩
  |true=>
   have hd:FI C base H₀ mu₀ w₀ la mu σ a { w with drawn:=w.drawn+1 }:=h.drew _ (qc6 _)
   obtain⟨σ₀,h0,h1⟩:=h1
   obtain⟨a₁,w₁,la₁,mu₁,g1,g2⟩:=sim_any hB (hd.restate h0) h1 (w.tape w.drawn (.order fn id)) b k cs
   refine⟨a₁,w₁,la₁,mu₁,g1,.head stepR_region_draw ?_⟩
   rw[hm,hf]
   exact g2
 |rangeFunc f params assign body=>
  obtain⟨hpts,g,first,cap,φ,tm,r,H,r₂,hsnap,hf',hnl,hcall,hl,hbusy,hexit,rfl⟩:=hex
  obtain rfl:=hro hpts
  have hfe:=aA h.sr f
  rw[hf']at hfe
  obtain⟨x',y',hev,r1,r2⟩:=hfe.func_inv
  have hnl':first.toList.all aZ=true/\cap.toList.all aZ=true:=by simpa[noLoc]using hnl
  have d1:VRs noL mu first.toList x'.toList:=⟨r1.1,λi u v hu hv=>eF (cA hnl'.1 hu) (r1.2 i u v hu hv)⟩
  have d2:VRs noL mu cap.toList y'.toList:=⟨r2.1,λi u v hu hv=>eF (cA hnl'.2 hu) (r2.2 i u v hu hv)⟩
  obtain⟨hW1,hE1⟩:=h.sr.wr.other (.deferred (some []))
  have hr1:(w.alloc (.deferred (some []))).heap[w.heap.size]?=some (.deferred (some [])):=by
   show(w.heap.push _)[_]?=_
   simp
  have hno:¬Own mu σ.heap w.heap.size:=λho=>by have:=(Own.lt h.sr.wr ho).1;omega
  have hF1:FI C base H₀ mu₀ w₀ la mu σ { a with defers:=({ target:=.collected w.heap.size,args:=#[] }:Deferred) :: a.defers } (w.alloc (.deferred (some []))):=by
   have h':=h.heap hW1 hE1
   refine⟨h'.sr,h'.evo,h'.fresh,?_,h'.low⟩
   obtain⟨rs,k1,k2,k3⟩:=h.marks
   have hlt:∀r∈rs,r<w.heap.size:=λr hr=>by
    obtain⟨_,k4,_⟩:=k3 r hr
    exact(qav.1 k4).1
   refine⟨w.heap.size :: rs,by rw[k1];rfl,qbX.2 ⟨λhm=>by have:=hlt _ hm;omega,k2⟩,λr hr=>?_⟩
   rcases qal.1 hr with rfl|hr
   ·exact⟨h.evo.size,hr1,hno⟩
   ·obtain⟨k4,k5,k6⟩:=k3 r hr
    exact⟨k4,by rw[hE1.keep r (hlt r hr) k6];exact k5,k6⟩
  have hb1:base<=(w.alloc (.deferred (some []))).heap.size:=hF1.big
  let L:Loop:={ state:=.ready,pending:=none,fn,tmps:=a.tmps,params,assign,body,defers:=w.heap.size }
  let w₂:World:=(w.alloc (.deferred (some []))).alloc (.loop L)
  let p:Pl:=⟨(w.alloc (.deferred (some []))).heap.size,0,0,0⟩
  obtain⟨hW2,hE2,_⟩:=hF1.sr.wr.new hb1 (w':=w₂) (x:=.loop L) rfl rfl rfl rfl (.loop { state:=.ready,pending:=none,fn:=φ,tmps:=tm,params:=params.toList,assign,body }) p rfl
   ⟨L,rfl,rfl,rfl,rfl,rfl,rfl,snapOf_ok hsnap h.sr.vals⟩ (λ_=>rfl)
  have hF2:=hF1.heap hW2 hE2
  have hmono:=jO h.sr.wr p
  have hargs:VRs noL (upd mu σ.heap.length p) (first.toList++[.func (.yield σ.heap.length) #[] #[]]++cap.toList) (x' ++ #[Value.func (.yield p.b) #[] #[]]++y').toList:=by
   simp only[qbR]
   exact((d1.mono (λ_ _ h=>h) hmono).append (.cons (.yield (bF _ _ _)) .nil)).append (d2.mono (λ_ _ h=>h) hmono)
  obtain⟨v,mu',w',q1,q2,q3,q4,q5⟩:=hB.call _ _ _ _ _ hcall _ base _ w₂ _ hF2.big hargs hW2 (b.atR { a with defers:=[({ target:=.collected w.heap.size,args:=#[] }:Deferred)]++a.defers } (.inRangeFunc p.b :: k) :: cs)
  have hF3:=hF2.heap q2 q3
  have hmu':mu' σ.heap.length=some p:=by rw[q3.same _ (by simp)];exact bF _ _ _
  obtain⟨p',hp',hid,L',hL',e1,e2,e3,e4,e5,e6⟩:=mf (σ:={ σ with heap:=H }) q2 hl
  obtain rfl:p'=p:=by rw[hmu']at hp';exact(qae hp').symm
  obtain⟨hW4,hE4⟩:=WR.setLoop (σ:={ σ with heap:=H }) q2 hid hp' (r':={ r₂ with state:=.exhausted }) (L':={ L' with state:=.exhausted }) rfl e2 e3 e4 e5 e6
  have hF4:=hF3.heap hW4 hE4
  refine⟨_,_,la,mu',hF4,?_⟩
  have henter:(Instr.enterLoop b.fn a.tmps params assign body b.roundOf).run C.P w = .ok (p.b,[({ target:=.collected w.heap.size,args:=#[] }:Deferred)]) w₂:=by
   rw[hb,hf]
   rfl
  have hres:(resolve a.eval (rangeCall f p.b) 0).run C.P w₂ = .ok { target:=.fn (.func g) y',args:=x' ++ #[.func (.yield p.b) #[] #[]] } w₂:=by
   have hmap:Array.map a.eval #[Operand.const (Value.func (Fn.yield p.b) #[] #[])] = #[Value.func (Fn.yield p.b) #[] #[]]:=by simp[Act.eval]
   simp only[resolve,hev,Deferred.ofValue,hmap]
   rfl
  have hinv:(invoke (.fn (.func g) y') (x' ++ #[.func (.yield p.b) #[] #[]])).run C.P w₂ = .ok (.enter g (x' ++ #[.func (.yield p.b) #[] #[]]++y')) w₂:=q4
  have s1:=stepR_rangeFunc (P:=C.P) (b:=b) (a:=a) (k:=k) (cs:=cs) henter hres hinv
  obtain⟨fr,s2,_,s3⟩:=q5
  have hend:(Instr.endLoop p.b).run C.P w' = .ok r₂.pending { w' with heap:=w'.heap.setIfInBounds p.b (.loop { L' with state:=.exhausted }) }:=by
   rw[←e2]
   exact uR hL' (by rw[e1];exact hbusy)
  have s4:Steps C.P (lone (b.atR a (.code (.rangeFunc f params assign body) :: k)) cs w) (lone (b.atR { a with defers:=[({ target:=.collected w.heap.size,args:=#[] }:Deferred)]++a.defers } ((r₂.pending.map Item.code).toList++k)) cs { w' with heap:=w'.heap.setIfInBounds p.b (.loop { L' with state:=.exhausted }) }):=by
   refine .head s1 (s2.trans (.head ?_ (.one (stepR_endRangeFunc hend))))
   rw[←finish_atR_inRangeFunc p.b v]
   exact step_leave_returned s3
  unfold vA at hexit
  split at hexit
  next hp=>cases hexit;rw[hp]at s4;exact s4
  next hp=>cases hexit;rw[hp]at s4;exact⟨k,s4⟩
  next hp=>cases hexit;rw[hp]at s4;exact⟨k,s4,rfl⟩
  ·cases hexit
end
end
section
variable [Val]
section
variable [Glo] {C:Cfg} {base:Nat} {H₀:Ts} {mu₀:HMap} {w₀:World} {la:LMap} {mu:HMap} {σ:St} {a:Act} {w:World}
def FI.shut{d:Deferred}{ds:List Deferred}(h:FI C base H₀ mu₀ w₀ la mu σ a w)(hd:a.defers=d :: ds) :
  ∃r,d.target = .collected r/\(Instr.takeDeferred r).run C.P w = .ok [] { w with heap:=w.heap.setIfInBounds r (.deferred none) }/\
   FI C base H₀ mu₀ w₀ la mu σ { a with defers:=ds } { w with heap:=w.heap.setIfInBounds r (.deferred none) }:=by
 obtain⟨rs,h1,h2,h3⟩:=h.marks
 rw[hd]at h1
 cases rs with
 |nil=>cases h1
 |cons r rs=>
  simp only[qas,qax]at h1
  obtain⟨rfl,rfl⟩:=h1
  obtain⟨k1,k2,k3⟩:=h3 r (by simp)
  have hlt:r<w.heap.size:=(qav.1 k2).1
  have hold:∀b,b≠r->(w.heap.setIfInBounds r (.deferred none))[b]?=w.heap[b]?:=λb hb=>qb0 (qcs hb)
  have hlow:=h.low
  refine⟨r,rfl,?_,⟨⟨h.sr.vals,h.sr.ldom,?_,h.sr.linj,⟨?_,h.sr.wr.inj,h.sr.wr.own,h.sr.wr.ro,h.sr.wr.dom,?_⟩⟩,?_,h.fresh,?_,h.low⟩⟩
  ·have hg:(getObj r).run C.P w = .ok (.deferred (some [])) w:=by simp[getObj,Sem.run,k2]
   have hs:(setObj r (.deferred none)).run C.P w = .ok () { w with heap:=w.heap.setIfInBounds r (.deferred none) }:=by simp[setObj,Sem.run,k2]
   simp[Instr.takeDeferred,Sem.run_bind,hg,hs,Result.andThen]
  ·intro s vs hs
   obtain⟨b,c,e,e1,e2,e3,e4⟩:=h.sr.loc s vs hs
   exact⟨b,c,e,e1,e2,by rw[←e3];exact hold b (λeb=>by subst eb;rw[k2]at e3;cases e3),e4⟩
  ·intro id o hid ha
   obtain⟨p,e1,e2⟩:=h.sr.wr.obj id o hid ha
   refine⟨p,e1,?_⟩
   show objR mu p (w.heap.setIfInBounds r (.deferred none))[p.b]? o
   by_cases hpb:p.b=r
   ·exfalso
    by_cases hown:o.owned=true
    ·exact k3 ⟨id,o,p,hid,hown,e1,hpb⟩
    ·have:=h.sr.wr.ro id o p hid ha (by simpa using hown) e1
     omega
   ·rw[hold _ hpb];exact e2
  ·intro g vs hg
   obtain⟨e1,e2,c,e',fr,e3,e4⟩:=h.sr.wr.glob g vs hg
   exact⟨e1,e2,c,e',fr,by rw[←e3];exact hold _ (by omega),e4⟩
  ·refine⟨h.evo.len,h.evo.same,by simpa using h.evo.size,λk hk ho=>?_,h.evo.steal,h.evo.os,h.evo.tape,h.evo.output,h.evo.dr⟩
   rw[←h.evo.keep k hk ho]
   exact hold k (by omega)
  ·have hnd:=qbX.1 h2
   refine⟨rs,rfl,hnd.2,λr' hr'=>?_⟩
   obtain⟨e1,e2,e3⟩:=h3 r' (by simp[hr'])
   exact⟨e1,by rw[←e2];exact hold r' (λe=>hnd.1 (e▸hr')),e3⟩
def tW:∀(ds:List Deferred) (a:Act) (w:World),a.defers=ds->FI C base H₀ mu₀ w₀ la mu σ a w->
  ∃w',FI C base H₀ mu₀ w₀ la mu σ { a with defers:=[] } w'/\
   ∀(b:Frame) (todo:TA) (cs:List Frame),Steps C.P (lone { b.atR a todo with mode:=.returning } cs w) (lone { b.atR { a with defers:=[] } todo with mode:=.returning } cs w')
 | [],a,w,hd,h=>by
  obtain⟨tmps,defers⟩:=a
  simp only at hd
  subst hd
  exact⟨w,h,λb todo cs=>.refl _ _⟩
 |d :: ds,a,w,hd,h=>by
  obtain⟨r,h1,h2,h3⟩:=h.shut hd
  obtain⟨w',h4,h5⟩:=tW ds { a with defers:=ds } _ rfl h3
  refine⟨w',h4,λb todo cs=>.head ?_ (h5 b todo cs)⟩
  exact step_collected (fr:={ b.atR a todo with mode:=.returning }) (by simp) (show a.defers=d :: ds from hd) h1 h2
def kQ(tmps:Tj):ResultVar->Sem Value
 | .tmp t=>pure (tmps.getD t undef)
 | .cell p t=>do loadVar t (←asAddr (tmps.getD p undef))
def xI(fn:Func)(tmps:Tj):results fn tmps=(do
  let vs ←fn.results.mapM (kQ tmps)
  pure (if h:vs.size=1 then vs[0]else .tuple vs)):=by
 have:(λx=>match x with
  |ResultVar.tmp t=>pure (tmps.getD t undef)
  |ResultVar.cell p t=>(do loadVar t (←asAddr (tmps.getD p undef)):Sem Value))=kQ tmps:=by
  funext x;cases x<;>rfl
 rw[←this]
 rfl
def xG(h:SR C base la mu σ a.tmps w){x:ResultVar}{v:Value}(hx:eJ C σ x=some v) :
  ∃v',(kQ a.tmps x).run C.P w = .ok v' w/\VR la mu v v':=by
 have hget:∀t,VR la mu (σ.tmps.getD t undef) (a.tmps.getD t undef):=λt=>aA h (.tmp t)
 cases x with
 |tmp t=>
  simp only[eJ]at hx
  cases hx
  exact⟨_,rfl,hget t⟩
 |cell p t=>
  simp only[eJ]at hx
  have hp:=hget p
  split at hx
  next ad hv=>
   rw[hv]at hp
   split at hx
   next hsp=>
    cases hcl:dz σ.heap ad.block with
    |none=>rw[hcl]at hx;cases hx
    |some vs=>
     rw[hcl]at hx
     generalize hw:a.tmps.getD p undef=y at hp ⊢
     cases hp with
     |scalar hs=>simp[Am.scalar]at hs
     |lptr _=>simp at hsp
     |gptr=>simp at hsp
     |hptr hmu=>
      obtain⟨c,e,fr,h1,h2⟩:=sS h.wr hcl hmu
      obtain⟨v',h3,h4⟩:=dL (C:=C) h2 hx h1
      exact⟨v',by simp only[kQ,hw,asAddr];exact h3,h4.up⟩
   next hsp=>
    split at hx
    next vs hloc=>
     generalize hw:a.tmps.getD p undef=y at hp ⊢
     cases hp with
     |scalar hs=>simp[Am.scalar]at hs
     |hptr _=>simp at hsp
     |gptr=>simp at hsp
     |lptr hla=>
      obtain⟨c,e,h1,h2,h3⟩:=loc_ok h hloc hla
      obtain⟨v',h4,h5⟩:=dL (C:=C) (bO.of_list h2) hx h1
      exact⟨v',by simp only[kQ,hw,asAddr];simpa using h4,h5.up⟩
    ·cases hx
   ·cases hx
  ·cases hx
def nO(h:SR C base la mu σ a.tmps w):∀ {l:List ResultVar} {vs:Tl},cO C σ l=some vs->
  ∃vs',(l.mapM (kQ a.tmps)).run C.P w = .ok vs' w/\VRs la mu vs vs'
 | [],vs,hx=>by
  cases hx
  exact⟨[],by simp,.nil⟩
 |x :: l,vs,hx=>by
  simp only[cO]at hx
  split at hx
  next v vs1 hv hvs=>
   cases hx
   obtain⟨v',h1,h2⟩:=xG h hv
   obtain⟨vs',h3,h4⟩:=nO h hvs
   refine⟨v' :: vs',?_,.cons h2 h4⟩
   simp only[qbV,Sem.run_bind,h1,Result.andThen_ok,Sem.run_pure,h3]
  ·cases hx
def xJ(h:SR C base la mu σ a.tmps w){fn:Func}{vs:Tl}(hx:cO C σ fn.results.toList=some vs) :
  ∃v',(results fn a.tmps).run C.P w = .ok v' w/\VR la mu (fz vs) v':=by
 obtain⟨vs',h1,h2⟩:=nO h hx
 rw[xI,qdd,Sem.run_bind,Sem.run_map,h1]
 match vs,vs',h2 with
 | [],[],_=>exact⟨_,rfl,.undef⟩
 | [v],[v'],h2=>exact⟨v',rfl,h2.head⟩
 |v :: u :: l,v' :: u' :: l',h2=>exact⟨.tuple (v' :: u' :: l').toArray,rfl,VRs.tuple (a:=(v :: u :: l).toArray) (by simpa using h2)⟩
 | [],_ :: _,h2=>simpa using h2.1
 | [_],[],h2=>simpa using h2.1
 | [_],_ :: _ :: _,h2=>simpa using h2.1
 |_ :: _ :: _,[],h2=>simpa using h2.1
 |_ :: _ :: _,[_],h2=>simpa using h2.1
end
section
variable {C:Cfg}
def call_next{S:Sems}(hS:oI C S){f:TN}{args:Tl}{H:Ts}{r:Value}{H':Ts}(h:lR C S f args H r H'):cM C f args H r H':=by
 obtain⟨fn,body,e,σ,vs,hfn,hbody,hname,hex,he,hres,rfl,hnl,rfl⟩:=h
 rw[qb8]at hname
 replace hname:=hname.1
 intro _ base mu w args' hb hargs hW cs
 let a₀:Act:={ tmps:=args'++Array.replicate (fn.ntmps - args'.size) undef,defers:=[] }
 have hlen:args.length=args'.size:=by simpa using hargs.1
 have hF:FI C base H mu w noL mu (ll fn args H) a₀ w:=by
  refine⟨⟨?_,λs b h=>by simp[noL]at h,λs vs hs=>?_,λs s' b h=>by simp[noL]at h,hW⟩,.refl _ _ _,λs b h=>by simp[noL]at h,⟨[],rfl,by simp,λr hr=>by simp at hr⟩,hb⟩
  ·simp only[ll,a₀,qbR,Array.toList_replicate,hlen]
   exact hargs.append (.replicate _ .undef)
  ·simp only[ll,qa1]at hs
   split at hs<;>cases hs
 let b:Frame:={ (default:Frame)with fn:=f,kind:=.normal,roundOf:=none }
 obtain⟨a₁,w₁,la₁,mu₁,g1,g2⟩:=hS _ base H mu w none f _ body _ σ e noL mu a₀ w (λ_=>rfl) hex hF b [] cs rfl rfl
 obtain⟨w₂,g3,g4⟩:=tW a₁.defers a₁ w₁ rfl g1
 obtain⟨v',g5,g6⟩:=xJ (a:={ a₁ with defers:=[] }) g3.sr hres
 refine⟨v',mu₁,w₂,dK hnl g6,g3.sr.wr,g3.evo,?_,?_⟩
 ·have hbn:fn.body.isNone=false:=by rw[hbody];rfl
  have hp:(program).run C.P w = .ok C.P w:=rfl
  simp only[callFunc,Sem.run_bind,hp,Result.andThen_ok,hfn,hname,hbn]
  rfl
 ·have henter:Frame.enter C.P f args' .normal=b.atR a₀ [.code body]:=by simp[Frame.enter,Frame.atR,hfn,hbody,b,a₀]
  rw[henter]
  have hgo:=g2
  rcases he with rfl|rfl
  ·refine⟨{ b.atR { a₁ with defers:=[] } []with mode:=.returning },(Steps.trans hgo (.one (stepR_end rfl))).trans (g4 b [] cs),rfl,rfl,rfl,rfl,fn,hfn,g5⟩
  ·obtain⟨todo,hgo⟩:=hgo
   refine⟨{ b.atR { a₁ with defers:=[] } (.code .ret :: todo)with mode:=.returning },(hgo.trans (.one (stepR_ret rfl))).trans (g4 b _ cs),rfl,rfl,rfl,rfl,fn,hfn,g5⟩
section
variable [Glo] {la:LMap} {mu:HMap}
def tF:∀(ts:List Tmp) (vs cs:Tl) (tmps:Tl) (tmps':Tj),vs.length=ts.length->VRs la mu vs cs->VRs la mu tmps tmps'.toList->
  VRs la mu (cH ts vs tmps) ((ts.zip cs).foldl (λ(t:Tj) (x:Tmp×Value)=>t.setIfInBounds x.1 x.2) tmps').toList
 | [],vs,cs,tmps,tmps',hl,hv,ht=>by
  cases vs with
  |nil=>simpa[cH]using ht
  |cons _ _=>simp at hl
 |t :: ts,vs,cs,tmps,tmps',hl,hv,ht=>by
  cases vs with
  |nil=>simp at hl
  |cons v vs=>
   obtain⟨c,cs',rfl,h1,h2⟩:=hv.uncons
   simp only[cH,qcK,qcu]
   exact tF ts vs cs' _ _ (by simpa using hl) h2 (by simpa using ht.set t h1)
end
def xR{S:Sems}(hS:oI C S){l:Nat}{args:Tl}{H:Ts}{r:Value}{H':Ts}(h:jP C S l args H r H'):YieldOk C l args H r H':=by
 obtain⟨lp,σ₁,lp₁,e,σ₂,lp₂,j,hl,hlen,hex1,hl1,hst,hex2,hj,hl2,rfl,rfl⟩:=h
 intro _ base mu w args' p hb hp hargs hW c cs
 obtain⟨p',hp',hid,L,hL,e1,e2,e3,e4,e5,e6⟩:=mf (σ:={ tmps:=[],loc:=[],heap:=H }) hW hl
 obtain rfl:p'=p:=by rw[hp]at hp';exact(qae hp').symm
 let tm:Tj:=(L.params.zip args').foldl (λtmps (x:Tmp×Value)=>tmps.setIfInBounds x.1 x.2) L.tmps
 let a₀:Act:={ tmps:=tm,defers:=[] }
 have htm:VRs noL mu (cH lp.params args lp.tmps) tm.toList:=by
  have:=tF lp.params args args'.toList lp.tmps L.tmps hlen hargs e6
  rw[←e3,←Array.toList_zip]at this
  simp only[tm]
  rw[←qct,←e3]
  exact this
 have hF:FI C base H mu w noL mu { tmps:=cH lp.params args lp.tmps,loc:=[],heap:=H } a₀ w:=by
  refine⟨⟨htm,λs b h=>by simp[noL]at h,λs vs hs=>by simp at hs,λs s' b h=>by simp[noL]at h,hW⟩,.refl _ _ _,λs b h=>by simp[noL]at h,⟨[],rfl,by simp,λr hr=>by simp at hr⟩,hb⟩
 let b:Frame:={ (default:Frame)with fn:=L.fn,kind:=.normal,roundOf:=some p'.b }
 obtain⟨a₁,w₁,la₁,mu₁,g1,g2⟩:=hS _ base H mu w (some p'.b) L.fn [] lp.assign _ σ₁ .normal noL mu a₀ w (λh=>absurd rfl h) hex1 hF b [.beginRound,.code lp.body] (c :: cs) rfl rfl
 have hsame:∀ {mu':HMap} {H':Ts} {w':World},Evo H mu w H' mu' w'->mu' l=some p':=λhe=>by
  rw[he.same l (qaP.1 hid).1];exact hp
 obtain⟨p₁,hp₁,hid₁,L₁,hL₁,f1,f2,f3,f4,f5,f6⟩:=mf (σ:=σ₁) g1.sr.wr hl1
 obtain rfl:p₁=p':=by rw[hsame g1.evo]at hp₁;exact(qae hp₁).symm
 obtain⟨hW2,hE2⟩:=WR.setLoop (σ:=σ₁) g1.sr.wr hid₁ hp₁ (r':={ lp₁ with state:=.busy }) (L':={ L₁ with state:=.busy }) rfl f2 f3 f4 f5 f6
 have hF2:=g1.heap hW2 hE2
 obtain⟨a₂,w₂,la₂,mu₂,g3,g4⟩:=hS _ base H mu w (some p₁.b) L.fn [] lp.body _ σ₂ e la₁ mu₁ a₁ _ (λh=>absurd rfl h) hex2 hF2 b [] (c :: cs) rfl rfl
 obtain⟨p₂,hp₂,hid₂,L₂,hL₂,k1,k2,k3,k4,k5,k6⟩:=mf (σ:=σ₂) g3.sr.wr hl2
 obtain rfl:p₂=p₁:=by rw[hsame g3.evo]at hp₂;exact(qae hp₂).symm
 obtain⟨hW4,hE4⟩:=WR.setLoop (σ:=σ₂) g3.sr.wr hid₂ hp₂ (r':={ lp₂ with state:=if j.isNone then .ready else .done,pending:=j }) (L':={ L₂ with state:=if j.isNone then .ready else .done,pending:=j }) rfl rfl k3 k4 k5 k6
 refine⟨.bool j.isNone,mu₂,_,L.fn,tm,L.assign,L.body,.scalar rfl,hW4,g3.evo.trans hE4,?_,?_⟩
 ·have hsz:args'.size=L.params.size:=by
   have h1:=hargs.1
   have h2:L.params.toList.length=lp.params.length:=by rw[e3]
   simp at h1 h2;omega
  simp[Instr.yield,Sem.run_bind,fX hL,hsz,tm]
 ·have hb0:Frame.round p₂.b L.fn tm L.assign L.body .normal=b.atR a₀ [.code L.assign,.beginRound,.code L.body]:=by simp[Frame.round,Frame.atR,b,a₀]
  rw[hb0,e4,e5]
  have s1:Steps C.P (lone (b.atR a₀ [.code lp.assign,.beginRound,.code lp.body]) (c :: cs) w) _:=g2
  have s2:=s1.trans (.one (stepR_beginRound (k:=[.code lp.body]) rfl (oE hL₁ (by rw[f1];exact hst))))
  have s3:=g4
  have hend:=tL (C:=C) hL₂ j
  cases e with
  |normal=>
   cases hj
   exact(s2.trans s3).trans (.one (stepR_round_end rfl rfl hend))
  |ret=>
   cases hj
   obtain⟨t,s3⟩:=s3
   exact(s2.trans s3).trans (.one (stepR_round_ret rfl rfl hend))
  |exit id=>
   cases hj
   obtain⟨t,s3,hx⟩:=s3
   exact(s2.trans s3).trans (.one (stepR_round_exit rfl rfl hx hend))
  |_=>cases hj
def sems_ok(hm:C.P.follows .mixedOrders=true){K:Known}(hK:∀f args H r H',K f args H r H'->cM C f args H r H'):∀n,BOk C (sems C K n).toBelow/\oI C (sems C K n)
 |0=>⟨⟨hK,λ_ _ _ _ _ h=>h.elim⟩,by
   intro _ base H₀ mu₀ w₀ ro fn pts code σ σ' e la mu a w _ h
   exact h.elim⟩
 |n+1=>by
  obtain⟨hB,hS⟩:=sems_ok hm hK n
  refine⟨⟨λf args H r H' h=>h.elim (hK f args H r H') (call_next hS),λ_ _ _ _ _ h=>xR hS h⟩,?_⟩
  have hcn:oI C _:=code_next hm hB hS
  intro _ base H₀ mu₀ w₀ ro fn pts code σ σ' e la mu a w hro hex hF
  exact hcn _ base H₀ mu₀ w₀ ro fn pts code σ σ' e la mu a w hro hex hF
end
end
section
variable [Val] {C:Cfg}
structure SemsLe(S S':Sems):Prop where
 call:∀f args H r H',S.call f args H r H'->S'.call f args H r H'
 yield:∀l args H r H',S.yield l args H r H'->S'.yield l args H r H'
 ex:∀fid c σ e σ',S.ex fid c σ e σ'->S'.ex fid c σ e σ'
def uo{B B':Below}(hc:∀f args H r H',B.call f args H r H'->B'.call f args H r H')(hy:∀l args H r H',B.yield l args H r H'->B'.yield l args H r H')
  {e:Eff} {dst:To} {σ σ':St} (h:jj B e dst σ σ'):jj B' e dst σ σ':=by
 cases e<;>first
  |exact h
  |(obtain⟨r,H,h1,h2⟩:=h;first|exact⟨r,H,hc _ _ _ _ _ h1,h2⟩|exact⟨r,H,hy _ _ _ _ _ h1,h2⟩)
def dS{B B':Below}(hc:∀f args H r H',B.call f args H r H'->B'.call f args H r H')(hy:∀l args H r H',B.yield l args H r H'->B'.yield l args H r H')
  {pts:TB} {ops:Tm} {i:Nat} {σ σ':St} (h:aj C B pts ops i σ σ'):aj C B' pts ops i σ σ':=by
 unfold aj at *
 split at h
 ·exact h
 ·split at h
  ·exact h
  ·exact h
  ·rcases h with⟨e,h1,h2⟩|h
   ·exact .inl ⟨e,h1,uo hc hy h2⟩
   ·exact .inr h
def eH{B B':Below}(hc:∀f args H r H',B.call f args H r H'->B'.call f args H r H')(hy:∀l args H r H',B.yield l args H r H'->B'.yield l args H r H')
  {pts:TB} {ops:Tm}:∀ {l:TB} {σ σ':St},bk C B pts ops l σ σ'->bk C B' pts ops l σ σ'
 | [],_,_,h=>h
 |_ :: _,_,_,⟨σ₁,h1,h2⟩=>⟨σ₁,dS hc hy h1,eH hc hy h2⟩
def lz{B B':Below}(hc:∀f args H r H',B.call f args H r H'->B'.call f args H r H')(hy:∀l args H r H',B.yield l args H r H'->B'.yield l args H r H')
  {pts:TB} {ops:Tm}:∀ {l:TB} {σ σ':St},eG C B pts ops l σ σ'->eG C B' pts ops l σ σ'
 | [],_,_,h=>h
 |_ :: _,_,_,⟨σ₀,σ₁,h0,h1,h2⟩=>⟨σ₀,σ₁,h0,dS hc hy h1,lz hc hy h2⟩
def jJ{B B':Below}(hc:∀f args H r H',B.call f args H r H'->B'.call f args H r H')(hy:∀l args H r H',B.yield l args H r H'->B'.yield l args H r H')
  {pts:TB} {ops:Tm} {sl:Nat->Tp}:∀ {l:TB} {σ σ':St},iq C B pts ops sl l σ σ'->iq C B' pts ops sl l σ σ'
 | [],_,_,h=>h
 |i :: _,_,_,⟨h0,σ₁,h1,h2⟩=>⟨h0,σ₁,by
  unfold dM at h1 ⊢
  split at h1
  ·exact dS hc hy h1
  ·exact h1,jJ hc hy h2⟩
def ue{B B':Below}(hc:∀f args H r H',B.call f args H r H'->B'.call f args H r H')(hy:∀l args H r H',B.yield l args H r H'->B'.yield l args H r H')
  {pts:TB} {ops:Tm} {σ σ':St} (h:eS C B pts ops σ σ'):eS C B' pts ops σ σ':=
 h.imp (λh t=>eH hc hy (h t)) λ⟨sl,n,h1,h2,h3,h4⟩=>⟨sl,n,h1,h2,h3,λt=>jJ hc hy (h4 t)⟩
def ut{S S':Sems}(h:SemsLe S S'){fid:TB}{c:Code}{σ:St}{e:Exit}{σ':St}(hx:mU C S fid c σ e σ'):mU C S' fid c σ e σ':=by
 cases c with
 |skip=>exact hx
 |label l=>exact hx
 |ret=>exact hx
 |exit id=>exact hx
 |goto l=>exact hx
 |refuse w=>exact hx
 |seq a b=>
  obtain⟨e₁,σ₁,h1,h2⟩:=hx
  exact⟨e₁,σ₁,h.ex _ _ _ _ _ h1,h2.imp (λh2=>⟨h2.1,h.ex _ _ _ _ _ h2.2⟩) id⟩
 |cond c a b=>
  obtain⟨t,h1,h2⟩:=hx
  exact⟨t,h1,h.ex _ _ _ _ _ h2⟩
 |block id b=>
  obtain⟨e₁,h1,h2⟩:=hx
  exact⟨e₁,h.ex _ _ _ _ _ h1,h2⟩
 |loop b=>
  obtain⟨e₁,σ₁,h1,h2⟩:=hx
  exact⟨e₁,σ₁,h.ex _ _ _ _ _ h1,h2.imp (λh2=>⟨h2.1,h.ex _ _ _ _ _ h2.2⟩) id⟩
 |scope b=>exact h.ex _ _ _ _ _ hx
 |region id ops draw=>
  obtain⟨h1,h2⟩:=hx
  refine⟨h1,?_⟩
  cases draw with
  |true=>
   obtain⟨σ₀,h3,h4⟩:=h2
   exact⟨σ₀,h3,ue h.call h.yield h4⟩
  |false=>exact lz h.call h.yield h2
 |rangeFunc f params assign body=>
  obtain⟨h0,g,first,cap,φ,tm,r,H,r₂,h1,h2,h3,h4,h5⟩:=hx
  exact⟨h0,g,first,cap,φ,tm,r,H,r₂,h1,h2,h3,h.call _ _ _ _ _ h4,h5⟩
def qz{S S':Sems}(h:SemsLe S S'){f:TN}{args:Tl}{H:Ts}{r:Value}{H':Ts}(hx:lR C S f args H r H'):lR C S' f args H r H':=by
 obtain⟨fn,b,e,σ,vs,h1,h2,h3,h4,h5⟩:=hx
 exact⟨fn,b,e,σ,vs,h1,h2,h3,h.ex _ _ _ _ _ h4,h5⟩
def oG{S S':Sems}(h:SemsLe S S'){l:Nat}{args:Tl}{H:Ts}{r:Value}{H':Ts}(hx:jP C S l args H r H'):jP C S' l args H r H':=by
 obtain⟨lp,σ₁,lp₁,e,σ₂,lp₂,j,h1,h2,h3,h4,h5,h6,h7⟩:=hx
 exact⟨lp,σ₁,lp₁,e,σ₂,lp₂,j,h1,h2,h.ex _ _ _ _ _ h3,h4,h5,h.ex _ _ _ _ _ h6,h7⟩
class Kno where
 kn:TN->Tl->Value->Prop
 kh:TN->Tl->Ts->Value->Ts->Prop
variable [Kno]
def noK:Known:=λf args H r H'=>(Kno.kn f args r/\H'=H)∨Kno.kh f args H r H'
def sm(C:Cfg)(n:Nat):Sems:=sems C noK n
def sm_succ:∀n,SemsLe (sm C n) (sm C (n+1))
 |0=>⟨λ_ _ _ _ _ h=>.inl h,λ_ _ _ _ _ h=>h.elim,λ_ _ _ _ _ h=>h.elim⟩
 |n+1=>by
  have ih:=sm_succ n
  exact⟨λ_ _ _ _ _ h=>h.imp id (qz ih),λ_ _ _ _ _ h=>oG (C:=C) ih h,λ_ _ _ _ _ h=>ut ih h⟩
def lM{n:Nat}:∀ {m:Nat},n<=m->SemsLe (sm C n) (sm C m)
 |0,h=>by
  obtain rfl:n=0:=Nat.le_zero.1 h
  exact⟨λ_ _ _ _ _ h=>h,λ_ _ _ _ _ h=>h,λ_ _ _ _ _ h=>h⟩
 |m+1,h=>by
  by_cases hm:n=m+1
  ·subst hm;exact⟨λ_ _ _ _ _ h=>h,λ_ _ _ _ _ h=>h,λ_ _ _ _ _ h=>h⟩
  ·have ih:=lM (n:=n) (m:=m) (by omega)
   have hs:=sm_succ (C:=C) m
   exact⟨λ_ _ _ _ _ h=>hs.call _ _ _ _ _ (ih.call _ _ _ _ _ h),λ_ _ _ _ _ h=>hs.yield _ _ _ _ _ (ih.yield _ _ _ _ _ h),λ_ _ _ _ _ h=>hs.ex _ _ _ _ _ (ih.ex _ _ _ _ _ h)⟩
def iy(C:Cfg)(f:TN)(args:Tl)(H:Ts)(r:Value)(H':Ts):Prop:=∃n,(sm C n).call f args H r H'
def jM(C:Cfg)(l:Nat)(args:Tl)(H:Ts)(r:Value)(H':Ts):Prop:=∃n,(sm C n).yield l args H r H'
def uEx(C:Cfg)(fid:TB)(c:Code)(σ:St)(e:Exit)(σ':St):Prop:=∃n,(sm C n).ex fid c σ e σ'
def uB(C:Cfg):Below:={ call:=iy C,yield:=jM C }
theorem uCall_ok(hm:C.P.follows .mixedOrders=true)(hkn:∀f args r,Kno.kn f args r->∀H,cM C f args H r H)(hkh:∀f args H r H',Kno.kh f args H r H'->cM C f args H r H'){f:TN}{args:Tl}{H:Ts}{r:Value}{H':Ts}(h:iy C f args H r H'):cM C f args H r H':=by
 obtain⟨n,h⟩:=h
 exact(sems_ok hm (K:=noK) (λf args H r H' h=>by
  rcases h with⟨h1,rfl⟩|h
  ·exact hkn f args r h1 _
  ·exact hkh f args H r H' h) n).1.call _ _ _ _ _ h
def effRel_at{e:Eff}{dst:To}{σ σ':St}(h:jj (uB C) e dst σ σ'):∃n,jj (sm C n).toBelow e dst σ σ':=by
 cases e<;>first
  |exact⟨0,h⟩
  |(obtain⟨r,H,⟨n,h1⟩,h2⟩:=h;exact⟨n,r,H,h1,h2⟩)
def qb{pts:TB}{ops:Tm}{i:Nat}{σ σ':St}(h:aj C (uB C) pts ops i σ σ'):∃n,aj C (sm C n).toBelow pts ops i σ σ':=by
 unfold aj at h
 split at h
 next ho=>exact⟨0,by unfold aj;rw[ho];exact h⟩
 next o ho=>
  split at h
  ·exact h.elim
  next hw=>exact⟨0,by unfold aj;simp only[ho,hw];exact h⟩
  next hw=>
   rcases h with⟨e,h1,h2⟩|h
   ·obtain⟨n,h2⟩:=effRel_at h2
    exact⟨n,by unfold aj;simp only[ho,hw];exact .inl ⟨e,h1,h2⟩⟩
   ·exact⟨0,by unfold aj;simp only[ho,hw];exact .inr h⟩
def gQ{pts:TB}{ops:Tm}:∀ {l:TB} {σ σ':St},bk C (uB C) pts ops l σ σ'->∃n,bk C (sm C n).toBelow pts ops l σ σ'
 | [],_,_,h=>⟨0,h⟩
 |_ :: _,_,_,⟨σ₁,h1,h2⟩=>by
  obtain⟨n,h1⟩:=qb h1
  obtain⟨m,h2⟩:=gQ h2
  have hn:=lM (C:=C) (qcO n m)
  have hm:=lM (C:=C) (qcY n m)
  exact⟨max n m,σ₁,dS hn.call hn.yield h1,eH hm.call hm.yield h2⟩
def ff.refl(σ:St):ff σ σ:=⟨rfl,rfl,rfl,λi x y hx hy=>by rw[hx]at hy;exact .inl (qae hy).symm⟩
def pH{B:Below}{pts:TB}{ops:Tm}:∀ {l:TB} {σ σ':St},bk C B pts ops l σ σ'->eG C B pts ops l σ σ'
 | [],_,_,h=>h
 |_ :: _,σ,_,⟨σ₁,h1,h2⟩=>⟨σ,σ₁,.refl σ,h1,pH h2⟩
section rules
variable {fid:TB} {σ σ₁ σ':St} {e e₁:Exit} {a b:Code}
def uEx.skip:uEx C fid .skip σ .normal σ:=⟨1,rfl,rfl⟩
def uEx.label{l:Nat}:uEx C fid (.label l) σ .normal σ:=⟨1,rfl,rfl⟩
def uEx.ret:uEx C fid .ret σ .ret σ:=⟨1,rfl,rfl⟩
def uEx.exit{id:Nat}:uEx C fid (.exit id) σ (.exit id) σ:=⟨1,rfl,rfl⟩
def uEx.seq(h1:uEx C fid a σ .normal σ₁)(h2:uEx C fid b σ₁ e σ'):uEx C fid (.seq a b) σ e σ':=by
 obtain⟨n,h1⟩:=h1
 obtain⟨m,h2⟩:=h2
 exact⟨max n m+1,.normal,σ₁,(lM (qcO n m)).ex _ _ _ _ _ h1,.inl ⟨rfl,(lM (qcY n m)).ex _ _ _ _ _ h2⟩⟩
def uEx.seqX(h1:uEx C fid a σ e σ')(he:e≠.normal):uEx C fid (.seq a b) σ e σ':=by
 obtain⟨n,h1⟩:=h1
 exact⟨n+1,e,σ',h1,.inr ⟨he,rfl,rfl⟩⟩
def uEx.cond{c:TH}{t:Bool}(hc:oval σ.tmps c = .bool t)(h:uEx C fid (if t then a else b) σ e σ'):uEx C fid (.cond c a b) σ e σ':=by
 obtain⟨n,h⟩:=h
 exact⟨n+1,t,hc,h⟩
def uEx.block{id:Nat}(h:uEx C fid b σ e σ'):uEx C fid (.block id b) σ (iN id e) σ':=by
 obtain⟨n,h⟩:=h
 exact⟨n+1,e,h,rfl⟩
def uEx.loop(h1:uEx C fid b (σ.clear (aO fid b)) .normal σ₁)(h2:uEx C fid (.loop b) σ₁ e σ'):uEx C fid (.loop b) σ e σ':=by
 obtain⟨n,h1⟩:=h1
 obtain⟨m,h2⟩:=h2
 exact⟨max n m+1,.normal,σ₁,(lM (qcO n m)).ex _ _ _ _ _ h1,.inl ⟨rfl,(lM (qcY n m)).ex _ _ _ _ _ h2⟩⟩
def uEx.loopX(h1:uEx C fid b (σ.clear (aO fid b)) e σ')(he:e≠.normal):uEx C fid (.loop b) σ e σ':=by
 obtain⟨n,h1⟩:=h1
 exact⟨n+1,e,σ',h1,.inr ⟨he,rfl,rfl⟩⟩
def uEx.scope(h:uEx C fid b σ e σ'):uEx C fid (.scope b) σ e σ':=by
 obtain⟨n,h⟩:=h
 exact⟨n+1,h⟩
def uEx.region{id:Nat}{ops:Tm}(h:bk C (uB C) fid ops (List.range ops.size) σ σ'):uEx C fid (.region id ops false) σ .normal σ':=by
 obtain⟨n,h⟩:=gQ h
 exact⟨n+1,rfl,pH h⟩
def uEx.draw{id:Nat}{ops:Tm}(hall:∀n,bk C (sm C n).toBelow fid ops (List.range ops.size) σ σ'->eS C (sm C n).toBelow fid ops σ σ')
  (h:bk C (uB C) fid ops (List.range ops.size) σ σ'):uEx C fid (.region id ops true) σ .normal σ':=by
 obtain⟨n,h⟩:=gQ h
 exact⟨n+1,rfl,σ,.refl σ,hall n h⟩
def uEx.drawS{σ₂:St}{id:Nat}{ops:Tm}{l₁ l₂:TB}{k:Nat}(hall:∀n,bk C (sm C n).toBelow fid ops l₁ σ σ₁->aj C (sm C n).toBelow fid ops k σ₁ σ₂->bk C (sm C n).toBelow fid ops l₂ σ₁ σ'->eS C (sm C n).toBelow fid ops σ σ')
  (h1:bk C (uB C) fid ops l₁ σ σ₁) (h2:aj C (uB C) fid ops k σ₁ σ₂) (h3:bk C (uB C) fid ops l₂ σ₁ σ'):uEx C fid (.region id ops true) σ .normal σ':=by
 obtain⟨n,h1⟩:=gQ h1
 obtain⟨m,h2⟩:=qb h2
 obtain⟨l,h3⟩:=gQ h3
 have q1:=lM (C:=C) (show n<=max n (max m l)by omega)
 have q2:=lM (C:=C) (show m<=max n (max m l)by omega)
 have q3:=lM (C:=C) (show l<=max n (max m l)by omega)
 exact⟨max n (max m l)+1,rfl,σ,.refl σ,hall _ (eH q1.call q1.yield h1) (dS q2.call q2.yield h2) (eH q3.call q3.yield h3)⟩
def uEx.rangeFunc{f:TH}{params:Array Tmp}{assign body:Code}{g:TN}{first cap:Tj}{φ:TN}{tm:Tl}{r:Value}{H:Ts}{r₂:ALoop}
  (h0:fid≠[]) (h1:vg σ.tmps tm) (h2:oval σ.tmps f = .func (.func g) first cap) (h3:noLoc (.func (.func g) first cap)=true)
  (h4:iy C g (first.toList++[.func (.yield σ.heap.length) #[] #[]]++cap.toList)
    (σ.heap++[.loop { state:=.ready,pending:=none,fn:=φ,tmps:=tm,params:=params.toList,assign,body }]) r H)
  (h5:ed H σ.heap.length=some r₂) (h6:r₂.state≠.busy) (h7:vA r₂.pending=some e) :
  uEx C fid (.rangeFunc f params assign body) σ e { σ with heap:=H.set σ.heap.length (.loop { r₂ with state:=.exhausted }) }:=by
 obtain⟨n,h4⟩:=h4
 exact⟨n+1,h0,g,first,cap,φ,tm,r,H,r₂,h1,h2,h3,h4,h5,h6,h7,rfl⟩
def iy.intro{f:TN}{args:Tl}{H:Ts}{fn:Func}{c:Code}{vs:Tl}
  (h1:C.P.funcs[f]?=some fn) (h2:fn.body=some c) (h3:((fn.name == "runtime.NumGoroutine")||C.opq f)=false)
  (h4:uEx C (C.pts f) c (ll fn args H) e σ) (h5:e = .normal∨e = .ret) (h6:cO C σ fn.results.toList=some vs) (h7:noLoc (fz vs)=true) :
  iy C f args H (fz vs) σ.heap:=by
 obtain⟨n,h4⟩:=h4
 exact⟨n+1,.inr ⟨fn,c,e,σ,vs,h1,h2,h3,h4,h5,h6,rfl,h7,rfl⟩⟩
def jM.intro{l:Nat}{args:Tl}{H:Ts}{lp lp₁ lp₂:ALoop}{σ₂:St}{j:Tk}
  (h1:ed H l=some lp) (h2:args.length=lp.params.length)
  (h3:uEx C [] lp.assign { tmps:=cH lp.params args lp.tmps,loc:=[],heap:=H } .normal σ₁)
  (h4:ed σ₁.heap l=some lp₁) (h5:lp₁.state = .ready)
  (h6:uEx C [] lp.body { σ₁ with heap:=σ₁.heap.set l (.loop { lp₁ with state:=.busy }) } e σ₂) (h7:jumpOf e=some j) (h8:ed σ₂.heap l=some lp₂) :
  jM C l args H (.bool j.isNone) (σ₂.heap.set l (.loop { lp₂ with state:=if j.isNone then .ready else .done,pending:=j })):=by
 obtain⟨n,h3⟩:=h3
 obtain⟨m,h6⟩:=h6
 exact⟨max n m+1,lp,σ₁,lp₁,e,σ₂,lp₂,j,h1,h2,(lM (qcO n m)).ex _ _ _ _ _ h3,h4,h5,(lM (qcY n m)).ex _ _ _ _ _ h6,h7,h8,rfl,rfl⟩
end rules
end
inductive Lf where
 |i (n:Int)
 |b (t:Bool)
 |v (x:Value)
inductive LK where
 |i (k:TI)
 |b
 |v
abbrev _root_.TG:=List LK
inductive SK where
 |leaf (k:LK)
 |agg (ks:TG)
inductive SL where
 |i (k:TI) (n:Int)
 |b (t:Bool)
 |l (t:Bool)
 |v (x:Value)
inductive S0 where
 |leaf (l:SL)
 |agg (cs:List SL)
inductive SV where
 |st (x:S0)
 |tup (xs:List S0)
 |lad (s off:Nat)
 |ldx (s base:Nat) (ix:List (Int×Nat))
 |gad (g off:Nat)
 |gdx (g base:Nat) (ix:List (Int×Nat))
 |un
 |no
inductive LR where
 |unk
 |nil
 |any (n:Nat)
 |row (cs:List SL)
structure Env where
 tm:List SV
 lc:List LR
def SL.val:SL->Value
 | .i k n=>.int k n
 | .b t=>.bool t
 | .l t=>.bool t
 | .v x=>x
def SL.lf:SL->Lf
 | .i _ n=>.i n
 | .b t=>.b t
 | .l t=>.b t
 | .v x=>.v x
def S0.val:S0->Value
 | .leaf l=>l.val
 | .agg cs=>.agg ⟨cs.map SL.val⟩
def S0.cells:S0->List SL
 | .leaf l=>[l]
 | .agg cs=>cs
def offX(base:Nat):List (Int×Nat)->Nat
 | []=>base
 |p :: l=>offX (base+p.1.toNat*p.2) l
def SV.val:SV->Value
 | .st x=>x.val
 | .tup xs=>.tuple ⟨xs.map S0.val⟩
 | .lad s off=>.pointer (some ⟨s,off,some 0⟩)
 | .ldx s base ix=>.pointer (some ⟨s,offX base ix,some 0⟩)
 | .gad g off=>.pointer (some ⟨g,off,some 1⟩)
 | .gdx g base ix=>.pointer (some ⟨g,offX base ix,some 1⟩)
 | .un=>undef
 | .no=>undef
def aS(x:Value):Bool:=noLoc x&&aZ x&&aR x && !aI x
def chk2(x:Value):Option Unit:=if bz x then some ()else none
def slOf:Value->SL
 | .int k n=>.i k n
 | .bool t=>.l t
 |v=>.v v
def s0Of:Value->Option S0
 | .agg cs=>match cs.toList.all scalar with
  |true=>some (.agg (cs.toList.map slOf))
  |false=>none
 |v=>match scalar v with
  |true=>some (.leaf (slOf v))
  |false=>none
def kNo(k:TI):Nat:=@IntKind.rec (λ_=>Nat) 0 1 2 3 4 5 6 7 k
def cS(a b:TI):Bool:=Nat.beq (kNo a) (kNo b)
def SL.is:SL->LK->Bool
 | .i k _,.i k'=>cS k k'
 | .b _,.b=>true
 | .l _,.b=>true
 | .v _,.v=>true
 |_,_=>false
def aT:List SL->TG->Bool
 | [],[]=>true
 |c :: cs,k :: ks=>c.is k&&aT cs ks
 |_,_=>false
def S0.is:S0->SK->Bool
 | .leaf l,.leaf k=>l.is k
 | .agg cs,.agg ks=>aT cs ks
 |_,_=>false
def SL.lk:SL->LK
 | .i k _=>.i k
 | .b _=>.b
 | .l _=>.b
 | .v _=>.v
structure Live where
 tm:List (Nat×SK)
 rows:List (Nat×List LK)
abbrev _root_.TJ:=List SK
inductive AC where
 |skip
 |ret
 |exit (id:Nat)
 |label (l:Nat)
 |seq (a b:AC)
 |scope (b:AC)
 |region (id:Nat) (ops:Tm) (draw:Bool) (hs:List (TJ)) (j:Option Live)
 |cond (c:TH) (a b:AC) (j:Option Live)
 |block (id:Nat) (b:AC) (j:Option Live)
 |loop (b:AC) (l:Live)
 |rangeFunc (f:TH) (κ:Nat) (ids:TB)
structure Site where
 nt:Nat
 caps:List (Nat×SK)
 params:List (Nat×SK)
 assign:AC
 body:AC
def AC.erase(T:Nat->Tmp->Code):AC->Code
 | .skip=>.skip
 | .ret=>.ret
 | .exit id=>.exit id
 | .label l=>.label l
 | .seq a b=>.seq (a.erase T) (b.erase T)
 | .scope b=>.scope (b.erase T)
 | .region id ops draw _ _=>.region id ops draw
 | .cond c a b _=>.cond c (a.erase T) (b.erase T)
 | .block id b _=>.block id (b.erase T)
 | .loop b _=>.loop (b.erase T)
 | .rangeFunc f κ _=>match f with
  | .tmp t=>T κ t
  |_=> .refuse ""
def pE:Nat->Tmp->Code:=λ_ _=> .refuse ""
def fc(s:Site)(t:Tmp):Code:=.rangeFunc (.tmp t) (s.params.map (·.1)).toArray (s.assign.erase pE) (s.body.erase pE)
def wrT:Code->List Nat
 | .region _ ops _=>ops.toList.filterMap (·.dst)
 | .seq a b=>wrT a++wrT b
 | .cond _ a b=>wrT a++wrT b
 | .block _ b=>wrT b
 | .loop b=>wrT b
 | .scope b=>wrT b
 |_=>[]
def iT(pts:TB)(o:Oper):Tp:=
 match o.op with
 | .box .. | .alloc _=>match o.dst with
  |some d=>if pts.getD d 0=d+2 then some d else none
  |none=>none
 | .store _ a _=>match lI pts a with
  |s+2=>some s
  |_=>none
 |_=>none
def wrR(pts:TB):Code->List Nat
 | .region _ ops _=>ops.toList.filterMap (iT pts)
 | .seq a b=>wrR pts a++wrR pts b
 | .cond _ a b=>wrR pts a++wrR pts b
 | .block _ b=>wrR pts b
 | .loop b=>wrR pts b
 | .scope b=>wrR pts b
 | .rangeFunc _ _ a b=>wrR pts a++wrR pts b
 |_=>[]
section
variable {R:Type}
def fN(n:Nat)(k:Nat->R):R:=Nat.rec (motive:=λ_=>R) (k n) (λm _=>k m) (Nat.succ n)
def fI(n:Int)(k:Int->R):R:=Int.rec (motive:=λ_=>R) (λm=>fN m λm=>k (.ofNat m)) (λm=>fN m λm=>k (.negSucc m)) n
def df(n:Nat)(k:Nat->R):fN n k=k n:=rfl
def jm(n:Int)(k:Int->R):fI n k=k n:=by cases n<;>rfl
end
def leZ(a b:Int):Bool:=Int.rec (λm=>Int.rec (λn=>Nat.ble m n) (λ_=>false) b) (λm=>Int.rec (λ_=>true) (λn=>Nat.ble n m) b) a
def leZ_iff{a b:Int}:leZ a b=true↔a<=b:=by
 cases a<;>cases b<;>simp only[leZ,qbT,qao,false_iff,true_iff,qaY]<;>omega
def cutL{α:Type}(l:List α):Nat->Nat->Option (List α):=
 List.rec (motive:=λ_=>Nat->Nat->Option (List α))
  (λoff n=>Nat.rec (Nat.rec (some []) (λ_ _=>none) n) (λ_ _=>none) off)
  (λa _ ih off n=>Nat.rec (Nat.rec (some []) (λm _=>Option.rec none (λl=>some (a :: l)) (ih 0 m)) n) (λo _=>ih o n) off) l
def mL{α:Type}:∀(l:List α) (off n:Nat),cutL l off n=if off+n<=l.length then some ((l.drop off).take n)else none
 | [],0,0=>rfl
 | [],0,n+1=>by rw[qdE (by simp)];rfl
 | [],o+1,n=>by rw[qdE (by simp)];rfl
 |a :: l,0,0=>by rw[qdD (by simp)];rfl
 |a :: l,0,n+1=>by
  show(Option.rec none (λl=>some (a :: l)) (cutL l 0 n):Option (List α))=_
  rw[mL l 0 n]
  by_cases h:0+n<=l.length
  ·rw[qdD h,qdD (by simp at h ⊢;omega)];rfl
  ·rw[qdE h,qdE (by simp at h ⊢;omega)]
 |a :: l,o+1,n=>by
  show cutL l o n=_
  rw[mL l o n]
  by_cases h:o+n<=l.length
  ·rw[qdD h,qdD (by simp at h ⊢;omega)];rfl
  ·rw[qdE h,qdE (by simp at h ⊢;omega)]
def splL{α:Type}(l:List α):Nat->List α->Option (List α):=
 List.rec (motive:=λ_=>Nat->List α->Option (List α))
  (λoff new=>Nat.rec (List.rec (some []) (λ_ _ _=>none) new) (λ_ _=>none) off)
  (λa t ih off new=>Nat.rec (List.rec (some (a :: t)) (λb bs _=>Option.rec none (λl=>some (b :: l)) (ih 0 bs)) new) (λo _=>Option.rec none (λl=>some (a :: l)) (ih o new)) off) l
def uW{α:Type}:∀(l:List α) (off:Nat) (new:List α),splL l off new=if off+new.length<=l.length then some (l.take off++new++l.drop (off+new.length))else none
 | [],0,[]=>rfl
 | [],0,b :: bs=>by rw[qdE (by simp)];rfl
 | [],o+1,new=>by rw[qdE (by simp)];rfl
 |a :: l,0,[]=>by rw[qdD (by simp)];rfl
 |a :: l,0,b :: bs=>by
  show(Option.rec none (λl=>some (b :: l)) (splL l 0 bs):Option (List α))=_
  rw[uW l 0 bs]
  by_cases h:0+bs.length<=l.length
  ·rw[qdD h,qdD (by simp at h ⊢;omega)];simp
  ·rw[qdE h,qdE (by simp at h ⊢;omega)]
 |a :: l,o+1,new=>by
  show(Option.rec none (λl=>some (a :: l)) (splL l o new):Option (List α))=_
  rw[uW l o new]
  by_cases h:o+new.length<=l.length
  ·rw[qdD h,qdD (by simp at h ⊢;omega)];simp[Nat.add_right_comm]
  ·rw[qdE h,qdE (by simp at h ⊢;omega)]
abbrev bU:=Nat->Option HObj
inductive Act1 where
 |set (i:Nat) (o:HObj)
 |push (o:HObj)
def Act1.on(H:Ts):Act1->List HObj
 | .set i o=>H.set i o
 | .push o=>H++[o]
def ge(H:Ts)(l:List Act1):Ts:=l.foldl Act1.on H
def gw(g:bU)(id:Nat):Option (Tl):=
 match g id with
 |some (.cells vs _ _)=>some vs
 |_=>none
def ldP(n:Nat)(p:Value)(g:bU):Option (Tl):=
 match p with
 | .pointer (some a)=>match a.spot with
  |none=>(gw g a.block).bind λvs=>cut vs a.off n
  |some _=>none
 |_=>none
def lgP(C:Cfg)(n:Nat)(p:Value)(g:bU):Option (Tl):=
 match p with
 | .pointer (some a)=>match a.spot with
  |none=>(gw g a.block).bind λvs=>cut vs a.off n
  |some k=>match Nat.beq k 1 with
   |true=>(C.G a.block).bind λvs=>cut vs a.off n
   |false=>none
 |_=>none
def stP(p:Value)(new:Tl)(g:bU)(_:Nat):Option (List Act1×List Value):=
 match p with
 | .pointer (some a)=>match a.spot with
  |none=>match g a.block with
   |some (.cells vs e true)=>(splice vs a.off new).map λvs'=>([.set a.block (.cells vs' e true)],[])
   |_=>none
  |some _=>none
 |_=>none
def slG(C:Cfg)(esz:Nat)(g:bU):Value->Option (List Value×Nat)
 | .slice none 0 0=>some ([],0)
 | .slice (some a) len _=>
  if a.spot=some 1 then((C.G a.block).bind λvs=>cut vs a.off (len*esz)).map λx=>(x,len)
  else if a.spot=tag esz then
   match g a.block with
   |some (.cells vs e _)=>if e=esz then(cut vs a.off (len*esz)).map λx=>(x,len)else none
   |_=>none
  else none
 | .string s=>if esz=1 then some (s.data.toList.map λb=>.int .u8 b.toNat,s.size)else none
 |_=>none
def apG(C:Cfg)(esz bytes:Nat)(s x:Value)(g:bU)(n0:Nat):Option (List Act1×List Value):=
 match slG C esz g x with
 |none=>none
 |some (new,n)=>
  match s with
  | .slice none 0 0=>
   if n=0 then some ([],[.slice none 0 0])
   else if bJ n bytes then some ([.push (.cells new esz true)],[.slice (some ⟨n0,0,tag esz⟩) n 0])else none
  | .slice (some a) len cx=>
   if a.spot≠tag esz then none else
   match g a.block with
   |some (.cells vs e rw)=>
    if e≠esz then none else
    match cut vs a.off (len*esz)with
    |none=>none
    |some old=>
     match cx with
     |0=>
      if n=0 then some ([],[.slice (some a) len 0])
      else if rw&&bJ (len+n) bytes then
       some ([.set a.block .dead,.push (.cells (old++new) esz true)],[.slice (some ⟨n0,0,tag esz⟩) (len+n) 0])
      else none
     |cap+1=>
      if len+n<=cap then
       if rw then(splice vs (a.off+len*esz) new).map λvs'=>([.set a.block (.cells vs' e true)],[.slice (some a) (len+n) (cap+1)])
       else if n=0 then some ([],[.slice (some a) len (cap+1)])else none
      else if bJ (len+n) bytes then
       some ([.push (.cells (old++new) esz true)],[.slice (some ⟨n0,0,tag esz⟩) (len+n) 0])
      else none
   |_=>none
  |_=>none
def cpG(C:Cfg)(esz:Nat)(d x:Value)(g:bU)(_:Nat):Option (List Act1×List Value):=
 match d with
 | .slice none 0 0=>(slG C esz g x).map λ_=>([],[.int .i64 0])
 | .slice (some a) dlen _=>
  if a.spot≠tag esz then none else
  match slG C esz g x,g a.block with
  |some (new,n),some (.cells vs e true)=>
   if e≠esz then none else
   (splice vs a.off (new.take (Nat.min n dlen*esz))).map λvs'=>([.set a.block (.cells vs' e true)],[.int .i64 (Nat.min n dlen)])
  |_,_=>none
 |_=>none
def clG(esz:Nat)(z:Tl)(x:Value)(g:bU)(_:Nat):Option (List Act1×List Value):=
 match x with
 | .slice none 0 0=>some ([],[])
 | .slice (some a) n _=>
  if a.spot≠tag esz then none else
  match g a.block with
  |some (.cells vs e true)=>
   if e≠esz then none else
   (splice vs a.off (bi z n)).map λvs'=>([.set a.block (.cells vs' e true)],[])
  |_=>none
 |_=>none
def slS(esz:Nat)(x:Value)(lo hi mx:Tq):Ti:=
 match x with
 | .slice (some a) len cx=>
  if a.spot≠some 1/\a.spot≠tag esz then none else
  if 0<=lo.getD 0/\lo.getD 0<=hi.getD len/\bR len cx hi mx then
   fN (a.off+(lo.getD 0).toNat*esz) λo=>fN ((hi.getD len).toNat - (lo.getD 0).toNat) λn=>fN (bE cx (lo.getD 0).toNat mx) λc=>
   some (.slice (some { a with off:=o }) n c)
  else none
 | .slice none 0 0=>if lo.getD 0=0/\hi.getD 0=0/\mx.getD 0=0/\(mx.isNone∨hi.isSome)then some (.slice none 0 0)else none
 |_=>none
def spotF(s:Tp):Tp:=match s with
 |none=>none
 |some k=>match Nat.beq k 1 with
  |true=>some 1
  |false=>none
def idS(esz:Nat)(x:Value)(i:Int):Ti:=
 match x with
 | .slice (some a) len _=>Int.rec (λj=>match Nat.blt j len with
  |true=>fN (Nat.add a.off (Nat.mul j esz)) λo=>some (.pointer (some ⟨a.block,o,spotF a.spot⟩))
  |false=>none) (λ_=>none) i
 |_=>none
def spotF_eq(s:Tp):spotF s=if s=some 1 then some 1 else none:=by
 unfold spotF
 cases s with
 |none=>rfl
 |some k=>
  cases e:Nat.beq k 1 with
  |true=>rw[qac e];rfl
  |false=>
   rw[qdE (λh=>by cases h;cases e)]
   simp only[e]
def pf(esz:Nat)(x:Value)(i:Int):idS esz x i=match (motive:=Value->Ti) x with
 | .slice (some a) len _=>
  if 0<=i/\i<(len:Int)then some (.pointer (some ⟨a.block,a.off+i.toNat*esz,if a.spot=some 1 then some 1 else none⟩))else none
 |_=>none:=by
 unfold idS
 split
 next a len _=>
  cases i with
  |ofNat j=>
   simp only[df,spotF_eq]
   cases e:Nat.blt j len with
   |true=>
    rw[qbd]at e
    have hh:0<=Int.ofNat j/\Int.ofNat j<(len:Int):=⟨qat j,by show(j:Int)<len;omega⟩
    rw[qdD hh];rfl
   |false=>
    have:¬j<len:=λh=>by rw[←qbd,e]at h;cases h
    have hh:¬(0<=Int.ofNat j/\Int.ofNat j<(len:Int)):=λh=>this (by have h2:(j:Int)<len:=h.2;omega)
    rw[qdE hh]
  |negSucc j=>
   have hh:¬(0<=Int.negSucc j/\Int.negSucc j<(len:Int)):=λh=>by have:=h.1;omega
   rw[qdE hh]
 ·rfl
def idP(len esz:Nat)(x:Value)(i:Int):Ti:=
 match x with
 | .pointer (some a)=>if 0<=i/\i<(len:Int)then some (.pointer (some { a with off:=a.off+i.toNat*esz }))else none
 |_=>none
def fdP(off:Nat)(x:Value):Ti:=
 match x with
 | .pointer (some a)=>some (.pointer (some { a with off:=a.off+off }))
 |_=>none
def nilP(x:Value):Ti:=
 match x with
 | .pointer (some a)=>some (.pointer (some a))
 | .func (.func f) a b=>some (.func (.func f) a b)
 | .func (.yield f) a b=>some (.func (.yield f) a b)
 |_=>none
def slAG(n esz:Nat)(p:Value)(lo hi mx:Tq)(g:bU):Option (Tl):=
 match p with
 | .pointer (some a)=>match a.spot with
  |none=>match dv n (lo.map (.int .i64)) (hi.map (.int .i64)) (mx.map (.int .i64)),g a.block with
   |some (l,h,m),some (.cells vs e _)=>match Nat.beq e esz&&Nat.ble (a.off+n*esz) vs.length with
    |true=>fN (a.off+l*esz) λo=>fN (h - l) λq=>fN (m - l+1) λc=>some [.slice (some ⟨a.block,o,tag esz⟩) q c]
    |false=>none
   |_,_=>none
  |some _=>none
 |_=>none
def eqBs(a:List UInt8):List UInt8->Bool:=
 List.rec (motive:=λ_=>List UInt8->Bool) (λb=>List.rec true (λ_ _ _=>false) b)
  (λx _ ih b=>List.rec false (λy t _=>Bool.rec false (ih t) (Nat.beq x.toNat y.toNat)) b) a
def vx:∀(a b:List UInt8),eqBs a b=true↔a=b
 | [],[]=>⟨λ_=>rfl,λ_=>rfl⟩
 | [],_ :: _=>⟨λh=>(by cases h),λh=>(by cases h)⟩
 |_ :: _,[]=>⟨λh=>(by cases h),λh=>(by cases h)⟩
 |x :: a,y :: b=>by
  show(Bool.rec false (eqBs a b) (Nat.beq x.toNat y.toNat):Bool)=true↔_
  cases e:Nat.beq x.toNat y.toNat with
  |true=>
   have:x=y:=UInt8.toNat_inj.1 (qac e)
   show eqBs a b=true↔_
   rw[vx a b,this];simp
  |false=>
   constructor
   ·intro h;cases h
   ·intro h
    cases h
    rw[show Nat.beq x.toNat x.toNat=true from qcv _]at e
    cases e
def strEq(x y:Value):Option Bool:=match x with
 | .string a=>match y with
  | .string b=>some (eqBs a.data.toList b.data.toList)
  |_=>none
 |_=>none
def lenS:Value->Option Int
 | .slice _ n _=>some n
 |_=>none
def strAt(s:ByteArray)(j:Int):Tq:=match j with
 | .ofNat n=>(s.data.toList[n]?).map λb=>Int.ofNat b.toNat
 |_=>none
def strAt_ok{s:ByteArray}{j b:Int}(h:strAt s j=some b):0<=j/\(s[j.toNat]?).map (λb=>Value.int .u8 b.toNat)=some (.int .u8 b):=by
 unfold strAt at h
 split at h
 next n=>
  obtain⟨x,h1,rfl⟩:=qad.1 h
  refine⟨qat n,?_⟩
  have:s[n]?=some x:=by
   rw[qcT]at h1
   obtain⟨hlt,h2⟩:=qav.1 h1
   have hs:n<s.size:=hlt
   rw[getElem?_pos s n hs]
   exact congrArg some h2
  show(s[n]?).map _=_
  rw[this]
  rfl
 ·cases h
def capS:Value->Option Int
 | .slice (some _) _ (n+1)=>some n
 | .slice none 0 0=>some 0
 |_=>none
def lenM(m:Value)(g:bU):Option (Tl):=
 match m with
 | .map (some id)=>match g id with
  |some (.map es _)=>some [.int .i64 es.length]
  |_=>none
 |_=>none
def inB(len:Nat)(i:Int):Option Unit:=Int.rec (λj=>match Nat.blt j len with
 |true=>some ()
 |false=>none) (λ_=>none) i
def inB_eq(len:Nat)(i:Int):inB len i=if 0<=i/\i<(len:Int)then some ()else none:=by
 unfold inB
 cases i with
 |ofNat j=>
  simp only
  cases e:Nat.blt j len with
  |true=>rw[qbd]at e;rw[qdD ⟨qat j,by show(j:Int)<len;omega⟩]
  |false=>
   have:¬j<len:=λh=>by rw[←qbd,e]at h;cases h
   rw[qdE (λh=>this (by have h2:(j:Int)<len:=h.2;omega))]
 |negSucc j=>rw[qdE (λh=>by have:=h.1;omega)]
def mkOk(l c:Int):Option Unit:=if 0<=l/\l<=c/\c<=1048576 then some ()else none
abbrev _root_.TE:=List Lf
def rr(cs:TE)(base:Nat)(ix:List (Int×Nat))(n:Nat):Option (TE):=cutL cs (offX base ix) n
def pickL_eq(cs:TE)(base:Nat)(ix:List (Int×Nat))(n:Nat):rr cs base ix n=if offX base ix+n<=cs.length then some ((cs.drop (offX base ix)).take n)else none:=mL _ _ _
def putL(cs:TE)(base:Nat)(ix:List (Int×Nat))(new:TE):Option (TE):=splL cs (offX base ix) new
def putL_eq(cs:TE)(base:Nat)(ix:List (Int×Nat))(new:TE):putL cs base ix new=if offX base ix+new.length<=cs.length then some (cs.take (offX base ix)++new++cs.drop (offX base ix+new.length))else none:=uW _ _ _
def cW(vs:Tl)(base:Nat)(ix:List (Int×Nat))(n:Nat):Option (Tl):=cutL vs (offX base ix) n
def pickV_eq(vs:Tl)(base:Nat)(ix:List (Int×Nat))(n:Nat):cW vs base ix n=cut vs (offX base ix) n:=mL _ _ _
def ldGv(C:Cfg)(n:Nat)(p:Value):Option (Tl):=
 match p with
 | .pointer (some a)=>if a.spot=some 1 then(C.G a.block).bind λvs=>cut vs a.off n else none
 |_=>none
inductive Pk where
 |ld (n:Nat) (p:Value)
 |lg (C:Cfg) (n:Nat) (p:Value)
 |fn (f:bU->Option (Tl))
def Pk.run:Pk->bU->Option (Tl)
 | .ld n p=>ldP n p
 | .lg C n p=>lgP C n p
 | .fn f=>f
inductive Hp where
 |st (p:Value) (new:Tl)
 |ap (C:Cfg) (esz bytes:Nat) (s x:Value)
 |fn (f:bU->Nat->Option (List Act1×List Value))
def Hp.run:Hp->bU->Nat->Option (List Act1×List Value)
 | .st p new=>stP p new
 | .ap C esz bytes s x=>apG C esz bytes s x
 | .fn f=>f
structure Alg(R HT:Type):Type 1 where
 fail:R
 cond:Bool->R->R->R
 ari:BinOp->TI->Int->Int->(Int->R)->R
 shf:BinOp->TI->Int->TI->Int->(Int->R)->R
 cmp:BinOp->Int->Int->(Bool->R)->R
 eqs:List (Lf×Lf)->(Bool->R)->R
 conv:TI->Int->(Int->R)->R
 sel:Bool->Int->Int->(Int->R)->R
 opt:{α:Type}->Option α->(α->R)->R
 chk:Value->R->R
 unI:TE->(Int->TE->R)->R
 unB:TE->(Bool->TE->R)->R
 unV:TE->(Value->TE->R)->R
 un0:TE->R->R
 ucI:TI->Tl->(Int->Tl->R)->R
 ucB:Tl->(Bool->Tl->R)->R
 ucV:Tl->(Value->Tl->R)->R
 uc0:Tl->R->R
 peek:Pk->HT->(Tl->R)->R
 heap:Hp->HT->(Tl->HT->R)->R
 new:HObj->HT->(Nat->HT->R)->R
 call:TN->TE->HT->(TE->HT->R)->R
 callv:Value->Tl->TJ->HT->(TE->HT->R)->R
 join:(TE->HT->R)->((TE->HT->R)->R)->R
 loop:((TE->HT->R)->TE->HT->R)->TE->HT->R
 rfun:Nat->Value->Tl->HT->(Tk->HT->R)->R
 pend:Tk->R->R->List (Nat×R)->R
 lp1:Nat->HT->(HT->R)->R
 lp2:Nat->Tk->HT->(HT->R)->R
section
variable {R HT:Type} (A:Alg R HT)
def setK{α:Type}(x:α)(l:List α):Nat->(List α->R)->R:=
 List.rec (motive:=λ_=>Nat->(List α->R)->R) (λ_ k=>k [])
  (λa tl ih i k=>match i with
   |0=>k (x :: tl)
   |i+1=>ih i λl=>k (a :: l)) l
def unL(ks:TG):TE->(List SL->TE->R)->R:=
 List.rec (motive:=λ_=>TE->(List SL->TE->R)->R) (λls K=>K [] ls)
  (λk _ ih ls K=>match k with
   | .i k=>A.unI ls λn r=>ih r λsl r=>K (.i k n :: sl) r
   | .b=>A.unB ls λt r=>ih r λsl r=>K (.b t :: sl) r
   | .v=>A.unV ls λx r=>ih r λsl r=>K (.v x :: sl) r) ks
def unS(sk:SK)(ls:TE)(K:S0->TE->R):R:=
 match sk with
 | .leaf k=>match k with
  | .i k=>A.unI ls λn r=>K (.leaf (.i k n)) r
  | .b=>A.unB ls λt r=>K (.leaf (.b t)) r
  | .v=>A.unV ls λx r=>K (.leaf (.v x)) r
 | .agg ks=>unL A ks ls λsl r=>K (.agg sl) r
def unSs(sks:TJ):TE->(List S0->TE->R)->R:=
 List.rec (motive:=λ_=>TE->(List S0->TE->R)->R) (λls K=>K [] ls)
  (λsk _ ih ls K=>unS A sk ls λx r=>ih r λxs r=>K (x :: xs) r) sks
def ucL(ks:TG):Tl->(List SL->Tl->R)->R:=
 List.rec (motive:=λ_=>Tl->(List SL->Tl->R)->R) (λcs K=>K [] cs)
  (λk _ ih cs K=>match k with
   | .i k=>A.ucI k cs λn r=>ih r λsl r=>K (.i k n :: sl) r
   | .b=>A.ucB cs λt r=>ih r λsl r=>K (.b t :: sl) r
   | .v=>A.ucV cs λx r=>A.chk x (ih r λsl r=>K (.v x :: sl) r)) ks
def ucS(sk:SK)(cs:Tl)(K:S0->Tl->R):R:=
 match sk with
 | .leaf k=>match k with
  | .i k=>A.ucI k cs λn r=>K (.leaf (.i k n)) r
  | .b=>A.ucB cs λt r=>K (.leaf (.b t)) r
  | .v=>A.ucV cs λx r=>A.chk x (K (.leaf (.v x)) r)
 | .agg ks=>ucL A ks cs λsl r=>K (.agg sl) r
def ucSs(sks:TJ):Tl->(List S0->Tl->R)->R:=
 List.rec (motive:=λ_=>Tl->(List S0->Tl->R)->R) (λcs K=>K [] cs)
  (λsk _ ih cs K=>ucS A sk cs λx r=>ih r λxs r=>K (x :: xs) r) sks
def cb:List S0->List Lf
 | []=>[]
 |x :: l=>x.cells.map SL.lf++cb l
def ai(l:List S0):Tl:=l.map S0.val
def lT(l:List S0):Tl:=l.flatMap λx=>x.cells.map SL.val
def pkT(tm:List SV):List (Nat×SK)->Option (TE)
 | []=>some []
 |(t,sk) :: l=>match tm.getD t .no,pkT tm l with
  | .st x,some ls=>match x.is sk with
   |true=>some (x.cells.map SL.lf++ls)
   |false=>none
  |_,_=>none
def pkR(lc:List LR):List (Nat×List LK)->Option (TE)
 | []=>some []
 |(s,ks) :: l=>match lc.getD s .unk,pkR lc l with
  | .row cs,some ls=>match aT cs ks with
   |true=>some (cs.map SL.lf++ls)
   |false=>none
  |_,_=>none
def pk(ev:Env)(lv:Live):Option (TE):=
 match pkT ev.tm lv.tm,pkR ev.lc lv.rows with
 |some a,some b=>some (a++b)
 |_,_=>none
def SV.inRows(ks:TB):SV->Bool
 | .tup _=>true
 | .lad s _=>ks.contains s
 | .ldx s _ _=>ks.contains s
 |_=>false
def clrT(ws ks:TB)(l:List SV):Nat->(List SV->R)->R:=
 List.rec (motive:=λ_=>Nat->(List SV->R)->R) (λ_ K=>K [])
  (λx _ ih i K=>ih (i+1) λl=>match ws.contains i||x.inRows ks with
   |true=>K (.no :: l)
   |false=>K (x :: l)) l
def qP(n:Nat)(K:Nat->R):R:=Nat.casesOn n (K 0) λm=>K (Nat.succ m)
def clrR(ws ks:TB)(nw:LR)(l:List LR):Nat->(List LR->R)->R:=
 List.rec (motive:=λ_=>Nat->(List LR->R)->R) (λ_ K=>K [])
  (λx _ ih i K=>ih (i+1) λl=>match ks.contains i,ws.contains i with
   |true,_=>K (nw :: l)
   |false,true=>(match x with
    | .row cs=>qP cs.length λn=>K (.any n :: l)
    | .any n=>K (.any n :: l)
    |_=>K (.unk :: l))
   |false,false=>K (x :: l)) l
def upT(lv:List (Nat×SK)):List S0->List SV->(List SV->R)->R:=
 List.rec (motive:=λ_=>List S0->List SV->(List SV->R)->R) (λ_ tm K=>K tm)
  (λp _ ih xs tm K=>match xs with
   |x :: xs=>setK (.st x) tm p.1 λtm=>ih xs tm K
   | []=>A.fail) lv
def upR(lv:List (Nat×List LK)):TE->List LR->(List LR->TE->R)->R:=
 List.rec (motive:=λ_=>TE->List LR->(List LR->TE->R)->R) (λls lc K=>K lc ls)
  (λp _ ih ls lc K=>unL A p.2 ls λcs r=>setK (.row cs) lc p.1 λlc=>ih r lc K) lv
def reE(pts:TB)(c:Code)(nw:LR)(lv:Live)(ev:Env)(ls:TE)(K:Env->R):R:=
 clrT (wrT c) (aO pts c) ev.tm 0 λtm=>clrR (wrR pts c) (aO pts c) nw ev.lc 0 λlc=>
  unSs A (lv.tm.map (·.2)) ls λxs r=>upT A lv.tm xs tm λtm=>upR A lv.rows r lc λlc r=>A.un0 r (K ⟨tm,lc⟩)
abbrev KN(R HT:Type):=Env->HT->R
def sX(pts:TB)(c:Code)(j:Option Live)(ev:Env)(kn:KN R HT)(main:KN R HT->R):R:=
 match j with
 |none=>main kn
 |some lv=>A.join (λls h=>reE A pts c .unk lv ev ls λev=>kn ev h) λjn=>main λev h=>match pk ev lv with
  |some ls=>jn ls h
  |none=>A.fail
structure Ctxt where
 C:Cfg
 pts:List Nat
 T:Nat->Site
def sval(ev:Env):TH->SV
 | .tmp t=>ev.tm.getD t .no
 | .const v=>match s0Of v with
  |some x=>.st x
  |none=>.no
 | .global g=>match Nat.blt g gB with
  |true=>.gad g 0
  |false=>.no
 | .func f=>.st (.leaf (.v (.func (.func f) #[] #[])))
def sval0(ev:Env)(x:TH):Option S0:=
 match sval ev x with
 | .st x=>some x
 |_=>none
def svals(ev:Env):List Operand->Option (List S0)
 | []=>some []
 |x :: l=>match sval0 ev x,svals ev l with
  |some x,some l=>some (x :: l)
  |_,_=>none
def constI:TH->Option Nat
 | .const (.int _ (.ofNat n))=>some n
 |_=>none
def setD(d:To)(x:SV)(ev:Env)(h:HT)(K:KN R HT):R:=
 match d with
 |some d=>setK x ev.tm d λtm=>K ⟨tm,ev.lc⟩ h
 |none=>K ev h
def rF(ev:Env)(s:Nat):Option (List SL):=
 match ev.lc.getD s .unk with
 | .row cs=>some cs
 |_=>none
def skKs:SK->List LK
 | .leaf k=>[k]
 | .agg ks=>ks
def cutS(cs:List SL)(off n:Nat):Option (List SL):=if off+n<=cs.length then some ((cs.drop off).take n)else none
def gW(cs:List SL)(off:Nat)(new:List SL):Option (List SL):=if off+new.length<=cs.length then some (cs.take off++new++cs.drop (off+new.length))else none
def sa(cs:List SL)(ks:TG):Nat->List (Int×Nat)->Bool
 |base,[]=>match cutS cs base ks.length with
  |some ds=>aT ds ks
  |none=>true
 |base,p :: l=>!Nat.beq p.2 0&&(List.range (cs.length+1)).all λj=>sa cs ks (base+j*p.2) l
def mkS0(agg:Bool)(cs:List SL):Option S0:=
 match agg,cs with
 |true,cs=>some (.agg cs)
 |false,[c]=>some (.leaf c)
 |_,_=>none
def qM(pl:Nat->Option (Nat×Nat))(cs:List SL):List (Nat×S0)->Option (List SL)
 | []=>some cs
 |(i,x) :: l=>match pl i with
  |some (off,n)=>match Nat.beq x.cells.length n with
   |true=>match gW cs off x.cells with
    |some cs=>qM pl cs l
    |none=>none
   |false=>none
  |none=>none
def aggT(P:TF)(t:TM):Option Bool:=
 match P.underlying t with
 |some (.struct _)|some (.array _ _)=>some true
 |some _=>some false
 |none=>none
def ve(P:TF)(t:TM):Option S0:=(dE P t).bind s0Of
def iW:SK->Bool
 | .leaf _=>false
 | .agg _=>true
def eqB:Bool->Bool->Bool
 |true,true=>true
 |false,false=>true
 |_,_=>false
def newV(X:Ctxt)(d:To)(t:TM)(x:S0)(ev:Env)(h:HT)(K:KN R HT):R:=
 match d with
 |none=>A.fail
 |some d=>match Nat.beq (X.pts.getD d 0) (d+2)with
  |true=>match ev.lc.getD d .unk with
   | .nil=>setK (.row x.cells) ev.lc d λlc=>setK (.lad d 0) ev.tm d λtm=>K ⟨tm,lc⟩ h
   |_=>A.fail
  |false=>A.new (.cells (x.cells.map SL.val) (kR X.C.P t) true) h λn h=>setD (some d) (.st (.leaf (.v (.pointer (some ⟨n,0,none⟩))))) ev h K
def setC(d:To)(sk:SK)(cs:Tl)(ev:Env)(h:HT)(K:KN R HT):R:=
 ucS A sk cs λx r=>A.uc0 r (setD d (.st x) ev h K)
def setL(d:To)(sk:SK)(ls:TE)(ev:Env)(h:HT)(K:KN R HT):R:=
 unS A sk ls λx r=>A.un0 r (setD d (.st x) ev h K)
def loadE(X:Ctxt)(d:To)(sk:SK)(agg:Bool)(n:Nat)(a:TH)(ev:Env)(h:HT)(K:KN R HT):R:=
 match lI X.pts a,sval ev a with
 |0,.st (.leaf (.v p))=>A.peek (.lg X.C n p) h λcs=>setC A d sk cs ev h K
 |1,.gad g off=>match X.C.G g with
  |some vs=>match cut vs off n with
   |some cs=>match cs.all scalar,mkS0 agg (cs.map slOf)with
    |true,some x=>setD d (.st x) ev h K
    |_,_=>setC A d sk cs ev h K
   |none=>A.fail
  |none=>A.fail
 |1,.gdx g base ix=>match X.C.G g with
  |some vs=>A.opt (cW vs base ix n) λcs=>setC A d sk cs ev h K
  |none=>A.fail
 |1,.st (.leaf (.v p))=>A.opt (ldGv X.C n p) λcs=>setC A d sk cs ev h K
 |s+2,.lad s' off=>match Nat.beq s s',(rF ev s).bind (λcs=>(cutS cs off n).bind (mkS0 agg))with
  |true,some x=>setD d (.st x) ev h K
  |_,_=>A.fail
 |s+2,.ldx s' base ix=>match Nat.beq s s',rF ev s with
  |true,some cs=>match sa cs (skKs sk) base ix&&Nat.beq n (skKs sk).length with
   |true=>A.opt (rr (cs.map SL.lf) base ix n) λls=>setL A d sk ls ev h K
   |false=>A.fail
  |_,_=>A.fail
 |_,_=>A.fail
def storeR(r:LR)(off:Nat)(new:List SL):Option (List SL):=
 match r with
 | .row cs=>gW cs off new
 | .any n=>match Nat.beq off 0&&Nat.beq n new.length with
  |true=>some new
  |false=>none
 |_=>none
def storeE(X:Ctxt)(d:To)(t:TM)(a:TH)(x:S0)(ev:Env)(h:HT)(K:KN R HT):R:=
 match Nat.beq x.cells.length (X.C.P.cellsOf t)&&(X.C.P.info? t).isSome with
 |false=>A.fail
 |true=>match lI X.pts a,sval ev a with
  |0,.st (.leaf (.v p))=>A.heap (.st p (x.cells.map SL.val)) h λ_ h=>setD d .un ev h K
  |s+2,.lad s' off=>match Nat.beq s s',storeR (ev.lc.getD s .unk) off x.cells with
   |true,some cs=>setK (.row cs) ev.lc s λlc=>setD d .un ⟨ev.tm,lc⟩ h K
   |_,_=>A.fail
  |s+2,.ldx s' base ix=>match Nat.beq s s',rF ev s with
   |true,some cs=>match sa cs (x.cells.map SL.lk) base ix with
    |false=>A.fail
    |true=>A.opt (putL (cs.map SL.lf) base ix (x.cells.map SL.lf)) λls=>unL A (cs.map SL.lk) ls λcs r=>A.un0 r (setK (.row cs) ev.lc s λlc=>setD d .un ⟨ev.tm,lc⟩ h K)
   |_,_=>A.fail
  |_,_=>A.fail
def isCmp:BinOp->Bool
 | .eql | .neq | .lss | .leq | .gtr | .geq=>true
 |_=>false
def isShift:BinOp->Bool
 | .shl | .shr=>true
 |_=>false
def lr(F:TM->Option (TG)):List Field->Nat->Option (TG)
 | [],_=>some []
 |f :: fs,off=>match decide (f.name = "_"),Nat.beq f.offset off,F f.type with
  |false,true,some ks=>(lr F fs (off+ks.length)).map (ks ++ ·)
  |_,_,_=>none
def flatK(P:TF):Nat->TM->Option (TG)
 |0,_=>none
 |d+1,t=>match P.underlying t with
  |some (.int k)=>some [.i k]
  |some .bool=>some [.b]
  |some (.struct fs)=>match P.stoodInHeld t,lr (flatK P d) fs.toList 0 with
   |false,some ks=>match Nat.beq ks.length (P.cellsOf t)with
    |true=>some ks
    |false=>none
   |_,_=>none
  |some (.array n e)=>match flatK P d e with
   |some ks=>match Nat.beq ks.length (P.cellsOf e)&&Nat.beq (List.replicate n ks).flatten.length (P.cellsOf t)with
    |true=>some (List.replicate n ks).flatten
    |false=>none
   |none=>none
  |_=>none
def eqZ:Int->Int->Bool
 | .ofNat a,.ofNat b=>Nat.beq a b
 | .negSucc a,.negSucc b=>Nat.beq a b
 |_,_=>false
def fq:TG->Tl->Tl->Option Bool
 | [],[],[]=>some true
 | .i k :: ks,.int a x :: xs,.int b y :: ys=>match cS a k,cS b k,fq ks xs ys with
  |true,true,some r=>(match eqZ x y with
   |true=>some r
   |false=>some false)
  |_,_,_=>none
 | .b :: ks,.bool x :: xs,.bool y :: ys=>match fq ks xs ys with
  |some r=>(match eqB x y with
   |true=>some r
   |false=>some false)
  |none=>none
 |_,_,_=>none
def difK:TG->Tl->Tl->Option Bool
 | [],_,_=>some true
 | .i k :: ks,.int a x :: xs,.int b y :: ys=>match cS a k,cS b k with
  |true,true=>(match eqZ x y with
   |true=>difK ks xs ys
   |false=>some false)
  |_,_=>none
 | .b :: ks,.bool x :: xs,.bool y :: ys=>match eqB x y with
  |true=>difK ks xs ys
  |false=>some false
 |_,_,_=>none
def fi(ks:TG)(cs:Tl):Th->Nat->Option (Tp)
 | [],_=>some none
 |e :: es,i=>match e.key with
  | .agg ds=>match difK ks cs ds.toList with
   |some true=>some (some i)
   |some false=>fi ks cs es (i+1)
   |none=>none
  |_=>none
def valI{R:Type}(v:Value)(d:R)(K:TI->Int->R):R:=match v with
 | .int a m=>K a m
 |_=>d
def valB{R:Type}(v:Value)(d:R)(K:Bool->R):R:=match v with
 | .bool a=>K a
 |_=>d
def eqZR(a b:Int):Bool:=@Int.rec (λ_=>Bool) (λm=>@Int.rec (λ_=>Bool) (λn=>Nat.beq m n) (λ_=>false) b) (λm=>@Int.rec (λ_=>Bool) (λ_=>false) (λn=>Nat.beq m n) b) a
def difR(ks:TG):Tl->Tl->Option Bool:=
 @List.rec LK (λ_=>Tl->Tl->Option Bool)
  (λ_ _=>some true)
  (λk _ ih xs ys=>@List.rec Value (λ_=>Option Bool) none (λx xs _=>@List.rec Value (λ_=>Option Bool) none (λy ys _=>
   @LK.rec (λ_=>Option Bool)
    (λk=>valI x none λa m=>valI y none λb n=>@Bool.rec (λ_=>Option Bool) none (@Bool.rec (λ_=>Option Bool) none (@Bool.rec (λ_=>Option Bool) (some false) (ih xs ys) (eqZR m n)) (cS b k)) (cS a k))
    (valB x none λa=>valB y none λb=>@Bool.rec (λ_=>Option Bool) (some false) (ih xs ys) (eqB a b))
    none k) ys) xs) ks
def eqZR_eq(a b:Int):eqZR a b=eqZ a b:=by cases a<;>cases b<;>rfl
def ul:∀(ks:TG) (xs ys:Tl),difR ks xs ys=difK ks xs ys
 | [],_,_=>by simp only[difK];rfl
 |k :: ks,[],ys=>by cases k<;>rfl
 |k :: ks,x :: xs,[]=>by cases k<;>cases x<;>rfl
 | .v :: ks,x :: xs,y :: ys=>by cases x<;>cases y<;>rfl
 | .b :: ks,x :: xs,y :: ys=>by
  cases x<;>first|(cases y<;>rfl)|skip
  cases y<;>first|rfl|skip
  rename_i a b
  show @Bool.rec (λ_=>Option Bool) (some false) (difR ks xs ys) (eqB a b)=_
  rw[ul ks xs ys]
  simp only[difK]
  cases eqB a b<;>rfl
 | .i k :: ks,x :: xs,y :: ys=>by
  cases x<;>first|(cases y<;>rfl)|skip
  cases y<;>first|rfl|skip
  rename_i a m b n
  show @Bool.rec (λ_=>Option Bool) none (@Bool.rec (λ_=>Option Bool) none (@Bool.rec (λ_=>Option Bool) (some false) (difR ks xs ys) (eqZR m n)) (cS b k)) (cS a k)=_
  rw[ul ks xs ys,eqZR_eq]
  simp only[difK]
  cases cS a k<;>cases cS b k<;>first|rfl|(cases eqZ m n<;>rfl)
def findR(ks:TG)(cs:Tl)(es:Th):Nat->Option (Tp):=
 @List.rec MapEntry (λ_=>Nat->Option (Tp)) (λ_=>some none) (λe _ ih i=>match e.key with
  | .agg ds=>@Option.rec Bool (λ_=>Option (Tp)) none (λb=>@Bool.rec (λ_=>Option (Tp)) (fN (Nat.succ i) ih) (some (some i)) b) (difR ks cs ds.toList)
  |_=>none) es
def jp(ks:TG)(cs:Tl):∀(es:Th) (i:Nat),findR ks cs es i=fi ks cs es i
 | [],_=>rfl
 |e :: es,i=>by
  have h:findR ks cs (e :: es) i=match e.key with
   | .agg ds=>@Option.rec Bool (λ_=>Option (Tp)) none (λb=>@Bool.rec (λ_=>Option (Tp)) (findR ks cs es (i+1)) (some (some i)) b) (difR ks cs ds.toList)
   |_=>none:=rfl
  rw[h]
  simp only[fi,ul,jp ks cs es]
  split
  next ds _=>
   cases difK ks cs ds.toList with
   |none=>rfl
   |some b=>cases b<;>rfl
  ·rfl
def lH(P:TF)(kt:TM)(k:Value)(es:Th):Option (Tp):=
 match k with
 | .agg cs=>match aggT P kt,flatK P 10000 kt with
  |some true,some ks=>match findR ks cs.toList es 0 with
   |some r=>some r
   |none=>jo P kt k es
  |_,_=>jo P kt k es
 |_=>jo P kt k es
def keyF(P:TF)(kt:TM)(k:Value):Bool:=
 match k with
 | .agg cs=>match aggT P kt with
  |some true=>match flatK P 10000 kt with
   |some ks'=>match fq ks' cs.toList cs.toList with
    |some _=>true
    |none=>eP P kt k
   |none=>eP P kt k
  |_=>eP P kt k
 |_=>eP P kt k
def mapG(g:bU)(id:Nat):Option (List MapEntry×Nat):=
 match g id with
 |some (.map es c)=>some (es,c)
 |_=>none
def ez(ag:Bool)(v:Value):Option (Tl):=
 match v,ag with
 | .agg cs,true=>some cs.toList
 | .agg _,false=>none
 |_,true=>none
 |v,false=>some [v]
def luG(C:Cfg)(kt:TM)(ag:Bool)(z:Value)(m k:Value)(ok:Bool)(g:bU):Option (Tl):=
 if !keyF C.P kt k then none else
 match m with
 | .map none=>(ez ag z).map λcs=>cs++if ok then [.bool false]else []
 | .map (some id)=>
  match mapG g id with
  |none=>none
  |some (es,_)=>
   match lH C.P kt k es with
   |none=>none
   |some none=>(ez ag z).map λcs=>cs++if ok then [.bool false]else []
   |some (some i)=>((dy es i).bind (ez ag)).map λcs=>cs++if ok then [.bool true]else []
 |_=>none
def muG(C:Cfg)(kt:TM)(m k v:Value)(g:bU)(_:Nat):Option (List Act1×List Value):=
 match m with
 | .map (some id)=>
  if !keyF C.P kt k then none else
  match mapG g id with
  |none=>none
  |some (es,c)=>
   match lH C.P kt k es with
   |none=>none
   |some none=>some ([.set id (.map (es++[{ key:=k,val:=v,born:=c }]) (c+1))],[])
   |some (some i)=>
    if (es[i]?).all (λe=>Instr.sameBits 10000 e.key k)then some ([.set id (.map (es.modify i λe=>{ e with key:=k,val:=v }) c)],[])else none
 |_=>none
def meG(C:Cfg)(kt:TM)(ag:Bool)(z:Value)(m k:Value)(g:bU)(_:Nat):Option (List Act1×List Value):=
 match m with
 | .map (some id)=>
  if !keyF C.P kt k then none else
  match mapG g id with
  |none=>none
  |some (es,c)=>
   match lH C.P kt k es with
   |none=>none
   |some none=>(ez ag z).map λcs=>([.set id (.map (es++[{ key:=k,val:=z,born:=c }]) (c+1))],cs++[.int .i64 c])
   |some (some i)=>
    match es[i]? with
    |none=>none
    |some e=>if Instr.sameBits 10000 e.key k then(ez ag e.val).map λcs=>([.set id (.map (es.modify i λe=>{ e with key:=k }) c)],cs++[.int .i64 e.born])else none
 |_=>none
def esG(m:Value)(b:Int)(v:Value)(g:bU)(_:Nat):Option (List Act1×List Value):=
 match m with
 | .map (some id)=>
  match mapG g id with
  |none=>none
  |some (es,c)=>
   match es.findIdx? (λe=>(e.born:Int)==b)with
   |some i=>some ([.set id (.map (es.modify i λe=>{ e with val:=v }) c)],[])
   |none=>none
 |_=>none
def deG(C:Cfg)(kt:TM)(m k:Value)(g:bU)(_:Nat):Option (List Act1×List Value):=
 if !keyF C.P kt k then none else
 match m with
 | .map none=>some ([],[])
 | .map (some id)=>
  match mapG g id with
  |none=>none
  |some (es,c)=>
   match lH C.P kt k es with
   |none=>none
   |some none=>some ([],[])
   |some (some i)=>some ([.set id (.map (es.eraseIdx i) c)],[])
 |_=>none
def tw(n:Nat)(x y:Value):Option Bool:=match Nat.beq n (di x),Nat.beq n (di y)with
 |true,true=>kF x y
 |_,_=>none
def tz{P:TF}{t:TM}{td:TypeDesc}{x y:Value}{b:Bool}(hu:P.underlying t=some td)(h:tw (kG td) x y=some b):kF x y=some b/\ri P t x y=true:=by
 unfold tw at h
 split at h
 next h1 h2=>
  refine⟨h,?_⟩
  unfold ri
  rw[hu]
  simp only[qaa,beq_iff_eq]
  exact⟨qac h1,qac h2⟩
 ·cases h
def qo(ks:TG):Bool:=ks.all λk=>match k with
 | .v=>false
 |_=>true
def binE(X:Ctxt)(d:To)(op:BinOp)(t:TM)(a b:S0)(ev:Env)(h:HT)(K:KN R HT):R:=
 match a,b with
 | .leaf (.i k x),.leaf (.i k' y)=>
  match isShift op,cS k k',isCmp op with
  |true,_,_=>A.shf op k x k' y λn=>setD d (.st (.leaf (.i k n))) ev h K
  |false,true,true=>A.cmp op x y λt=>setD d (.st (.leaf (.b t))) ev h K
  |false,true,false=>A.ari op k x y λn=>setD d (.st (.leaf (.i k n))) ev h K
  |_,_,_=>A.fail
 | .agg cs,.agg es=>match flatK X.C.P 10000 t,X.C.P.eqGuardType X.C.P.depth t,aggT X.C.P t with
  |some ks,false,some true=>match aT cs ks&&aT es ks&&qo ks with
   |true=>match op with
    | .eql=>A.eqs ((cs.map SL.lf).zip (es.map SL.lf)) λt=>setD d (.st (.leaf (.b t))) ev h K
    | .neq=>A.eqs ((cs.map SL.lf).zip (es.map SL.lf)) λt=>setD d (.st (.leaf (.b (!t)))) ev h K
    |_=>A.fail
   |false=>A.fail
  |_,_,_=>A.fail
 | .leaf (.v x),.leaf (.v y)=>match X.C.P.underlying t with
  |some .string=>match op with
   | .eql=>A.opt (strEq x y) λt'=>setD d (.st (.leaf (.b t'))) ev h K
   | .neq=>A.opt (strEq x y) λt'=>setD d (.st (.leaf (.b (!t')))) ev h K
   |_=>A.fail
  |some td=>match op with
   | .eql=>A.opt (tw (kG td) x y) λt'=>setD d (.st (.leaf (.b t'))) ev h K
   | .neq=>A.opt (tw (kG td) x y) λt'=>setD d (.st (.leaf (.b (!t')))) ev h K
   |_=>A.fail
  |none=>A.fail
 | .leaf x,.leaf y=>match x.is .b&&y.is .b,X.C.P.underlying t with
  |true,some .bool=>match op with
   | .eql=>A.eqs [(x.lf,y.lf)] λt=>setD d (.st (.leaf (.b t))) ev h K
   | .neq=>A.eqs [(x.lf,y.lf)] λt=>setD d (.st (.leaf (.b (!t)))) ev h K
   |_=>A.fail
  |_,_=>A.fail
 |_,_=>A.fail
def optI(ev:Env):Tg->Option (Tq)
 |none=>some none
 |some x=>match sval ev x with
  | .st (.leaf (.i _ n))=>some (some n)
  |_=>none
def lL(hs:TJ):SK:=match hs with
 | [k]=>k
 |_=>.agg []
def setR(d:To)(sks:TJ)(rs:TE)(ev:Env)(h:HT)(K:KN R HT):R:=
 match sks with
 | [sk]=>setL A d sk rs ev h K
 | []=>A.un0 rs (setD d .un ev h K)
 |sks=>unSs A sks rs λxs r=>A.un0 r (setD d (.tup xs) ev h K)
structure Sig where
 ps:List SK
 rs:List SK
def bZ:List S0->TJ->Bool
 | [],[]=>true
 |x :: l,k :: ks=>x.is k&&bZ l ks
 |_,_=>false
def lQ(X:Ctxt)(d:To)(_sk:SK)(b:Builtin)(xs:List S0)(ts:Array TypeId)(ev:Env)(h:HT)(K:KN R HT):R:=
 match b,xs,ts[0]? with
 | .append,[.leaf (.v s),.leaf (.v x)],some t=>match X.C.P.underlying t with
  |some (.slice e)=>match X.C.P.info? e with
   |some info=>match Nat.beq info.size 0||(jc info).isNone||(ts[1]?.any λu=>(X.C.P.underlying u) matches some (.int _)|none)||ts[1]?.isNone with
    |true=>A.fail
    |false=>A.heap (.ap X.C info.size info.bytes s x) h λcs h=>setC A d (.leaf .v) cs ev h K
   |none=>A.fail
  |_=>A.fail
 | .len,[x],some t=>match X.C.P.underlying t,x with
  |some (.slice _),.leaf (.v x)=>A.opt (lenS x) λn=>setD d (.st (.leaf (.i .i64 n))) ev h K
  |some (.map _ _),.leaf (.v x)=>A.peek (.fn (lenM x)) h λcs=>setC A d (.leaf (.i .i64)) cs ev h K
  |some (.array n _),_=>setD d (.st (.leaf (.i .i64 n))) ev h K
  |_,_=>A.fail
 | .cap,[x],some t=>match X.C.P.underlying t,x with
  |some (.slice _),.leaf (.v x)=>A.opt (capS x) λn=>setD d (.st (.leaf (.i .i64 n))) ev h K
  |some (.array n _),_=>setD d (.st (.leaf (.i .i64 n))) ev h K
  |_,_=>A.fail
 | .copy,[.leaf (.v s),.leaf (.v x)],some t=>match X.C.P.underlying t with
  |some (.slice e)=>match Nat.beq (X.C.P.cellsOf e) 0 with
   |true=>A.fail
   |false=>A.heap (.fn (cpG X.C (X.C.P.cellsOf e) s x)) h λcs h=>setC A d (.leaf (.i .i64)) cs ev h K
  |_=>A.fail
 | .delete,[.leaf (.v m),k],some t=>match X.C.P.underlying t with
  |some (.map kt _)=>A.heap (.fn (deG X.C kt m k.val)) h λ_ h=>setD d .un ev h K
  |_=>A.fail
 | .clear,[.leaf (.v s)],some t=>match X.C.P.underlying t with
  |some (.slice e)=>match Nat.beq (X.C.P.cellsOf e) 0,ve X.C.P e with
   |false,some z=>A.heap (.fn (clG (X.C.P.cellsOf e) (z.cells.map SL.val) s)) h λ_ h=>setD d .un ev h K
   |_,_=>A.fail
  |_=>A.fail
 | .min,[.leaf (.i k a),.leaf (.i k' b)],_=>match cS k k' with
  |true=>A.cmp .lss b a λt=>A.sel t b a λn=>setD d (.st (.leaf (.i k n))) ev h K
  |false=>A.fail
 | .max,[.leaf (.i k a),.leaf (.i k' b)],_=>match cS k k' with
  |true=>A.cmp .lss a b λt=>A.sel t b a λn=>setD d (.st (.leaf (.i k n))) ev h K
  |false=>A.fail
 |_,_,_=>A.fail
def ku(X:Ctxt)(d:To)(t:TM)(x i:TH)(ev:Env)(h:HT)(K:KN R HT):R:=
 match X.C.P.underlying t with
 |some (.array len e)=>
  let esz:=X.C.P.cellsOf e
  match Nat.beq esz 0,sval ev x,sval ev i,constI i with
  |false,.lad s off,_,some n=>match Nat.blt n len with
   |true=>setD d (.lad s (off+n*esz)) ev h K
   |false=>A.fail
  |false,.gad g off,_,some n=>match Nat.blt n len with
   |true=>setD d (.gad g (off+n*esz)) ev h K
   |false=>A.fail
  |false,.ldx s base ix,_,some n=>match Nat.blt n len with
   |true=>setD d (.ldx s (base+n*esz) ix) ev h K
   |false=>A.fail
  |false,.gdx g base ix,_,some n=>match Nat.blt n len with
   |true=>setD d (.gdx g (base+n*esz) ix) ev h K
   |false=>A.fail
  |false,.lad s off,.st (.leaf (.i _ j)),_=>A.opt (inB len j) λ_=>setD d (.ldx s off [(j,esz)]) ev h K
  |false,.gad g off,.st (.leaf (.i _ j)),_=>A.opt (inB len j) λ_=>setD d (.gdx g off [(j,esz)]) ev h K
  |false,.ldx s base ix,.st (.leaf (.i _ j)),_=>A.opt (inB len j) λ_=>setD d (.ldx s base (ix++[(j,esz)])) ev h K
  |false,.gdx g base ix,.st (.leaf (.i _ j)),_=>A.opt (inB len j) λ_=>setD d (.gdx g base (ix++[(j,esz)])) ev h K
  |false,.st (.leaf (.v p)),.st (.leaf (.i _ j)),_=>A.opt (idP len esz p j) λq=>A.chk q (setD d (.st (.leaf (.v q))) ev h K)
  |_,_,_,_=>A.fail
 |some (.slice e)=>
  let esz:=X.C.P.cellsOf e
  match Nat.beq esz 0,sval ev x,sval ev i with
  |false,.st (.leaf (.v p)),.st (.leaf (.i _ j))=>A.opt (idS esz p j) λq=>setD d (.st (.leaf (.v q))) ev h K
  |_,_,_=>A.fail
 |_=>A.fail
def jZ(X:Ctxt)(d:To)(t:TM)(x:TH)(f:Nat)(ev:Env)(h:HT)(K:KN R HT):R:=
 match X.C.P.underlying t with
 |some (.struct fs)=>match fs[f]? with
  |some fd=>match Nat.beq (X.C.P.cellsOf fd.type) 0,sval ev x with
   |false,.lad s off=>setD d (.lad s (off+fd.offset)) ev h K
   |false,.gad g off=>setD d (.gad g (off+fd.offset)) ev h K
   |false,.ldx s base ix=>setD d (.ldx s (base+fd.offset) ix) ev h K
   |false,.gdx g base ix=>setD d (.gdx g (base+fd.offset) ix) ev h K
   |false,.st (.leaf (.v p))=>A.opt (fdP fd.offset p) λq=>A.chk q (setD d (.st (.leaf (.v q))) ev h K)
   |_,_=>A.fail
  |none=>A.fail
 |_=>A.fail
abbrev _root_.Tb:=FuncId->Option Sig
def opE(X:Ctxt)(Sg:Tb)(o:Oper)(hs:TJ)(ev:Env)(h:HT)(K:KN R HT):R:=
 match o.op with
 | .move x=>match sval ev x with
  | .no=>A.fail
  |y=>setD o.dst y ev h K
 | .assign x=>match sval ev x with
  | .no=>A.fail
  |y=>setD o.dst y ev h K
 | .pick c a b=>match sval ev c,sval ev a,sval ev b with
  | .st (.leaf (.l true)),.st y,_=>setD o.dst (.st y) ev h K
  | .st (.leaf (.l false)),_,.st y=>setD o.dst (.st y) ev h K
  | .st (.leaf (.b t)),.st y,.st z=>A.cond t (setD o.dst (.st y) ev h K) (setD o.dst (.st z) ev h K)
  |_,_,_=>A.fail
 | .alloc t=>match ve X.C.P t with
  |some x=>newV A X o.dst t x ev h K
  |none=>A.fail
 | .box t x=>match sval ev x with
  | .st x=>newV A X o.dst t x ev h K
  |_=>A.fail
 | .build t ps=>match ve X.C.P t,mm X.C.P t,svals ev (ps.toList.map (·.2))with
  |some z,some pl,some xs=>match qM pl z.cells ((ps.toList.map (·.1)).zip xs)with
   |some cs=>setD o.dst (.st (.agg cs)) ev h K
   |none=>A.fail
  |_,_,_=>A.fail
 | .buildSlice t n ps=>match X.C.P.underlying t,svals ev (ps.toList.map (·.2))with
  |some (.slice e),some xs=>match X.C.P.info? e with
   |some info=>match Nat.beq info.size 0||Nat.blt 16777216 (n*info.size),(jc info).bind s0Of with
    |false,some z=>match qM (λi=>some (i*info.size,info.size)) (List.replicate n z.cells).flatten ((ps.toList.map (·.1)).zip xs)with
     |some cs=>A.new (.cells (cs.map SL.val) info.size true) h λm h=>setD o.dst (.st (.leaf (.v (.slice (some ⟨m,0,tag info.size⟩) n (n+1))))) ev h K
     |none=>A.fail
    |_,_=>A.fail
   |none=>A.fail
  |_,_=>A.fail
 | .load t a=>match aggT X.C.P t with
  |some agg=>match eqB agg (iW (lL hs))with
   |true=>loadE A X o.dst (lL hs) agg (if agg then X.C.P.cellsOf t else 1) a ev h K
   |false=>A.fail
  |none=>A.fail
 | .store t a x=>match sval ev x with
  | .st x=>storeE A X o.dst t a x ev h K
  |_=>A.fail
 | .nilCheck x=>match sval ev x with
  | .st (.leaf (.v p))=>A.opt (nilP p) λq=>A.chk q (setD o.dst (.st (.leaf (.v q))) ev h K)
  | .lad s off=>setD o.dst (.lad s off) ev h K
  | .gad s off=>setD o.dst (.gad s off) ev h K
  |_=>A.fail
 | .binOp op t x y _=>match sval0 ev x,sval0 ev y with
  |some a,some b=>binE A X o.dst op t a b ev h K
  |_,_=>A.fail
 | .unOp op _ x=>match op,sval ev x with
  | .not,.st (.leaf (.b t))=>setD o.dst (.st (.leaf (.b (!t)))) ev h K
  | .not,.st (.leaf (.l t))=>setD o.dst (.st (.leaf (.l (!t)))) ev h K
  | .neg,.st (.leaf (.i k n))=>A.ari .sub k 0 n λn=>setD o.dst (.st (.leaf (.i k n))) ev h K
  |_,_=>A.fail
 | .convert sT dT x=>match X.C.P.underlying sT,X.C.P.underlying dT,sval ev x with
  |some (.int _),some (.int k),.st (.leaf (.i _ n))=>A.conv k n λn=>setD o.dst (.st (.leaf (.i k n))) ev h K
  |_,_,_=>A.fail
 | .makeFunc fn first cap=>match fn,svals ev first.toList,svals ev cap.toList with
  | .func g,some a,some b=>A.chk (.func (.func g) ⟨ai a⟩ ⟨ai b⟩) (setD o.dst (.st (.leaf (.v (.func (.func g) ⟨ai a⟩ ⟨ai b⟩)))) ev h K)
  |_,_,_=>A.fail
 | .makeMap t r=>match ni X.C t (r.map λ_=>.int .i64 0),optI ev r with
  |true,some _=>A.new (.map [] 0) h λn h=>setD o.dst (.st (.leaf (.v (.map (some n))))) ev h K
  |_,_=>A.fail
 | .makeSlice t l c=>match X.C.P.underlying t,sval ev l,sval ev c with
  |some (.slice e),.st (.leaf (.i _ l)),.st (.leaf (.i _ c))=>match X.C.P.info? e with
   |some info=>match Nat.beq info.size 0||Nat.blt 4096 info.bytes,(jc info).bind s0Of with
    |false,some z=>A.opt (mkOk l c) λ_=>
      A.new (.cells (bi (z.cells.map SL.val) c.toNat) info.size true) h λn h=>setD o.dst (.st (.leaf (.v (.slice (some ⟨n,0,tag info.size⟩) l.toNat (c.toNat+1))))) ev h K
    |_,_=>A.fail
   |none=>A.fail
  |_,_,_=>A.fail
 | .slice t x lo hi mx=>match X.C.P.underlying t,sval ev x,optI ev lo,optI ev hi,optI ev mx with
  |some (.slice e),.st (.leaf (.v x)),some lo,some hi,some mx=>match Nat.beq (X.C.P.cellsOf e) 0 with
   |true=>A.fail
   |false=>A.opt (slS (X.C.P.cellsOf e) x lo hi mx) λq=>A.chk q (setD o.dst (.st (.leaf (.v q))) ev h K)
  |some (.array _ e),.gad g off,some lo,some hi,some mx=>match Nat.beq (X.C.P.cellsOf e) 0 with
   |true=>A.fail
   |false=>A.opt (cJ X.C t ⟨g,off,some 1⟩ (lo.map (.int .i64)) (hi.map (.int .i64)) (mx.map (.int .i64)) []) λq=>A.chk q (setD o.dst (.st (.leaf (.v q))) ev h K)
  |some (.array n e),.st (.leaf (.v p)),some lo,some hi,some mx=>match Nat.beq (X.C.P.cellsOf e) 0 with
   |true=>A.fail
   |false=>A.peek (.fn (slAG n (X.C.P.cellsOf e) p lo hi mx)) h λcs=>setC A o.dst (.leaf .v) cs ev h K
  |_,_,_,_,_=>A.fail
 | .fieldAddr t x f=>jZ A X o.dst t x f ev h K
 | .indexAddr t x i=>ku A X o.dst t x i ev h K
 | .field t x f=>match X.C.P.underlying t,sval ev x with
  |some (.struct fs),.st (.agg cs)=>match fs[f]? with
   |some fd=>match (aggT X.C.P fd.type).bind (λag=>(cutS cs fd.offset (if ag then X.C.P.cellsOf fd.type else 1)).bind (mkS0 ag))with
    |some x=>setD o.dst (.st x) ev h K
    |none=>A.fail
   |none=>A.fail
  |_,_=>A.fail
 | .index t x i=>match X.C.P.underlying t,sval ev x,sval ev i with
  |some (.array len e),.st (.agg cs),.st (.leaf (.i _ j))=>match aggT X.C.P e with
   |some ag=>match eqB ag (iW (lL hs))&&sa cs (skKs (lL hs)) 0 [(j,X.C.P.cellsOf e)]&&Nat.beq (if ag then X.C.P.cellsOf e else 1) (skKs (lL hs)).length with
    |false=>A.fail
    |true=>A.opt (inB len j) λ_=>A.opt (rr (cs.map SL.lf) 0 [(j,X.C.P.cellsOf e)] (if ag then X.C.P.cellsOf e else 1)) λls=>setL A o.dst (lL hs) ls ev h K
   |none=>A.fail
  |some .string,.st (.leaf (.v (.string s))),.st (.leaf (.i _ j))=>A.opt (strAt s j) λb=>setD o.dst (.st (.leaf (.i .u8 b))) ev h K
  |_,_,_=>A.fail
 | .lookup t m k ok=>match X.C.P.underlying t,sval ev m,sval0 ev k with
  |some (.map kt et),.st (.leaf (.v m)),some k=>match dE X.C.P et with
   |some z=>match hs,ok with
    | [sk],false=>A.peek (.fn (luG X.C kt (iW sk) z m k.val false)) h λcs=>ucS A sk cs λx r=>A.uc0 r (setD o.dst (.st x) ev h K)
    | [sk,.leaf .b],true=>A.peek (.fn (luG X.C kt (iW sk) z m k.val true)) h λcs=>ucS A sk cs λx r=>A.ucB r λt r=>A.uc0 r (setD o.dst (.tup [x,.leaf (.b t)]) ev h K)
    |_,_=>A.fail
   |none=>A.fail
  |_,_,_=>A.fail
 | .mapUpdate t m k v=>match X.C.P.underlying t,sval ev m,sval0 ev k,sval0 ev v with
  |some (.map kt _),.st (.leaf (.v m)),some k,some v=>A.heap (.fn (muG X.C kt m k.val v.val)) h λ_ h=>setD o.dst .un ev h K
  |_,_,_,_=>A.fail
 | .insert t m k v=>match X.C.P.underlying t,sval ev m,sval0 ev k,sval0 ev v with
  |some (.map kt _),.st (.leaf (.v m)),some k,some v=>A.heap (.fn (muG X.C kt m k.val v.val)) h λ_ h=>setD o.dst .un ev h K
  |_,_,_,_=>A.fail
 | .mapEntry t m k=>match X.C.P.underlying t,sval ev m,sval0 ev k with
  |some (.map kt et),.st (.leaf (.v m)),some k=>match dE X.C.P et with
   |some z=>match hs with
    | [sk,.leaf (.i .i64)]=>A.heap (.fn (meG X.C kt (iW sk) z m k.val)) h λcs h=>ucS A sk cs λx r=>A.ucI .i64 r λn r=>A.uc0 r (setD o.dst (.tup [x,.leaf (.i .i64 n)]) ev h K)
    |_=>A.fail
   |none=>A.fail
  |_,_,_=>A.fail
 | .entryStore _ m s v=>match sval ev m,sval ev s,sval0 ev v with
  | .st (.leaf (.v m)),.st (.leaf (.i _ b)),some v=>A.heap (.fn (esG m b v.val)) h λ_ h=>setD o.dst .un ev h K
  |_,_,_=>A.fail
 | .extract t i=>match sval ev t with
  | .tup xs=>match xs[i]? with
   |some x=>setD o.dst (.st x) ev h K
   |none=>A.fail
  |_=>A.fail
 | .call c=>match svals ev c.args.toList with
  |some xs=>match c.callee with
   | .builtin b=>lQ A X o.dst (lL hs) b xs c.argTypes ev h K
   | .value f=>match sval ev f with
    | .st (.leaf (.v v))=>match f with
     | .func g=>match Sg g with
      |some sg=>match bZ xs sg.ps with
       |true=>A.call g (cb xs) h λrs h=>setR A o.dst sg.rs rs ev h K
       |false=>A.fail
      |none=>A.fail
     |_=>A.callv v (ai xs) hs h λrs h=>setR A o.dst hs rs ev h K
    |_=>A.fail
   |_=>A.fail
  |none=>A.fail
 |_=>A.fail
def opG(X:Ctxt)(Sg:Tb)(ops:Tm)(o:Oper)(hs:TJ)(ev:Env)(h:HT)(K:KN R HT):R:=
 match o.guard with
 |none=>opE A X Sg o hs ev h K
 |some (j,want)=>match (ops[j]?).bind (·.dst)with
  |some d=>match ev.tm.getD d .no with
   | .st (.leaf (.l b))=>match b==want with
    |true=>opE A X Sg o hs ev h K
    |false=>setD o.dst .un ev h K
   | .un=>setD o.dst .un ev h K
   | .st (.leaf (.b t))=>match want with
    |true=>A.cond t (setK (.st (.leaf (.l true))) ev.tm d λtm=>opE A X Sg o hs ⟨tm,ev.lc⟩ h K) (setK (.st (.leaf (.l false))) ev.tm d λtm=>setD o.dst .un ⟨tm,ev.lc⟩ h K)
    |false=>A.cond t (setK (.st (.leaf (.l true))) ev.tm d λtm=>setD o.dst .un ⟨tm,ev.lc⟩ h K) (setK (.st (.leaf (.l false))) ev.tm d λtm=>opE A X Sg o hs ⟨tm,ev.lc⟩ h K)
   |_=>A.fail
  |none=>A.fail
abbrev _root_.Tv:=List Oper
def opsE(X:Ctxt)(Sg:Tb)(ops:Tm)(l:Tv):List (TJ)->Env->HT->KN R HT->R:=
 List.rec (motive:=λ_=>List (TJ)->Env->HT->KN R HT->R) (λ_ ev h K=>K ev h)
  (λo _ ih hs ev h K=>opG A X Sg ops o (hs.headD []) ev h λev h=>ih hs.tail ev h K) l
end
namespace Sx
def rI:TH->TH->Bool
 | .tmp a,.tmp b=>Nat.beq a b
 |_,_=>false
def fp(a b:Oper):Bool:=
 match a.op with
 | .lookup t m k false=>(match b.op with
  | .mapEntry t' m' k'=>Nat.beq t t'&&rI m m'&&rI k k'
  |_=>false)
 |_=>false
def ancOf(acc:TB)(o:Oper):Nat:=
 o.after.toList.foldl (λm e=>match Region.binds .any e with
  |true=>Nat.lor (Nat.lor m (Nat.shiftLeft 1 e.on)) (acc.getD e.on 0)
  |false=>m) 0
def ancs:Tv->TB->List Nat
 | [],acc=>acc
 |o :: l,acc=>ancs l (acc++[ancOf acc o])
def adr:Value->List Nat
 | .pointer (some a)=>match a.spot with
  |none=>[a.block]
  |some _=>[]
 | .slice (some a) _ _=>match a.spot with
  |some 1=>[]
  |_=>[a.block]
 | .map (some id)=>[id]
 |_=>[]
def adrP:Value->List Nat
 | .pointer (some a)=>match a.spot with
  |none=>[a.block]
  |some _=>[]
 |_=>[]
def adrM:Value->List Nat
 | .map (some id)=>[id]
 |_=>[]
def cV(pts:TB)(o:Oper):List Operand×Nat:=
 match o.op with
 | .load _ a=>match lI pts a with
  |0=>([a],0)
  |_=>([],0)
 | .store _ a _=>match lI pts a with
  |0=>([a],0)
  |_=>([],0)
 | .slice _ x _ _ _=>([x],1)
 | .lookup _ m _ _=>([m],0)
 | .mapUpdate _ m _ _ | .insert _ m _ _ | .mapEntry _ m _ | .entryStore _ m _ _=>([m],0)
 | .call c=>match c.callee with
  | .builtin b=>match b with
   | .append | .copy=>(c.args.toList,0)
   | .delete | .clear=>(c.args.toList.take 1,0)
   | .len=>(c.args.toList,2)
   |_=>([],0)
  |_=>([],0)
 |_=>([],0)
def adrK:Nat->Value->List Nat
 |0,v=>adr v
 |1,v=>adrP v
 |_,v=>adrM v
def en(pts:TB)(o:Oper):List Operand:=
 match o.op with
 | .store _ a _=>match lI pts a with
  |0=>[a]
  |_=>[]
 | .mapUpdate _ m _ _ | .insert _ m _ _ | .mapEntry _ m _ | .entryStore _ m _ _=>[m]
 | .call c=>match c.callee with
  | .builtin b=>match b with
   | .append | .copy | .delete | .clear=>c.args.toList.take 1
   |_=>[]
  |_=>[]
 |_=>[]
def hCls(pts:TB)(o:Oper):Nat:=
 match o.op with
 | .load _ a=>match lI pts a with
  |0=>1
  |_=>0
 | .store _ a _=>match lI pts a with
  |0=>2
  |_=>0
 | .alloc _ | .box _ _=>match dh pts o with
  |true=>2
  |false=>0
 | .buildSlice _ _ _ | .makeMap _ _ | .makeSlice _ _ _ | .mapUpdate _ _ _ _ | .mapEntry _ _ _ | .entryStore _ _ _ _ | .insert _ _ _ _=>2
 | .lookup _ _ _ _ | .slice _ _ _ _ _=>1
 | .call c=>match c.callee with
  | .builtin b=>match b with
   | .append | .copy | .delete | .clear=>2
   | .len=>1
   |_=>0
  |_=>0
 |_=>0
def conf(pts:TB)(a b:Oper):Bool:=Nat.ble 3 (hCls pts a+hCls pts b) && !fp a b
def sD(pts:TB)(b:Oper)(m i:Nat):Tv->Nat->List (Nat×Nat)
 | [],_=>[]
 |a :: l,k=>match Nat.testBit m k || !conf pts a b with
  |true=>sD pts b m i l (k+1)
  |false=>(k,i) :: sD pts b m i l (k+1)
def vr(pts:TB)(ms:TB):Tv->Tv->Nat->List (Nat×Nat)
 |_,[],_=>[]
 |pre,b :: l,i=>sD pts b (ms.getD i 0) i pre 0++vr pts ms (pre++[b]) l (i+1)
def vt(pts:TB)(ops:Tm):List (Nat×Nat):=vr pts (ancs ops.toList []) [] ops.toList 0
def memN(x:Nat):TB->Bool
 | []=>false
 |y :: l=>match Nat.beq x y with
  |true=>true
  |false=>memN x l
def sA:TB->TB->Bool
 | [],_=>true
 |x :: l,m=>match memN x m with
  |true=>false
  |false=>sA l m
def sepL:List (Value×Nat×Value)->Option Unit
 | []=>some ()
 |p :: l=>match sA (adr p.1) (adrK p.2.1 p.2.2)with
  |true=>sepL l
  |false=>none
def entV:SV->Option (Tl)
 | .st (.leaf (.v x))=>some [x]
 | .no=>none
 |_=>some []
def qE(ev:Env):List Operand->Option (Tl)
 | []=>some []
 |x :: l=>match entV (sval ev x),qE ev l with
  |some a,some b=>some (a++b)
  |_,_=>none
def wOps(pts:TB)(o:Oper):List Operand:=en pts o++match hCls pts o,o.dst with
 |2,some d=>[.tmp d]
 |_,_=>[]
def cross(us:Tl)(k:Nat)(vs:Tl):List (Value×Nat×Value):=us.flatMap λu=>vs.map λv=>(u,k,v)
def sepOne(pts:TB)(ev:Env)(a b:Oper):Option (List (Value×Nat×Value)):=
 match qE ev (wOps pts a),qE ev (wOps pts b),qE ev (cV pts a).1,qE ev (cV pts b).1 with
 |some wa,some wb,some fa,some fb=>some (cross wa (cV pts b).2 fb++cross wa 0 wb++cross wb (cV pts a).2 fa)
 |_,_,_,_=>none
def rJ(pts:TB)(ops:Tm)(ev:Env):List (Nat×Nat)->Option (List (Value×Nat×Value))
 | []=>some []
 |p :: l=>match ops[p.1]?,ops[p.2]?,rJ pts ops ev l with
  |some a,some b,some r=>(sepOne pts ev a b).map λx=>x++r
  |_,_,_=>none
def sepK{R HT:Type}(A:Alg R HT)(pts:TB)(ops:Tm)(ps:List (Nat×Nat))(kn:KN R HT):KN R HT:=
 match ps with
 | []=>kn
 |ps=>λev h=>match rJ pts ops ev ps with
  |some l=>A.opt (sepL l) λ_=>kn ev h
  |none=>A.fail
def splOf:List (Nat×Nat)->Option (Nat×Nat)
 | []=>none
 |p :: l=>match l with
  | []=>match Nat.ble 1000 p.1 with
   |true=>some (p.1 - 1000,p.2)
   |false=>none
  |_=>none
def eqFn(x y:Value):Option Unit:=match x with
 | .func (.yield l) a b=>match y with
  | .func (.yield m) c d=>match Nat.beq l m,a.toList,b.toList,c.toList,d.toList with
   |true,[],[],[],[]=>some ()
   |_,_,_,_,_=>none
  |_=>none
 |_=>none
def entF:SV->Option Value
 | .st (.leaf (.v x))=>some x
 |_=>none
def reK{R HT:Type}(A:Alg R HT)(X:Ctxt)(Sg:Tb)(ops:Tm)(k:Nat)(hs:TJ)(ev:Env)(h:HT)(kn:KN R HT):R:=
 match ops[k]? with
 |some o=>match o.dst with
  |some d=>opG A X Sg ops o hs ev h λev' _=>match entF (ev.tm.getD d .no),entF (ev'.tm.getD d .no)with
   |some x,some y=>A.opt (eqFn x y) λ_=>kn ev h
   |_,_=>A.fail
  |none=>A.fail
 |none=>A.fail
def regE{R HT:Type}(A:Alg R HT)(X:Ctxt)(Sg:Tb)(ops:Tm)(hs:List (TJ))(ps:List (Nat×Nat))(ev:Env)(h:HT)(kn:KN R HT):R:=
 match splOf ps with
 |none=>opsE A X Sg ops ops.toList hs ev h (sepK A X.pts ops ps kn)
 |some p=>opsE A X Sg ops (ops.toList.take (p.2+1)) hs ev h λev h=>reK A X Sg ops p.1 (hs.getD p.1 []) ev h λev h=>
  opsE A X Sg ops (ops.toList.drop (p.2+1)) (hs.drop (p.2+1)) ev h kn
end Sx
abbrev Dr:=List Nat->Tm->Option (List (Nat×Nat))
section
variable {R HT:Type} (A:Alg R HT)
def sI(e:Exit)(id:Nat):Bool:=match e with
 | .exit i=>Nat.beq i id
 |_=>false
def mz(tm:List SV):List (Nat×SK)->Option (Tl)
 | []=>some []
 |(t,sk) :: l=>match tm.getD t .no,mz tm l with
  | .st x,some vs=>match x.is sk with
   |true=>some (x.val :: vs)
   |false=>none
  |_,_=>none
def drX(dr:Dr)(draw:Bool)(pts:TB)(ops:Tm):Option (List (Nat×Nat)):=match draw with
 |true=>dr pts ops
 |false=>some []
def exec(X:Ctxt)(Sg:Tb)(dr:Dr)(c:AC):Env->HT->KN R HT->(Exit->KN R HT)->R:=
 AC.rec (motive:=λ_=>Env->HT->KN R HT->(Exit->KN R HT)->R)
  (λev h kn _=>kn ev h)
  (λev h _ kx=>kx .ret ev h)
  (λid ev h _ kx=>kx (.exit id) ev h)
  (λ_ ev h kn _=>kn ev h)
  (λ_ _ iha ihb ev h kn kx=>iha ev h (λev h=>ihb ev h kn kx) kx)
  (λ_ ih ev h kn kx=>ih ev h kn kx)
  (λid ops draw hs j ev h kn _=>match drX dr draw X.pts ops with
   |none=>A.fail
   |some ps=>sX A X.pts (.region id ops draw) j ev kn λkn=>Sx.regE A X Sg ops hs ps ev h kn)
  (λc a b j iha ihb ev h kn kx=>match sval ev c with
   | .st (.leaf (.l true))=>iha ev h kn kx
   | .st (.leaf (.l false))=>ihb ev h kn kx
   | .st (.leaf (.b t))=>sX A X.pts (.cond c (a.erase λκ t=>fc (X.T κ) t) (b.erase λκ t=>fc (X.T κ) t)) j ev kn λkn=>A.cond t (iha ev h kn kx) (ihb ev h kn kx)
   |_=>A.fail)
  (λid b j ih ev h kn kx=>sX A X.pts (b.erase λκ t=>fc (X.T κ) t) j ev kn λkn=>ih ev h kn λe=>match sI e id with
   |true=>kn
   |false=>kx e)
  (λb lv ih ev h _ kx=>match pk ev lv with
   |none=>A.fail
   |some ls=>match lv.rows.all λp=>!(aO X.pts (b.erase λκ t=>fc (X.T κ) t)).contains p.1 with
    |false=>A.fail
    |true=>A.loop (λself ls h=>reE A X.pts (b.erase λκ t=>fc (X.T κ) t) .nil lv ev ls λev=>ih ev h (λev h=>match pk ev lv with
     |some ls=>self ls h
     |none=>A.fail) kx) ls h)
  (λf κ ids ev h kn kx=>match f,sval ev f,X.pts with
   | .tmp _,.st (.leaf (.v v)),_ :: _=>match Nat.beq ev.tm.length (X.T κ).nt,mz ev.tm (X.T κ).caps with
    |true,some vs=>A.rfun κ v vs h λpd h=>A.pend pd (kn ev h) (kx .ret ev h) (ids.map λid=>(id,kx (.exit id) ev h))
    |_,_=>A.fail
   |_,_,_=>A.fail) c
def chkAll(cs:List SL)(K:R):R:=
 List.rec K (λc _ ih=>match c with
  | .v x=>A.opt (chk2 x) λ_=>ih
  |_=>ih) cs
def gf(many:Bool)(x:S0)(K:R):R:=
 match many,x with
 |true,.agg cs=>chkAll A cs K
 |_,_=>K
def resE(X:Ctxt)(many:Bool)(ev:Env)(h:HT)(rvs:List ResultVar):TJ->TE->(TE->HT->R)->R:=
 List.rec (motive:=λ_=>TJ->TE->(TE->HT->R)->R) (λsks acc K=>match sks with
   | []=>K acc h
   |_=>A.fail)
  (λrv _ ih sks acc K=>match sks with
   | []=>A.fail
   |sk :: sks=>match rv with
    | .tmp t=>match ev.tm.getD t .no with
     | .st x=>match x.is sk with
      |true=>gf A many x (ih sks (acc++x.cells.map SL.lf) K)
      |false=>A.fail
     |_=>A.fail
    | .cell a t=>match aggT X.C.P t with
     |some agg=>
      let n:=if agg then X.C.P.cellsOf t else 1
      match ev.tm.getD a .no with
      | .lad s off=>match (rF ev s).bind (λcs=>(cutS cs off n).bind (mkS0 agg))with
       |some x=>match x.is sk with
        |true=>gf A many x (ih sks (acc++x.cells.map SL.lf) K)
        |false=>A.fail
       |none=>A.fail
      | .st (.leaf (.v p))=>match agg,sk with
       |true,.agg _=>A.peek (.ld n p) h λcs=>ucS A sk cs λx r=>A.uc0 r (gf A many x (ih sks (acc++x.cells.map SL.lf) K))
       |false,.leaf _=>A.peek (.ld n p) h λcs=>ucS A sk cs λx r=>A.uc0 r (gf A many x (ih sks (acc++x.cells.map SL.lf) K))
       |_,_=>A.fail
      |_=>A.fail
     |none=>A.fail) rvs
structure Fn1 where
 sg:Sig
 nt:Nat
 rvs:List ResultVar
 code:AC
def aF(X:Ctxt)(Sg:Tb)(dr:Dr)(fn:Fn1)(ls:TE)(h:HT)(K:TE->HT->R):R:=
 unSs A fn.sg.ps ls λxs r=>A.un0 r (
  exec A X Sg dr fn.code ⟨xs.map .st++List.replicate (fn.nt - xs.length) .no,List.replicate fn.nt .nil⟩ h
   (λev h=>resE A X (Nat.blt 1 fn.rvs.length) ev h fn.rvs fn.sg.rs [] K)
   λe ev h=>match e with
    | .ret=>resE A X (Nat.blt 1 fn.rvs.length) ev h fn.rvs fn.sg.rs [] K
    |_=>A.fail)
def eT(nt:Nat):List (Nat×SK)->List S0->List SV->List SV
 |(t,_) :: l,x :: xs,tm=>eT nt l xs (tm.set t (.st x))
 |_,_,tm=>tm
def noRF:AC->Bool
 | .seq a b=>noRF a&&noRF b
 | .scope b=>noRF b
 | .cond _ a b _=>noRF a&&noRF b
 | .block _ b _=>noRF b
 | .loop b _=>noRF b
 | .rangeFunc _ _ _=>false
 |_=>true
def qY(l:List (Nat×SK)):Bool:=l.all λp=>match p.2 with
 | .leaf _=>true
 | .agg _=>false
def xh(X:Ctxt)(Sg:Tb)(dr:Dr)(st:Site)(vs:Tl)(l:Nat)(ls:TE)(h:HT)(K:TE->HT->R):R:=
 match qY st.caps&&noRF st.assign&&noRF st.body with
 |false=>A.fail
 |true=>ucSs A (st.caps.map (·.2)) vs λxs r=>A.uc0 r (unSs A (st.params.map (·.2)) ls λys r=>A.un0 r (
  exec A { X with pts:=[] } Sg dr st.assign ⟨eT st.nt st.params ys (eT st.nt st.caps xs (List.replicate st.nt .no)),[]⟩ h
   (λev h=>A.lp1 l h λh=>exec A { X with pts:=[] } Sg dr st.body ev h
    (λ_ h=>A.lp2 l none h λh=>K [.b true] h)
    λe _ h=>match e with
     | .ret=>A.lp2 l (some .ret) h λh=>K [.b false] h
     | .exit id=>A.lp2 l (some (.exit id)) h λh=>K [.b false] h
     |_=>A.fail)
   λ_ _ _=>A.fail))
end
inductive An where
 |r (hs:List (TJ)) (j:Option Live)
 |c (j:Option Live)
 |b (j:Option Live)
 |l (lv:Live)
 |f (κ:Nat) (ids:TB)
abbrev lv:SK:=.leaf .v
abbrev lb:SK:=.leaf .b
abbrev li:SK:=.leaf (.i .i64)
def sd:Code->List An->AC×List An
 | .skip,l=>(.skip,l)
 | .ret,l=>(.ret,l)
 | .exit id,l=>(.exit id,l)
 | .label n,l=>(.label n,l)
 | .seq a b,l=>
  let x:=sd a l
  let y:=sd b x.2
  (.seq x.1 y.1,y.2)
 | .scope b,l=>
  let x:=sd b l
  (.scope x.1,x.2)
 | .region id ops draw,.r hs j :: l=>(.region id ops draw hs j,l)
 | .cond c a b,.c j :: l=>
  let x:=sd a l
  let y:=sd b x.2
  (.cond c x.1 y.1 j,y.2)
 | .block id b,.b j :: l=>
  let x:=sd b l
  (.block id x.1 j,x.2)
 | .loop b,.l lv :: l=>
  let x:=sd b l
  (.loop x.1 lv,x.2)
 | .rangeFunc f _ _ _,.f κ ids :: l=>(.rangeFunc f κ ids,l)
 |_,l=>(.exit 1000000,l)
def codeOf(P:TF)(f:TN):Code:=((P.funcs[f]?).bind (·.body)).getD .skip
def fn1(P:TF)(f:TN)(sg:Sig)(an:List An):Fn1:=
 match P.funcs[f]? with
 |some fn=>⟨sg,fn.ntmps,fn.results.toList,(sd (codeOf P f) an).1⟩
 |none=>⟨sg,0,[],.skip⟩
abbrev g00:SK:=.agg [.i .i64,.i .i64,.i .u8]
abbrev g01:SK:=.leaf (.i .u8)
abbrev g02:SK:=.agg [.i .i64,.i .i64]
abbrev g03:SK:=.agg [.i .u8,.i .i64,.i .i64]
abbrev g04:SK:=.agg [.i .i64,.i .u8,.i .u8]
abbrev g05:SK:=.agg [.i .i64,.i .i64,.i .i64,.i .i64]
abbrev g06:SK:=.agg [.i .i64,.i .i64,.v]
abbrev g07:SK:=.agg [.i .i64,.i .u8]
abbrev g08:SK:=.agg [.i .u8,.i .i64]
abbrev g09:SK:=.leaf (.i .u64)
abbrev g010:SK:=.agg [.i .i64,.i .i64,.i .u8,.i .i64,.b,.b,.b,.b,.b,.b,.b,.b,.b,.b,.b,.b]
abbrev g011:SK:=.agg [.i .u8,.i .u8,.v]
abbrev g012:SK:=.agg [.b,.b,.b,.b,.b,.b,.b,.b,.b,.b,.b,.b]
abbrev g013:SK:=.agg [.i .i64,.i .i64,.i .u8,.i .i64,.i .i64,.i .i64,.i .u8,.i .i64,.i .i64,.i .u8,.i .i64,.i .i64,.i .u8,.i .i64,.i .i64,.i .i64,.i .i64]
abbrev r0r:An:=.r [] none
abbrev c0c:An:=.c none
abbrev b0b:An:=.b none
abbrev rN(x:List (TJ)):An:=.r x none
open Go.Proofs
def gl2:Tl:=[.int .i64 1,.int .i64 0,.int .i64 0,.int .i64 1,.int .i64 0,.int .i64 (-1),.int .i64 1,.int .i64 0,.int .i64 (-1),.int .i64 0,.int .i64 0,.int .i64 (-1),.int .i64 0,.int .i64 1,.int .i64 (-1),.int .i64 0,.int .i64 (-1),.int .i64 0,.int .i64 0,.int .i64 1,.int .i64 0,.int .i64 (-1),.int .i64 (-1),.int .i64 0,.int .i64 1,.int .i64 0,.int .i64 0,.int .i64 (-1),.int .i64 0,.int .i64 1,.int .i64 1,.int .i64 0]
def gl3:Tl:=[.int .i64 0,.int .i64 (-1),.int .u8 2,.int .i64 0,.int .i64 0,.int .i64 (-1),.int .u8 2,.int .i64 0,.int .i64 0,.int .u8 1,.int .i64 0,.int .i64 0,.int .u8 3,.int .i64 0,.int .i64 0,.int .i64 2,.int .i64 0,.int .i64 1,.int .i64 0,.int .u8 1,.int .i64 1,.int .i64 1,.int .i64 0,.int .u8 3,.int .i64 0,.int .i64 0,.int .u8 0,.int .i64 0,.int .i64 0,.int .u8 2,.int .i64 2,.int .i64 2,.int .i64 2,.int .i64 0,.int .i64 0,.int .i64 1,.int .u8 2,.int .i64 1,.int .i64 0,.int .i64 1,.int .u8 0,.int .i64 0,.int .i64 0,.int .u8 3,.int .i64 0,.int .i64 0,.int .u8 1,.int .i64 2,.int .i64 2,.int .i64 0,.int .i64 2,.int .i64 (-1),.int .i64 0,.int .u8 1,.int .i64 0,.int .i64 (-1),.int .i64 0,.int .u8 1,.int .i64 0,.int .i64 0,.int .u8 2,.int .i64 0,.int .i64 0,.int .u8 0,.int .i64 0,.int .i64 0,.int .i64 0,.int .i64 2]
def gl1:Tl:=[.int .i64 1,.int .i64 0,.int .i64 0,.int .i64 1,.int .i64 (-1),.int .i64 0,.int .i64 0,.int .i64 (-1)]
def gl0:Tl:=[.slice (some ⟨1000000,0,some 1⟩) 1 0,.slice (some ⟨1000001,0,some 1⟩) 3 0,.slice (some ⟨1000002,0,some 1⟩) 2 0,.slice (some ⟨1000003,0,some 1⟩) 3 0]
def gl4:Tl:=[.int .u8 1]
def gl5:Tl:=[.int .u8 2,.int .u8 4,.int .u8 1]
def gl6:Tl:=[.int .u8 2,.int .u8 1]
def gl7:Tl:=[.int .u8 2,.int .u8 3,.int .u8 1]
def glx(g:Nat):Option (Tl):=match Nat.beq g 1000000,Nat.beq g 1000001,Nat.beq g 1000002,Nat.beq g 1000003 with
 |true,_,_,_=>some gl4
 |_,true,_,_=>some gl5
 |_,_,true,_=>some gl6
 |_,_,_,true=>some gl7
 |_,_,_,_=>none
def ptsTab:List (TB):=[
 [],
 [],
 [0],
 [0,3,0,0,0,0,8],
 [0,0,0,0,6,7,0,0,0,11,0,0,0,0,0,0,0,0,0,0,0,0,0,0,0,7,0,0,0,0,0,0,0,0,0,0,0,0,0,0,0,0,0,0,0,0,0,0,0,0,0,0,0,0,0,0,0,0,0,0,0,0,0,0,0,0,0,0,0,0,0,0,0,0,0,0,0,0,0,0,0,0,0,0,0,0,0,0,0,0,0,0,0,0,0,0,0,0,0,0,0,0,0,0,0,0,0,0,0,0,0,0,0,0,0,0,7,0,0,0,0,0,7,7,0,0,0,0,7,0,0,0,0,0,0,0,7,0,7],
 [0,3,0,0,0,7,3,0,0,0,0,3,0,0,0,0,0,0,0,3,0,0,0,0,0,0,0,0,0,0,0,0,0,0,0,3,0,0,0,0,0,0,0,0,0,0,0,3,0,0,0,0,0,0,7,0,0,7,0,0,7,0,0,7,0,0,7,0,0,7,0,0,7,0,0,7],
 [0],
 [0,0,0,5],
 [0,0,0,0,0,7,0,0,0,0,0,0,0,0,0,0,0,0,0,0,0,0,0,0,0,0,0,7,0,0,0,0,0,0,0,0,0,0,0,0,0,0,0,0,0,0,7,0,0,0,0,0,0,0,0,0,7],
 [0],
 [0],
 [0,0,0,0,6,0,0,0,0,0,0,0,0,0,0,17,6,0,6],
 [0,0,0,0,0,0,0,0,10],
 [0],
 [0,0,0,0,0,0,0,0,10],
 [0,0,0,0,0,0,0,0,0,11,0,0,0,15,0,0,0,0,0,0,22,0,24,0,0,0,0,0,0,0,0,0,0,0,0,0,0,0,0,0,0,0,11,0,0,0,0,0,0,0,0,0,0,0,0,0,0,0,0,0,0,0,15,0,15,0,0,0,0,0,0,0,0,0,0,0,0,0,0,0,0,0,0,0,0,0,15,15,0,15,15,0,15,0,0,0,0,0,0,0,0,0,0,0,0,0,0,0,0,0,0,15,0,0,0,0,0,0,15,0,0,0,0,0,0,0,0,0,0,0,24],
 [0],
 [0],
 [0,0,0,5],
 [0,0,4,5,0,4,0,5,0,0,4,0,5,0,0,4,0,5,0,0,4,0,5,0,0,4,0,5],
 [0,0,0,0,0,7,0,0,0,0,0,0,0,0,7,0,7],
 [0,0,0,0,0,0,8,0,10,0,0,0,0,0,0,0,0,0,0,0,0,0,0,0,0,0,0,0,0,0,1,0,0,0,0,0,0,0,0,0,0,0,0,0,0,0,1],
 [0,0,4,0,6,4,0,0,1,1,0,0,4,0,0,1,1],
 [0],
 [0,0,0,0,0,0,0,0,0,11],
 [0,0,0,5],
 [0],
 [0],
 [0],
 [0],
 [0,0,4,5,0,4,0,5,0,0,4,0,5,0,0,4,0,0,5],
 [0,0,0,5],
 [0],
 [0,0,0,0,6],
 [0],
 [0],
 [0,0,0,0,6,0,8],
 [0],
 [0,0,0,5],
 [0],
 [0],
 [0],
 [0,3],
 [0,3,0,3,0,0,0,3,0,0,0,0,3,0,0,0,0,3,0,0,0,0,3],
 [0,0,0,0,6,0,0,0,0,0,0,0,6,0,6],
 [0],
 [0],
 [0,0,4,0,0,0,8,0,0,0,0,0,0,0,0,0,0,0,0,0,0,0,0,0,0,0,0,0,0,0,0,8,0,0,0,0,0,0,0,0,0,0,0,0,8,0,0,0,0,0,0,0,0,8,0,0,0,0,0,0,0,0,8,0,0,0,0,0,0,0,8,0,0,0,0,0,0,0,0,0,0,0,0,8,0,0,0,8,0,0,8,0,0,8],
 [2],
 [0,3,4,0,0,0,0,0,3,0,0,0,3,0,0,0,0,0,3,0,0,0,0,0,3,0,3,0,0,3,0,0,3],
 [0,0,4,5],
 [0],
 [0],
 [0],
 [0],
 [0],
 [0],
 [0],
 [0],
 [0],
 [0,0,4,5,0,4,0,5,0,0,0,4,0,0,0,5],
 [0],
 [0,3,0,3,0,0,0,3,0,0,0,0,3,0,0,0,0,3],
 [0,0,4,5,0,0,0,0,0,0,0,0,14,15,0,0,0,0,0,0,0,0,0,0,0,0,0,0,0,0,0,0,0,0,0,0,0,0,0,0,0,0,4],
 [0],
 [0],
 [0],
 [0],
 [0],
 [0,3,0,0,0,7,8,0,0,3,0,0,0,0,0,3,0,0,3,0,0,0,0,0,0,0,3,0,7,0,7,0,0,0,0,0,0,0,0,0,0,0,0,0,0,3,0,0,0,0,0,3,0,0,0,0,0,0,3],
 [0,3,0,3,0,0,0,0,3,0,0,0,0,3,0,0,0,0,3,0,3],
 [0,0,0,0,0,0,0,0,0,0,0,0,0,15],
 [0,0,4,0,6],
 [0,0,4,5,6,0,0,0,0,0,0,0,0,0,0,0,0,0,5,0,1,0,4,0,4,0,0,0,0,4,0,1,0,5,0,1,0,0,0,0,5,0,0,0,5],
 [0,0,4,5,6,0,8],
 [0],
 [0],
 [0],
 [0],
 [0],
 [0],
 [0],
 [0],
 [],
 [0],
 [],
 [0],
 [0],
 [0],
 [0],
 [0],
 [0],
 [0],
 [0],
 [0,3,0,3,0,0,0,3,0,0,0,0,3,0,0,0,0,3,0,0,0,0,3,0,3],
 [0],
 [0,3,0,3],
 [0],
 [0,0,0,5,0,0,8],
 [0,3,4,3,0,3],
 [0,0,4,5,0,4,0,5,0,0,4,0,5,0,0,4,0,0,5],
 [0],
 [0,3,0,0,0,7,3,0,0,0,3,0,0,0,0,0,0,0,7,0,7],
 [0,3,0,0,0,0,3,0,0,3],
 [0,0,0,0,0,0,0,9,10,0,12,0,14,0,16],
 [0,0,4,5,6,0,8,0,0,0,0,0,0,0,0,0,0,0,0,5],
 [0,0,0,5,0,0,0,0,10,0,12],
 [0,0,4,0,0,0,0,0,0,4,0,0,4],
 [0,0,4,0,6,0,0,4,0,0,0,0,4],
 [0,0,0,5,0,0,0,0,5,0,0,0,5,0,0,0,0,5,0,0,0,5],
 [0,3,4],
 [0,3,0,0,6],
 [0,0,4,5,6,0,0,0,0,0,0,4,0,4,0,0,0,0,0,0,4,0,4],
 [0,0,4,5,6,7,8,9,0,11,0,0,5,0,1,1,0,0,0,0,0,0,0,4,4,0,0,0,0,0,0,7,0,7,0,0,0,0,7,0,7,0,0,0,0,0,0,0,0,0,0,11,0,0,0,0,0,9],
 [],
 [],
 [],
 [],
 [],
 [],
 [],
 [],
 [0],
 [0,0,4,5,6,0,0,9,0,0,0,0,0,0,0,0,0,5,0,5,0,0,0,0,0,0,0,0,0,0,0,0,0,5],
 [0,0,4,0,6,0,8,9,0,0,0,0,0,0,0,0,4,0,1,0,8,0,4,0,8,0,0,0,0,0,0,4,0,4,0,0,0,0,0,0,0,4,0,4,0,0,0,0,8,0,0,4,0,8,0,0,9],
 [0,0,4,0,6,0,8,0,0,0,0,0,0,0,0,4,0,0,1,1,1,0,8,0,4,0,0,8,0,4,0,0,8,8],
 [0,0,4,5,0,0,0,0,0,0,0,0,0,0,0,0,5,0,0,0,0,5,0,4,0,0,0,0,5,0,0,0,0,5,0,4,0,0,0,5,0,4,0,0,5,0,0,0,5],
 [0,3,4,3,0,0,0,3],
 [0,0,4,5,6,0,0,0,10,0,0,0,0,0,0,0,0,0,0,4,0,1,0,5,0,5,0,0,0,0,0,4,0,0,0,0,4],
 [],
 [],
 [0,3,0,3,0,0,0,3,0,0,0,0,3,0,0,0,0,3],
 [],
 [],
 [],
 [],
 [],
 [],
 [],
 [],
 [],
 [],
 [],
 [],
 [],
 [],
 [],
 [],
 [],
 [],
 [],
 [],
 [],
 [],
 [],
 [],
 []]
def cc:Cfg where
 P:=Tryz.prog
 G:=λg=>match g with
  |2=>some gl2
  |3=>some gl3
  |1=>some gl1
  |0=>some gl0
  |g=>glx g
 opq:=λf=>Nat.beq f 40
 pts:=λf=>ptsTab.getD f []
def ab:TN->Option Sig
 |2=>some ⟨[],[]⟩
 |3=>some ⟨[g011],[lb]⟩
 |4=>some ⟨[lv,g011,.agg [.v,.i .i64,.i .i64,.i .u8]],[lb]⟩
 |5=>some ⟨[g011],[lv]⟩
 |6=>some ⟨[lv],[lv]⟩
 |7=>some ⟨[lv],[lv,g00,li]⟩
 |8=>some ⟨[lv,lv,g00],[lb,li]⟩
 |9=>some ⟨[lv],[li,li]⟩
 |10=>some ⟨[lv],[li,li]⟩
 |11=>some ⟨[lv,g00,lv],[lv,lb]⟩
 |12=>some ⟨[],[lb]⟩
 |13=>some ⟨[lv],[li]⟩
 |14=>some ⟨[lv],[li]⟩
 |15=>some ⟨[lv],[li,li]⟩
 |16=>some ⟨[lv],[li]⟩
 |17=>some ⟨[lv],[li]⟩
 |18=>some ⟨[lv,g00],[lb]⟩
 |19=>some ⟨[g00,g00],[lb]⟩
 |20=>some ⟨[lv],[lv]⟩
 |21=>some ⟨[g00,lv,lv,lv,lv,lv],[]⟩
 |22=>some ⟨[g00,li],[g00]⟩
 |23=>some ⟨[lv],[lv]⟩
 |24=>some ⟨[lv],[lv,li]⟩
 |25=>some ⟨[lv,g00],[lb]⟩
 |26=>some ⟨[lv,lv],[lb]⟩
 |27=>some ⟨[g01],[lb]⟩
 |28=>some ⟨[lv],[lv]⟩
 |29=>some ⟨[lv],[lb]⟩
 |30=>some ⟨[g00,g00],[li]⟩
 |31=>some ⟨[lv,g00],[li]⟩
 |32=>some ⟨[lv,lb],[lb]⟩
 |33=>some ⟨[g00,lv,lv,lv],[]⟩
 |34=>some ⟨[lv,lv],[lb]⟩
 |35=>some ⟨[g01],[lb]⟩
 |36=>some ⟨[lv],[lv,li]⟩
 |37=>some ⟨[lv],[lv,li]⟩
 |38=>some ⟨[lv,g00],[lb]⟩
 |39=>some ⟨[lv,lv],[lb]⟩
 |40=>some ⟨[lv],[lv]⟩
 |41=>some ⟨[lv,lv],[lb]⟩
 |42=>some ⟨[g00],[lb]⟩
 |43=>some ⟨[g00],[li]⟩
 |44=>some ⟨[lv],[li]⟩
 |45=>some ⟨[lv,lb],[li]⟩
 |46=>some ⟨[lv,lv],[li]⟩
 |47=>some ⟨[lv],[g06,li]⟩
 |48=>some ⟨[],[g03]⟩
 |49=>some ⟨[g08],[g03,li]⟩
 |50=>some ⟨[g06,g03],[lv,li]⟩
 |51=>some ⟨[lv],[lv]⟩
 |52=>some ⟨[lv,lv],[]⟩
 |53=>some ⟨[lv],[lv]⟩
 |54=>some ⟨[lv],[lv]⟩
 |55=>some ⟨[lv,g01],[lv]⟩
 |56=>some ⟨[lv],[lv]⟩
 |57=>some ⟨[lv,lv],[li]⟩
 |58=>some ⟨[li,li],[li]⟩
 |59=>some ⟨[lv,lv],[]⟩
 |60=>some ⟨[g04,g04],[li]⟩
 |61=>some ⟨[lv],[lv]⟩
 |62=>some ⟨[g08],[li]⟩
 |63=>some ⟨[g06,g03],[lv,lv,li]⟩
 |64=>some ⟨[lv,li,li,li,lv],[]⟩
 |65=>some ⟨[g09],[li]⟩
 |66=>some ⟨[lv],[]⟩
 |67=>some ⟨[li],[lb]⟩
 |68=>some ⟨[lv,li,li,li,lv],[]⟩
 |69=>some ⟨[g06],[li]⟩
 |70=>some ⟨[g03],[li]⟩
 |71=>some ⟨[g06],[lv,li]⟩
 |72=>some ⟨[g02,li],[g00,li]⟩
 |73=>some ⟨[g03,g03],[g03,li]⟩
 |74=>some ⟨[g03,g00],[g00,li]⟩
 |75=>some ⟨[lv,li,li,lv],[]⟩
 |76=>some ⟨[lv,li,li,lv],[]⟩
 |77=>some ⟨[lv,li,li,lv],[]⟩
 |78=>some ⟨[lv,li,li,lv],[li,li]⟩
 |79=>some ⟨[lv,li,li,lv],[]⟩
 |80=>some ⟨[lv,li,li,lv],[lb]⟩
 |81=>some ⟨[lv,li,li,li,lv],[li]⟩
 |82=>some ⟨[lv,li,li,li,lv],[li,lb]⟩
 |84=>some ⟨[g09],[li]⟩
 |86=>some ⟨[lv,li,li,lv],[]⟩
 |87=>some ⟨[lv,li,li,lv],[]⟩
 |88=>some ⟨[lv,li,li,lv],[]⟩
 |89=>some ⟨[lv,li,li,lv],[li,li]⟩
 |90=>some ⟨[lv,li,li,lv],[]⟩
 |91=>some ⟨[lv,li,li,lv],[lb]⟩
 |92=>some ⟨[lv,li,li,li,lv],[li]⟩
 |93=>some ⟨[lv,li,li,li,lv],[li,lb]⟩
 |94=>some ⟨[g02],[li]⟩
 |95=>some ⟨[lv,lv],[lb]⟩
 |96=>some ⟨[g04],[lb]⟩
 |97=>some ⟨[g01],[lb]⟩
 |98=>some ⟨[g02,li,g01],[g07,li]⟩
 |99=>some ⟨[g04],[g07]⟩
 |100=>some ⟨[g07,g07],[li]⟩
 |101=>some ⟨[li],[lb]⟩
 |102=>some ⟨[g06],[lv]⟩
 |103=>some ⟨[g02],[li]⟩
 |104=>some ⟨[li,g01,lv,lv,lv],[g03]⟩
 |105=>some ⟨[g02,g07],[g08,li]⟩
 |106=>some ⟨[g02,li,g01],[li,li]⟩
 |107=>some ⟨[g02,li],[lb]⟩
 |108=>some ⟨[g02,li],[g00]⟩
 |109=>some ⟨[g05,li,li],[li,li]⟩
 |110=>some ⟨[g03],[g03,li]⟩
 |111=>some ⟨[g05],[g01]⟩
 |112=>some ⟨[g05,g05],[g05]⟩
 |113=>some ⟨[g03,g00],[g00]⟩
 |122=>some ⟨[lv,lv],[li]⟩
 |123=>some ⟨[g02,g07],[g00,li]⟩
 |124=>some ⟨[g00,g01],[g08,li]⟩
 |125=>some ⟨[g00,g01],[g00,li]⟩
 |126=>some ⟨[g02,g00],[li,li]⟩
 |127=>some ⟨[g00],[g02]⟩
 |128=>some ⟨[g03,g02],[g02,li]⟩
 |131=>some ⟨[g02],[li]⟩
 |_=>none
def an4:List An:=[r0r,rN [[],[],[],[],[],[lv]],c0c,r0r,r0r,r0r,.c (some ⟨[(7,li)],[]⟩),r0r,r0r,r0r,r0r,r0r,r0r,c0c,r0r,r0r,.c (some ⟨[],[]⟩),r0r,r0r,.c (some ⟨[],[]⟩),r0r,rN [[g011]],rN [[],[lv]],rN [[],[],[],[],[],[g01],[],[],[],[],[g00]],.c (some ⟨[(18,li)],[]⟩),r0r,rN [[],[],[lv],[],[g00]],.r [] (some ⟨[(6,lb)],[]⟩)]
def an5:List An:=[r0r,rN [[],[g01],[],[],[],[],[g01]],r0r,.b (some ⟨[(3,lv)],[]⟩),.l ⟨[(3,lv),(4,li)],[]⟩,rN [[],[],[lv]],c0c,b0b,rN [[],[],[lv],[],[],[],[g01],[],[],[],[],[],[g00]],rN [[],[lv],[],[],[],[g01]],b0b,r0r,.c (some ⟨[],[(5,[.i .i64,.i .i64,.i .u8])]⟩),rN [[],[li]],r0r,.c (some ⟨[],[(5,[.i .i64,.i .i64,.i .u8])]⟩),rN [[],[li]],r0r,.c (some ⟨[],[(5,[.i .i64,.i .i64,.i .u8])]⟩),rN [[],[li]],rN [[],[li]],rN [[],[g00]],.c (some ⟨[(3,lv)],[]⟩),rN [[],[g00]],r0r,r0r]
def an6:List An:=[r0r,r0r,r0r,b0b,.l ⟨[(3,lv),(4,li)],[]⟩,r0r,c0c,b0b,r0r,b0b,.l ⟨[(3,lv),(5,g01)],[]⟩,r0r,c0c,b0b,rN [[],[],[],[],[],[li],[],[],[],[],[li]],r0r,r0r,r0r,b0b,.l ⟨[(6,li)],[]⟩,r0r,c0c,b0b,r0r,.b (some ⟨[],[]⟩),.l ⟨[(7,li)],[]⟩,rN [[],[],[],[],[],[],[g00],[],[],[],[],[g00]],c0c,b0b,rN [[],[],[],[],[],[],[],[],[],[g00],[],[],[],[g00]],r0r,r0r,r0r]
def an7:List An:=[r0r,r0r,r0r,c0c,r0r,r0r,rN [[],[],[],[li],[],[],[],[li]],r0r,r0r,r0r,r0r,rN [[lv],[g00]],rN [[lv],[li]],rN [[lv]],r0r,c0c,r0r,rN [[lv],[g00]]]
def an8:List An:=[r0r,r0r,r0r,c0c,r0r,r0r,b0b,r0r,c0c,r0r,rN [[],[g01],[],[],[],[g00]],c0c,r0r,r0r,b0b,.l ⟨[(38,li)],[]⟩,r0r,c0c,b0b,r0r,rN [[],[],[],[],[li],[],[li]],rN [[],[],[],[],[li],[],[li]],r0r,r0r]
def an9:List An:=[r0r,r0r,r0r,c0c,r0r,r0r,r0r,b0b,.l ⟨[(5,li),(15,li)],[]⟩,r0r,c0c,b0b,rN [[],[g01]],r0r,.c (some ⟨[(5,li)],[]⟩),r0r,r0r,r0r]
def an10:List An:=[r0r,r0r,r0r,c0c,r0r,r0r]
def an12:List An:=[r0r,r0r,r0r,r0r,r0r,r0r,b0b,.l ⟨[(5,li)],[]⟩,r0r,c0c,b0b,rN [[],[],[],[lv]],r0r,r0r,r0r,rN [[],[],[g00]],rN [[],[],[],[],[],[],[],[],[],[],[],[],[],[],[],[],[],[],[],[],[],[],[],[],[lv],[],[],[],[],[],[],[],[li],[],[],[],[],[],[],[],[li],[],[],[],[g00]],c0c,r0r,r0r,r0r]
def an13:List An:=[r0r,b0b,r0r,c0c,r0r,r0r,c0c,r0r,r0r,b0b,.l ⟨[(3,li)],[]⟩,r0r,c0c,b0b,rN [[],[],[],[],[g00],[],[],[],[g00]],c0c,r0r,r0r,r0r]
def an14:List An:=[r0r,r0r,c0c,r0r,r0r,b0b,.l ⟨[(3,li)],[]⟩,r0r,c0c,b0b,r0r,b0b,.l ⟨[(4,g01)],[]⟩,r0r,c0c,b0b,rN [[],[],[],[],[],[li],[],[],[],[],[li]],c0c,r0r,r0r,r0r,rN [[],[],[],[li],[],[],[],[li]],r0r,b0b,.l ⟨[(5,lv),(6,li)],[]⟩,r0r,c0c,b0b,r0r,b0b,.l ⟨[(5,lv),(7,li)],[]⟩,r0r,c0c,b0b,rN [[],[],[],[],[li],[],[],[],[li],[],[],[],[],[],[li],[],[],[],[li]],rN [[],[g00],[],[],[],[g00]],.c (some ⟨[(5,lv)],[]⟩),rN [[],[g00]],r0r,r0r,r0r,c0c,r0r,r0r]
def an15:List An:=[r0r,r0r,b0b,r0r,c0c,r0r,r0r,c0c,r0r,r0r,r0r,r0r,b0b,.l ⟨[(7,lv),(38,li)],[]⟩,r0r,c0c,b0b,rN [[],[g00]],rN [[],[g01]],.c (some ⟨[(7,lv)],[]⟩),rN [[],[g00]],r0r,r0r,b0b,.l ⟨[(7,lv),(10,li)],[]⟩,b0b,r0r,r0r,b0b,.l ⟨[(11,lv),(55,li)],[]⟩,r0r,c0c,b0b,rN [[],[g010]],r0r,b0b,.l ⟨[(11,lv),(59,li)],[]⟩,r0r,c0c,b0b,r0r,rN [[],[g012]],rN [[],[li]],r0r,r0r,b0b,r0r,.c (some ⟨[(17,lv),(16,li)],[]⟩),r0r,r0r,r0r,.c (some ⟨[(17,lv),(16,li)],[]⟩),r0r,r0r,r0r,b0b,.l ⟨[(82,li)],[]⟩,r0r,c0c,b0b,rN [[],[li]],rN [[],[],[li],[],[],[li],[],[li]],rN [[],[g00]],r0r,r0r,c0c,r0r,rN [[],[g00],[],[],[],[g012],[],[],[g00],[],[],[],[g012]],b0b,.l ⟨[(11,lv),(126,li)],[]⟩,r0r,c0c,b0b,rN [[g010]],rN [[],[],[g00],[],[],[],[g010],[lb]],.c (some ⟨[(11,lv)],[]⟩),rN [[],[g010]],rN [[],[g010]],r0r,r0r,r0r,r0r,r0r]
def an16:List An:=[r0r,r0r,r0r,c0c,r0r,r0r,c0c,r0r,r0r,rN [[lv]],c0c,r0r,r0r,r0r,r0r,rN [[lv],[],[],[],[li],[],[],[],[li]],rN [[lv],[],[lv]],c0c,r0r,r0r]
def an17:List An:=[r0r,r0r,c0c,r0r,r0r,r0r,b0b,.l ⟨[(3,li),(10,li)],[]⟩,r0r,c0c,b0b,rN [[],[],[g01]],rN [[],[],[],[],[],[],[],[],[],[],[],[g01]],.c (some ⟨[],[]⟩),r0r,r0r,.c (some ⟨[(3,li)],[]⟩),r0r,r0r,r0r,c0c,r0r,r0r]
def an18:List An:=[r0r,r0r,b0b,.l ⟨[(5,li)],[]⟩,r0r,c0c,b0b,rN [[],[],[],[g00],[g00]],c0c,r0r,r0r,r0r]
def an19:List An:=[r0r,rN [[],[li],[],[li]],c0c,rN [[],[li],[],[li]],rN [[],[li],[],[li]],c0c,rN [[],[li],[],[li]],rN [[],[g01],[],[g01]]]
def an20:List An:=[r0r,r0r,r0r,b0b,.l ⟨[(9,li)],[]⟩,r0r,c0c,b0b,rN [[],[g00]],rN [[],[],[li],[],[li]],r0r,r0r]
def an21:List An:=[r0r,rN [[lv],[g00]],rN [[lv]],r0r,b0b,.l ⟨[(14,li)],[]⟩,r0r,c0c,.b (some ⟨[],[]⟩),r0r,rN [[g00]],rN [[lv],[g00],[lb]],c0c,rN [[lv],[],[li],[],[],[],[],[lv]],r0r,rN [[lv],[g00]],r0r,rN [[lv],[],[li],[],[],[],[],[lv]],r0r,r0r]
def an22:List An:=[r0r,rN [[],[li],[],[],[],[li],[],[],[li],[],[],[],[li]]]
def an23:List An:=[r0r,r0r]
def an24:List An:=[r0r,r0r,r0r,c0c,r0r,r0r,r0r,r0r,b0b,.l ⟨[(7,lv),(21,li)],[]⟩,r0r,c0c,b0b,rN [[],[g00]],rN [[],[g00],[lb]],.c (some ⟨[(7,lv)],[]⟩),rN [[],[g00]],rN [[],[g00]],r0r,r0r]
def an25:List An:=[r0r,rN [[],[g00]]]
def an26:List An:=[r0r,r0r]
def an27:List An:=[r0r,.r [] (some ⟨[(2,lb)],[]⟩)]
def an28:List An:=[r0r,r0r]
def an29:List An:=[r0r,r0r]
def an30:List An:=[r0r,rN [[],[li],[],[li],[],[],[li],[],[li],[],[],[g01],[],[],[g01]]]
def an31:List An:=[r0r,r0r,b0b,.l ⟨[(8,li)],[]⟩,r0r,c0c,b0b,r0r,rN [[g00],[],[],[],[g00]],c0c,r0r,r0r,r0r]
def an32:List An:=[r0r,r0r]
def an33:List An:=[r0r,rN [[lv],[g00],[lb],[],[],[lv],[g00],[lb]],c0c,rN [[lv],[g00]],r0r,b0b,.l ⟨[(17,li)],[]⟩,r0r,c0c,b0b,r0r,rN [[lv],[g00]],r0r]
def an34:List An:=[r0r,r0r]
def an35:List An:=[r0r,.r [] (some ⟨[(2,lb)],[]⟩)]
def an36:List An:=[r0r,r0r,r0r,c0c,r0r,r0r,rN [[],[],[],[],[],[],[g01]],.c (some ⟨[],[(6,[.i .u8,.i .i64,.i .i64])]⟩),r0r,rN [[g06],[g03]]]
def an37:List An:=[r0r,r0r,c0c,r0r,r0r,r0r,r0r,r0r,c0c,r0r,r0r]
def an38:List An:=[r0r,rN [[],[g00]]]
def an39:List An:=[r0r,r0r,c0c,r0r,r0r,b0b,.l ⟨[(13,li)],[]⟩,r0r,c0c,b0b,r0r,rN [[],[],[],[g00],[],[],[],[g00]],c0c,r0r,r0r,r0r]
def an41:List An:=[r0r,r0r]
def an42:List An:=[r0r,rN [[g00]]]
def an43:List An:=[r0r,rN [[],[li],[],[],[],[li],[],[],[],[],[li],[],[],[],[],[li],[],[],[],[],[g01]],c0c,r0r,r0r]
def an44:List An:=[r0r,r0r,b0b,.l ⟨[(8,li)],[]⟩,r0r,c0c,b0b,rN [[],[g02]],rN [[],[li],[],[li]],r0r,c0c,r0r,r0r,r0r]
def an45:List An:=[r0r,r0r,b0b,.l ⟨[(8,li)],[]⟩,r0r,c0c,b0b,r0r,rN [[],[],[],[],[lb]],c0c,r0r,r0r,r0r]
def an46:List An:=[r0r,r0r,b0b,.l ⟨[(8,li)],[]⟩,r0r,c0c,b0b,r0r,rN [[],[],[],[],[g01],[lb]],c0c,r0r,r0r,r0r]
def an47:List An:=[r0r,r0r,r0r,c0c,r0r,r0r,r0r,r0r,b0b,.l ⟨[(8,li),(7,lb),(26,li)],[(6,[.i .i64,.i .i64,.v])]⟩,r0r,c0c,.b (some ⟨[(8,li),(7,lb)],[(6,[.i .i64,.i .i64,.v])]⟩),rN [[],[g01]],r0r,r0r,.c (some ⟨[(11,g01)],[]⟩),r0r,b0b,r0r,c0c,r0r,r0r,.c (some ⟨[(8,li)],[(6,[.i .i64,.i .i64,.v])]⟩),rN [[],[lv]],r0r,r0r,.c (some ⟨[],[(6,[.i .i64,.i .i64,.v])]⟩),rN [[],[lv]],rN [[],[lv]],r0r,r0r,rN [[],[lv]],rN [[],[lv]],rN [[g06]]]
def an48:List An:=[r0r,r0r]
def an49:List An:=[r0r,rN [[g08]],c0c,r0r,rN [[],[g01]],b0b,r0r,c0c,rN [[],[li]],r0r,c0c,rN [[],[li]],r0r,c0c,rN [[],[li],[],[li]],rN [[],[li],[],[],[li]]]
def an50:List An:=[r0r,rN [[g06],[g03]],r0r]
def an51:List An:=[r0r,r0r,c0c,r0r,r0r]
def an52:List An:=[r0r,r0r]
def an53:List An:=[r0r,r0r,c0c,r0r,r0r,b0b,.l ⟨[(3,li)],[]⟩,r0r,c0c,b0b,rN [[],[],[],[g00],[],[],[],[],[g00]],c0c,r0r,r0r,b0b,.l ⟨[(3,li),(5,li)],[]⟩,r0r,c0c,b0b,rN [[],[],[],[g00],[],[],[],[],[g00]],.c (some ⟨[(3,li)],[]⟩),rN [[],[],[],[],[],[g00]],r0r,r0r,r0r,r0r,r0r,r0r]
def an54:List An:=[r0r,r0r]
def an57:List An:=[r0r,r0r,b0b,.l ⟨[(8,li)],[]⟩,r0r,c0c,b0b,r0r,rN [[],[],[],[],[g00],[lb]],c0c,r0r,r0r,r0r]
def an58:List An:=[r0r,r0r,r0r,r0r,c0c,r0r,c0c,r0r,r0r,r0r,c0c,r0r,r0r,c0c,r0r,r0r,c0c,r0r,r0r]
def an59:List An:=[r0r,r0r]
def an60:List An:=[r0r,rN [[],[li],[],[li],[],[],[],[g01],[],[],[],[g01]]]
def an61:List An:=[r0r,r0r]
def an62:List An:=[r0r,rN [[],[g01],[],[],[],[g01],[],[],[],[],[li],[],[],[],[],[li]],c0c,r0r,r0r]
def an63:List An:=[r0r,rN [[g06]],r0r,c0c,r0r,rN [[g03]],c0c,r0r,rN [[g06]],r0r,c0c,r0r,r0r,r0r,b0b,.l ⟨[(36,li)],[]⟩,r0r,c0c,b0b,rN [[],[],[g03]],rN [[],[g02]],rN [[],[],[g03],[g03]],r0r,c0c,r0r,rN [[],[],[],[],[],[g03],[g00]],r0r,c0c,r0r,r0r,r0r]
def an64:List An:=[r0r,r0r,b0b,.l ⟨[(3,li),(1,li),(11,lb),(10,lb),(2,li)],[]⟩,.b (some ⟨[(3,li),(1,li),(11,lb),(10,lb),(2,li)],[]⟩),r0r,r0r,c0c,r0r,r0r,c0c,r0r,r0r,.c (some ⟨[(3,li)],[]⟩),r0r,r0r,r0r,r0r,.c (some ⟨[(13,li),(14,li)],[]⟩),r0r,r0r,r0r,r0r,.c (some ⟨[],[]⟩),r0r,c0c,rN [[],[],[],[],[],[],[],[],[g00],[],[],[],[g00],[li]],.c (some ⟨[(1,li)],[]⟩),r0r,r0r,r0r,r0r,r0r,r0r,r0r,.c (some ⟨[(10,lb),(1,li),(2,li)],[]⟩),r0r,r0r,r0r,r0r,r0r,r0r]
def an65:List An:=[r0r,c0c,r0r,r0r]
def an67:List An:=[r0r,r0r]
def an68:List An:=[r0r,r0r,b0b,.l ⟨[(3,li),(1,li),(11,lb),(10,lb),(2,li)],[]⟩,.b (some ⟨[(3,li),(1,li),(11,lb),(10,lb),(2,li)],[]⟩),r0r,r0r,c0c,r0r,r0r,c0c,r0r,r0r,.c (some ⟨[(3,li)],[]⟩),r0r,r0r,r0r,r0r,.c (some ⟨[(13,li),(14,li)],[]⟩),r0r,r0r,r0r,r0r,.c (some ⟨[],[]⟩),r0r,c0c,rN [[],[],[],[],[],[],[],[],[g04],[],[],[],[g04],[li]],.c (some ⟨[(1,li)],[]⟩),r0r,r0r,r0r,r0r,r0r,r0r,r0r,.c (some ⟨[(10,lb),(1,li),(2,li)],[]⟩),r0r,r0r,r0r,r0r,r0r,r0r]
def an69:List An:=[r0r,rN [[],[g02]],r0r,c0c,r0r,rN [[],[lv]],c0c,r0r,rN [[],[lv]],b0b,.l ⟨[(21,li)],[]⟩,r0r,c0c,b0b,rN [[],[g04]],rN [[],[g02],[],[li],[],[g01]],rN [[],[],[],[g07],[g04]],c0c,r0r,r0r,r0r,b0b,.l ⟨[(8,li)],[]⟩,rN [[],[],[lv]],c0c,b0b,rN [[],[lv],[],[],[],[g04],[],[],[lv],[],[],[g04]],c0c,r0r,r0r,r0r]
def an70:List An:=[r0r,rN [[],[g01],[],[],[],[],[li],[],[],[],[],[li],[],[],[],[],[li],[],[li]],c0c,r0r,r0r]
def an71:List An:=[r0r,rN [[g06]],rN [[],[g02]],rN [[lv]],r0r,r0r,r0r,b0b,.l ⟨[(8,lv)],[]⟩,r0r,c0c,b0b,rN [[],[],[li]],r0r,r0r,b0b,.l ⟨[(8,lv),(35,g01)],[]⟩,r0r,c0c,.b (some ⟨[(8,lv)],[]⟩),r0r,rN [[],[g02]],r0r,c0c,rN [[],[],[],[g03]],rN [[],[],[],[lb]],.c (some ⟨[(8,lv)],[]⟩),rN [[lv],[],[],[],[g03]],r0r,rN [[lv],[],[],[g03],[g03]],c0c,r0r,r0r,rN [[lv]]]
def an72:List An:=[r0r,rN [[g02]],r0r,c0c,r0r,rN [[g02]],c0c,r0r,rN [[g02]]]
def an73:List An:=[r0r,rN [[g03],[],[],[],[g03]],c0c,r0r,rN [[],[g01],[],[g05],[],[li],[],[li]],rN [[],[g01],[],[g05],[],[g01],[],[g05],[],[],[],[],[li],[],[],[],[li]]]
def an74:List An:=[r0r,rN [[g03],[],[],[],[g00]],c0c,r0r,rN [[g03],[g00]],rN [[g00]],c0c,r0r,rN [[g00]]]
def an75:List An:=[r0r,b0b,.l ⟨[(8,li)],[]⟩,r0r,c0c,b0b,r0r,.b (some ⟨[],[]⟩),.l ⟨[(9,li)],[]⟩,rN [[],[],[],[],[],[],[],[],[g00],[],[],[],[],[g00],[li]],c0c,b0b,rN [[],[],[],[],[],[],[],[],[],[g00],[],[],[],[g00]],r0r,r0r]
def an84:List An:=[r0r,r0r,.c (some ⟨[(0,g09),(2,li)],[]⟩),r0r,r0r,r0r,.c (some ⟨[(0,g09),(2,li)],[]⟩),r0r,r0r,r0r,.c (some ⟨[(0,g09),(2,li)],[]⟩),r0r,r0r,r0r]
def an86:List An:=[r0r,b0b,.l ⟨[(8,li)],[]⟩,r0r,c0c,b0b,r0r,.b (some ⟨[],[]⟩),.l ⟨[(9,li)],[]⟩,rN [[],[],[],[],[],[],[],[],[g04],[],[],[],[],[g04],[li]],c0c,b0b,rN [[],[],[],[],[],[],[],[],[],[g04],[],[],[],[g04]],r0r,r0r]
def an94:List An:=[r0r,rN [[],[li],[],[],[],[li],[],[],[],[],[li],[],[],[],[],[li],[],[],[],[],[li],[],[li]],c0c,r0r,r0r]
def an95:List An:=[r0r,r0r]
def an96:List An:=[r0r,rN [[],[g01]]]
def an97:List An:=[r0r,.r [] (some ⟨[(2,lb)],[]⟩)]
def an98:List An:=[r0r,rN [[g02]],r0r,c0c,r0r,r0r]
def an99:List An:=[r0r,rN [[],[li],[],[g01]]]
def an100:List An:=[r0r,rN [[],[li],[],[li]],c0c,rN [[],[li],[],[li]],rN [[],[g01],[],[],[g01]]]
def an101:List An:=[r0r,.r [] (some ⟨[(2,lb)],[]⟩)]
def an102:List An:=[r0r,rN [[],[lv]],rN [[],[lv]],b0b,.l ⟨[(13,li)],[]⟩,r0r,c0c,b0b,rN [[],[g04]],rN [[],[],[li],[],[g01]],r0r,r0r]
def an103:List An:=[r0r,rN [[g02]],c0c,r0r,rN [[],[li],[],[],[li]]]
def an104:List An:=[r0r,rN [[],[g02]],rN [[lv],[g07],[lb]],c0c,rN [[lv],[],[],[g03]],rN [[],[g02],[g07]],rN [[g08]],rN [[g03],[lv],[],[],[g03]],rN [[g03]]]
def an105:List An:=[r0r,rN [[g02],[g07]],r0r,c0c,r0r,rN [[g00],[],[g01]]]
def an106:List An:=[r0r,rN [[g02]],r0r,c0c,r0r,rN [[g00]],r0r,c0c,r0r,rN [[g02],[g00]]]
def an107:List An:=[r0r,.r [[],[],[],[],[],[li],[],[],[li]] (some ⟨[(4,lb)],[]⟩)]
def an108:List An:=[r0r,rN [[],[],[],[li],[],[],[],[],[li]]]
def an109:List An:=[r0r,rN [[],[li],[],[],[],[li],[],[],[],[],[li],[],[],[],[li]]]
def an110:List An:=[r0r,rN [[g03]],c0c,r0r,rN [[g03]]]
def an111:List An:=[r0r,rN [[.agg [.i .i64,.i .i64,.i .i64,.i .i64,.i .i64,.i .i64,.i .i64,.i .i64,.i .i64,.i .i64,.i .i64,.i .i64,.i .i64,.i .i64,.i .i64,.i .i64,.i .i64,.i .i64,.i .i64,.i .i64,.i .i64,.i .i64,.i .i64,.i .i64,.i .i64,.i .i64,.i .i64,.i .i64,.i .i64,.i .i64,.i .i64,.i .i64]]],b0b,.l ⟨[(6,li)],[]⟩,r0r,c0c,b0b,rN [[],[g05]],rN [[g05],[g05]],c0c,r0r,r0r,r0r]
def an112:List An:=[r0r,rN [[g05],[],[li],[],[li]],rN [[g05],[],[li],[],[li]],r0r]
def an113:List An:=[r0r,rN [[g00],[],[],[g01],[],[],[g02]],rN [[g03],[g02]],r0r,rN [[g03],[g02]],rN [[],[li],[],[li],[],[],[],[],[li],[],[li]],rN [[.agg [.i .i64,.i .i64,.i .u8,.i .i64,.i .i64,.i .i64,.i .u8,.i .i64,.i .i64,.i .u8,.i .i64,.i .i64,.i .u8,.i .i64,.i .i64,.i .i64,.i .i64,.i .i64,.i .i64,.i .u8,.i .i64,.i .i64,.i .i64,.i .u8,.i .i64,.i .i64,.i .u8,.i .i64,.i .i64,.i .u8,.i .i64,.i .i64,.i .i64,.i .i64,.i .i64,.i .i64,.i .u8,.i .i64,.i .i64,.i .i64,.i .u8,.i .i64,.i .i64,.i .u8,.i .i64,.i .i64,.i .u8,.i .i64,.i .i64,.i .i64,.i .i64,.i .i64,.i .i64,.i .u8,.i .i64,.i .i64,.i .i64,.i .u8,.i .i64,.i .i64,.i .u8,.i .i64,.i .i64,.i .u8,.i .i64,.i .i64,.i .i64,.i .i64]]],b0b,.l ⟨[(47,li)],[(7,[.i .i64,.i .i64,.i .u8])]⟩,r0r,c0c,b0b,rN [[],[g013]],rN [[],[g02],[g02]],.c (some ⟨[],[(7,[.i .i64,.i .i64,.i .u8])]⟩),r0r,r0r,rN [[g00]]]
def an122:List An:=[r0r,r0r,b0b,.l ⟨[(8,li)],[]⟩,r0r,c0c,b0b,r0r,rN [[],[],[],[],[g04],[lb]],c0c,r0r,r0r,r0r]
def an123:List An:=[r0r,rN [[g02]],r0r,c0c,r0r,rN [[g02],[],[li],[],[g01]],rN [[],[],[],[g07],[g07]],c0c,r0r,rN [[g02],[],[li]]]
def an124:List An:=[r0r,rN [[g00]],c0c,r0r,rN [[],[g01],[],[g013]],rN [[],[g01],[],[li],[],[li]],b0b,r0r,.c (some ⟨[],[(7,[.i .u8,.i .i64])]⟩),rN [[],[li],[],[li]],r0r,.c (some ⟨[],[(7,[.i .u8,.i .i64])]⟩),rN [[],[li],[],[li]],rN [[],[g01]],.c (some ⟨[],[(7,[.i .u8,.i .i64])]⟩),rN [[],[li],[],[li]],rN [[g08]],c0c,r0r,rN [[g08]]]
def an125:List An:=[r0r,rN [[g00]],c0c,r0r,rN [[],[g01],[],[],[],[],[g00]],rN [[],[li],[],[li],[],[],[li],[],[li]],rN [[g00]],c0c,r0r,rN [[g00]]]
def an126:List An:=[r0r,rN [[g02]],r0r,c0c,r0r,rN [[g00],[],[],[],[],[li],[],[],[],[],[li],[],[li],[],[],[],[],[li],[],[],[],[],[li],[],[li]],c0c,r0r,rN [[],[li],[],[li],[],[],[li],[],[],[],[g01]]]
def an127:List An:=[r0r,rN [[],[li],[],[],[],[li]]]
def an128:List An:=[r0r,rN [[g03],[],[],[],[g02]],c0c,r0r,rN [[],[g01],[],[g05],[],[li],[],[li]],rN [[],[],[li],[],[],[],[],[li]],rN [[g02]],c0c,r0r,rN [[g02]]]
def an131:List An:=[r0r,rN [[],[li],[],[],[],[li],[],[],[],[],[li],[],[],[],[],[li]],c0c,r0r,r0r]
def aa:Nat->Site
 |_=>⟨0,[],[],.skip,.skip⟩
def xc(f:TN):Ctxt:=⟨cc,ptsTab.getD f [],aa⟩
section
variable {R HT:Type} (A:Alg R HT)
def Alg.k0(l:TE)(k:Value->R):R:=A.unV l λO l=>A.un0 l (k O)
def Alg.k1(l:TE)(k:Int->Int->Int->Int->R):R:=A.unI l λO l=>A.unI l λa0 l=>A.unI l λa1 l=>A.unI l λa2 l=>A.un0 l (k O a0 a1 a2)
def Alg.k2(l:TE)(k:Int->R):R:=A.unI l λO l=>A.un0 l (k O)
def Alg.k3(l:TE)(k:Int->Int->R):R:=A.unI l λO l=>A.unI l λa0 l=>A.un0 l (k O a0)
def Alg.k4(l:Tl)(k:Int->Int->Int->R):R:=A.ucI .i64 l λO l=>A.ucI .i64 l λa0 l=>A.ucI .u8 l λa1 l=>A.uc0 l (k O a0 a1)
def Alg.k5(l:TE)(k:Bool->R):R:=A.unB l λO l=>A.un0 l (k O)
def Alg.k6(l:TE)(k:Int->Int->Int->R):R:=A.unI l λO l=>A.unI l λa0 l=>A.unI l λa1 l=>A.un0 l (k O a0 a1)
def Alg.k7(l:TE)(k:Value->Int->R):R:=A.unV l λO l=>A.unI l λa0 l=>A.un0 l (k O a0)
def Alg.k8(l:Tl)(k:Int->R):R:=A.ucI .u8 l λO l=>A.uc0 l (k O)
def Alg.k9(l:Tl)(k:Int->R):R:=A.ucI .i64 l λO l=>A.uc0 l (k O)
def Alg.k10(l:TE)(k:Value->Int->Int->Int->Value->R):R:=A.unV l λO l=>A.unI l λa0 l=>A.unI l λa1 l=>A.unI l λa2 l=>A.unV l λa3 l=>A.un0 l (k O a0 a1 a2 a3)
def Alg.k11(l:Tl)(k:Int->Int->Int->R):R:=A.ucI .i64 l λO l=>A.ucI .u8 l λa0 l=>A.ucI .u8 l λa1 l=>A.uc0 l (k O a0 a1)
def Alg.k12(l:TE)(k:Value->Int->Int->Value->R):R:=A.unV l λO l=>A.unI l λa0 l=>A.unI l λa1 l=>A.unV l λa2 l=>A.un0 l (k O a0 a1 a2)
def Alg.cd(o:BinOp)(x y:Int)(p q:R):R:=A.cmp o x y λt=>A.cond t p q
def Alg.ix(e:Nat)(x:Value)(n:Int)(w:Nat)(h:HT)(k:Tl->R):R:=A.opt (idS e x n) λp=>A.peek (.lg cc w p) h k
def Alg.fx(e:Nat)(x:Value)(n:Int)(o w:Nat)(h:HT)(k:Tl->R):R:=A.opt (idS e x n) λp=>A.opt (fdP o p) λq=>A.chk q (A.peek (.lg cc w q) h k)
def Alg.c0(f:TN)(ls:TE)(h:HT)(k:HT->Value->R):R:=A.call f ls h λl h=>A.k0 l (k h)
def Alg.c2(f:TN)(ls:TE)(h:HT)(k:HT->Int->R):R:=A.call f ls h λl h=>A.k2 l (k h)
def Alg.c3(f:TN)(ls:TE)(h:HT)(k:HT->Int->Int->R):R:=A.call f ls h λl h=>A.k3 l (k h)
def Alg.c5(f:TN)(ls:TE)(h:HT)(k:HT->Bool->R):R:=A.call f ls h λl h=>A.k5 l (k h)
def Alg.c6(f:TN)(ls:TE)(h:HT)(k:HT->Int->Int->Int->R):R:=A.call f ls h λl h=>A.k6 l (k h)
def Alg.ln(x:Value)(k:Int->R):R:=A.opt (lenS x) k
def Alg.pa(a b:Int)(k:Int->R):R:=A.ari .add .i64 a b k
def Alg.ps(a b:Int)(k:Int->R):R:=A.ari .sub .i64 a b k
def Alg.pm(a b:Int)(k:Int->R):R:=A.ari .mul .i64 a b k
def Alg.pr(a b:Int)(k:Int->R):R:=A.ari .rem .i64 a b k
def Alg.pq(a b:Int)(k:Int->R):R:=A.ari .quo .i64 a b k
def Alg.ci(a:Int)(k:Int->R):R:=A.conv .i64 a k
def qeq:(∀l k,A.k0 l k=A.unV l λa0 l=>A.un0 l (k a0))/\(∀l k,A.k1 l k=A.unI l λa0 l=>A.unI l λa1 l=>A.unI l λa2 l=>A.unI l λa3 l=>A.un0 l (k a0 a1 a2 a3))/\(∀l k,A.k2 l k=A.unI l λa0 l=>A.un0 l (k a0))/\(∀l k,A.k3 l k=A.unI l λa0 l=>A.unI l λa1 l=>A.un0 l (k a0 a1))/\(∀l k,A.k4 l k=A.ucI .i64 l λa0 l=>A.ucI .i64 l λa1 l=>A.ucI .u8 l λa2 l=>A.uc0 l (k a0 a1 a2))/\(∀l k,A.k5 l k=A.unB l λa0 l=>A.un0 l (k a0))/\(∀l k,A.k6 l k=A.unI l λa0 l=>A.unI l λa1 l=>A.unI l λa2 l=>A.un0 l (k a0 a1 a2))/\(∀l k,A.k7 l k=A.unV l λa0 l=>A.unI l λa1 l=>A.un0 l (k a0 a1))/\(∀l k,A.k8 l k=A.ucI .u8 l λa0 l=>A.uc0 l (k a0))/\(∀l k,A.k9 l k=A.ucI .i64 l λa0 l=>A.uc0 l (k a0))/\(∀l k,A.k10 l k=A.unV l λa0 l=>A.unI l λa1 l=>A.unI l λa2 l=>A.unI l λa3 l=>A.unV l λa4 l=>A.un0 l (k a0 a1 a2 a3 a4))/\(∀l k,A.k11 l k=A.ucI .i64 l λa0 l=>A.ucI .u8 l λa1 l=>A.ucI .u8 l λa2 l=>A.uc0 l (k a0 a1 a2))/\(∀l k,A.k12 l k=A.unV l λa0 l=>A.unI l λa1 l=>A.unI l λa2 l=>A.unV l λa3 l=>A.un0 l (k a0 a1 a2 a3))/\(∀o x y p q,A.cd o x y p q=A.cmp o x y λt=>A.cond t p q)/\(∀e x n w h k,A.ix e x n w h k=A.opt (idS e x n) λp=>A.peek (.lg cc w p) h k)/\(∀e x n o w h k,A.fx e x n o w h k=A.opt (idS e x n) λp=>A.opt (fdP o p) λq=>A.chk q (A.peek (.lg cc w q) h k))/\(∀f ls h k,A.c0 f ls h k=A.call f ls h λl h=>A.k0 l (k h))/\(∀f ls h k,A.c2 f ls h k=A.call f ls h λl h=>A.k2 l (k h))/\(∀f ls h k,A.c3 f ls h k=A.call f ls h λl h=>A.k3 l (k h))/\(∀f ls h k,A.c5 f ls h k=A.call f ls h λl h=>A.k5 l (k h))/\(∀f ls h k,A.c6 f ls h k=A.call f ls h λl h=>A.k6 l (k h))/\(∀x k,A.ln x k=A.opt (lenS x) k)/\(∀a b k,A.pa a b k=A.ari .add .i64 a b k)/\(∀a b k,A.ps a b k=A.ari .sub .i64 a b k)/\(∀a b k,A.pm a b k=A.ari .mul .i64 a b k)/\(∀a b k,A.pr a b k=A.ari .rem .i64 a b k)/\(∀a b k,A.pq a b k=A.ari .quo .i64 a b k)/\(∀a k,A.ci a k=A.conv .i64 a k):=by
 refine⟨?_,?_,?_,?_,?_,?_,?_,?_,?_,?_,?_,?_,?_,?_,?_,?_,?_,?_,?_,?_,?_,?_,?_,?_,?_,?_,?_,?_⟩<;>intros<;>rfl
variable(ls:TE)(h:HT)(K:TE->HT->R)
def f4:R:=A.unV ls λg b5=>A.unI b5 λl b6=>A.unI b6 λm b7=>A.unV b7 λn b8=>A.unV b8 λc b9=>A.k6 b9 λd e a=>A.ln g λc1=>A.cd .gtr c1 60 (A.c5 12 [] h λc4 c6=>K [.b c6] c4) (A.ln c λc7=>A.cd .gtr c7 10 (A.c5 12 [] h λc8 c9=>K [.b c9] c8) (A.c2 13 [.v g] h λE F=>A.cmp .eql F 0 λd0=>A.join (λd1 d2=>A.k2 d1 λj=>A.call 7 [.v g] d2 λd3 d4=>A.unV d3 λd5 d6=>A.k1 d6 λu0 u1 u2 d7=>A.call 8 [.v g,.v (.slice none 0 0),.i 0,.i 0,.i 0] d4 λd8 d9=>A.unB d8 λe0 e1=>A.k2 e1 λe2=>A.c3 15 [.v g] d9 λe3 e4 t=>A.c3 10 [.v g] e3 λe5 k e6=>A.c2 16 [.v g] e5 λf e7=>A.cd .neq e7 j (K [.b false] f) (A.cd .neq d7 j (K [.b false] f) (A.cd .neq e6 j (K [.b false] f) (A.cd .neq j 0 (A.cd .neq e2 j (K [.b false] f) (A.cd .neq t j (K [.b false] f) (A.cond e0 (K [.b false] f) (A.ln d5 λe8=>A.pa e8 e4 λe9=>A.pa e9 k λf0=>A.cmp .neq f0 0 λf1=>A.join (λf2 o=>A.un0 f2 (A.cd .eql j 0 (A.ln g λf3=>A.pq f3 4 λf4=>A.cd .neq k f4 (K [.b false] o) (A.cmp .eql t 3 λf5=>A.cmp .gtr k 3 λf6=>A.eqs [(.b f5,.b f6)] λf7=>A.join (λf8 f9=>A.un0 f8 (A.c0 5 [.i l,.i m,.v n] f9 λg0 g1=>A.c0 6 [.v g1] g0 λg2 p=>A.c2 17 [.v c] g2 λu w=>A.cd .eql w 0 (A.cd .neq a 0 (A.call 8 [.v p,.v c,.i d,.i e,.i a] u λg3 G=>A.unB g3 λu3 g4=>A.k2 g4 λg5=>A.join (λg6 g7=>A.k5 g6 λg8=>K [.b g8] g7) λH=>A.cd .eql g5 1 (A.c5 12 [] G λg9 h0=>H [.b h0] g9) (H [.b false] G)) (A.c5 18 [.v p,.i d,.i e,.i a] u λI h1=>A.join (λh2 h3=>A.k2 h2 λh4=>A.call 8 [.v p,.v c,.i d,.i e,.i a] h3 λh5 J=>A.unB h5 λu4 h6=>A.k2 h6 λh7=>A.join (λh8 h9=>A.k5 h8 λi0=>K [.b i0] h9) λL=>A.cd .eql h7 h4 (A.c5 12 [] J λi1 i2=>L [.b i2] i1) (L [.b false] J)) λM=>A.cond (!h1) (M [.i 1] I) (M [.i w] I))) (A.call 8 [.v p,.v c,.i d,.i e,.i a] u λi3 N=>A.unB i3 λu5 i4=>A.k2 i4 λi5=>A.join (λi6 i7=>A.k5 i6 λi8=>K [.b i8] i7) λO=>A.cd .eql i5 w (A.c5 12 [] N λi9 j0=>O [.b j0] i9) (O [.b false] N)))) λj1=>A.cond (!f7) (K [.b false] o) (j1 [] o))) (A.c0 5 [.i l,.i m,.v n] o λj2 j3=>A.c0 6 [.v j3] j2 λj4 q=>A.c2 17 [.v c] j4 λx y=>A.cd .eql y 0 (A.cd .neq a 0 (A.call 8 [.v q,.v c,.i d,.i e,.i a] x λj5 P=>A.unB j5 λu6 j6=>A.k2 j6 λj7=>A.join (λj8 j9=>A.k5 j8 λk0=>K [.b k0] j9) λQ=>A.cd .eql j7 1 (A.c5 12 [] P λk3 k4=>Q [.b k4] k3) (Q [.b false] P)) (A.c5 18 [.v q,.i d,.i e,.i a] x λS k7=>A.join (λk8 k9=>A.k2 k8 λl0=>A.call 8 [.v q,.v c,.i d,.i e,.i a] k9 λl1 T=>A.unB l1 λu7 l2=>A.k2 l2 λl3=>A.join (λl4 l5=>A.k5 l4 λl6=>K [.b l6] l5) λU=>A.cd .eql l3 l0 (A.c5 12 [] T λl7 l8=>U [.b l8] l7) (U [.b false] T)) λV=>A.cond (!k7) (V [.i 1] S) (V [.i y] S))) (A.call 8 [.v q,.v c,.i d,.i e,.i a] x λl9 W=>A.unB l9 λu8 m0=>A.k2 m0 λm1=>A.join (λm2 m3=>A.k5 m2 λm4=>K [.b m4] m3) λX=>A.cd .eql m1 y (A.c5 12 [] W λm5 m6=>X [.b m6] m5) (X [.b false] W))))) λm7=>A.cond f1 (K [.b false] f) (m7 [] f))))) (A.cd .eql j 0 (A.ln g λm8=>A.pq m8 4 λm9=>A.cd .neq k m9 (K [.b false] f) (A.cmp .eql t 3 λn0=>A.cmp .gtr k 3 λn1=>A.eqs [(.b n0,.b n1)] λn2=>A.join (λn3 n4=>A.un0 n3 (A.c0 5 [.i l,.i m,.v n] n4 λn5 n6=>A.c0 6 [.v n6] n5 λn7 r=>A.c2 17 [.v c] n7 λz B=>A.cd .eql B 0 (A.cd .neq a 0 (A.call 8 [.v r,.v c,.i d,.i e,.i a] z λn8 Y=>A.unB n8 λu9 n9=>A.k2 n9 λo0=>A.join (λo1 o2=>A.k5 o1 λo3=>K [.b o3] o2) λZ=>A.cd .eql o0 1 (A.c5 12 [] Y λo4 o5=>Z [.b o5] o4) (Z [.b false] Y)) (A.c5 18 [.v r,.i d,.i e,.i a] z λa0 o6=>A.join (λo7 o8=>A.k2 o7 λo9=>A.call 8 [.v r,.v c,.i d,.i e,.i a] o8 λp0 a1=>A.unB p0 λv0 p1=>A.k2 p1 λp2=>A.join (λp3 p4=>A.k5 p3 λp5=>K [.b p5] p4) λa2=>A.cd .eql p2 o9 (A.c5 12 [] a1 λp6 p7=>a2 [.b p7] p6) (a2 [.b false] a1)) λa3=>A.cond (!o6) (a3 [.i 1] a0) (a3 [.i B] a0))) (A.call 8 [.v r,.v c,.i d,.i e,.i a] z λp8 a4=>A.unB p8 λv1 p9=>A.k2 p9 λq0=>A.join (λq1 q2=>A.k5 q1 λq3=>K [.b q3] q2) λa5=>A.cd .eql q0 B (A.c5 12 [] a4 λq4 q5=>a5 [.b q5] q4) (a5 [.b false] a4)))) λq6=>A.cond (!n2) (K [.b false] f) (q6 [] f))) (A.c0 5 [.i l,.i m,.v n] f λq7 q8=>A.c0 6 [.v q8] q7 λq9 s=>A.c2 17 [.v c] q9 λC D=>A.cd .eql D 0 (A.cd .neq a 0 (A.call 8 [.v s,.v c,.i d,.i e,.i a] C λr0 a6=>A.unB r0 λv2 r1=>A.k2 r1 λr2=>A.join (λr3 r4=>A.k5 r3 λr5=>K [.b r5] r4) λa7=>A.cd .eql r2 1 (A.c5 12 [] a6 λr6 r7=>a7 [.b r7] r6) (a7 [.b false] a6)) (A.c5 18 [.v s,.i d,.i e,.i a] C λa8 r8=>A.join (λr9 s0=>A.k2 r9 λs1=>A.call 8 [.v s,.v c,.i d,.i e,.i a] s0 λs2 a9=>A.unB s2 λv3 s3=>A.k2 s3 λs4=>A.join (λs5 s6=>A.k5 s5 λs7=>K [.b s7] s6) λb0=>A.cd .eql s4 s1 (A.c5 12 [] a9 λs8 s9=>b0 [.b s9] s8) (b0 [.b false] a9)) λb1=>A.cond (!r8) (b1 [.i 1] a8) (b1 [.i D] a8))) (A.call 8 [.v s,.v c,.i d,.i e,.i a] C λt0 b2=>A.unB t0 λv4 t1=>A.k2 t1 λt2=>A.join (λt3 t4=>A.k5 t3 λt5=>K [.b t5] t4) λb3=>A.cd .eql t2 D (A.c5 12 [] b2 λt6 t7=>b3 [.b t7] t6) (b3 [.b false] b2)))))))) λb4=>A.cond d0 (A.c2 14 [.v g] E λt8 t9=>b4 [.i t9] t8) (b4 [.i F] E)))
def f5:R:=A.unI ls λx y=>A.unI y λz B=>A.k0 B λg=>A.ari .rem .u8 x 7 λC=>A.ci C λD=>A.ps D 3 λE=>A.ari .rem .u8 z 7 λF=>A.ci F λG=>A.ps G 3 λH=>A.new (.cells [.int .i64 E,.int .i64 H,.int .u8 0] 3 true) h λI J=>A.join (λL M=>A.k0 L λN=>K [.v N] M) λj=>A.loop (λO P a=>A.k7 P λb c=>A.ln g λQ=>A.cd .lss c Q (A.ln b λS=>A.cd .lss S 12 (A.cd .lss c 40 (A.opt (idS 2 g c) λT=>A.opt (idP 2 1 T 0) λl=>A.chk l (A.peek (.lg cc 1 l) a λU=>A.k8 U λV=>A.ci V λW=>A.ln b λX=>A.pr W X λY=>A.ix 3 b Y 3 a λZ=>A.k4 Z λd e f=>A.opt (idS 2 g c) λa0=>A.opt (idP 2 1 a0 1) λm=>A.chk m (A.peek (.lg cc 1 m) a λa1=>A.k8 a1 λa2=>A.ari .rem .u8 a2 4 λk=>A.cmp .eql k 0 λa3=>A.join (λa4 a5=>A.k6 a4 λn o p=>A.c5 18 [.v b,.i n,.i o,.i p] a5 λq a6=>A.join (λa7 a8=>A.k0 a7 λa9=>A.pa c 1 λb0=>O [.v a9,.i b0] a8) λr=>A.cond (!a6) (A.new (.cells [.int .i64 n,.int .i64 o,.int .u8 p] 3 true) q λb1 b2=>A.heap (.ap cc 3 24 b (.slice (some ⟨b1,0,some 13⟩) 1 2)) b2 λb3 b4=>A.ucV b3 λs b5=>A.chk s (A.uc0 b5 (r [.v s] b4))) (r [.v b] q)) λt=>A.cond a3 (A.pa d 1 λb6=>t [.i b6,.i e,.i f] a) (A.cmp .eql k 1 λb7=>A.join (λb8 b9=>A.k6 b8 λc0 c1 c2=>t [.i c0,.i c1,.i c2] b9) λu=>A.cond b7 (A.pa e 1 λc3=>u [.i d,.i c3,.i f] a) (A.cmp .eql k 2 λc4=>A.join (λc6 c7=>A.k6 c6 λc8 c9 d0=>u [.i c8,.i c9,.i d0] c7) λw=>A.cond c4 (A.ps d 1 λd1=>w [.i d1,.i e,.i f] a) (A.ps e 1 λd2=>w [.i d,.i d2,.i f] a)))))) (j [.v b] a)) (j [.v b] a)) (j [.v b] a)) [.v (.slice (some ⟨I,0,some 13⟩) 1 2),.i 0] J
def f6:R:=A.k0 ls λg=>A.loop (λq r l=>A.k7 r λa c=>A.ln g λs=>A.cd .lss c s (A.loop (λt u d=>A.k7 u λm j=>A.cd .lss j 4 (A.fx 3 g c 0 1 d λw=>A.k9 w λx=>A.fx 3 g c 1 1 d λy=>A.k9 y λz=>A.new (.cells [.int .i64 x,.int .i64 z,.int .u8 j] 3 true) d λB C=>A.heap (.ap cc 3 24 m (.slice (some ⟨B,0,some 13⟩) 1 2)) C λD E=>A.ucV D λn F=>A.chk n (A.uc0 F (A.ari .add .u8 j 1 λG=>t [.v n,.i G] E))) (A.pa c 1 λH=>q [.v m,.i H] d)) [.v a,.i 0] l) (A.loop (λI J o=>A.k2 J λk=>A.ln a λL=>A.cd .lss k L (A.join (λM N=>A.un0 M (A.pa k 1 λO=>I [.i O] N)) λp=>A.loop (λP Q e=>A.k2 Q λb=>A.cd .gtr b 0 (A.ix 3 a b 3 e λS=>A.k4 S λT U V=>A.ps b 1 λW=>A.ix 3 a W 3 e λX=>A.k4 X λY Z a0=>A.c5 19 [.i T,.i U,.i V,.i Y,.i Z,.i a0] e λf a1=>A.cond a1 (A.ps b 1 λa2=>A.ps b 1 λa3=>A.ix 3 a a3 3 f λa4=>A.k4 a4 λa5 a6 a7=>A.ix 3 a b 3 f λa8=>A.k4 a8 λa9 b0 b1=>A.opt (idS 3 a b) λb2=>A.heap (.st b2 [.int .i64 a5,.int .i64 a6,.int .u8 a7]) f λb7 b3=>A.opt (idS 3 a a2) λb4=>A.heap (.st b4 [.int .i64 a9,.int .i64 b0,.int .u8 b1]) b3 λb8 b5=>A.ps b 1 λb6=>P [.i b6] b5) (p [] f)) (p [] e)) [.i k] o) (K [.v a] o)) [.i 1] l)) [.v (.slice none 0 0),.i 0] h
def f7:R:=A.k0 ls λb=>A.new (.cells [.slice none 0 0] 1 true) h λa H=>A.c2 16 [.v b] H λl m=>A.cd .neq m 0 (A.heap (.st (.pointer (some ⟨a,0,none⟩)) [.slice none 0 0]) l λb5 n=>A.peek (.ld 1 (.pointer (some ⟨a,0,none⟩))) n λI=>A.ucV I λo J=>A.chk o (A.uc0 J (K [.v o,.i 0,.i 0,.i 0,.i m] n))) (A.c0 20 [.v b] l λL M=>A.new (.cells [.map none] 1 true) L λe N=>A.heap (.st (.pointer (some ⟨e,0,none⟩)) [M]) N λb6 f=>A.opt (idS 3 b 0) λO=>A.opt (fdP 0 O) λp=>A.chk p (A.peek (.lg cc 1 p) f λP=>A.k9 P λq=>A.opt (idS 3 b 0) λQ=>A.opt (fdP 1 Q) λr=>A.chk r (A.peek (.lg cc 1 r) f λS=>A.k9 S λs=>A.new (.cells [.int .i64 0] 1 true) f λg T=>A.heap (.st (.pointer (some ⟨g,0,none⟩)) [.int .i64 0]) T λb7 U=>A.new (.cells [.int .i64 0] 1 true) U λc V=>A.heap (.st (.pointer (some ⟨c,0,none⟩)) [.int .i64 0]) V λb8 W=>A.new (.cells [.nilFunc] 1 true) W λd X=>A.chk (.func (.func 21) ⟨[]⟩ ⟨[.pointer (some ⟨e,0,none⟩),.pointer (some ⟨a,0,none⟩),.pointer (some ⟨c,0,none⟩),.pointer (some ⟨g,0,none⟩),.pointer (some ⟨d,0,none⟩)]⟩) (A.heap (.st (.pointer (some ⟨d,0,none⟩)) [.func (.func 21) ⟨[]⟩ ⟨[.pointer (some ⟨e,0,none⟩),.pointer (some ⟨a,0,none⟩),.pointer (some ⟨c,0,none⟩),.pointer (some ⟨g,0,none⟩),.pointer (some ⟨d,0,none⟩)]⟩]) X λb9 t=>A.peek (.lg cc 1 (.pointer (some ⟨d,0,none⟩))) t λY=>A.ucV Y λu Z=>A.chk u (A.uc0 Z (A.callv u [.agg ⟨[.int .i64 q,.int .i64 s,.int .u8 0]⟩] [] t λa0 j=>A.un0 a0 (A.peek (.lg cc 1 (.pointer (some ⟨a,0,none⟩))) j λa1=>A.ucV a1 λw a2=>A.chk w (A.uc0 a2 (A.peek (.lg cc 1 (.pointer (some ⟨c,0,none⟩))) j λa3=>A.k9 a3 λa4=>A.opt (slS 1 w none (some a4) none) λx=>A.chk x (A.c0 23 [.v x] j λa5 a6=>A.heap (.st (.pointer (some ⟨a,0,none⟩)) [a6]) a5 λc1 y=>A.peek (.lg cc 1 (.pointer (some ⟨a,0,none⟩))) y λa7=>A.ucV a7 λz a8=>A.chk z (A.uc0 a8 (A.c2 17 [.v z] y λk B=>A.cd .neq B 0 (A.heap (.st (.pointer (some ⟨a,0,none⟩)) [.slice none 0 0]) k λc3 C=>A.peek (.ld 1 (.pointer (some ⟨a,0,none⟩))) C λa9=>A.ucV a9 λD b0=>A.chk D (A.uc0 b0 (K [.v D,.i 0,.i 0,.i 0,.i B] C))) (A.peek (.lg cc 1 (.pointer (some ⟨a,0,none⟩))) k λb1=>A.ucV b1 λE b2=>A.chk E (A.uc0 b2 (A.heap (.st (.pointer (some ⟨a,0,none⟩)) [E]) k λc4 F=>A.peek (.ld 1 (.pointer (some ⟨a,0,none⟩))) F λb3=>A.ucV b3 λG b4=>A.chk G (A.uc0 b4 (K [.v G,.i q,.i s,.i 0,.i 0] F)))))))))))))))))
def f8:R:=A.unV ls λd s=>A.unV s λt u=>A.k6 u λg j k=>A.c2 16 [.v d] h λl m=>A.cd .neq m 0 (K [.b false,.i m] l) (A.call 24 [.v t] l λw e=>A.k7 w λa n=>A.cd .neq n 0 (K [.b false,.i n] e) (A.cd .neq k 0 (K [.b false,.i 1] e) (A.c5 25 [.v d,.i g,.i j,.i k] e λo x=>A.cond (!x) (K [.b false,.i 1] o) (A.ln a λy=>A.loop (λz B f=>A.k2 B λc=>A.cd .lss c y (A.fx 3 a c 0 1 f λC=>A.k9 C λD=>A.pa D g λE=>A.opt (idS 3 a c) λF=>A.opt (fdP 0 F) λp=>A.chk p (A.heap (.st p [.int .i64 E]) f λP q=>A.fx 3 a c 1 1 q λG=>A.k9 G λH=>A.pa H j λI=>A.opt (idS 3 a c) λJ=>A.opt (fdP 1 J) λr=>A.chk r (A.heap (.st r [.int .i64 I]) q λQ L=>A.pa c 1 λM=>z [.i M] L))) (A.c5 26 [.v a,.v d] f λN O=>K [.b O,.i 0] N)) [.i 0] o))))
def f9:R:=A.k0 ls λa=>A.c2 17 [.v a] h λe f=>A.cd .neq f 0 (K [.i 0,.i f] e) (A.ln a λk=>A.loop (λl m b=>A.k3 m λc d=>A.cd .lss d k (A.ix 1 a d 1 b λn=>A.k8 n λo=>A.c5 27 [.i o] b λg p=>A.join (λq r=>A.k2 q λs=>A.pa d 1 λt=>l [.i s,.i t] r) λj=>A.cond (!p) (A.pa c 1 λu=>j [.i u] g) (j [.i c] g)) (K [.i c,.i 0] b)) [.i 1,.i 0] e)
def f10:R:=A.k0 ls λa=>A.c2 16 [.v a] h λb c=>A.cd .neq c 0 (K [.i 0,.i c] b) (A.ln a λd=>A.pq d 4 λe=>K [.i e,.i 0] b)
def f12:R:=A.un0 ls (A.new (.cells [.int .i64 0,.int .i64 0,.int .u8 0] 3 true) h λp q=>A.new (.cells [.int .i64 0,.int .i64 0,.int .u8 0,.int .i64 1,.int .i64 0,.int .u8 0] 3 true) q λr s=>A.new (.cells [.int .i64 0,.int .i64 0,.int .u8 0,.int .i64 0,.int .i64 1,.int .u8 0] 3 true) s λt u=>A.new (.cells [.int .i64 0,.int .i64 0,.int .u8 0,.int .i64 1,.int .i64 0,.int .u8 0,.int .i64 2,.int .i64 0,.int .u8 0] 3 true) u λw x=>A.new (.cells [.int .i64 0,.int .i64 0,.int .u8 0,.int .i64 1,.int .i64 0,.int .u8 0,.int .i64 0,.int .i64 1,.int .u8 0] 3 true) x λy z=>A.new (.cells [.slice (some ⟨p,0,some 13⟩) 1 2,.slice (some ⟨r,0,some 13⟩) 2 3,.slice (some ⟨t,0,some 13⟩) 2 3,.slice (some ⟨w,0,some 13⟩) 3 4,.slice (some ⟨y,0,some 13⟩) 3 4] 1 true) z λj B=>A.new (.cells [.string (.mk ⟨[]⟩),.string (.mk ⟨[.ofNat 102]⟩),.string (.mk ⟨[.ofNat 98,.ofNat 114,.ofNat 102]⟩),.string (.mk ⟨[.ofNat 102,.ofNat 102]⟩),.string (.mk ⟨[.ofNat 102,.ofNat 98,.ofNat 102,.ofNat 98,.ofNat 108,.ofNat 102]⟩)] 1 true) B λC D=>A.new (.cells [.int .i64 1,.int .i64 2,.int .i64 3,.int .i64 3,.int .i64 6] 1 true) D λE F=>A.new (.cells [.int .i64 1,.int .i64 2,.int .i64 3,.int .i64 3,.int .i64 5] 1 true) F λG H=>A.loop (λI J e=>A.k2 J λc=>A.opt (lenS (.slice (some ⟨j,0,some 11⟩) 5 6)) λL=>A.cd .lss c L (A.opt (idS 1 (.slice (some ⟨j,0,some 11⟩) 5 6) c) λM=>A.peek (.lg cc 1 M) e λN=>A.ucV N λk O=>A.chk k (A.uc0 O (A.c0 6 [.v k] e λP f=>A.call 7 [.v f] P λQ S=>A.unV Q λg T=>A.k1 T λl m n U=>A.c3 9 [.v g] S λV W X=>A.c3 15 [.v f] V λY Z a0=>A.call 8 [.v f,.v g,.i l,.i m,.i n] Y λa1 d=>A.unB a1 λa2 a3=>A.k2 a3 λa4=>A.cd .neq U 0 (K [.b false] d) (A.cd .neq X 0 (K [.b false] d) (A.cd .neq a0 0 (K [.b false] d) (A.cd .neq a4 0 (K [.b false] d) (A.cond (!a2) (K [.b false] d) (A.c0 28 [.v g] d λa a5=>A.opt (idS 1 (.slice (some ⟨C,0,some 11⟩) 5 6) c) λa6=>A.peek (.lg cc 1 a6) a λa7=>A.ucV a7 λo a8=>A.chk o (A.uc0 a8 (A.opt (strEq a5 o) λa9=>A.cond (!a9) (K [.b false] a) (A.opt (idS 1 (.slice (some ⟨E,0,some 11⟩) 5 6) c) λb0=>A.peek (.lg cc 1 b0) a λb1=>A.k9 b1 λb2=>A.cd .neq W b2 (K [.b false] a) (A.opt (idS 1 (.slice (some ⟨G,0,some 11⟩) 5 6) c) λb3=>A.peek (.lg cc 1 b3) a λb4=>A.k9 b4 λb5=>A.cd .neq Z b5 (K [.b false] a) (A.eqs [(.i l,.i 0),(.i m,.i 0),(.i n,.i 0)] λb6=>A.cond (!b6) (K [.b false] a) (A.pa c 1 λb7=>I [.i b7] a)))))))))))))) (K [.b true] e)) [.i 0] H)
def f13:R:=A.k0 ls λa=>A.ln a λf=>A.cd .gtr f 1024 (K [.i 3] h) (A.c5 29 [.v a] h λd g=>A.cond g (K [.i 1] d) (A.loop (λj k b=>A.k2 k λc=>A.ln a λl=>A.cd .lss c l (A.ps c 1 λm=>A.ix 3 a m 3 b λn=>A.k4 n λo p q=>A.ix 3 a c 3 b λr=>A.k4 r λs t u=>A.c2 30 [.i o,.i p,.i q,.i s,.i t,.i u] b λe w=>A.cd .geq w 0 (K [.i 6] e) (A.pa c 1 λx=>j [.i x] e)) (K [.i 0] b)) [.i 1] d))
def f14:R:=A.k0 ls λa=>A.ln a λH=>A.cd .eql H 0 (K [.i 7] h) (A.loop (λI J f=>A.k2 J λg=>A.ln a λL=>A.cd .lss g L (A.loop (λM N j=>A.k2 N λn=>A.cd .lss n 4 (A.fx 3 a g 0 1 j λO=>A.k9 O λP=>A.fx 3 a g 1 1 j λQ=>A.k9 Q λS=>A.c5 18 [.v a,.i P,.i S,.i n] j λu T=>A.cond (!T) (K [.i 1] u) (A.ari .add .u8 n 1 λU=>M [.i U] u)) (A.pa g 1 λV=>I [.i V] j)) [.i 0] f) (A.opt (idS 3 a 0) λW=>A.opt (fdP 0 W) λw=>A.chk w (A.peek (.lg cc 1 w) f λX=>A.k9 X λY=>A.opt (idS 3 a 0) λZ=>A.opt (fdP 1 Z) λx=>A.chk x (A.peek (.lg cc 1 x) f λa0=>A.k9 a0 λa1=>A.new (.cells [.int .i64 Y,.int .i64 a1,.int .u8 0] 3 true) f λa2 a3=>A.loop (λa4 a5 o=>A.k7 a5 λp k=>A.ln p λa6=>A.cd .lss k a6 (A.loop (λy a7 q=>A.k7 a7 λb c=>A.cd .lss c 4 (A.opt (idS 3 b k) λa8=>A.opt (fdP 0 a8) λl=>A.chk l (A.peek (.lg cc 1 l) q λa9=>A.k9 a9 λb0=>A.new (.cells [.int .i64 1,.int .i64 0,.int .i64 (-1),.int .i64 0] 1 true) q λd r=>A.opt (idS 1 (.slice (some ⟨d,0,some 11⟩) 4 5) c) λz=>A.peek (.lg cc 1 z) r λb1=>A.k9 b1 λb2=>A.pa b0 b2 λs=>A.opt (idS 3 b k) λb3=>A.opt (fdP 1 b3) λm=>A.chk m (A.peek (.lg cc 1 m) r λb4=>A.k9 b4 λb5=>A.new (.cells [.int .i64 0,.int .i64 1,.int .i64 0,.int .i64 (-1)] 1 true) r λe B=>A.opt (idS 1 (.slice (some ⟨e,0,some 11⟩) 4 5) c) λC=>A.peek (.lg cc 1 C) B λb6=>A.k9 b6 λb7=>A.pa b5 b7 λt=>A.opt (Sx.sepL [(.slice (some ⟨d,0,some 11⟩) 4 5,(0,l)),(.slice (some ⟨d,0,some 11⟩) 4 5,(0,m)),(.slice (some ⟨e,0,some 11⟩) 4 5,(0,l)),(.slice (some ⟨d,0,some 11⟩) 4 5,(0,.slice (some ⟨e,0,some 11⟩) 4 5)),(.slice (some ⟨e,0,some 11⟩) 4 5,(0,z)),(.slice (some ⟨e,0,some 11⟩) 4 5,(0,m)),(.slice (some ⟨d,0,some 11⟩) 4 5,(0,C))]) λd5=>A.c5 18 [.v a,.i s,.i t,.i 0] B λD b8=>A.cond b8 (A.c5 18 [.v b,.i s,.i t,.i 0] D λE b9=>A.join (λc0 c1=>A.k0 c0 λc2=>A.pa c 1 λc3=>y [.v c2,.i c3] c1) λF=>A.cond (!b9) (A.new (.cells [.int .i64 s,.int .i64 t,.int .u8 0] 3 true) E λc4 c6=>A.heap (.ap cc 3 24 b (.slice (some ⟨c4,0,some 13⟩) 1 2)) c6 λc7 c8=>A.ucV c7 λG c9=>A.chk G (A.uc0 c9 (F [.v G] c8))) (F [.v b] E)) (A.pa c 1 λd0=>y [.v b,.i d0] D)))) (A.pa k 1 λd1=>a4 [.v b,.i d1] q)) [.v p,.i 0] o) (A.ln p λd2=>A.pm 4 d2 λd3=>A.ln a λd4=>A.cd .neq d3 d4 (K [.i 14] o) (K [.i 0] o))) [.v (.slice (some ⟨a2,0,some 13⟩) 1 2),.i 0] a3)))) [.i 0] h)
def f15:R:=A.k0 ls λa=>A.c3 10 [.v a] h λp b2 Q=>A.cd .neq Q 0 (K [.i 0,.i Q] p) (A.cd .gtr b2 3 (K [.i 0,.i 3] p) (A.new (.map [] 0) p λS b3=>A.ln a λb4=>A.loop (λb5 b6 e=>A.k7 b6 λq r=>A.cd .lss r b4 (A.ix 3 a r 3 e λb7=>A.k4 b7 λb8 b9 T=>A.cmp .eql T 0 λc0=>A.join (λc1 c4=>A.k0 c1 λc7=>A.pa r 1 λc8=>b5 [.v c7,.i c8] c4) λU=>A.cond c0 (A.new (.cells [.int .i64 b8,.int .i64 b9,.int .u8 T,.int .i64 0,.bool false,.bool false,.bool false,.bool false,.bool false,.bool false,.bool false,.bool false,.bool false,.bool false,.bool false,.bool false] 16 true) e λc9 d0=>A.heap (.ap cc 16 48 q (.slice (some ⟨c9,0,some 26⟩) 1 2)) d0 λd1 d2=>A.ucV d1 λV d3=>A.chk V (A.uc0 d3 (U [.v V] d2))) (U [.v q] e)) (A.loop (λd4 d5 d6=>A.k7 d5 λW X=>A.ln W λd7=>A.loop (λd8 d9 s=>A.k7 d9 λY t=>A.cd .lss t d7 (A.ix 16 W t 16 s λe0=>A.ucI .i64 e0 λu e1=>A.ucI .i64 e1 λw e2=>A.ucI .u8 e2 λZ e3=>A.ucI .i64 e3 λf e4=>A.ucB e4 λe5 e6=>A.ucB e6 λe7 e8=>A.ucB e8 λe9 f0=>A.ucB f0 λf1 f2=>A.ucB f2 λf3 f4=>A.ucB f4 λf5 f6=>A.ucB f6 λf7 f8=>A.ucB f8 λf9 g0=>A.ucB g0 λg1 g2=>A.ucB g2 λg3 g4=>A.ucB g4 λg5 g6=>A.ucB g6 λg7 g8=>A.uc0 g8 (A.loop (λg9 h0 a0=>A.k7 h0 λa1 g=>A.cd .lss g 3 (A.new (.cells [.bool false,.bool false,.bool false,.bool false,.bool false,.bool false,.bool false,.bool false,.bool false,.bool false,.bool false,.bool false] 1 true) a0 λc h1=>A.heap (.st (.pointer (some ⟨c,0,none⟩)) [.bool e5,.bool e7,.bool e9,.bool f1,.bool f3,.bool f5,.bool f7,.bool f9,.bool g1,.bool g3,.bool g5,.bool g7]) h1 λu3 h2=>A.new (.cells [.int .i64 0,.int .i64 1,.int .i64 2,.int .i64 3] 1 true) h2 λh3 x=>A.cmp .eql g 1 λh4=>A.join (λh5 h6=>A.k7 h5 λa2 y=>A.ln a2 λh7=>A.loop (λh8 h9 j=>A.k2 h9 λz=>A.cd .lss z h7 (A.ix 1 a2 z 1 j λi0=>A.k9 i0 λi1=>A.pa f i1 λi2=>A.pa i2 1 λi3=>A.pr i3 4 λi4=>A.conv .u8 i4 λi5=>A.c2 31 [.v a,.i u,.i w,.i i5] j λi6 i7=>A.opt (idP 12 1 (.pointer (some ⟨c,0,none⟩)) i7) λa3=>A.chk a3 (A.heap (.st a3 [.bool true]) i6 λu4 i8=>A.pa z 1 λi9=>h8 [.i i9] i8)) (A.ln a λj0=>A.peek (.fn (slAG 12 1 (.pointer (some ⟨c,0,none⟩)) none (some j0) none)) j λj1=>A.ucV j1 λa4 j2=>A.chk a4 (A.uc0 j2 (A.c5 32 [.v a4,.b false] j λa5 j3=>A.cond (!j3) (K [.i X,.i 0] a5) (A.c6 22 [.i u,.i w,.i Z,.i y] a5 λB j4 j5 j6=>A.peek (.lg cc 12 (.pointer (some ⟨c,0,none⟩))) B λj7=>A.ucB j7 λj8 j9=>A.ucB j9 λk1 k3=>A.ucB k3 λk6 k8=>A.ucB k8 λl0 l1=>A.ucB l1 λl2 l3=>A.ucB l3 λl4 l5=>A.ucB l5 λl6 l7=>A.ucB l7 λl8 l9=>A.ucB l9 λm0 m1=>A.ucB m1 λm2 m3=>A.ucB m3 λm4 m5=>A.ucB m5 λm6 m7=>A.uc0 m7 (A.pa y 2 λm8=>A.pr m8 4 λm9=>A.peek (.lg cc 12 (.pointer (some ⟨c,0,none⟩))) B λn0=>A.ucB n0 λn1 n2=>A.ucB n2 λn3 n4=>A.ucB n4 λn5 n6=>A.ucB n6 λn7 n8=>A.ucB n8 λn9 o0=>A.ucB o0 λo1 o2=>A.ucB o2 λo3 o4=>A.ucB o4 λo5 o6=>A.ucB o6 λo7 o8=>A.ucB o8 λo9 p0=>A.ucB p0 λp1 p2=>A.ucB p2 λp3 p4=>A.uc0 p4 (A.loop (λa6 p5 a7=>A.k7 p5 λk d=>A.cd .lss d 2 (A.opt (inB 2 d) λu5=>A.opt (rr [.i j4,.i j5,.i j6,.i y,.b j8,.b k1,.b k6,.b l0,.b l2,.b l4,.b l6,.b l8,.b m0,.b m2,.b m4,.b m6,.i u,.i w,.i Z,.i m9,.b n1,.b n3,.b n5,.b n7,.b n9,.b o1,.b o3,.b o5,.b o7,.b o9,.b p1,.b p3] 0 [(d,16)] 16) λp6=>A.unI p6 λl p7=>A.unI p7 λm p8=>A.unI p8 λn p9=>A.unI p9 λC q0=>A.unB q0 λD q1=>A.unB q1 λE q2=>A.unB q2 λF q3=>A.unB q3 λG q4=>A.unB q4 λH q5=>A.unB q5 λI q6=>A.unB q6 λJ q7=>A.unB q7 λL q8=>A.unB q8 λM q9=>A.unB q9 λN r0=>A.unB r0 λO r1=>A.k5 r1 λP=>A.c5 25 [.v a,.i l,.i m,.i n] a7 λo r2=>A.cond r2 (A.peek (.fn (luG cc 73 false (.bool false) (.map (some S)) (.agg ⟨[.int .i64 l,.int .i64 m,.int .u8 n,.int .i64 C,.bool D,.bool E,.bool F,.bool G,.bool H,.bool I,.bool J,.bool L,.bool M,.bool N,.bool O,.bool P]⟩) false)) o λr3=>A.ucB r3 λr4 r5=>A.uc0 r5 (A.join (λr6 r7=>A.k0 r6 λr8=>A.pa d 1 λr9=>a6 [.v r8,.i r9] r7) λa8=>A.cond (!r4) (A.heap (.fn (muG cc 73 (.map (some S)) (.agg ⟨[.int .i64 l,.int .i64 m,.int .u8 n,.int .i64 C,.bool D,.bool E,.bool F,.bool G,.bool H,.bool I,.bool J,.bool L,.bool M,.bool N,.bool O,.bool P]⟩) (.bool true))) o λu6 s0=>A.new (.cells [.int .i64 l,.int .i64 m,.int .u8 n,.int .i64 C,.bool D,.bool E,.bool F,.bool G,.bool H,.bool I,.bool J,.bool L,.bool M,.bool N,.bool O,.bool P] 16 true) s0 λs1 s2=>A.heap (.ap cc 16 48 k (.slice (some ⟨s1,0,some 26⟩) 1 2)) s2 λs3 s4=>A.ucV s3 λa9 s5=>A.chk a9 (A.uc0 s5 (a8 [.v a9] s4))) (a8 [.v k] o))) (A.pa d 1 λs6=>a6 [.v k,.i s6] o)) (A.pa g 1 λs7=>g9 [.v k,.i s7] a7)) [.v a1,.i 0] B))))))) [.i 0] h6) λb0=>A.cond h4 (A.new (.cells [.int .i64 1,.int .i64 2] 1 true) x λs8 s9=>A.pa f 1 λt0=>A.pr t0 4 λt1=>b0 [.v (.slice (some ⟨s8,0,some 11⟩) 2 3),.i t1] s9) (A.cmp .eql g 2 λt2=>A.join (λt3 t4=>A.k7 t3 λt5 t6=>b0 [.v t5,.i t6] t4) λb1=>A.cond t2 (A.new (.cells [.int .i64 2,.int .i64 3] 1 true) x λt7 t8=>A.pa f 3 λt9=>A.pr t9 4 λu0=>b1 [.v (.slice (some ⟨t7,0,some 11⟩) 2 3),.i u0] t8) (b1 [.v (.slice (some ⟨h3,0,some 11⟩) 4 5),.i f] x))) (A.pa t 1 λu1=>d8 [.v a1,.i u1] a0)) [.v Y,.i 0] s)) (A.pa X 1 λu2=>d4 [.v Y,.i u2] s)) [.v (.slice none 0 0),.i 0] d6) [.v q,.i 1] e)) [.v (.slice none 0 0),.i 0] b3))
def f16:R:=A.k0 ls λa=>A.c2 13 [.v a] h λj k=>A.cd .neq k 0 (K [.i k] j) (A.ln a λr=>A.cd .eql r 0 (K [.i 7] j) (A.c0 20 [.v a] j λs t=>A.new (.cells [.map none] 1 true) s λc u=>A.heap (.st (.pointer (some ⟨c,0,none⟩)) [t]) u λa1 d=>A.peek (.lg cc 1 (.pointer (some ⟨c,0,none⟩))) d λw=>A.ucV w λl x=>A.chk l (A.uc0 x (A.peek (.fn (lenM l)) d λy=>A.k9 y λz=>A.pm 4 z λB=>A.ln a λC=>A.cd .neq B C (K [.i 1] d) (A.new (.map [] 0) d λD E=>A.new (.cells [.map none] 1 true) E λe F=>A.heap (.st (.pointer (some ⟨e,0,none⟩)) [.map (some D)]) F λa2 G=>A.new (.cells [.nilFunc] 1 true) G λf H=>A.chk (.func (.func 33) ⟨[]⟩ ⟨[.pointer (some ⟨c,0,none⟩),.pointer (some ⟨e,0,none⟩),.pointer (some ⟨f,0,none⟩)]⟩) (A.heap (.st (.pointer (some ⟨f,0,none⟩)) [.func (.func 33) ⟨[]⟩ ⟨[.pointer (some ⟨c,0,none⟩),.pointer (some ⟨e,0,none⟩),.pointer (some ⟨f,0,none⟩)]⟩]) H λa3 g=>A.peek (.lg cc 1 (.pointer (some ⟨f,0,none⟩))) g λI=>A.ucV I λm J=>A.chk m (A.uc0 J (A.opt (idS 3 a 0) λL=>A.opt (fdP 0 L) λn=>A.chk n (A.peek (.lg cc 1 n) g λM=>A.k9 M λN=>A.opt (idS 3 a 0) λO=>A.opt (fdP 1 O) λo=>A.chk o (A.peek (.lg cc 1 o) g λP=>A.k9 P λQ=>A.callv m [.agg ⟨[.int .i64 N,.int .i64 Q,.int .u8 0]⟩] [] g λS b=>A.un0 S (A.peek (.lg cc 1 (.pointer (some ⟨e,0,none⟩))) b λT=>A.ucV T λp U=>A.chk p (A.uc0 U (A.peek (.fn (lenM p)) b λV=>A.k9 V λW=>A.peek (.lg cc 1 (.pointer (some ⟨c,0,none⟩))) b λX=>A.ucV X λq Y=>A.chk q (A.uc0 Y (A.peek (.fn (lenM q)) b λZ=>A.k9 Z λa0=>A.cd .neq W a0 (K [.i 14] b) (K [.i 0] b))))))))))))))))
def f17:R:=A.k0 ls λc=>A.c5 34 [.v c,.v (.func (.func 35) ⟨[]⟩ ⟨[]⟩)] h λj r=>A.cond r (K [.i 1] j) (A.ln c λs=>A.loop (λg t d=>A.k3 t λa b=>A.cd .lss b s (A.ix 1 c b 1 d λu=>A.k8 u λe=>A.c5 27 [.i e] d λf w=>A.cond w (A.cd .gtr b 0 (A.ps b 1 λx=>A.ix 1 c x 1 f λy=>A.k8 y λz=>A.c5 27 [.i z] f λk B=>A.join (λC D=>A.un0 C (A.c5 27 [.i e] D λl E=>A.join (λF G=>A.k2 F λH=>A.pa b 1 λI=>g [.i H,.i I] G) λm=>A.cond (!E) (A.pa a 1 λJ=>m [.i J] l) (m [.i a] l))) λL=>A.cond B (K [.i 6] k) (L [] k)) (A.c5 27 [.i e] f λn M=>A.join (λN O=>A.k2 N λP=>A.pa b 1 λQ=>g [.i P,.i Q] O) λo=>A.cond (!M) (A.pa a 1 λS=>o [.i S] n) (o [.i a] n))) (A.c5 27 [.i e] f λp T=>A.join (λU V=>A.k2 U λW=>A.pa b 1 λX=>g [.i W,.i X] V) λq=>A.cond (!T) (A.pa a 1 λY=>q [.i Y] p) (q [.i a] p))) (A.cd .gtr a 256 (K [.i 3] d) (K [.i 0] d))) [.i 1,.i 0] j)
def f18:R:=A.unV ls λd e=>A.k6 e λf g j=>A.loop (λk l a=>A.k2 l λc=>A.ln d λm=>A.cd .lss c m (A.ix 3 d c 3 a λn=>A.k4 n λo p q=>A.eqs [(.i o,.i f),(.i p,.i g),(.i q,.i j)] λr=>A.cond r (K [.b true] a) (A.pa c 1 λs=>k [.i s] a)) (K [.b false] a)) [.i 0] h
def f19:R:=A.unI ls λa f=>A.unI f λc g=>A.k1 g λi d e j=>A.cd .neq c e (A.cmp .lss c e λk=>K [.b k] h) (A.cd .neq a d (A.cmp .lss a d λl=>K [.b l] h) (A.cmp .lss i j λm=>K [.b m] h))
def f20:R:=A.k0 ls λc=>A.new (.map [] 0) h λd e=>A.ln c λf=>A.loop (λg j a=>A.k2 j λb=>A.cd .lss b f (A.ix 3 c b 3 a λk=>A.k4 k λl m p=>A.heap (.fn (muG cc 30 (.map (some d)) (.agg ⟨[.int .i64 l,.int .i64 m,.int .u8 0]⟩) (.bool true))) a λq n=>A.pa b 1 λo=>g [.i o] n) (K [.v (.map (some d))] a)) [.i 0] e
def f21:R:=A.unI ls λf G=>A.unI G λg H=>A.unI H λj I=>A.unV I λk J=>A.unV J λc L=>A.unV L λM N=>A.unV N λd O=>A.k0 O λP=>A.peek (.lg cc 1 k) h λQ=>A.ucV Q λl S=>A.chk l (A.uc0 S (A.heap (.fn (deG cc 30 l (.agg ⟨[.int .i64 f,.int .i64 g,.int .u8 j]⟩))) h λd7 m=>A.peek (.lg cc 1 c) m λT=>A.ucV T λn U=>A.chk n (A.uc0 U (A.ln n λV=>A.heap (.st M [.int .i64 V]) m λd8 W=>A.loop (λX Y o=>A.k2 Y λa=>A.cd .lss a 4 (A.join (λZ a0=>A.un0 Z (A.pa a 1 λa1=>X [.i a1] a0)) λp=>A.c6 22 [.i f,.i g,.i j,.i a] o λb q r s=>A.peek (.lg cc 1 k) b λa2=>A.ucV a2 λt a3=>A.chk t (A.uc0 a3 (A.peek (.fn (luG cc 30 false (.bool false) t (.agg ⟨[.int .i64 q,.int .i64 r,.int .u8 s]⟩) false)) b λa4=>A.ucB a4 λa5 a6=>A.uc0 a6 (A.cond (!a5) (p [] b) (A.peek (.lg cc 1 c) b λa7=>A.ucV a7 λu a8=>A.chk u (A.uc0 a8 (A.peek (.lg cc 1 d) b λa9=>A.k9 a9 λb0=>A.ps a b0 λb1=>A.pa b1 4 λb2=>A.pr b2 4 λv=>A.opt (inB 4 v) λd9=>A.opt (cW gl0 0 [(v,1)] 1) λb3=>A.ucV b3 λw b4=>A.chk w (A.uc0 b4 (A.heap (.ap cc 1 1 u w) b λb5 b6=>A.ucV b5 λx b7=>A.chk x (A.uc0 b7 (A.heap (.st c [x]) b6 λe0 b8=>A.heap (.st d [.int .i64 a]) b8 λe1 y=>A.peek (.lg cc 1 P) y λb9=>A.ucV b9 λz c0=>A.chk z (A.uc0 c0 (A.callv z [.agg ⟨[.int .i64 q,.int .i64 r,.int .u8 s]⟩] [] y λc1 e=>A.un0 c1 (A.pa a 2 λc2=>A.pr c2 4 λB=>A.peek (.lg cc 1 c) e λc3=>A.ucV c3 λC c4=>A.chk C (A.uc0 c4 (A.peek (.lg cc 1 d) e λc5=>A.k9 c5 λc7=>A.ps B c7 λc8=>A.pa c8 4 λc9=>A.pr c9 4 λD=>A.opt (inB 4 D) λe2=>A.opt (cW gl0 0 [(D,1)] 1) λd0=>A.ucV d0 λE d1=>A.chk E (A.uc0 d1 (A.heap (.ap cc 1 1 C E) e λd2 d3=>A.ucV d2 λF d4=>A.chk F (A.uc0 d4 (A.heap (.st c [F]) d3 λe3 d5=>A.heap (.st d [.int .i64 B]) d5 λe4 d6=>p [] d6)))))))))))))))))))) (K [] o)) [.i 0] W))))
def f22:R:=A.k1 ls λb c l a=>A.opt (inB 4 a) λm=>A.opt (cW gl1 0 [(a,2)] 1) λd=>A.k9 d λe=>A.pa b e λf=>A.opt (inB 4 a) λn=>A.opt (cW gl1 1 [(a,2)] 1) λg=>A.k9 g λj=>A.pa c j λk=>K [.i f,.i k,.i 0] h
def f23:R:=A.k0 ls λa=>A.ln a λc=>A.ln a λd=>A.opt (slS 1 a none (some c) (some d)) λb=>A.chk b (K [.v b] h)
def f24:R:=A.k0 ls λo=>A.call 36 [.v o] h λp g=>A.k7 p λj k=>A.cd .neq k 0 (K [.v (.slice none 0 0),.i k] g) (A.new (.map [] 0) g λl q=>A.ln j λr=>A.loop (λs t a=>A.k7 t λb c=>A.cd .lss c r (A.ix 3 j c 3 a λu=>A.k4 u λd e f=>A.peek (.fn (luG cc 30 false (.bool false) (.map (some l)) (.agg ⟨[.int .i64 d,.int .i64 e,.int .u8 f]⟩) false)) a λw=>A.ucB w λx y=>A.uc0 y (A.join (λz B=>A.k0 z λC=>A.pa c 1 λD=>s [.v C,.i D] B) λm=>A.cond (!x) (A.heap (.fn (muG cc 30 (.map (some l)) (.agg ⟨[.int .i64 d,.int .i64 e,.int .u8 f]⟩) (.bool true))) a λP E=>A.new (.cells [.int .i64 d,.int .i64 e,.int .u8 f] 3 true) E λF G=>A.heap (.ap cc 3 24 b (.slice (some ⟨F,0,some 13⟩) 1 2)) G λH I=>A.ucV H λn J=>A.chk n (A.uc0 J (m [.v n] I))) (m [.v b] a))) (A.call 37 [.v b] a λL M=>A.k7 L λN O=>K [.v N,.i O] M)) [.v (.slice none 0 0),.i 0] q)
def f25:R:=A.unV ls λa c=>A.k6 c λd e f=>A.c5 38 [.v a,.i d,.i e,.i f] h λg j=>K [.b j] g
def f26:R:=A.unV ls λa c=>A.k0 c λd=>A.c5 39 [.v a,.v d] h λe f=>K [.b f] e
def f27:R:=A.k2 ls λa=>A.join (λd e=>A.k5 d λf=>K [.b f] e) λc=>A.cd .eql a 3 (c [.b true] h) (A.cmp .eql a 4 λg=>c [.b g] h)
def f28:R:=A.k0 ls λa=>A.c0 40 [.v a] h λb c=>K [.v c] b
def f29:R:=A.k0 ls λa=>A.c5 41 [.v a,.v (.func (.func 42) ⟨[]⟩ ⟨[]⟩)] h λc d=>K [.b d] c
def f30:R:=A.unI ls λa b=>A.unI b λc d=>A.k1 d λe f g j=>A.ci e λk=>A.ci j λl=>A.new (.cells [.int .i64 c,.int .i64 g,.int .i64 a,.int .i64 f,.int .i64 k,.int .i64 l] 2 true) h λm n=>A.c2 44 [.v (.slice (some ⟨m,0,some 12⟩) 3 4)] n λo p=>K [.i p] o
def f31:R:=A.unV ls λc d=>A.k6 d λe f g=>A.ln c λj=>A.loop (λk l a=>A.k2 l λb=>A.cd .lss b j (A.ix 3 c b 3 a λm=>A.k4 m λn o p=>A.eqs [(.i e,.i n),(.i f,.i o),(.i g,.i p)] λq=>A.cond q (K [.i b] a) (A.pa b 1 λr=>k [.i r] a)) (K [.i (-1)] a)) [.i 0] h
def f32:R:=A.unV ls λa c=>A.k5 c λd=>A.c2 45 [.v a,.b d] h λe f=>A.cmp .geq f 0 λg=>K [.b g] e
def f33:R:=A.unI ls λa m=>A.unI m λb n=>A.unI n λc o=>A.unV o λp q=>A.unV q λf r=>A.k0 r λs=>A.peek (.lg cc 1 p) h λt=>A.ucV t λg u=>A.chk g (A.uc0 u (A.peek (.fn (luG cc 30 false (.bool false) g (.agg ⟨[.int .i64 a,.int .i64 b,.int .u8 c]⟩) false)) h λv=>A.ucB v λw x=>A.uc0 x (A.cond (!w) (K [] h) (A.peek (.lg cc 1 f) h λy=>A.ucV y λj z=>A.chk j (A.uc0 z (A.peek (.fn (luG cc 30 false (.bool false) j (.agg ⟨[.int .i64 a,.int .i64 b,.int .u8 c]⟩) false)) h λB=>A.ucB B λC D=>A.uc0 D (A.cond C (K [] h) (A.peek (.lg cc 1 f) h λE=>A.ucV E λk F=>A.chk k (A.uc0 F (A.heap (.fn (muG cc 30 k (.agg ⟨[.int .i64 a,.int .i64 b,.int .u8 c]⟩) (.bool true))) h λU G=>A.loop (λH I d=>A.k2 I λe=>A.cd .lss e 4 (A.peek (.lg cc 1 s) d λJ=>A.ucV J λl L=>A.chk l (A.uc0 L (A.c6 22 [.i a,.i b,.i c,.i e] d λM N O P=>A.callv l [.agg ⟨[.int .i64 N,.int .i64 O,.int .u8 P]⟩] [] M λQ S=>A.un0 Q (A.pa e 1 λT=>H [.i T] S)))) (K [] d)) [.i 0] G))))))))))
def f34:R:=A.unV ls λa c=>A.k0 c λd=>A.c2 46 [.v a,.v d] h λe f=>A.cmp .geq f 0 λg=>K [.b g] e
def f35:R:=A.k2 ls λa=>A.join (λd e=>A.k5 d λf=>K [.b f] e) λc=>A.cd .lss a 1 (c [.b true] h) (A.cmp .gtr a 4 λg=>c [.b g] h)
def f36:R:=A.k0 ls λb=>A.call 47 [.v b] h λn c=>A.unI n λd o=>A.unI o λe p=>A.k7 p λf g=>A.cd .neq g 0 (K [.v (.slice none 0 0),.i g] c) (A.c6 48 [] c λa j k l=>A.ln b λq=>A.cd .gtr q 0 (A.opt (idS 1 b 0) λr=>A.peek (.lg cc 1 r) a λs=>A.k8 s λt=>A.cmp .eql t 3 λu=>A.join (λw x=>A.k6 w λy z B=>A.call 50 [.i d,.i e,.v f,.i y,.i z,.i B] x λC D=>A.k7 C λE F=>K [.v E,.i F] D) λm=>A.cond u (A.call 49 [.i 4,.i 0] a λG H=>A.k1 G λI J L Q=>m [.i I,.i J,.i L] H) (m [.i j,.i k,.i l] a)) (A.call 50 [.i d,.i e,.v f,.i j,.i k,.i l] a λM N=>A.k7 M λO P=>K [.v O,.i P] N))
def f37:R:=A.k0 ls λa=>A.c5 29 [.v a] h λb f=>A.cond f (K [.v (.slice none 0 0),.i 1] b) (A.c0 51 [.v a] b λg c=>A.call 52 [.v c,.v (.func (.func 30) ⟨[]⟩ ⟨[]⟩)] g λj k=>A.un0 j (A.c0 53 [.v c] k λd e=>A.ln e λl=>A.cd .gtr l 1024 (K [.v (.slice none 0 0),.i 3] d) (A.c0 54 [.v e] d λm n=>K [.v n,.i 0] m)))
def f38:R:=A.unV ls λa c=>A.k6 c λd e f=>A.c2 31 [.v a,.i d,.i e,.i f] h λg j=>A.cmp .geq j 0 λk=>K [.b k] g
def f39:R:=A.unV ls λd f=>A.k0 f λe=>A.ln d λg=>A.ln e λj=>A.cd .neq g j (K [.b false] h) (A.ln d λk=>A.loop (λl m a=>A.k2 m λc=>A.cd .lss c k (A.ix 3 d c 3 a λn=>A.k4 n λo p q=>A.ix 3 e c 3 a λr=>A.k4 r λs t u=>A.eqs [(.i o,.i s),(.i p,.i t),(.i q,.i u)] λv=>A.cond (!v) (K [.b false] a) (A.pa c 1 λw=>l [.i w] a)) (K [.b true] a)) [.i 0] h)
def f41:R:=A.unV ls λa c=>A.k0 c λd=>A.c2 57 [.v a,.v d] h λe f=>A.cmp .geq f 0 λg=>K [.b g] e
def f42:R:=A.k6 ls λa c d=>A.c2 43 [.i a,.i c,.i d] h λe f=>A.cmp .neq f 0 λg=>K [.b g] e
def f43:R:=A.k6 ls λa b c=>A.cd .lss a (-4096) (K [.i 1] h) (A.cd .gtr a 4096 (K [.i 1] h) (A.cd .lss b (-4096) (K [.i 1] h) (A.cd .gtr b 4096 (K [.i 1] h) (A.cd .gtr c 3 (K [.i 1] h) (K [.i 0] h)))))
def f44:R:=A.k0 ls λc=>A.ln c λf=>A.loop (λg j a=>A.k2 j λb=>A.cd .lss b f (A.ix 2 c b 2 a λk=>A.ucI .i64 k λl m=>A.k9 m λn=>A.c2 58 [.i l,.i n] a λd e=>A.cd .neq e 0 (K [.i e] d) (A.pa b 1 λo=>g [.i o] d)) (K [.i 0] a)) [.i 0] h
def f45:R:=A.unV ls λd e=>A.k5 e λf=>A.ln d λg=>A.loop (λj k a=>A.k2 k λc=>A.cd .lss c g (A.ix 1 d c 1 a λl=>A.ucB l λm n=>A.uc0 n (A.eqs [(.b f,.b m)] λo=>A.cond o (K [.i c] a) (A.pa c 1 λp=>j [.i p] a))) (K [.i (-1)] a)) [.i 0] h
def f46:R:=A.unV ls λd f=>A.k0 f λg=>A.ln d λj=>A.loop (λk l c=>A.k2 l λa=>A.cd .lss a j (A.ix 1 d a 1 c λm=>A.k8 m λn=>A.callv g [.int .u8 n] [.leaf .b] c λo e=>A.k5 o λp=>A.cond p (K [.i a] e) (A.pa a 1 λq=>k [.i q] e)) (K [.i (-1)] c)) [.i 0] h
def f47:R:=A.k0 ls λl=>A.c3 9 [.v l] h λo z p=>A.cd .neq p 0 (A.opt (chk2 (.slice none 0 0)) λe8=>K [.i 0,.i 0,.v (.slice none 0 0),.i p] o) (A.ln l λB=>A.loop (λC D g=>A.unI D λa E=>A.unB E λj F=>A.unI F λm G=>A.unI G λd H=>A.unI H λe I=>A.k0 I λc=>A.cd .lss m B (A.join (λJ L=>A.unI J λM N=>A.unB N λO P=>A.unI P λQ S=>A.unI S λT U=>A.k0 U λV=>A.pa m 1 λW=>C [.i M,.b O,.i W,.i Q,.i T,.v V] L) λq=>A.ix 1 l m 1 g λX=>A.k8 X λn=>A.join (λY k=>A.k2 Y λf=>A.cd .eql n 1 (A.pa a 1 λZ=>q [.i Z,.b j,.i d,.i e,.v c] k) (A.cmp .eql n 2 λa0=>A.join (λa1 a2=>A.unI a1 λa3 a4=>A.unI a4 λa5 a6=>A.unI a6 λa7 a8=>A.k0 a8 λa9=>q [.i a3,.b (!j),.i a5,.i a7,.v a9] a2) λr=>A.cond a0 (A.pm 4 a λb0=>A.pa b0 1 λb1=>A.new (.cells [.int .i64 b1,.int .u8 0,.int .u8 f] 3 true) k λb2 b3=>A.heap (.ap cc 3 16 c (.slice (some ⟨b2,0,some 13⟩) 1 2)) b3 λb4 b5=>A.ucV b4 λs b6=>A.chk s (A.uc0 b6 (A.pa a 1 λb7=>r [.i b7,.i d,.i e,.v s] b5))) (A.cmp .eql n 3 λb8=>A.eqs [(.b b8,.b j)] λb9=>A.join (λc1 c2=>A.unI c1 λc4 c5=>A.unI c5 λc6 c7=>A.k0 c7 λc8=>r [.i a,.i c4,.i c6,.v c8] c2) λt=>A.cond b9 (A.pm 4 a λc9=>A.pm 4 a λd0=>A.pa d0 1 λd1=>A.new (.cells [.int .i64 c9,.int .u8 2,.int .u8 f,.int .i64 d1,.int .u8 2,.int .u8 f] 3 true) k λd2 d3=>A.heap (.ap cc 3 16 c (.slice (some ⟨d2,0,some 13⟩) 2 3)) d3 λd4 d5=>A.ucV d4 λu d6=>A.chk u (A.uc0 d6 (t [.i d,.i e,.v u] d5))) (A.pm 4 a λd7=>A.pm 4 a λd8=>A.pa d8 2 λd9=>A.new (.cells [.int .i64 d7,.int .u8 1,.int .u8 f,.int .i64 d9,.int .u8 1,.int .u8 f] 3 true) k λe0 e1=>A.heap (.ap cc 3 16 c (.slice (some ⟨e0,0,some 13⟩) 2 3)) e1 λe2 e3=>A.ucV e2 λw e4=>A.chk w (A.uc0 e4 (t [.i d,.i e,.v w] e3)))))) λx=>A.cond j (x [.i 2] g) (x [.i 1] g)) (A.call 59 [.v c,.v (.func (.func 60) ⟨[]⟩ ⟨[]⟩)] g λe5 e6=>A.un0 e5 (A.c0 61 [.v c] e6 λe7 y=>A.opt (chk2 y) λe9=>K [.i d,.i e,.v y,.i 0] e7))) [.i 0,.b true,.i 0,.i z,.i 1,.v (.slice none 0 0)] o)
def f48:R:=A.un0 ls (K [.i 0,.i 0,.i 0] h)
def f49:R:=A.k3 ls λc a=>A.c2 62 [.i c,.i a] h λb d=>A.cd .neq d 0 (K [.i 0,.i 0,.i 0,.i 1] b) (A.cd .eql c 1 (A.pm 2 a λe=>K [.i 4,.i e,.i 0,.i 0] b) (A.cd .eql c 2 (A.pm 2 a λf=>K [.i 6,.i 0,.i f,.i 0] b) (A.cd .eql c 3 (K [.i 5,.i a,.i a,.i 0] b) (A.ps 0 a λg=>K [.i 7,.i g,.i a,.i 0] b))))
def f50:R:=A.unI ls λa b=>A.unI b λc d=>A.unV d λe f=>A.k6 f λg j k=>A.call 63 [.i a,.i c,.v e,.i g,.i j,.i k] h λl m=>A.unV l λq n=>A.k7 n λo p=>K [.v o,.i p] m
def f51:R:=A.k0 ls λa=>A.opt (tw 1 a (.slice none 0 0)) λc=>A.cond c (K [.v (.slice none 0 0)] h) (A.new (.cells [] 3 true) h λd e=>A.heap (.ap cc 3 24 (.slice (some ⟨d,0,some 13⟩) 0 1) a) e λf g=>A.ucV f λb i=>A.chk b (A.uc0 i (K [.v b] g)))
def f52:R:=A.unV ls λa c=>A.k0 c λd=>A.ln a λb=>A.conv .u64 b λe=>A.c2 65 [.i e] h λf g=>A.call 64 [.v a,.i 0,.i b,.i g,.v d] f λj k=>A.un0 j (K [] k)
def f53:R:=A.k0 ls λa=>A.ln a λm=>A.cd .lss m 2 (K [.v a] h) (A.loop (λn o d=>A.k2 o λb=>A.ln a λp=>A.cd .lss b p (A.ix 3 a b 3 d λq=>A.k4 q λr s t=>A.ps b 1 λu=>A.ix 3 a u 3 d λw=>A.k4 w λx y z=>A.eqs [(.i r,.i x),(.i s,.i y),(.i t,.i z)] λB=>A.cond B (A.opt (slS 3 a (some b) none none) λe=>A.chk e (A.loop (λC D c=>A.k3 D λf g=>A.ln e λE=>A.cd .lss g E (A.ix 3 e g 3 c λF=>A.k4 F λG H I=>A.ps g 1 λJ=>A.ix 3 e J 3 c λL=>A.k4 L λM N O=>A.eqs [(.i G,.i M),(.i H,.i N),(.i I,.i O)] λP=>A.join (λQ S=>A.k2 Q λT=>A.pa g 1 λU=>C [.i T,.i U] S) λj=>A.cond (!P) (A.ix 3 e g 3 c λV=>A.k4 V λW X Y=>A.opt (idS 3 a f) λZ=>A.heap (.st Z [.int .i64 W,.int .i64 X,.int .u8 Y]) c λa4 a0=>A.pa f 1 λa1=>j [.i a1] a0) (j [.i f] c)) (A.opt (slS 3 a (some f) none none) λk=>A.chk k (A.heap (.fn (clG 3 [.int .i64 0,.int .i64 0,.int .u8 0] k)) c λa5 a2=>A.opt (slS 3 a none (some f) none) λl=>A.chk l (K [.v l] a2)))) [.i b,.i 1] d)) (A.pa b 1 λa3=>n [.i a3] d)) (K [.v a] d)) [.i 1] h)
def f54:R:=A.k0 ls λa=>A.ln a λc=>A.ln a λd=>A.opt (slS 3 a none (some c) (some d)) λb=>A.chk b (K [.v b] h)
def f57:R:=A.unV ls λd f=>A.k0 f λg=>A.ln d λj=>A.loop (λk l c=>A.k2 l λa=>A.cd .lss a j (A.ix 3 d a 3 c λm=>A.k4 m λn o p=>A.callv g [.agg ⟨[.int .i64 n,.int .i64 o,.int .u8 p]⟩] [.leaf .b] c λq e=>A.k5 q λr=>A.cond r (K [.i a] e) (A.pa a 1 λs=>k [.i s] e)) (K [.i (-1)] c)) [.i 0] h
def f58:R:=A.k3 ls λb c=>A.c5 67 [.i b] h λe f=>A.c5 67 [.i c] e λa d=>A.cond f (A.cond d (K [.i 0] a) (K [.i (-1)] a)) (A.cond d (K [.i 1] a) (A.cd .lss b c (K [.i (-1)] a) (A.cd .gtr b c (K [.i 1] a) (K [.i 0] a))))
def f59:R:=A.unV ls λa c=>A.k0 c λd=>A.ln a λb=>A.conv .u64 b λe=>A.c2 65 [.i e] h λf g=>A.call 68 [.v a,.i 0,.i b,.i g,.v d] f λj k=>A.un0 j (K [] k)
def f60:R:=A.unI ls λa b=>A.unI b λc d=>A.k1 d λo e f p=>A.ps a e λg=>A.pm 4 g λj=>A.ci c λk=>A.pa j k λl=>A.ci f λm=>A.ps l m λn=>K [.i n] h
def f61:R:=A.k0 ls λa=>A.ln a λc=>A.ln a λd=>A.opt (slS 3 a none (some c) (some d)) λb=>A.chk b (K [.v b] h)
def f62:R:=A.k3 ls λa b=>A.cd .lss a 1 (K [.i 1] h) (A.cd .gtr a 4 (K [.i 1] h) (A.cd .lss b (-4096) (K [.i 1] h) (A.cd .gtr b 4096 (K [.i 1] h) (K [.i 0] h))))
def f63:R:=A.unI ls λd x=>A.unI x λe y=>A.unV y λj z=>A.k6 z λk l m=>A.c2 69 [.i d,.i e,.v j] h λn o=>A.cd .neq o 0 (K [.v (.slice none 0 0),.v (.slice none 0 0),.i o] n) (A.c2 70 [.i k,.i l,.i m] n λp B=>A.cd .neq B 0 (K [.v (.slice none 0 0),.v (.slice none 0 0),.i 1] p) (A.call 71 [.i d,.i e,.v j] p λC q=>A.k7 C λc r=>A.cd .neq r 0 (K [.v (.slice none 0 0),.v (.slice none 0 0),.i r] q) (A.ln c λa=>A.opt (mkOk a a) λb3=>A.new (.cells (bi [.int .i64 0,.int .i64 0,.int .u8 0] (Int.toNat a)) 3 true) q λs D=>A.ln c λE=>A.loop (λF G f=>A.k2 G λb=>A.cd .lss b E (A.ix 3 c b 3 f λH=>A.ucI .u8 H λI J=>A.ucI .i64 J λL M=>A.k9 M λN=>A.call 72 [.i d,.i e,.i b] f λO P=>A.k1 O λQ S T b4=>A.call 73 [.i I,.i L,.i N,.i k,.i l,.i m] P λU V=>A.k1 U λW X Y t=>A.opt (idS 3 c b) λZ=>A.heap (.st Z [.int .u8 W,.int .i64 X,.int .i64 Y]) V λb5 g=>A.cd .neq t 0 (K [.v (.slice none 0 0),.v (.slice none 0 0),.i t] g) (A.ix 3 c b 3 g λa0=>A.ucI .u8 a0 λa1 a2=>A.ucI .i64 a2 λa3 a4=>A.k9 a4 λa5=>A.call 74 [.i a1,.i a3,.i a5,.i Q,.i S,.i T] g λa6 a7=>A.k1 a6 λa8 a9 b0 u=>A.opt (idS 3 (.slice (some ⟨s,0,some 13⟩) (Int.toNat a) ((Int.toNat a)+1)) b) λb1=>A.heap (.st b1 [.int .i64 a8,.int .i64 a9,.int .u8 b0]) a7 λb6 w=>A.cd .neq u 0 (K [.v (.slice none 0 0),.v (.slice none 0 0),.i u] w) (A.pa b 1 λb2=>F [.i b2] w))) (K [.v c,.v (.slice (some ⟨s,0,some 13⟩) (Int.toNat a) ((Int.toNat a)+1)),.i 0] f)) [.i 0] D)))
def f64:R:=A.k10 ls λc b8 b9 c0 e=>A.loop (λc1 c4 t=>A.unI c4 λB c6=>A.unI c6 λd c7=>A.unB c7 λu c8=>A.unB c8 λs c9=>A.k2 c9 λa=>A.join (λd0 d1=>A.unI d0 λd2 d3=>A.unI d3 λd4 d5=>A.unB d5 λd6 d7=>A.unB d7 λd8 d9=>A.k2 d9 λe0=>c1 [.i d2,.i d4,.b d6,.b d8,.i e0] d1) λk=>A.ps a d λl=>A.cd .leq l 12 (A.call 75 [.v c,.i d,.i a,.v e] t λe1 e2=>A.un0 e1 (K [] e2)) (A.cd .eql B 0 (A.call 76 [.v c,.i d,.i a,.v e] t λe3 e4=>A.un0 e3 (K [] e4)) (A.join (λe5 e6=>A.k2 e5 λf=>A.c3 78 [.v c,.i d,.i a,.v e] e6 λC D E=>A.cmp .eql E 2 λe7=>A.join (λe8 j=>A.k3 e8 λg e9=>A.cond s (A.cond u (A.cmp .eql e9 1 λf0=>A.join (λf1 w=>A.un0 f1 (A.cd .gtr d 0 (A.ps d 1 λf2=>A.ix 3 c f2 3 w λf3=>A.k4 f3 λf4 f5 f6=>A.ix 3 c g 3 w λf7=>A.k4 f7 λf8 f9 g0=>A.callv e [.agg ⟨[.int .i64 f4,.int .i64 f5,.int .u8 f6]⟩,.agg ⟨[.int .i64 f8,.int .i64 f9,.int .u8 g0]⟩] [.leaf (.i .i64)] w λg1 F=>A.k2 g1 λg2=>A.cmp .lss g2 0 λg3=>A.join (λg4 g5=>A.k2 g4 λx=>A.call 82 [.v c,.i x,.i a,.i g,.v e] g5 λg6 G=>A.unI g6 λm g7=>A.k5 g7 λg8=>A.ps m x λH=>A.ps a m λI=>A.pq l 8 λJ=>A.cmp .lss H I λg9=>A.join (λh0 h1=>A.unB h0 λh2 h3=>A.k3 h3 λh4 h5=>k [.i f,.i h4,.b g8,.b h2,.i h5] h1) λL=>A.cond g9 (A.cmp .geq H J λh6=>A.call 64 [.v c,.i x,.i m,.i f,.v e] G λh7 h8=>A.un0 h7 (A.pa m 1 λh9=>L [.b h6,.i h9,.i a] h8)) (A.cmp .geq I J λi0=>A.pa m 1 λi1=>A.call 64 [.v c,.i i1,.i a,.i f,.v e] G λi2 i3=>A.un0 i2 (L [.b i0,.i x,.i m] i3))) λi4=>A.cond (!g3) (A.c2 81 [.v c,.i d,.i a,.i g,.v e] F λi5 i6=>k [.i f,.i i6,.b u,.b s,.i a] i5) (i4 [.i d] F)) (A.call 82 [.v c,.i d,.i a,.i g,.v e] w λi7 M=>A.unI i7 λn i8=>A.k5 i8 λi9=>A.ps n d λN=>A.ps a n λO=>A.pq l 8 λP=>A.cmp .lss N O λj0=>A.join (λj1 j2=>A.unB j1 λj3 j4=>A.k3 j4 λj5 j6=>k [.i f,.i j5,.b i9,.b j3,.i j6] j2) λQ=>A.cond j0 (A.cmp .geq N P λj7=>A.call 64 [.v c,.i d,.i n,.i f,.v e] M λj8 j9=>A.un0 j8 (A.pa n 1 λk0=>Q [.b j7,.i k0,.i a] j9)) (A.cmp .geq O P λk1=>A.pa n 1 λk6=>A.call 64 [.v c,.i k6,.i a,.i f,.v e] M λk7 k8=>A.un0 k7 (Q [.b k1,.i d,.i n] k8))))) λS=>A.cond f0 (A.c5 80 [.v c,.i d,.i a,.v e] j λT k9=>A.cond k9 (K [] T) (S [] T)) (S [] j)) (A.cd .gtr d 0 (A.ps d 1 λl0=>A.ix 3 c l0 3 j λl1=>A.k4 l1 λl2 l3 l4=>A.ix 3 c g 3 j λl5=>A.k4 l5 λl6 l7 l8=>A.callv e [.agg ⟨[.int .i64 l2,.int .i64 l3,.int .u8 l4]⟩,.agg ⟨[.int .i64 l6,.int .i64 l7,.int .u8 l8]⟩] [.leaf (.i .i64)] j λl9 U=>A.k2 l9 λm0=>A.cmp .lss m0 0 λm1=>A.join (λm2 m3=>A.k2 m2 λy=>A.call 82 [.v c,.i y,.i a,.i g,.v e] m3 λm4 V=>A.unI m4 λo m5=>A.k5 m5 λm6=>A.ps o y λW=>A.ps a o λX=>A.pq l 8 λY=>A.cmp .lss W X λm7=>A.join (λm8 m9=>A.unB m8 λn0 n1=>A.k3 n1 λn2 n3=>k [.i f,.i n2,.b m6,.b n0,.i n3] m9) λZ=>A.cond m7 (A.cmp .geq W Y λn4=>A.call 64 [.v c,.i y,.i o,.i f,.v e] V λn5 n6=>A.un0 n5 (A.pa o 1 λn7=>Z [.b n4,.i n7,.i a] n6)) (A.cmp .geq X Y λn8=>A.pa o 1 λn9=>A.call 64 [.v c,.i n9,.i a,.i f,.v e] V λo0 o1=>A.un0 o0 (Z [.b n8,.i y,.i o] o1))) λo2=>A.cond (!m1) (A.c2 81 [.v c,.i d,.i a,.i g,.v e] U λo3 o4=>k [.i f,.i o4,.b u,.b s,.i a] o3) (o2 [.i d] U)) (A.call 82 [.v c,.i d,.i a,.i g,.v e] j λo5 a0=>A.unI o5 λp o6=>A.k5 o6 λo7=>A.ps p d λa1=>A.ps a p λa2=>A.pq l 8 λa3=>A.cmp .lss a1 a2 λo8=>A.join (λo9 p0=>A.unB o9 λp1 p2=>A.k3 p2 λp3 p4=>k [.i f,.i p3,.b o7,.b p1,.i p4] p0) λa4=>A.cond o8 (A.cmp .geq a1 a3 λp5=>A.call 64 [.v c,.i d,.i p,.i f,.v e] a0 λp6 p7=>A.un0 p6 (A.pa p 1 λp8=>a4 [.b p5,.i p8,.i a] p7)) (A.cmp .geq a2 a3 λp9=>A.pa p 1 λq0=>A.call 64 [.v c,.i q0,.i a,.i f,.v e] a0 λq1 q2=>A.un0 q1 (a4 [.b p9,.i d,.i p] q2))))) (A.cd .gtr d 0 (A.ps d 1 λq3=>A.ix 3 c q3 3 j λq4=>A.k4 q4 λq5 q6 q7=>A.ix 3 c g 3 j λq8=>A.k4 q8 λq9 r0 r1=>A.callv e [.agg ⟨[.int .i64 q5,.int .i64 q6,.int .u8 q7]⟩,.agg ⟨[.int .i64 q9,.int .i64 r0,.int .u8 r1]⟩] [.leaf (.i .i64)] j λr2 a5=>A.k2 r2 λr3=>A.cmp .lss r3 0 λr4=>A.join (λr5 r6=>A.k2 r5 λz=>A.call 82 [.v c,.i z,.i a,.i g,.v e] r6 λr7 a6=>A.unI r7 λq r8=>A.k5 r8 λr9=>A.ps q z λa7=>A.ps a q λa8=>A.pq l 8 λa9=>A.cmp .lss a7 a8 λs0=>A.join (λs1 s2=>A.unB s1 λs3 s4=>A.k3 s4 λs5 s6=>k [.i f,.i s5,.b r9,.b s3,.i s6] s2) λb0=>A.cond s0 (A.cmp .geq a7 a9 λs7=>A.call 64 [.v c,.i z,.i q,.i f,.v e] a6 λs8 s9=>A.un0 s8 (A.pa q 1 λt0=>b0 [.b s7,.i t0,.i a] s9)) (A.cmp .geq a8 a9 λt1=>A.pa q 1 λt2=>A.call 64 [.v c,.i t2,.i a,.i f,.v e] a6 λt3 t4=>A.un0 t3 (b0 [.b t1,.i z,.i q] t4))) λt5=>A.cond (!r4) (A.c2 81 [.v c,.i d,.i a,.i g,.v e] a5 λt6 t7=>k [.i f,.i t7,.b u,.b s,.i a] t6) (t5 [.i d] a5)) (A.call 82 [.v c,.i d,.i a,.i g,.v e] j λt8 b1=>A.unI t8 λr t9=>A.k5 t9 λu0=>A.ps r d λb2=>A.ps a r λb3=>A.pq l 8 λb4=>A.cmp .lss b2 b3 λu1=>A.join (λu2 u3=>A.unB u2 λu4 u5=>A.k3 u5 λu6 u7=>k [.i f,.i u6,.b u0,.b u4,.i u7] u3) λb5=>A.cond u1 (A.cmp .geq b2 b4 λu9=>A.call 64 [.v c,.i d,.i r,.i f,.v e] b1 λv0 v1=>A.un0 v0 (A.pa r 1 λv2=>b5 [.b u9,.i v2,.i a] v1)) (A.cmp .geq b3 b4 λv3=>A.pa r 1 λv4=>A.call 64 [.v c,.i v4,.i a,.i f,.v e] b1 λv5 v6=>A.un0 v5 (b5 [.b v3,.i d,.i r] v6))))) λb6=>A.cond e7 (A.call 79 [.v c,.i d,.i a,.v e] C λv7 v8=>A.un0 v7 (A.ps a 1 λv9=>A.ps D d λw0=>A.ps v9 w0 λw1=>b6 [.i w1,.i 1] v8)) (b6 [.i D,.i E] C)) λb7=>A.cond (!s) (A.call 77 [.v c,.i d,.i a,.v e] t λw2 w3=>A.un0 w2 (A.ps B 1 λw4=>b7 [.i w4] w3)) (b7 [.i B] t)))) [.i c0,.i b8,.b true,.b true,.i b9] h
def f65:R:=A.k2 ls λa=>A.c2 84 [.i a] h λb c=>K [.i c] b
def f67:R:=A.k2 ls λa=>A.cmp .neq a a λc=>K [.b c] h
def f68:R:=A.k10 ls λc b8 b9 c0 e=>A.loop (λc1 c4 t=>A.unI c4 λB c6=>A.unI c6 λd c7=>A.unB c7 λu c8=>A.unB c8 λs c9=>A.k2 c9 λa=>A.join (λd0 d1=>A.unI d0 λd2 d3=>A.unI d3 λd4 d5=>A.unB d5 λd6 d7=>A.unB d7 λd8 d9=>A.k2 d9 λe0=>c1 [.i d2,.i d4,.b d6,.b d8,.i e0] d1) λk=>A.ps a d λl=>A.cd .leq l 12 (A.call 86 [.v c,.i d,.i a,.v e] t λe1 e2=>A.un0 e1 (K [] e2)) (A.cd .eql B 0 (A.call 87 [.v c,.i d,.i a,.v e] t λe3 e4=>A.un0 e3 (K [] e4)) (A.join (λe5 e6=>A.k2 e5 λf=>A.c3 89 [.v c,.i d,.i a,.v e] e6 λC D E=>A.cmp .eql E 2 λe7=>A.join (λe8 j=>A.k3 e8 λg e9=>A.cond s (A.cond u (A.cmp .eql e9 1 λf0=>A.join (λf1 w=>A.un0 f1 (A.cd .gtr d 0 (A.ps d 1 λf2=>A.ix 3 c f2 3 w λf3=>A.k11 f3 λf4 f5 f6=>A.ix 3 c g 3 w λf7=>A.k11 f7 λf8 f9 g0=>A.callv e [.agg ⟨[.int .i64 f4,.int .u8 f5,.int .u8 f6]⟩,.agg ⟨[.int .i64 f8,.int .u8 f9,.int .u8 g0]⟩] [.leaf (.i .i64)] w λg1 F=>A.k2 g1 λg2=>A.cmp .lss g2 0 λg3=>A.join (λg4 g5=>A.k2 g4 λx=>A.call 93 [.v c,.i x,.i a,.i g,.v e] g5 λg6 G=>A.unI g6 λm g7=>A.k5 g7 λg8=>A.ps m x λH=>A.ps a m λI=>A.pq l 8 λJ=>A.cmp .lss H I λg9=>A.join (λh0 h1=>A.unB h0 λh2 h3=>A.k3 h3 λh4 h5=>k [.i f,.i h4,.b g8,.b h2,.i h5] h1) λL=>A.cond g9 (A.cmp .geq H J λh6=>A.call 68 [.v c,.i x,.i m,.i f,.v e] G λh7 h8=>A.un0 h7 (A.pa m 1 λh9=>L [.b h6,.i h9,.i a] h8)) (A.cmp .geq I J λi0=>A.pa m 1 λi1=>A.call 68 [.v c,.i i1,.i a,.i f,.v e] G λi2 i3=>A.un0 i2 (L [.b i0,.i x,.i m] i3))) λi4=>A.cond (!g3) (A.c2 92 [.v c,.i d,.i a,.i g,.v e] F λi5 i6=>k [.i f,.i i6,.b u,.b s,.i a] i5) (i4 [.i d] F)) (A.call 93 [.v c,.i d,.i a,.i g,.v e] w λi7 M=>A.unI i7 λn i8=>A.k5 i8 λi9=>A.ps n d λN=>A.ps a n λO=>A.pq l 8 λP=>A.cmp .lss N O λj0=>A.join (λj1 j2=>A.unB j1 λj3 j4=>A.k3 j4 λj5 j6=>k [.i f,.i j5,.b i9,.b j3,.i j6] j2) λQ=>A.cond j0 (A.cmp .geq N P λj7=>A.call 68 [.v c,.i d,.i n,.i f,.v e] M λj8 j9=>A.un0 j8 (A.pa n 1 λk0=>Q [.b j7,.i k0,.i a] j9)) (A.cmp .geq O P λk1=>A.pa n 1 λk4=>A.call 68 [.v c,.i k4,.i a,.i f,.v e] M λk6 k7=>A.un0 k6 (Q [.b k1,.i d,.i n] k7))))) λS=>A.cond f0 (A.c5 91 [.v c,.i d,.i a,.v e] j λT k8=>A.cond k8 (K [] T) (S [] T)) (S [] j)) (A.cd .gtr d 0 (A.ps d 1 λk9=>A.ix 3 c k9 3 j λl0=>A.k11 l0 λl1 l2 l3=>A.ix 3 c g 3 j λl4=>A.k11 l4 λl5 l6 l7=>A.callv e [.agg ⟨[.int .i64 l1,.int .u8 l2,.int .u8 l3]⟩,.agg ⟨[.int .i64 l5,.int .u8 l6,.int .u8 l7]⟩] [.leaf (.i .i64)] j λl8 U=>A.k2 l8 λl9=>A.cmp .lss l9 0 λm0=>A.join (λm1 m2=>A.k2 m1 λy=>A.call 93 [.v c,.i y,.i a,.i g,.v e] m2 λm3 V=>A.unI m3 λo m4=>A.k5 m4 λm5=>A.ps o y λW=>A.ps a o λX=>A.pq l 8 λY=>A.cmp .lss W X λm6=>A.join (λm7 m8=>A.unB m7 λm9 n0=>A.k3 n0 λn1 n2=>k [.i f,.i n1,.b m5,.b m9,.i n2] m8) λZ=>A.cond m6 (A.cmp .geq W Y λn3=>A.call 68 [.v c,.i y,.i o,.i f,.v e] V λn4 n5=>A.un0 n4 (A.pa o 1 λn6=>Z [.b n3,.i n6,.i a] n5)) (A.cmp .geq X Y λn7=>A.pa o 1 λn8=>A.call 68 [.v c,.i n8,.i a,.i f,.v e] V λn9 o0=>A.un0 n9 (Z [.b n7,.i y,.i o] o0))) λo1=>A.cond (!m0) (A.c2 92 [.v c,.i d,.i a,.i g,.v e] U λo2 o3=>k [.i f,.i o3,.b u,.b s,.i a] o2) (o1 [.i d] U)) (A.call 93 [.v c,.i d,.i a,.i g,.v e] j λo4 a0=>A.unI o4 λp o5=>A.k5 o5 λo6=>A.ps p d λa1=>A.ps a p λa2=>A.pq l 8 λa3=>A.cmp .lss a1 a2 λo7=>A.join (λo8 o9=>A.unB o8 λp0 p1=>A.k3 p1 λp2 p3=>k [.i f,.i p2,.b o6,.b p0,.i p3] o9) λa4=>A.cond o7 (A.cmp .geq a1 a3 λp4=>A.call 68 [.v c,.i d,.i p,.i f,.v e] a0 λp5 p6=>A.un0 p5 (A.pa p 1 λp7=>a4 [.b p4,.i p7,.i a] p6)) (A.cmp .geq a2 a3 λp8=>A.pa p 1 λp9=>A.call 68 [.v c,.i p9,.i a,.i f,.v e] a0 λq0 q1=>A.un0 q0 (a4 [.b p8,.i d,.i p] q1))))) (A.cd .gtr d 0 (A.ps d 1 λq2=>A.ix 3 c q2 3 j λq3=>A.k11 q3 λq4 q5 q6=>A.ix 3 c g 3 j λq7=>A.k11 q7 λq8 q9 r0=>A.callv e [.agg ⟨[.int .i64 q4,.int .u8 q5,.int .u8 q6]⟩,.agg ⟨[.int .i64 q8,.int .u8 q9,.int .u8 r0]⟩] [.leaf (.i .i64)] j λr1 a5=>A.k2 r1 λr2=>A.cmp .lss r2 0 λr3=>A.join (λr4 r5=>A.k2 r4 λz=>A.call 93 [.v c,.i z,.i a,.i g,.v e] r5 λr6 a6=>A.unI r6 λq r7=>A.k5 r7 λr8=>A.ps q z λa7=>A.ps a q λa8=>A.pq l 8 λa9=>A.cmp .lss a7 a8 λr9=>A.join (λs0 s1=>A.unB s0 λs2 s3=>A.k3 s3 λs4 s5=>k [.i f,.i s4,.b r8,.b s2,.i s5] s1) λb0=>A.cond r9 (A.cmp .geq a7 a9 λs6=>A.call 68 [.v c,.i z,.i q,.i f,.v e] a6 λs7 s8=>A.un0 s7 (A.pa q 1 λs9=>b0 [.b s6,.i s9,.i a] s8)) (A.cmp .geq a8 a9 λt0=>A.pa q 1 λt1=>A.call 68 [.v c,.i t1,.i a,.i f,.v e] a6 λt2 t3=>A.un0 t2 (b0 [.b t0,.i z,.i q] t3))) λt4=>A.cond (!r3) (A.c2 92 [.v c,.i d,.i a,.i g,.v e] a5 λt5 t6=>k [.i f,.i t6,.b u,.b s,.i a] t5) (t4 [.i d] a5)) (A.call 93 [.v c,.i d,.i a,.i g,.v e] j λt7 b1=>A.unI t7 λr t8=>A.k5 t8 λt9=>A.ps r d λb2=>A.ps a r λb3=>A.pq l 8 λb4=>A.cmp .lss b2 b3 λu0=>A.join (λu1 u2=>A.unB u1 λu3 u4=>A.k3 u4 λu5 u6=>k [.i f,.i u5,.b t9,.b u3,.i u6] u2) λb5=>A.cond u0 (A.cmp .geq b2 b4 λu7=>A.call 68 [.v c,.i d,.i r,.i f,.v e] b1 λu9 v0=>A.un0 u9 (A.pa r 1 λv1=>b5 [.b u7,.i v1,.i a] v0)) (A.cmp .geq b3 b4 λv2=>A.pa r 1 λv3=>A.call 68 [.v c,.i v3,.i a,.i f,.v e] b1 λv4 v5=>A.un0 v4 (b5 [.b v2,.i d,.i r] v5))))) λb6=>A.cond e7 (A.call 90 [.v c,.i d,.i a,.v e] C λv6 v7=>A.un0 v6 (A.ps a 1 λv8=>A.ps D d λv9=>A.ps v8 v9 λw0=>b6 [.i w0,.i 1] v7)) (b6 [.i D,.i E] C)) λb7=>A.cond (!s) (A.call 88 [.v c,.i d,.i a,.v e] t λw1 w2=>A.un0 w1 (A.ps B 1 λw3=>b7 [.i w3] w2)) (b7 [.i B] t)))) [.i c0,.i b8,.b true,.b true,.i b9] h
def f69:R:=A.unI ls λf s=>A.unI s λg t=>A.k0 t λa=>A.c2 94 [.i f,.i g] h λj k=>A.cd .neq k 0 (K [.i k] j) (A.c5 95 [.v a,.v (.func (.func 96) ⟨[]⟩ ⟨[]⟩)] j λl u=>A.cond u (K [.i 1] l) (A.ln a λw=>A.loop (λx y c=>A.k2 y λd=>A.cd .lss d w (A.ix 3 a d 3 c λz=>A.k11 z λm n B=>A.c6 98 [.i f,.i g,.i m,.i n] c λo C D E=>A.cd .neq E 0 (K [.i 7] o) (A.c3 99 [.i m,.i n,.i B] o λp F G=>A.eqs [(.i C,.i F),(.i D,.i G)] λH=>A.cond (!H) (K [.i 7] p) (A.pa d 1 λI=>x [.i I] p))) (A.loop (λJ L e=>A.k2 L λb=>A.ln a λM=>A.cd .lss b M (A.ps b 1 λN=>A.ix 3 a N 3 e λO=>A.k11 O λP Q S=>A.c3 99 [.i P,.i Q,.i S] e λq T U=>A.ix 3 a b 3 q λV=>A.k11 V λW X Y=>A.c3 99 [.i W,.i X,.i Y] q λZ a0 a1=>A.c2 100 [.i T,.i U,.i a0,.i a1] Z λr a2=>A.cd .geq a2 0 (K [.i 6] r) (A.pa b 1 λa3=>J [.i a3] r)) (K [.i 0] e)) [.i 1] c)) [.i 0] l))
def f70:R:=A.k6 ls λe b c=>A.ci e λf=>A.cd .geq f 8 (K [.i 1] h) (A.c5 101 [.i b] h λd g=>A.cond g (K [.i 1] d) (A.c5 101 [.i c] d λa j=>A.cond j (K [.i 1] a) (A.pa b c λk=>A.pr k 2 λl=>A.cd .neq l 0 (K [.i 1] a) (K [.i 0] a))))
def f71:R:=A.unI ls λM N=>A.unI N λO P=>A.k0 P λQ=>A.new (.cells [.int .i64 M,.int .i64 O,Q] 3 true) h λc q=>A.peek (.lg cc 3 (.pointer (some ⟨c,0,none⟩))) q λS=>A.ucI .i64 S λT U=>A.ucI .i64 U λV W=>A.ucV W λr X=>A.chk r (A.uc0 X (A.c0 102 [.i T,.i V,.v r] q λY Z=>A.new (.cells [.map none] 1 true) Y λm a0=>A.heap (.st (.pointer (some ⟨m,0,none⟩)) [Z]) a0 λg4 s=>A.opt (fdP 0 (.pointer (some ⟨c,0,none⟩))) λt=>A.chk t (A.peek (.lg cc 2 t) s λa1=>A.ucI .i64 a1 λa2 a3=>A.k9 a3 λa4=>A.c2 103 [.i a2,.i a4] s λa5 d=>A.opt (mkOk d d) λg5=>A.new (.cells (bi [.int .u8 0,.int .i64 0,.int .i64 0] (Int.toNat d)) 3 true) a5 λa6 a7=>A.new (.cells [.slice none 0 0] 1 true) a7 λb a8=>A.heap (.st (.pointer (some ⟨b,0,none⟩)) [.slice (some ⟨a6,0,some 13⟩) (Int.toNat d) ((Int.toNat d)+1)]) a8 λg6 u=>A.peek (.lg cc 1 (.pointer (some ⟨b,0,none⟩))) u λa9=>A.ucV a9 λw b0=>A.chk w (A.uc0 b0 (A.ln w λa=>A.opt (mkOk a a) λg7=>A.new (.cells (bi [.bool false] (Int.toNat a)) 1 true) u λn b1=>A.chk (.func (.func 104) ⟨[]⟩ ⟨[.pointer (some ⟨c,0,none⟩),.pointer (some ⟨m,0,none⟩),.pointer (some ⟨b,0,none⟩)]⟩) (A.opt (idS 1 (.slice (some ⟨n,0,some 11⟩) (Int.toNat a) ((Int.toNat a)+1)) 0) λb2=>A.heap (.st b2 [.bool true]) b1 λg8 b3=>A.new (.cells [.int .i64 0] 1 true) b3 λb4 b5=>A.loop (λb6 b7 f=>A.k0 b7 λo=>A.ln o λb8=>A.cd .gtr b8 0 (A.opt (idS 1 o 0) λb9=>A.peek (.lg cc 1 b9) f λc1=>A.k9 c1 λx=>A.opt (slS 1 o (some 1) none none) λy=>A.chk y (A.loop (λc4 c5 p=>A.k7 c5 λg j=>A.cd .lss j 3 (A.join (λc6 c7=>A.k0 c6 λc8=>A.ari .add .u8 j 1 λc9=>c4 [.v c8,.i c9] c7) λz=>A.opt (fdP 0 (.pointer (some ⟨c,0,none⟩))) λB=>A.chk B (A.peek (.lg cc 2 B) p λd0=>A.ucI .i64 d0 λd1 d2=>A.k9 d2 λd3=>A.c3 106 [.i d1,.i d3,.i x,.i j] p λC e d4=>A.cd .neq d4 0 (z [.v g] C) (A.callv (.func (.func 104) ⟨[]⟩ ⟨[.pointer (some ⟨c,0,none⟩),.pointer (some ⟨m,0,none⟩),.pointer (some ⟨b,0,none⟩)]⟩) [.int .i64 x,.int .u8 j] [.agg [.i .u8,.i .i64,.i .i64]] C λd5 k=>A.k6 d5 λD E F=>A.opt (idS 1 (.slice (some ⟨n,0,some 11⟩) (Int.toNat a) ((Int.toNat a)+1)) e) λd6=>A.peek (.lg cc 1 d6) k λd7=>A.ucB d7 λd8 d9=>A.uc0 d9 (A.join (λe0 l=>A.k0 e0 λe1=>A.peek (.lg cc 1 (.pointer (some ⟨b,0,none⟩))) l λe2=>A.ucV e2 λG e3=>A.chk G (A.uc0 e3 (A.ix 3 G e 3 l λe4=>A.ucI .u8 e4 λe5 e6=>A.ucI .i64 e6 λe7 e8=>A.k9 e8 λe9=>A.eqs [(.i e5,.i D),(.i e7,.i E),(.i e9,.i F)] λf0=>A.cond (!f0) (K [.v (.slice none 0 0),.i 11] l) (z [.v e1] l)))) λH=>A.cond (!d8) (A.peek (.lg cc 1 (.pointer (some ⟨b,0,none⟩))) k λf1=>A.ucV f1 λI f2=>A.chk I (A.uc0 f2 (A.opt (idS 3 I e) λf3=>A.heap (.st f3 [.int .u8 D,.int .i64 E,.int .i64 F]) k λg9 f4=>A.opt (idS 1 (.slice (some ⟨n,0,some 11⟩) (Int.toNat a) ((Int.toNat a)+1)) e) λf5=>A.heap (.st f5 [.bool true]) f4 λh0 f6=>A.new (.cells [.int .i64 e] 1 true) f6 λf7 f8=>A.heap (.ap cc 1 8 g (.slice (some ⟨f7,0,some 11⟩) 1 2)) f8 λf9 g0=>A.ucV f9 λJ g1=>A.chk J (A.uc0 g1 (H [.v J] g0))))) (H [.v g] k))))) (b6 [.v g] p)) [.v y,.i 0] f)) (A.peek (.lg cc 1 (.pointer (some ⟨b,0,none⟩))) f λg2=>A.ucV g2 λL g3=>A.chk L (A.uc0 g3 (K [.v L,.i 0] f)))) [.v (.slice (some ⟨b4,0,some 11⟩) 1 2)] b5))))))
def f72:R:=A.k6 ls λa b c=>A.c2 94 [.i a,.i b] h λd e=>A.cd .neq e 0 (K [.i 0,.i 0,.i 0,.i e] d) (A.c5 107 [.i a,.i b,.i c] d λf g=>A.cond (!g) (K [.i 0,.i 0,.i 0,.i 7] f) (A.c6 108 [.i a,.i b,.i c] f λj k l m=>K [.i k,.i l,.i m,.i 0] j))
def f73:R:=A.unI ls λb k=>A.unI k λc l=>A.k1 l λd a e f=>A.c2 70 [.i b,.i c,.i d] h λg m=>A.cd .neq m 0 (K [.i 0,.i 0,.i 0,.i 1] g) (A.c2 70 [.i a,.i e,.i f] g λj n=>A.cd .neq n 0 (K [.i 0,.i 0,.i 0,.i 1] j) (A.opt (inB 8 a) λa8=>A.opt (cW gl2 0 [(a,4)] 4) λo=>A.ucI .i64 o λp q=>A.ucI .i64 q λr s=>A.ucI .i64 s λt u=>A.k9 u λv=>A.c3 109 [.i p,.i r,.i t,.i v,.i c,.i d] j λw x y=>A.opt (inB 8 b) λa9=>A.opt (cW gl2 0 [(b,4)] 4) λz=>A.ucI .i64 z λB C=>A.ucI .i64 C λD E=>A.ucI .i64 E λF G=>A.k9 G λH=>A.opt (inB 8 a) λb0=>A.opt (cW gl2 0 [(a,4)] 4) λI=>A.ucI .i64 I λJ L=>A.ucI .i64 L λM N=>A.ucI .i64 N λO P=>A.k9 P λQ=>A.call 112 [.i B,.i D,.i F,.i H,.i J,.i M,.i O,.i Q] w λS T=>A.k1 S λU V W X=>A.c2 111 [.i U,.i V,.i W,.i X] T λY Z=>A.pa x e λa0=>A.pa y f λa1=>A.call 110 [.i Z,.i a0,.i a1] Y λa2 a3=>A.k1 a2 λa4 a5 a6 a7=>K [.i a4,.i a5,.i a6,.i a7] a3))
def f74:R:=A.unI ls λa o=>A.unI o λb p=>A.k1 p λc d e f=>A.c2 70 [.i a,.i b,.i c] h λg q=>A.cd .neq q 0 (K [.i 0,.i 0,.i 0,.i 1] g) (A.c2 43 [.i d,.i e,.i f] g λj r=>A.cd .neq r 0 (K [.i 0,.i 0,.i 0,.i 1] j) (A.c6 113 [.i a,.i b,.i c,.i d,.i e,.i f] j λs k l m=>A.c2 43 [.i k,.i l,.i m] s λn t=>A.cd .neq t 0 (K [.i 0,.i 0,.i 0,.i 3] n) (K [.i k,.i l,.i m,.i 0] n)))
def f75:R:=A.k12 ls λb f k l=>A.pa f 1 λm=>A.loop (λn o g=>A.k2 o λe=>A.cd .lss e k (A.join (λp q=>A.un0 p (A.pa e 1 λr=>n [.i r] q)) λj=>A.loop (λs t c=>A.k2 t λa=>A.cd .gtr a f (A.ix 3 b a 3 c λu=>A.k4 u λv w x=>A.ps a 1 λy=>A.ix 3 b y 3 c λz=>A.k4 z λB C D=>A.callv l [.agg ⟨[.int .i64 v,.int .i64 w,.int .u8 x]⟩,.agg ⟨[.int .i64 B,.int .i64 C,.int .u8 D]⟩] [.leaf (.i .i64)] c λE d=>A.k2 E λF=>A.cd .lss F 0 (A.ps a 1 λG=>A.ps a 1 λH=>A.ix 3 b H 3 d λI=>A.k4 I λJ L M=>A.ix 3 b a 3 d λN=>A.k4 N λO P Q=>A.opt (idS 3 b a) λS=>A.heap (.st S [.int .i64 J,.int .i64 L,.int .u8 M]) d λX T=>A.opt (idS 3 b G) λU=>A.heap (.st U [.int .i64 O,.int .i64 P,.int .u8 Q]) T λY V=>A.ps a 1 λW=>s [.i W] V) (j [] d)) (j [] c)) [.i e] g) (K [] g)) [.i m] h
def f84:R:=A.k2 ls λa=>A.cmp .geq a 4294967296 λm=>A.join (λn d=>A.k3 n λb e=>A.cmp .geq b 65536 λo=>A.join (λp f=>A.k3 p λc g=>A.cmp .geq c 256 λq=>A.join (λr s=>A.k3 r λt u=>A.conv .u8 t λv=>A.opt (strAt (.mk ⟨[.ofNat 0,.ofNat 1,.ofNat 2,.ofNat 2,.ofNat 3,.ofNat 3,.ofNat 3,.ofNat 3,.ofNat 4,.ofNat 4,.ofNat 4,.ofNat 4,.ofNat 4,.ofNat 4,.ofNat 4,.ofNat 4,.ofNat 5,.ofNat 5,.ofNat 5,.ofNat 5,.ofNat 5,.ofNat 5,.ofNat 5,.ofNat 5,.ofNat 5,.ofNat 5,.ofNat 5,.ofNat 5,.ofNat 5,.ofNat 5,.ofNat 5,.ofNat 5,.ofNat 6,.ofNat 6,.ofNat 6,.ofNat 6,.ofNat 6,.ofNat 6,.ofNat 6,.ofNat 6,.ofNat 6,.ofNat 6,.ofNat 6,.ofNat 6,.ofNat 6,.ofNat 6,.ofNat 6,.ofNat 6,.ofNat 6,.ofNat 6,.ofNat 6,.ofNat 6,.ofNat 6,.ofNat 6,.ofNat 6,.ofNat 6,.ofNat 6,.ofNat 6,.ofNat 6,.ofNat 6,.ofNat 6,.ofNat 6,.ofNat 6,.ofNat 6,.ofNat 7,.ofNat 7,.ofNat 7,.ofNat 7,.ofNat 7,.ofNat 7,.ofNat 7,.ofNat 7,.ofNat 7,.ofNat 7,.ofNat 7,.ofNat 7,.ofNat 7,.ofNat 7,.ofNat 7,.ofNat 7,.ofNat 7,.ofNat 7,.ofNat 7,.ofNat 7,.ofNat 7,.ofNat 7,.ofNat 7,.ofNat 7,.ofNat 7,.ofNat 7,.ofNat 7,.ofNat 7,.ofNat 7,.ofNat 7,.ofNat 7,.ofNat 7,.ofNat 7,.ofNat 7,.ofNat 7,.ofNat 7,.ofNat 7,.ofNat 7,.ofNat 7,.ofNat 7,.ofNat 7,.ofNat 7,.ofNat 7,.ofNat 7,.ofNat 7,.ofNat 7,.ofNat 7,.ofNat 7,.ofNat 7,.ofNat 7,.ofNat 7,.ofNat 7,.ofNat 7,.ofNat 7,.ofNat 7,.ofNat 7,.ofNat 7,.ofNat 7,.ofNat 7,.ofNat 7,.ofNat 7,.ofNat 7,.ofNat 7,.ofNat 7,.ofNat 8,.ofNat 8,.ofNat 8,.ofNat 8,.ofNat 8,.ofNat 8,.ofNat 8,.ofNat 8,.ofNat 8,.ofNat 8,.ofNat 8,.ofNat 8,.ofNat 8,.ofNat 8,.ofNat 8,.ofNat 8,.ofNat 8,.ofNat 8,.ofNat 8,.ofNat 8,.ofNat 8,.ofNat 8,.ofNat 8,.ofNat 8,.ofNat 8,.ofNat 8,.ofNat 8,.ofNat 8,.ofNat 8,.ofNat 8,.ofNat 8,.ofNat 8,.ofNat 8,.ofNat 8,.ofNat 8,.ofNat 8,.ofNat 8,.ofNat 8,.ofNat 8,.ofNat 8,.ofNat 8,.ofNat 8,.ofNat 8,.ofNat 8,.ofNat 8,.ofNat 8,.ofNat 8,.ofNat 8,.ofNat 8,.ofNat 8,.ofNat 8,.ofNat 8,.ofNat 8,.ofNat 8,.ofNat 8,.ofNat 8,.ofNat 8,.ofNat 8,.ofNat 8,.ofNat 8,.ofNat 8,.ofNat 8,.ofNat 8,.ofNat 8,.ofNat 8,.ofNat 8,.ofNat 8,.ofNat 8,.ofNat 8,.ofNat 8,.ofNat 8,.ofNat 8,.ofNat 8,.ofNat 8,.ofNat 8,.ofNat 8,.ofNat 8,.ofNat 8,.ofNat 8,.ofNat 8,.ofNat 8,.ofNat 8,.ofNat 8,.ofNat 8,.ofNat 8,.ofNat 8,.ofNat 8,.ofNat 8,.ofNat 8,.ofNat 8,.ofNat 8,.ofNat 8,.ofNat 8,.ofNat 8,.ofNat 8,.ofNat 8,.ofNat 8,.ofNat 8,.ofNat 8,.ofNat 8,.ofNat 8,.ofNat 8,.ofNat 8,.ofNat 8,.ofNat 8,.ofNat 8,.ofNat 8,.ofNat 8,.ofNat 8,.ofNat 8,.ofNat 8,.ofNat 8,.ofNat 8,.ofNat 8,.ofNat 8,.ofNat 8,.ofNat 8,.ofNat 8,.ofNat 8,.ofNat 8,.ofNat 8,.ofNat 8,.ofNat 8,.ofNat 8,.ofNat 8,.ofNat 8,.ofNat 8,.ofNat 8]⟩) v) λw=>A.ci w λx=>A.pa u x λy=>K [.i y] s) λj=>A.cond q (A.shf .shr .u64 c .u64 8 λz=>A.pa g 8 λB=>j [.i z,.i B] f) (j [.i c,.i g] f)) λk=>A.cond o (A.shf .shr .u64 b .u64 16 λC=>A.pa e 16 λD=>k [.i C,.i D] d) (k [.i b,.i e] d)) λl=>A.cond m (A.shf .shr .u64 a .u64 32 λE=>l [.i E,.i 32] h) (l [.i a,.i 0] h)
def f86:R:=A.k12 ls λb f k l=>A.pa f 1 λm=>A.loop (λn o g=>A.k2 o λe=>A.cd .lss e k (A.join (λp q=>A.un0 p (A.pa e 1 λr=>n [.i r] q)) λj=>A.loop (λs t c=>A.k2 t λa=>A.cd .gtr a f (A.ix 3 b a 3 c λu=>A.k11 u λv w x=>A.ps a 1 λy=>A.ix 3 b y 3 c λz=>A.k11 z λB C D=>A.callv l [.agg ⟨[.int .i64 v,.int .u8 w,.int .u8 x]⟩,.agg ⟨[.int .i64 B,.int .u8 C,.int .u8 D]⟩] [.leaf (.i .i64)] c λE d=>A.k2 E λF=>A.cd .lss F 0 (A.ps a 1 λG=>A.ps a 1 λH=>A.ix 3 b H 3 d λI=>A.k11 I λJ L M=>A.ix 3 b a 3 d λN=>A.k11 N λO P Q=>A.opt (idS 3 b a) λS=>A.heap (.st S [.int .i64 J,.int .u8 L,.int .u8 M]) d λX T=>A.opt (idS 3 b G) λU=>A.heap (.st U [.int .i64 O,.int .u8 P,.int .u8 Q]) T λY V=>A.ps a 1 λW=>s [.i W] V) (j [] d)) (j [] c)) [.i e] g) (K [] g)) [.i m] h
def f94:R:=A.k3 ls λa b=>A.cd .lss a 1 (K [.i 1] h) (A.cd .lss b 1 (K [.i 1] h) (A.cd .gtr a 256 (K [.i 1] h) (A.cd .gtr b 256 (K [.i 1] h) (A.pm a b λc=>A.cd .gtr c 256 (K [.i 1] h) (K [.i 0] h)))))
def f95:R:=A.unV ls λa c=>A.k0 c λd=>A.c2 122 [.v a,.v d] h λe f=>A.cmp .geq f 0 λg=>K [.b g] e
def f96:R:=A.k6 ls λe f a=>A.c5 97 [.i a] h λc d=>K [.b (!d)] c
def f97:R:=A.k2 ls λa=>A.join (λd e=>A.k5 d λf=>K [.b f] e) λc=>A.cd .geq a 1 (A.cmp .leq a 3 λg=>c [.b g] h) (c [.b false] h)
def f98:R:=A.k1 ls λf g a b=>A.c3 106 [.i f,.i g,.i a,.i b] h λc d e=>A.cd .neq e 0 (K [.i 0,.i 0,.i e] c) (A.cmp .lss d a λj=>A.sel j d a λk=>K [.i k,.i b,.i 0] c)
def f99:R:=A.k6 ls λa b c=>K [.i a,.i b] h
def f100:R:=A.k1 ls λa c b d=>A.cd .neq a b (A.ps a b λe=>K [.i e] h) (A.ci c λf=>A.ci d λg=>A.ps f g λj=>K [.i j] h)
def f101:R:=A.k2 ls λa=>A.join (λd e=>A.k5 d λf=>K [.b f] e) λc=>A.cd .lss a (-16384) (c [.b true] h) (A.cmp .gtr a 16384 λg=>c [.b g] h)
def f102:R:=A.unI ls λr e=>A.unI e λs f=>A.k0 f λa=>A.ln a λt=>A.new (.map [] 0) h λd g=>A.ln a λj=>A.loop (λk l b=>A.k2 l λc=>A.cd .lss c j (A.ix 3 a c 3 b λm=>A.k11 m λn o u=>A.heap (.fn (muG cc 163 (.map (some d)) (.agg ⟨[.int .i64 n,.int .u8 o]⟩) (.bool true))) b λw p=>A.pa c 1 λq=>k [.i q] p) (K [.v (.map (some d))] b)) [.i 0] g
def f103:R:=A.k3 ls λa b=>A.c2 94 [.i a,.i b] h λc d=>A.cd .neq d 0 (K [.i 0] c) (A.pm 4 a λe=>A.pm e b λf=>K [.i f] c)
def f104:R:=A.unI ls λb o=>A.unI o λp q=>A.unV q λd r=>A.unV r λs t=>A.k0 t λe=>A.opt (fdP 0 d) λf=>A.chk f (A.peek (.lg cc 2 f) h λu=>A.ucI .i64 u λv w=>A.k9 w λx=>A.c6 98 [.i v,.i x,.i b,.i p] h λa g j b2=>A.peek (.lg cc 1 s) a λy=>A.ucV y λk z=>A.chk k (A.uc0 z (A.peek (.fn (luG cc 163 false (.bool false) k (.agg ⟨[.int .i64 g,.int .u8 j]⟩) false)) a λB=>A.ucB B λC D=>A.uc0 D (A.cond (!C) (A.peek (.lg cc 1 e) a λE=>A.ucV E λl F=>A.chk l (A.uc0 F (A.ix 3 l b 3 a λG=>A.ucI .u8 G λH I=>A.ucI .i64 I λJ L=>A.k9 L λM=>K [.i H,.i J,.i M] a))) (A.opt (fdP 0 d) λm=>A.chk m (A.peek (.lg cc 2 m) a λN=>A.ucI .i64 N λO P=>A.k9 P λQ=>A.c6 105 [.i O,.i Q,.i g,.i j] a λS T U b3=>A.call 49 [.i T,.i U] S λV c=>A.k1 V λW X Y b4=>A.peek (.lg cc 1 e) c λZ=>A.ucV Z λn a0=>A.chk n (A.uc0 a0 (A.ix 3 n b 3 c λa1=>A.ucI .u8 a1 λa2 a3=>A.ucI .i64 a3 λa4 a5=>A.k9 a5 λa6=>A.call 73 [.i W,.i X,.i Y,.i a2,.i a4,.i a6] c λa7 a8=>A.k1 a7 λa9 b0 b1 b5=>K [.i a9,.i b0,.i b1] a8))))))))
def f105:R:=A.k1 ls λd e f a=>A.call 123 [.i d,.i e,.i f,.i a] h λg b=>A.k1 g λj k l c=>A.cd .neq c 0 (K [.i 0,.i 0,.i c] b) (A.c6 124 [.i j,.i k,.i l,.i a] b λm n o p=>K [.i n,.i o,.i p] m)
def f106:R:=A.k1 ls λa b f g=>A.call 72 [.i a,.i b,.i f] h λj c=>A.k1 j λk l m d=>A.cd .neq d 0 (K [.i 0,.i d] c) (A.call 125 [.i k,.i l,.i m,.i g] c λn e=>A.k1 n λo p q r=>A.cd .neq r 0 (K [.i 0,.i 1] e) (A.c3 126 [.i a,.i b,.i o,.i p,.i q] e λs t u=>K [.i t,.i u] s))
def f107:R:=A.k6 ls λd e a=>A.join (λf g=>A.k5 f λi=>K [.b i] g) λc=>A.cd .geq a 0 (A.pm 4 d λj=>A.pm j e λk=>A.cmp .lss a k λl=>c [.b l] h) (c [.b false] h)
def f108:R:=A.k6 ls λb k a=>A.pq a 4 λc=>A.pr c b λd=>A.pq a 4 λe=>A.pq e b λf=>A.pr a 4 λg=>A.conv .u8 g λj=>K [.i d,.i f,.i j] h
def f109:R:=A.unI ls λc d=>A.unI d λe f=>A.k1 f λg j a b=>A.pm c a λk=>A.pm e b λl=>A.pa k l λm=>A.pm g a λn=>A.pm j b λo=>A.pa n o λp=>K [.i m,.i p] h
def f110:R:=A.k6 ls λa b c=>A.c2 70 [.i a,.i b,.i c] h λd e=>A.cd .neq e 0 (K [.i 0,.i 0,.i 0,.i 3] d) (K [.i a,.i b,.i c,.i 0] d)
def f111:R:=A.k1 ls λc d e f=>A.loop (λg j b=>A.k2 j λa=>A.cd .lss a 8 (A.opt (inB 8 a) λs=>A.opt (rr [.i 1,.i 0,.i 0,.i 1,.i 0,.i (-1),.i 1,.i 0,.i (-1),.i 0,.i 0,.i (-1),.i 0,.i 1,.i (-1),.i 0,.i (-1),.i 0,.i 0,.i 1,.i 0,.i (-1),.i (-1),.i 0,.i 1,.i 0,.i 0,.i (-1),.i 0,.i 1,.i 1,.i 0] 0 [(a,4)] 4) λk=>A.k1 k λl m n o=>A.eqs [(.i l,.i c),(.i m,.i d),(.i n,.i e),(.i o,.i f)] λp=>A.cond p (A.conv .u8 a λq=>K [.i q] b) (A.pa a 1 λr=>g [.i r] b)) (K [.i 0] b)) [.i 0] h
def f112:R:=A.unI ls λe f=>A.unI f λg j=>A.unI j λk l=>A.unI l λm n=>A.k1 n λa b c d=>A.c3 109 [.i a,.i b,.i c,.i d,.i e,.i k] h λo p q=>A.c3 109 [.i a,.i b,.i c,.i d,.i g,.i m] o λr s t=>K [.i p,.i s,.i q,.i t] r
def f113:R:=A.unI ls λf m=>A.unI m λn o=>A.k1 o λp q r b=>A.c3 127 [.i q,.i r,.i b] h λs t u=>A.opt (inB 4 b) λb2=>A.opt (cW gl3 0 [(b,17)] 2) λv=>A.ucI .i64 v λw x=>A.k9 x λy=>A.c6 128 [.i f,.i n,.i p,.i t,.i u] s λz g j b3=>A.c6 128 [.i f,.i 0,.i 0,.i w,.i y] z λB C D b4=>A.ari .and .i64 g 1 λE=>A.ps g E λF=>A.pq F 2 λG=>A.ari .and .i64 j 1 λH=>A.ps j H λI=>A.pq I 2 λJ=>A.loop (λL M c=>A.k1 M λa d e k=>A.cd .lss a 4 (A.opt (inB 4 a) λb5=>A.opt (rr [.i 0,.i (-1),.i 2,.i 0,.i 0,.i (-1),.i 2,.i 0,.i 0,.i 1,.i 0,.i 0,.i 3,.i 0,.i 0,.i 2,.i 0,.i 1,.i 0,.i 1,.i 1,.i 1,.i 0,.i 3,.i 0,.i 0,.i 0,.i 0,.i 0,.i 2,.i 2,.i 2,.i 2,.i 0,.i 0,.i 1,.i 2,.i 1,.i 0,.i 1,.i 0,.i 0,.i 0,.i 3,.i 0,.i 0,.i 1,.i 2,.i 2,.i 0,.i 2,.i (-1),.i 0,.i 1,.i 0,.i (-1),.i 0,.i 1,.i 0,.i 0,.i 2,.i 0,.i 0,.i 0,.i 0,.i 0,.i 0,.i 2] 0 [(a,17)] 17) λN=>A.unI N λO P=>A.unI P λQ S=>A.unI S λb6 T=>A.unI T λb7 U=>A.unI U λb8 V=>A.unI V λb9 W=>A.unI W λc0 X=>A.unI X λc1 Y=>A.unI Y λc2 Z=>A.unI Z λc4 a0=>A.unI a0 λc5 a1=>A.unI a1 λc7 a2=>A.unI a2 λc8 a3=>A.k1 a3 λc9 d0 d1 d2=>A.eqs [(.i O,.i C),(.i Q,.i D)] λa4=>A.join (λa5 a6=>A.k6 a5 λa7 a8 a9=>A.pa a 1 λb0=>L [.i b0,.i a7,.i a8,.i a9] a6) λl=>A.cond a4 (A.conv .u8 a λb1=>l [.i d,.i e,.i b1] c) (l [.i d,.i e,.i k] c)) (K [.i d,.i e,.i k] c)) [.i 0,.i G,.i J,.i 0] B
def f122:R:=A.unV ls λd f=>A.k0 f λg=>A.ln d λj=>A.loop (λk l c=>A.k2 l λa=>A.cd .lss a j (A.ix 3 d a 3 c λm=>A.k11 m λn o p=>A.callv g [.agg ⟨[.int .i64 n,.int .u8 o,.int .u8 p]⟩] [.leaf .b] c λq e=>A.k5 q λr=>A.cond r (K [.i a] e) (A.pa a 1 λs=>k [.i s] e)) (K [.i (-1)] c)) [.i 0] h
def f123:R:=A.k1 ls λa b c e=>A.c2 94 [.i a,.i b] h λf g=>A.cd .neq g 0 (K [.i 0,.i 0,.i 0,.i g] f) (A.c6 98 [.i a,.i b,.i c,.i e] f λd j k l=>A.cd .neq l 0 (K [.i 0,.i 0,.i 0,.i 7] d) (A.eqs [(.i j,.i c),(.i k,.i e)] λm=>A.cond (!m) (K [.i 0,.i 0,.i 0,.i 7] d) (A.c6 108 [.i a,.i b,.i c] d λn o p q=>K [.i o,.i p,.i q,.i 0] n)))
def f124:R:=A.k1 ls λb c d e=>A.c2 43 [.i b,.i c,.i d] h λa p=>A.cd .neq p 0 (K [.i 0,.i 0,.i 1] a) (A.cd .gtr e 2 (K [.i 0,.i 0,.i 1] a) (A.opt (inB 4 d) λa3=>A.opt (cW gl3 0 [(d,17)] 17) λq=>A.ucI .i64 q λa4 r=>A.ucI .i64 r λa5 s=>A.ucI .u8 s λf t=>A.ucI .i64 t λg u=>A.ucI .i64 u λa6 v=>A.ucI .i64 v λa7 w=>A.ucI .u8 w λa8 x=>A.ucI .i64 x λa9 y=>A.ucI .i64 y λb0 z=>A.ucI .u8 z λb1 B=>A.ucI .i64 B λb2 C=>A.ucI .i64 C λb3 D=>A.ucI .u8 D λb4 E=>A.ucI .i64 E λb5 F=>A.ucI .i64 F λb6 G=>A.ucI .i64 G λb7 H=>A.k9 H λb8=>A.pa b g λI=>A.cmp .eql e 1 λJ=>A.join (λL M=>A.k3 L λj k=>A.c2 62 [.i j,.i k] M λl N=>A.cd .neq N 0 (K [.i 0,.i 0,.i 3] l) (K [.i j,.i k,.i 0] l)) λm=>A.cond J (A.pa b c λO=>A.pa O 1 λP=>m [.i 3,.i P] a) (A.cmp .eql e 2 λQ=>A.join (λS T=>A.k3 S λU V=>m [.i U,.i V] T) λn=>A.cond Q (A.ps c b λW=>n [.i 4,.i W] a) (A.cmp .eql f 2 λX=>A.join (λY Z=>A.k3 Y λa0 a1=>n [.i a0,.i a1] Z) λo=>A.cond X (A.pa c g λa2=>o [.i f,.i a2] a) (o [.i f,.i I] a)))))
def f125:R:=A.k1 ls λd e a b=>A.c2 43 [.i d,.i e,.i a] h λc l=>A.cd .neq l 0 (K [.i 0,.i 0,.i 0,.i 1] c) (A.cd .gtr b 2 (K [.i 0,.i 0,.i 0,.i 1] c) (A.opt (inB 4 a) λq=>A.opt (inB 3 b) λr=>A.opt (cW gl3 4 [(a,17),(b,3)] 3) λm=>A.k4 m λn o f=>A.pa n d λg=>A.pa o e λj=>A.c2 43 [.i g,.i j,.i f] c λk p=>A.cd .neq p 0 (K [.i 0,.i 0,.i 0,.i 3] k) (K [.i g,.i j,.i f,.i 0] k)))
def f126:R:=A.unI ls λd k=>A.k1 k λe b c f=>A.c2 94 [.i d,.i e] h λg j=>A.cd .neq j 0 (K [.i 0,.i j] g) (A.c2 43 [.i b,.i c,.i f] g λa l=>A.cd .neq l 0 (K [.i 0,.i 7] a) (A.cd .lss b 0 (K [.i 0,.i 7] a) (A.cd .geq b d (K [.i 0,.i 7] a) (A.cd .lss c 0 (K [.i 0,.i 7] a) (A.cd .geq c e (K [.i 0,.i 7] a) (A.pm c d λm=>A.pa m b λn=>A.pm 4 n λo=>A.ci f λp=>A.pa o p λq=>K [.i q,.i 0] a))))))
def f127:R:=A.k6 ls λa b g=>A.pm 2 a λc=>A.pa c 1 λd=>A.pm 2 b λe=>A.pa e 1 λf=>K [.i d,.i f] h
def f128:R:=A.unI ls λa m=>A.k1 m λb c d e=>A.c2 70 [.i a,.i b,.i c] h λf n=>A.cd .neq n 0 (K [.i 0,.i 0,.i 1] f) (A.c2 131 [.i d,.i e] f λg o=>A.cd .neq o 0 (K [.i 0,.i 0,.i 1] g) (A.opt (inB 8 a) λE=>A.opt (cW gl2 0 [(a,4)] 4) λp=>A.ucI .i64 p λq r=>A.ucI .i64 r λs t=>A.ucI .i64 t λu v=>A.k9 v λw=>A.c3 109 [.i q,.i s,.i u,.i w,.i d,.i e] g λx y z=>A.pm 2 b λB=>A.pa y B λj=>A.pm 2 c λC=>A.pa z C λk=>A.c2 131 [.i j,.i k] x λl D=>A.cd .neq D 0 (K [.i 0,.i 0,.i 3] l) (K [.i j,.i k,.i 0] l)))
def f131:R:=A.k3 ls λa b=>A.cd .lss a (-65536) (K [.i 1] h) (A.cd .gtr a 65536 (K [.i 1] h) (A.cd .lss b (-65536) (K [.i 1] h) (A.cd .gtr b 65536 (K [.i 1] h) (K [.i 0] h))))
end
inductive Pth where
 |e
 |o (p:Pth)
 |i (p:Pth)
inductive Tr(α:Type) where
 |leaf
 |node (v:α) (l r:Tr α)
def Pth.num:Pth->Nat
 | .e=>1
 | .o p=>2*p.num
 | .i p=>2*p.num+1
def pthF:Nat->Nat->Pth
 |0,_=>.e
 |f+1,n=>if Nat.ble n 1 then .e else if Nat.beq (n%2) 0 then .o (pthF f (n / 2))else .i (pthF f (n / 2))
def bD(n:Nat):Pth:=pthF (n+1) (n+1)
def Pth.get{α:Type}(d:α)(p:Pth):Tr α->α:=
 Pth.rec (motive:=λ_=>Tr α->α)
  (λt=>Tr.casesOn t d λv _ _=>v)
  (λ_ ih t=>Tr.casesOn t d λ_ l _=>ih l)
  (λ_ ih t=>Tr.casesOn t d λ_ _ r=>ih r) p
def Pth.setK{α:Type}(d:α)(p:Pth):Tr α->α->(Tr α->Bool)->Bool:=
 Pth.rec (motive:=λ_=>Tr α->α->(Tr α->Bool)->Bool)
  (λt x k=>Tr.casesOn t (k (.node x .leaf .leaf)) λ_ l r=>k (.node x l r))
  (λ_ ih t x k=>Tr.casesOn t (ih .leaf x λl=>k (.node d l .leaf)) λv l r=>ih l x λl=>k (.node v l r))
  (λ_ ih t x k=>Tr.casesOn t (ih .leaf x λr=>k (.node d .leaf r)) λv l r=>ih r x λr=>k (.node v l r)) p
def eqI:Int->Int->Bool
 | .ofNat a,.ofNat b=>Nat.beq a b
 | .negSucc a,.negSucc b=>Nat.beq a b
 |_,_=>false
def kmax:TI->Nat
 | .i8=>127
 | .i16=>32767
 | .i32=>2147483647
 | .i64=>9223372036854775807
 | .u8=>255
 | .u16=>65535
 | .u32=>4294967295
 | .u64=>18446744073709551615
def fits(k:TI):Int->Bool
 | .ofNat n=>Nat.ble n (kmax k)
 | .negSucc n=>k.signed&&Nat.ble n (kmax k)
abbrev Lin:=List Int
def dot:List Int->List Int->Int
 |c :: l,x :: ρ=>c*x+dot l ρ
 |_,_=>0
def Lin.eval(l:Lin)(ρ:List Int):Int:=
 match l with
 | []=>0
 |c :: l=>c+dot l ρ
structure Ctx where
 iv:List (Int×Int)
 cs:List (List Int×Int×Int)
inductive Opd where
 |t (p:Pth)
 |c (v:Value)
inductive Ins where
 |mv (x:Opd)
 |pick (c a b:Opd)
 |ar (op:BinOp) (x y:Opd)
 |cmp (op:BinOp) (x y:Opd)
 |notb (x:Opd)
 |conv (k:TI) (x:Opd)
 |fld (x:Opd) (off:Nat)
 |flda (x:Opd) (off n:Nat)
 |ext (x:Opd) (i:Nat)
 |fad (x:Opd) (off:Nat)
 |lload (s:Nat) (p:Pth) (a:Opd)
 |lloada (s:Nat) (p:Pth) (n:Nat) (a:Opd)
 |lbox (s:Nat) (p:Pth) (x:Opd)
 |lnew (s:Nat) (p:Pth) (vs:Tl)
 |bld (z:Tl) (ps:List (Nat×Nat×Opd))
 |lstore (s:Nat) (p:Pth) (n:Nat) (a x:Opd)
 |call (f:TN) (args:List Opd)
 |gen
abbrev TV:=Tr Value
abbrev TL:=Tr (Option (Tl))
def rd(tm:TV):Opd->Value
 | .t p=>p.get undef tm
 | .c v=>v
structure XCfg where
 C:Cfg
 kf:TN->Tl->Ts->Option (Value×List HObj)
abbrev KS:=Ctx->TV->TL->Ts->Bool
structure XS where
 call:Ctx->TN->Tl->Ts->(Ctx->Value->Ts->Bool)->Bool
 yield:Ctx->Nat->Tl->Ts->(Ctx->Value->Ts->Bool)->Bool
 ex:Ctx->TB->Nat->Code->TV->TL->Ts->KS->(Exit->KS)->Bool
end Go.Am
end

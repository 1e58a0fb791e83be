/-
  PART 2 OF THE PROOF (no conditions).
-/
import Derived.Test.YtoeibflkihlloaaGreatDoorCW1
import Derived.Test.YtoeibflkihlloaaGreatDoorProg
set_option linter.unusedSectionVars false
set_option linter.unusedSimpArgs false
set_option linter.unusedVariables false
set_option linter.constructorNameAsVariable false
set_option linter.defProp false
noncomputable section
set_option maxRecDepth 100000
namespace Go.Am
section
variable [Val]
section
variable [Glo] {C:Cfg} {base:Nat} {H₀:Ts} {mu₀:HMap} {w₀:World} {la:LMap} {mu:HMap} {σ:St} {a:Act} {w:World}
def eB(keys:TA):∀(l:List (Option (Tl))) (i j:Nat),(gu keys l i)[j]?=if keys.contains (i+j)then(l[j]?).map (λ_=>none)else l[j]?
 | [],i,j=>by simp[gu]
 |x :: l,i,j=>by
  cases j with
  |zero=>simp only[gu,qaR,qcb];split<;>rfl
  |succ j=>
   simp only[gu,qbf]
   rw[eB keys l (i+1) j,show i+1+j=i+(j+1)by omega]
def clearV_ok{keys:TA}{v c:Value}(h:VR la mu v c):VR (λs=>if keys.contains s then none else la s) mu (ir keys v) c:=by
 unfold ir
 split
 next ad=>
  split
  ·exact .poison c
  next hn=>
   cases h with
   |scalar h=>simp[Am.scalar]at h
   |lptr h=>
    simp at hn
    exact .lptr (by simp[hn,h])
   |hptr h=>exact .hptr h
   |gptr=>exact .gptr
 ·split
  next hl=>exact(dH hl h).up
  ·exact .poison c
def FI.clear(h:FI C base H₀ mu₀ w₀ la mu σ a w)(keys:TA):∃la',FI C base H₀ mu₀ w₀ la' mu (σ.clear keys) a w:=by
 unfold St.clear
 split
 ·exact⟨la,h⟩
 ·refine⟨λs=>if keys.contains s then none else la s,⟨?_,?_,?_,?_,h.sr.wr⟩,h.evo,?_,h.marks,h.low⟩
  ·refine⟨by simpa using h.sr.vals.1,λi x y hx hy=>?_⟩
   rw[qax]at hx
   cases hv:σ.tmps[i]? with
   |none=>rw[hv]at hx;cases hx
   |some v=>
    rw[hv]at hx
    cases hx
    exact clearV_ok (h.sr.vals.2 i v y hv hy)
  ·intro s b hb
   split at hb
   ·cases hb
   next hk=>
    obtain⟨vs,h1⟩:=h.sr.ldom s b hb
    exact⟨vs,by rw[eB,qaL,qdz hk];exact h1⟩
  ·intro s vs hs
   rw[eB,qaL]at hs
   split at hs
   ·cases hl:σ.loc[s]? with
    |none=>rw[hl]at hs;cases hs
    |some x=>rw[hl]at hs;cases hs
   next hk=>
    obtain⟨b,c,e,h1,h2⟩:=h.sr.loc s vs hs
    exact⟨b,c,e,by show(if _ then none else la s)=_;rw[qdz hk];exact h1,h2⟩
  ·intro s s' b hs hs'
   split at hs
   ·cases hs
   ·split at hs'
    ·cases hs'
    ·exact h.sr.linj s s' b hs hs'
  ·intro s b hb
   split at hb
   ·cases hb
   ·exact h.fresh s b hb
def FI.drew(h:FI C base H₀ mu₀ w₀ la mu σ a w)(n:Nat)(hn:w.drawn<=n):FI C base H₀ mu₀ w₀ la mu σ a { w with drawn:=n }:=
 ⟨⟨h.sr.vals,h.sr.ldom,h.sr.loc,h.sr.linj,h.sr.wr.drew n⟩,h.evo.drew n hn,h.fresh,h.marks,h.low⟩
def uQ{P:TE}{b:Frame}{a:Act}{k:Tz}{cs:List Frame}{w:World}{c:Code} :
  step P (lone (b.atR a (.code (.scope c) :: k)) cs w) = .next (lone (b.atR a (.code c :: .inScope c :: k)) cs w):=
 step_lone_go (by simp[stepG,stepG.exec,Frame.atR])
def rE{P:TE}{b:Frame}{a:Act}{k:Tz}{cs:List Frame}{w:World}{c:Code} :
  step P (lone (b.atR a (.inScope c :: k)) cs w) = .next (lone (b.atR a k) cs w):=
 step_lone_go (by simp[stepG,stepG.exec,Frame.atR])
def Arr(P:TE)(b:Frame)(k:Tz)(cs:List Frame)(m:Machine)(a':Act)(w':World):Exit->Prop
 | .normal=>Steps P m (lone (b.atR a' k) cs w')
 | .ret=>∃todo,Steps P m (lone (b.atR a' (.code .ret :: todo)) cs w')
 | .exit id=>∃todo,Steps P m (lone (b.atR a' (.code (.exit id) :: todo)) cs w')/\exitTo id todo=exitTo id k
 |_=>False
def Arr.of_steps{P:TE}{b:Frame}{k:Tz}{cs:List Frame}{m m₁:Machine}{a':Act}{w':World}{e:Exit}(h:Steps P m m₁)(h':Arr P b k cs m₁ a' w' e):Arr P b k cs m a' w' e:=by
 cases e with
 |normal=>exact h.trans h'
 |ret=>obtain⟨t,h'⟩:=h';exact⟨t,h.trans h'⟩
 |exit id=>obtain⟨t,h',h''⟩:=h';exact⟨t,h.trans h',h''⟩
 |_=>exact h'.elim
def Arr.pass{P:TE}{b:Frame}{x:Item}{k:Tz}{cs:List Frame}{m:Machine}{a':Act}{w':World}{e:Exit}(hx:∀id,exitTo id (x :: k)=exitTo id k)(hn:e≠.normal)(h:Arr P b (x :: k) cs m a' w' e):Arr P b k cs m a' w' e:=by
 cases e with
 |normal=>exact absurd rfl hn
 |ret=>exact h
 |exit id=>obtain⟨t,h',h''⟩:=h;exact⟨t,h',by rw[h'',hx]⟩
 |_=>exact h.elim
end
def ot(C:Cfg)(S:Sems):Prop:=
 ∀(_:Glo) (base:Nat) (H₀:Ts) (mu₀:HMap) (w₀:World) (ro:Tp) (fn:TM) (pts:TA) (code:Code) (σ σ':St) (e:Exit) (la:LMap) (mu:HMap) (a:Act) (w:World),(pts≠[]->ro=none)->
  S.ex pts code σ e σ'->FI C base H₀ mu₀ w₀ la mu σ a w->∀(b:Frame) k cs,b.roundOf=ro->b.fn=fn->
  ∃a' w' la' mu',FI C base H₀ mu₀ w₀ la' mu' σ' a' w'/\Arr C.P b k cs (lone (b.atR a (.code code :: k)) cs w) a' w' e
section
variable [Glo] {C:Cfg} {base:Nat} {H₀:Ts} {mu₀:HMap} {w₀:World} {la:LMap} {mu:HMap} {σ:St} {a:Act} {w:World}
def lV(hw:WR C base mu σ.heap w){id:Nat}{r:ALoop}(h:ed σ.heap id=some r):∃p,mu id=some p/\σ.heap[id]?=some (.loop r)/\
  ∃L:Loop,w.heap[p.b]?=some (.loop L)/\L.state=r.state/\L.pending=r.pending/\L.params.toList=r.params/\L.assign=r.assign/\L.body=r.body/\VRs noL mu r.tmps L.tmps.toList:=by
 unfold ed at h
 split at h
 next r' hid=>
  cases h
  obtain⟨p,hp,hr⟩:=hw.obj id _ hid rfl
  exact⟨p,hp,hid,hr⟩
 ·cases h
def WR.setLoop(hw:WR C base mu σ.heap w){id:Nat}{r r':ALoop}{p:Pl}{L':Loop}(hid:σ.heap[id]?=some (.loop r))(hp:mu id=some p)
  (h1:L'.state=r'.state) (h2:L'.pending=r'.pending) (h3:L'.params.toList=r'.params) (h4:L'.assign=r'.assign) (h5:L'.body=r'.body) (h6:VRs noL mu r'.tmps L'.tmps.toList) :
  WR C base mu (σ.heap.set id (.loop r')) { w with heap:=w.heap.setIfInBounds p.b (.loop L') }/\Evo σ.heap mu w (σ.heap.set id (.loop r')) mu { w with heap:=w.heap.setIfInBounds p.b (.loop L') }:=
 hw.set (w':={ w with heap:=w.heap.setIfInBounds p.b (.loop L') }) (x:=.loop L') hid rfl hp rfl rfl rfl rfl (.loop r') (λ_=>rfl) ⟨L',rfl,h1,h2,h3,h4,h5,h6⟩
def snapOf_ok{tmps tm:Tl}{cs:Tl}(hs:uY tmps tm)(h:VRs la mu tmps cs):VRs noL mu tm cs:=by
 refine⟨by rw[hs.1,h.1],λi x y hx hy=>?_⟩
 rcases hs.2 i x hx with rfl|⟨h1,h2⟩
 ·exact .poison y
 ·exact dH h2 (h.2 i x y h1 hy)
def WR.other(hw:WR C base mu σ.heap w)(o:Obj):WR C base mu σ.heap (w.alloc o)/\Evo σ.heap mu w σ.heap mu (w.alloc o):=by
 have hold:∀b,b<w.heap.size->(w.alloc o).heap[b]?=w.heap[b]?:=λb hb=>by
  show(w.heap.push _)[b]?=_
  rw[qb7,qdz (by omega)]
 refine⟨⟨?_,hw.inj,hw.own,hw.ro,hw.dom,?_⟩,⟨qaf _,λ_ _=>rfl,by simp,λb hb _=>hold b hb,λb hb=>.inr hb,rfl,rfl,rfl,qaf _⟩⟩
 ·intro id x hid ha
  obtain⟨p,h1,h2⟩:=hw.obj id x hid ha
  exact⟨p,h1,by rw[hold _ (gL ha h2)];exact h2⟩
 ·intro g vs hg
  obtain⟨h1,h2,c,e',fr,h3,h4⟩:=hw.glob g vs hg
  exact⟨h1,h2,c,e',fr,by rw[hold _ (qat.1 h3).1];exact h3,h4⟩
def fV{l:Nat}{L:Loop}(h:w.heap[l]?=some (.loop L)):(Instr.getLoop l).run C.P w = .ok L w:=by
 have:(getObj l).run C.P w = .ok (.loop L) w:=by simp[getObj,Sem.run,h]
 simp[Instr.getLoop,this]
def iT{l:Nat}{L:Loop}{o:Obj}(h:w.heap[l]?=some (.loop L)):(setObj l o).run C.P w = .ok () { w with heap:=w.heap.setIfInBounds l o }:=by
 simp[setObj,Sem.run,h]
def uI{l:Nat}{L:Loop}(h:w.heap[l]?=some (.loop L))(hb:L.state≠.busy) :
  (Instr.endLoop l).run C.P w = .ok L.pending { w with heap:=w.heap.setIfInBounds l (.loop { L with state:=.exhausted }) }:=by
 simp[Instr.endLoop,Sem.run_bind,fV h,iT h,Result.andThen]
 exact λh=>absurd h hb
def oh{l:Nat}{L:Loop}(h:w.heap[l]?=some (.loop L))(hb:L.state = .ready) :
  (Instr.beginRound l).run C.P w = .ok () { w with heap:=w.heap.setIfInBounds l (.loop { L with state:=.busy }) }:=by
 simp[Instr.beginRound,Sem.run_bind,fV h,hb,iT h,Result.andThen]
def tE{l:Nat}{L:Loop}(h:w.heap[l]?=some (.loop L))(j:Tk) :
  (Instr.endRound l j).run C.P w = .ok (.bool j.isNone) { w with heap:=w.heap.setIfInBounds l (.loop { L with state:=if j.isNone then .ready else .done,pending:=j }) }:=by
 simp[Instr.endRound,Sem.run_bind,fV h,iT h,Result.andThen]
end
section
variable {C:Cfg}
def code_next(hm:C.P.follows .mixedOrders=true){S:Sems}(hB:BOk C S.toBelow)(hS:ot C S):ot C { S with ex:=mK C S }:=by
 intro _ base H₀ mu₀ w₀ ro fn pts code σ σ' e la mu a w hro hex h b k cs hb hf
 cases code with
 |skip=>
  obtain⟨rfl,rfl⟩:=hex
  exact⟨a,w,la,mu,h,.one stepR_skip⟩
 |label l=>
  obtain⟨rfl,rfl⟩:=hex
  exact⟨a,w,la,mu,h,.one stepR_label⟩
 |ret=>
  obtain⟨rfl,rfl⟩:=hex
  exact⟨a,w,la,mu,h,⟨k,.refl _ _⟩⟩
 |exit id=>
  obtain⟨rfl,rfl⟩:=hex
  exact⟨a,w,la,mu,h,⟨k,.refl _ _,rfl⟩⟩
 |goto l=>exact hex.elim
 |refuse s=>exact hex.elim
 |seq x y=>
  obtain⟨e₁,σ₁,h1,h2⟩:=hex
  obtain⟨a₁,w₁,la₁,mu₁,g1,g2⟩:=hS _ base H₀ mu₀ w₀ ro fn pts x σ σ₁ e₁ la mu a w hro h1 h b (.code y :: k) cs hb hf
  rcases h2 with⟨rfl,h2⟩|⟨hne,rfl,rfl⟩
  ·obtain⟨a₂,w₂,la₂,mu₂,g3,g4⟩:=hS _ base H₀ mu₀ w₀ ro fn pts y σ₁ σ' e la₁ mu₁ a₁ w₁ hro h2 g1 b k cs hb hf
   exact⟨a₂,w₂,la₂,mu₂,g3,.of_steps (.head stepR_seq g2) g4⟩
  ·exact⟨a₁,w₁,la₁,mu₁,g1,.of_steps (.one stepR_seq) (.pass (λid=>rfl) hne g2)⟩
 |cond c x y=>
  obtain⟨t,ht,h1⟩:=hex
  obtain⟨a₁,w₁,la₁,mu₁,g1,g2⟩:=hS _ base H₀ mu₀ w₀ ro fn pts _ σ σ' e la mu a w hro h1 h b k cs hb hf
  have hc:=aA h.sr c
  rw[ht]at hc
  exact⟨a₁,w₁,la₁,mu₁,g1,.of_steps (.one (stepR_cond hc.bool)) g2⟩
 |block id x=>
  obtain⟨e₁,h1,rfl⟩:=hex
  obtain⟨a₁,w₁,la₁,mu₁,g1,g2⟩:=hS _ base H₀ mu₀ w₀ ro fn pts x σ σ' e₁ la mu a w hro h1 h b (.inBlock id :: k) cs hb hf
  refine⟨a₁,w₁,la₁,mu₁,g1,?_⟩
  have g:=g2
  refine .of_steps (.one stepR_block) ?_
  cases e₁ with
  |normal=>exact Steps.trans g (.one stepR_inBlock)
  |ret=>exact g
  |exit i=>
   obtain⟨t,s1,s2⟩:=g
   show Arr C.P b k cs _ a₁ w₁ (if i=id then .normal else .exit i)
   by_cases hi:i=id
   ·rw[qdy hi]
    subst hi
    have:exitTo i t=some k:=by rw[s2];simp[exitTo]
    exact s1.trans (.one (stepR_exit this))
   ·rw[qdz hi]
    refine⟨t,s1,?_⟩
    rw[s2]
    have hne:(id==i)=false:=by simp;exact λe=>hi e.symm
    simp[exitTo,hne]
  |_=>exact g.elim
 |loop x=>
  obtain⟨e₁,σ₁,h1,h2⟩:=hex
  obtain⟨la₀,h0⟩:=h.clear (aP pts x)
  obtain⟨a₁,w₁,la₁,mu₁,g1,g2⟩:=hS _ base H₀ mu₀ w₀ ro fn pts x _ σ₁ e₁ la₀ mu a w hro h1 h0 b (.inLoop x :: k) cs hb hf
  rcases h2 with⟨rfl,h2⟩|⟨hne,rfl,rfl⟩
  ·obtain⟨a₂,w₂,la₂,mu₂,g3,g4⟩:=hS _ base H₀ mu₀ w₀ ro fn pts (.loop x) σ₁ σ' e la₁ mu₁ a₁ w₁ hro h2 g1 b k cs hb hf
   refine⟨a₂,w₂,la₂,mu₂,g3,?_⟩
   have s1:Steps C.P (lone (b.atR a (.code (.loop x) :: k)) cs w) (lone (b.atR a₁ (.inLoop x :: k)) cs w₁):=.head stepR_loop g2
   have s2:=g4
   have hsame:∀m',Steps C.P (lone (b.atR a₁ (.code (.loop x) :: k)) cs w₁) m'->(∃n,runN C.P (n+1) (lone (b.atR a₁ (.code (.loop x) :: k)) cs w₁) = .next m')∨m'=lone (b.atR a₁ (.code (.loop x) :: k)) cs w₁:=by
    rintro m' ⟨n,hn⟩
    cases n with
    |zero=>simp[runN]at hn;exact .inr hn.symm
    |succ n=>exact .inl ⟨n,hn⟩
   have hgo:∀m',Steps C.P (lone (b.atR a₁ (.code (.loop x) :: k)) cs w₁) m'->m'≠lone (b.atR a₁ (.code (.loop x) :: k)) cs w₁->Steps C.P (lone (b.atR a₁ (.inLoop x :: k)) cs w₁) m':=by
    intro m' hm' hne
    rcases hsame m' hm' with⟨n,hn⟩|rfl
    ·refine⟨n+1,?_⟩
     simp only[runN,stepR_loop,stepR_inLoop]at hn ⊢
     exact hn
    ·exact absurd rfl hne
   have htodo:∀(a':Act) (t:Tz) (w':World),t≠.code (.loop x) :: k->lone (b.atR a' t) cs w'≠lone (b.atR a₁ (.code (.loop x) :: k)) cs w₁:=by
    intro a' t w' hne e
    have e':=congrArg (λm:Machine=>(m.gs[0]?).map (λg=>g.frame.todo)) e
    simp[lone,Frame.atR]at e'
    exact hne e'
   refine .of_steps s1 ?_
   cases e with
   |normal=>
    refine hgo _ s2 (htodo _ _ _ λe=>?_)
    have:=congrArg List.length e
    simp at this
   |ret=>
    obtain⟨t,s2⟩:=s2
    exact⟨t,hgo _ s2 (htodo _ _ _ λe=>by simp at e)⟩
   |exit id=>
    obtain⟨t,s2,s3⟩:=s2
    exact⟨t,hgo _ s2 (htodo _ _ _ λe=>by simp at e),s3⟩
   |_=>exact s2.elim
  ·exact⟨a₁,w₁,la₁,mu₁,g1,.of_steps (.one stepR_loop) (.pass (λid=>rfl) hne g2)⟩
 |scope x=>
  obtain⟨a₁,w₁,la₁,mu₁,g1,g2⟩:=hS _ base H₀ mu₀ w₀ ro fn pts x σ σ' e la mu a w hro hex h b (.inScope x :: k) cs hb hf
  refine⟨a₁,w₁,la₁,mu₁,g1,.of_steps (.one uQ) ?_⟩
  have g:=g2
  by_cases hn:e = .normal
  ·subst hn;exact Steps.trans g (.one rE)
  ·exact .pass (λid=>rfl) hn g
 |region id ops draw=>
  obtain⟨rfl,h1⟩:=hex
  cases draw with
  |false=>
   obtain⟨a₁,w₁,la₁,mu₁,g1,g2⟩:=wo hB b k cs _ _ _ _ _ _ _ h h1
   exact⟨a₁,w₁,la₁,mu₁,g1,.head stepR_region g2⟩
  |true=>
   have hd:FI C base H₀ mu₀ w₀ la mu σ a { w with drawn:=w.drawn+1 }:=h.drew _ (qc5 _)
   obtain⟨σ₀,h0,h1⟩:=h1
   obtain⟨a₁,w₁,la₁,mu₁,g1,g2⟩:=sim_any hB (hd.restate h0) h1 (w.tape w.drawn (.order fn id)) b k cs
   refine⟨a₁,w₁,la₁,mu₁,g1,.head stepR_region_draw ?_⟩
   rw[hm,hf]
   exact g2
 |rangeFunc f params assign body=>
  obtain⟨hpts,g,first,cap,φ,tm,r,H,r₂,hsnap,hf',hnl,hcall,hl,hbusy,hexit,rfl⟩:=hex
  obtain rfl:=hro hpts
  have hfe:=aA h.sr f
  rw[hf']at hfe
  obtain⟨x',y',hev,r1,r2⟩:=hfe.func_inv
  have hnl':first.toList.all bj=true/\cap.toList.all bj=true:=by simpa[noLoc]using hnl
  have d1:VRs noL mu first.toList x'.toList:=⟨r1.1,λi u v hu hv=>eG (cC hnl'.1 hu) (r1.2 i u v hu hv)⟩
  have d2:VRs noL mu cap.toList y'.toList:=⟨r2.1,λi u v hu hv=>eG (cC hnl'.2 hu) (r2.2 i u v hu hv)⟩
  obtain⟨hW1,hE1⟩:=h.sr.wr.other (.deferred (some []))
  have hr1:(w.alloc (.deferred (some []))).heap[w.heap.size]?=some (.deferred (some [])):=by
   show(w.heap.push _)[_]?=_
   simp
  have hno:¬Own mu σ.heap w.heap.size:=λho=>by have:=(Own.lt h.sr.wr ho).1;omega
  have hF1:FI C base H₀ mu₀ w₀ la mu σ { a with defers:=({ target:=.collected w.heap.size,args:=#[] }:Deferred) :: a.defers } (w.alloc (.deferred (some []))):=by
   have h':=h.heap hW1 hE1
   refine⟨h'.sr,h'.evo,h'.fresh,?_,h'.low⟩
   obtain⟨rs,k1,k2,k3⟩:=h.marks
   have hlt:∀r∈rs,r<w.heap.size:=λr hr=>by
    obtain⟨_,k4,_⟩:=k3 r hr
    exact(qat.1 k4).1
   refine⟨w.heap.size :: rs,by rw[k1];rfl,qcg.2 ⟨λhm=>by have:=hlt _ hm;omega,k2⟩,λr hr=>?_⟩
   rcases qal.1 hr with rfl|hr
   ·exact⟨h.evo.size,hr1,hno⟩
   ·obtain⟨k4,k5,k6⟩:=k3 r hr
    exact⟨k4,by rw[hE1.keep r (hlt r hr) k6];exact k5,k6⟩
  have hb1:base<=(w.alloc (.deferred (some []))).heap.size:=hF1.big
  let L:Loop:={ state:=.ready,pending:=none,fn,tmps:=a.tmps,params,assign,body,defers:=w.heap.size }
  let w₂:World:=(w.alloc (.deferred (some []))).alloc (.loop L)
  let p:Pl:=⟨(w.alloc (.deferred (some []))).heap.size,0,0,0⟩
  obtain⟨hW2,hE2,_⟩:=hF1.sr.wr.new hb1 (w':=w₂) (x:=.loop L) rfl rfl rfl rfl (.loop { state:=.ready,pending:=none,fn:=φ,tmps:=tm,params:=params.toList,assign,body }) p rfl
   ⟨L,rfl,rfl,rfl,rfl,rfl,rfl,snapOf_ok hsnap h.sr.vals⟩ (λ_=>rfl)
  have hF2:=hF1.heap hW2 hE2
  have hmono:=jJ h.sr.wr p
  have hargs:VRs noL (upd mu σ.heap.length p) (first.toList++[.func (.yield σ.heap.length) #[] #[]]++cap.toList) (x' ++ #[Value.func (.yield p.b) #[] #[]]++y').toList:=by
   simp only[qbP]
   exact((d1.mono (λ_ _ h=>h) hmono).append (.cons (.yield (bE _ _ _)) .nil)).append (d2.mono (λ_ _ h=>h) hmono)
  obtain⟨v,mu',w',q1,q2,q3,q4,q5⟩:=hB.call _ _ _ _ _ hcall _ base _ w₂ _ hF2.big hargs hW2 (b.atR { a with defers:=[({ target:=.collected w.heap.size,args:=#[] }:Deferred)]++a.defers } (.inRangeFunc p.b :: k) :: cs)
  have hF3:=hF2.heap q2 q3
  have hmu':mu' σ.heap.length=some p:=by rw[q3.same _ (by simp)];exact bE _ _ _
  obtain⟨p',hp',hid,L',hL',e1,e2,e3,e4,e5,e6⟩:=lV (σ:={ σ with heap:=H }) q2 hl
  obtain rfl:p'=p:=by rw[hmu']at hp';exact(qae hp').symm
  obtain⟨hW4,hE4⟩:=WR.setLoop (σ:={ σ with heap:=H }) q2 hid hp' (r':={ r₂ with state:=.exhausted }) (L':={ L' with state:=.exhausted }) rfl e2 e3 e4 e5 e6
  have hF4:=hF3.heap hW4 hE4
  refine⟨_,_,la,mu',hF4,?_⟩
  have henter:(Instr.enterLoop b.fn a.tmps params assign body b.roundOf).run C.P w = .ok (p.b,[({ target:=.collected w.heap.size,args:=#[] }:Deferred)]) w₂:=by
   rw[hb,hf]
   rfl
  have hres:(resolve a.eval (rangeCall f p.b) 0).run C.P w₂ = .ok { target:=.fn (.func g) y',args:=x' ++ #[.func (.yield p.b) #[] #[]] } w₂:=by
   have hmap:Array.map a.eval #[Operand.const (Value.func (Fn.yield p.b) #[] #[])] = #[Value.func (Fn.yield p.b) #[] #[]]:=by simp[Act.eval]
   simp only[resolve,hev,Deferred.ofValue,hmap]
   rfl
  have hinv:(invoke (.fn (.func g) y') (x' ++ #[.func (.yield p.b) #[] #[]])).run C.P w₂ = .ok (.enter g (x' ++ #[.func (.yield p.b) #[] #[]]++y')) w₂:=q4
  have s1:=stepR_rangeFunc (P:=C.P) (b:=b) (a:=a) (k:=k) (cs:=cs) henter hres hinv
  obtain⟨fr,s2,_,s3⟩:=q5
  have hend:(Instr.endLoop p.b).run C.P w' = .ok r₂.pending { w' with heap:=w'.heap.setIfInBounds p.b (.loop { L' with state:=.exhausted }) }:=by
   rw[←e2]
   exact uI hL' (by rw[e1];exact hbusy)
  have s4:Steps C.P (lone (b.atR a (.code (.rangeFunc f params assign body) :: k)) cs w) (lone (b.atR { a with defers:=[({ target:=.collected w.heap.size,args:=#[] }:Deferred)]++a.defers } ((r₂.pending.map Item.code).toList++k)) cs { w' with heap:=w'.heap.setIfInBounds p.b (.loop { L' with state:=.exhausted }) }):=by
   refine .head s1 (s2.trans (.head ?_ (.one (stepR_endRangeFunc hend))))
   rw[←finish_atR_inRangeFunc p.b v]
   exact step_leave_returned s3
  unfold vq at hexit
  split at hexit
  next hp=>cases hexit;rw[hp]at s4;exact s4
  next hp=>cases hexit;rw[hp]at s4;exact⟨k,s4⟩
  next hp=>cases hexit;rw[hp]at s4;exact⟨k,s4,rfl⟩
  ·cases hexit
end
end
section
variable [Val]
section
variable [Glo] {C:Cfg} {base:Nat} {H₀:Ts} {mu₀:HMap} {w₀:World} {la:LMap} {mu:HMap} {σ:St} {a:Act} {w:World}
def FI.shut{d:Deferred}{ds:List Deferred}(h:FI C base H₀ mu₀ w₀ la mu σ a w)(hd:a.defers=d :: ds) :
  ∃r,d.target = .collected r/\(Instr.takeDeferred r).run C.P w = .ok [] { w with heap:=w.heap.setIfInBounds r (.deferred none) }/\
   FI C base H₀ mu₀ w₀ la mu σ { a with defers:=ds } { w with heap:=w.heap.setIfInBounds r (.deferred none) }:=by
 obtain⟨rs,h1,h2,h3⟩:=h.marks
 rw[hd]at h1
 cases rs with
 |nil=>cases h1
 |cons r rs=>
  simp only[qau,qay]at h1
  obtain⟨rfl,rfl⟩:=h1
  obtain⟨k1,k2,k3⟩:=h3 r (by simp)
  have hlt:r<w.heap.size:=(qat.1 k2).1
  have hold:∀b,b≠r->(w.heap.setIfInBounds r (.deferred none))[b]?=w.heap[b]?:=λb hb=>qbX (qcq hb)
  have hlow:=h.low
  refine⟨r,rfl,?_,⟨⟨h.sr.vals,h.sr.ldom,?_,h.sr.linj,⟨?_,h.sr.wr.inj,h.sr.wr.own,h.sr.wr.ro,h.sr.wr.dom,?_⟩⟩,?_,h.fresh,?_,h.low⟩⟩
  ·have hg:(getObj r).run C.P w = .ok (.deferred (some [])) w:=by simp[getObj,Sem.run,k2]
   have hs:(setObj r (.deferred none)).run C.P w = .ok () { w with heap:=w.heap.setIfInBounds r (.deferred none) }:=by simp[setObj,Sem.run,k2]
   simp[Instr.takeDeferred,Sem.run_bind,hg,hs,Result.andThen]
  ·intro s vs hs
   obtain⟨b,c,e,e1,e2,e3,e4⟩:=h.sr.loc s vs hs
   exact⟨b,c,e,e1,e2,by rw[←e3];exact hold b (λeb=>by subst eb;rw[k2]at e3;cases e3),e4⟩
  ·intro id o hid ha
   obtain⟨p,e1,e2⟩:=h.sr.wr.obj id o hid ha
   refine⟨p,e1,?_⟩
   show objR mu p (w.heap.setIfInBounds r (.deferred none))[p.b]? o
   by_cases hpb:p.b=r
   ·exfalso
    by_cases hown:o.owned=true
    ·exact k3 ⟨id,o,p,hid,hown,e1,hpb⟩
    ·have:=h.sr.wr.ro id o p hid ha (by simpa using hown) e1
     omega
   ·rw[hold _ hpb];exact e2
  ·intro g vs hg
   obtain⟨e1,e2,c,e',fr,e3,e4⟩:=h.sr.wr.glob g vs hg
   exact⟨e1,e2,c,e',fr,by rw[←e3];exact hold _ (by omega),e4⟩
  ·refine⟨h.evo.len,h.evo.same,by simpa using h.evo.size,λk hk ho=>?_,h.evo.steal,h.evo.os,h.evo.tape,h.evo.output,h.evo.dr⟩
   rw[←h.evo.keep k hk ho]
   exact hold k (by omega)
  ·have hnd:=qcg.1 h2
   refine⟨rs,rfl,hnd.2,λr' hr'=>?_⟩
   obtain⟨e1,e2,e3⟩:=h3 r' (by simp[hr'])
   exact⟨e1,by rw[←e2];exact hold r' (λe=>hnd.1 (e▸hr')),e3⟩
def tP:∀(ds:List Deferred) (a:Act) (w:World),a.defers=ds->FI C base H₀ mu₀ w₀ la mu σ a w->
  ∃w',FI C base H₀ mu₀ w₀ la mu σ { a with defers:=[] } w'/\
   ∀(b:Frame) (todo:Tz) (cs:List Frame),Steps C.P (lone { b.atR a todo with mode:=.returning } cs w) (lone { b.atR { a with defers:=[] } todo with mode:=.returning } cs w')
 | [],a,w,hd,h=>by
  obtain⟨tmps,defers⟩:=a
  simp only at hd
  subst hd
  exact⟨w,h,λb todo cs=>.refl _ _⟩
 |d :: ds,a,w,hd,h=>by
  obtain⟨r,h1,h2,h3⟩:=h.shut hd
  obtain⟨w',h4,h5⟩:=tP ds { a with defers:=ds } _ rfl h3
  refine⟨w',h4,λb todo cs=>.head ?_ (h5 b todo cs)⟩
  exact step_collected (fr:={ b.atR a todo with mode:=.returning }) (by simp) (show a.defers=d :: ds from hd) h1 h2
def kI(tmps:Tj):ResultVar->Sem Value
 | .tmp t=>pure (tmps.getD t undef)
 | .cell p t=>do loadVar t (←asAddr (tmps.getD p undef))
def xA(fn:Func)(tmps:Tj):results fn tmps=(do
  let vs ←fn.results.mapM (kI tmps)
  pure (if h:vs.size=1 then vs[0]else .tuple vs)):=by
 have:(λx=>match x with
  |ResultVar.tmp t=>pure (tmps.getD t undef)
  |ResultVar.cell p t=>(do loadVar t (←asAddr (tmps.getD p undef)):Sem Value))=kI tmps:=by
  funext x;cases x<;>rfl
 rw[←this]
 rfl
def xy(h:SR C base la mu σ a.tmps w){x:ResultVar}{v:Value}(hx:eJ C σ x=some v) :
  ∃v',(kI a.tmps x).run C.P w = .ok v' w/\VR la mu v v':=by
 have hget:∀t,VR la mu (σ.tmps.getD t undef) (a.tmps.getD t undef):=λt=>aA h (.tmp t)
 cases x with
 |tmp t=>
  simp only[eJ]at hx
  cases hx
  exact⟨_,rfl,hget t⟩
 |cell p t=>
  simp only[eJ]at hx
  have hp:=hget p
  split at hx
  next ad hv=>
   rw[hv]at hp
   split at hx
   next hsp=>
    cases hcl:dv σ.heap ad.block with
    |none=>rw[hcl]at hx;cases hx
    |some vs=>
     rw[hcl]at hx
     generalize hw:a.tmps.getD p undef=y at hp ⊢
     cases hp with
     |scalar hs=>simp[Am.scalar]at hs
     |lptr _=>simp at hsp
     |gptr=>simp at hsp
     |hptr hmu=>
      obtain⟨c,e,fr,h1,h2⟩:=sK h.wr hcl hmu
      obtain⟨v',h3,h4⟩:=dI (C:=C) h2 hx h1
      exact⟨v',by simp only[kI,hw,asAddr];exact h3,h4.up⟩
   next hsp=>
    split at hx
    next vs hloc=>
     generalize hw:a.tmps.getD p undef=y at hp ⊢
     cases hp with
     |scalar hs=>simp[Am.scalar]at hs
     |hptr _=>simp at hsp
     |gptr=>simp at hsp
     |lptr hla=>
      obtain⟨c,e,h1,h2,h3⟩:=loc_ok h hloc hla
      obtain⟨v',h4,h5⟩:=dI (C:=C) (bL.of_list h2) hx h1
      exact⟨v',by simp only[kI,hw,asAddr];simpa using h4,h5.up⟩
    ·cases hx
   ·cases hx
  ·cases hx
def nC(h:SR C base la mu σ a.tmps w):∀ {l:List ResultVar} {vs:Tl},cR C σ l=some vs->
  ∃vs',(l.mapM (kI a.tmps)).run C.P w = .ok vs' w/\VRs la mu vs vs'
 | [],vs,hx=>by
  cases hx
  exact⟨[],by simp,.nil⟩
 |x :: l,vs,hx=>by
  simp only[cR]at hx
  split at hx
  next v vs1 hv hvs=>
   cases hx
   obtain⟨v',h1,h2⟩:=xy h hv
   obtain⟨vs',h3,h4⟩:=nC h hvs
   refine⟨v' :: vs',?_,.cons h2 h4⟩
   simp only[qbT,Sem.run_bind,h1,Result.andThen_ok,Sem.run_pure,h3]
  ·cases hx
def xB(h:SR C base la mu σ a.tmps w){fn:Func}{vs:Tl}(hx:cR C σ fn.results.toList=some vs) :
  ∃v',(results fn a.tmps).run C.P w = .ok v' w/\VR la mu (fq vs) v':=by
 obtain⟨vs',h1,h2⟩:=nC h hx
 rw[xA,qda,Sem.run_bind,Sem.run_map,h1]
 match vs,vs',h2 with
 | [],[],_=>exact⟨_,rfl,.undef⟩
 | [v],[v'],h2=>exact⟨v',rfl,h2.head⟩
 |v :: u :: l,v' :: u' :: l',h2=>exact⟨.tuple (v' :: u' :: l').toArray,rfl,VRs.tuple (a:=(v :: u :: l).toArray) (by simpa using h2)⟩
 | [],_ :: _,h2=>simpa using h2.1
 | [_],[],h2=>simpa using h2.1
 | [_],_ :: _ :: _,h2=>simpa using h2.1
 |_ :: _ :: _,[],h2=>simpa using h2.1
 |_ :: _ :: _,[_],h2=>simpa using h2.1
end
section
variable {C:Cfg}
def call_next{S:Sems}(hS:ot C S){f:TM}{args:Tl}{H:Ts}{r:Value}{H':Ts}(h:lH C S f args H r H'):cO C f args H r H':=by
 obtain⟨fn,body,e,σ,vs,hfn,hbody,hname,hex,he,hres,rfl,hnl,rfl⟩:=h
 rw[qb5]at hname
 replace hname:=hname.1
 intro _ base mu w args' hb hargs hW cs
 let a₀:Act:={ tmps:=args'++Array.replicate (fn.ntmps - args'.size) undef,defers:=[] }
 have hlen:args.length=args'.size:=by simpa using hargs.1
 have hF:FI C base H mu w noL mu (kU fn args H) a₀ w:=by
  refine⟨⟨?_,λs b h=>by simp[noL]at h,λs vs hs=>?_,λs s' b h=>by simp[noL]at h,hW⟩,.refl _ _ _,λs b h=>by simp[noL]at h,⟨[],rfl,by simp,λr hr=>by simp at hr⟩,hb⟩
  ·simp only[kU,a₀,qbP,Array.toList_replicate,hlen]
   exact hargs.append (.replicate _ .undef)
  ·simp only[kU,qa3]at hs
   split at hs<;>cases hs
 let b:Frame:={ (default:Frame)with fn:=f,kind:=.normal,roundOf:=none }
 obtain⟨a₁,w₁,la₁,mu₁,g1,g2⟩:=hS _ base H mu w none f _ body _ σ e noL mu a₀ w (λ_=>rfl) hex hF b [] cs rfl rfl
 obtain⟨w₂,g3,g4⟩:=tP a₁.defers a₁ w₁ rfl g1
 obtain⟨v',g5,g6⟩:=xB (a:={ a₁ with defers:=[] }) g3.sr hres
 refine⟨v',mu₁,w₂,dH hnl g6,g3.sr.wr,g3.evo,?_,?_⟩
 ·have hbn:fn.body.isNone=false:=by rw[hbody];rfl
  have hp:(program).run C.P w = .ok C.P w:=rfl
  simp only[callFunc,Sem.run_bind,hp,Result.andThen_ok,hfn,hname,hbn]
  rfl
 ·have henter:Frame.enter C.P f args' .normal=b.atR a₀ [.code body]:=by simp[Frame.enter,Frame.atR,hfn,hbody,b,a₀]
  rw[henter]
  have hgo:=g2
  rcases he with rfl|rfl
  ·refine⟨{ b.atR { a₁ with defers:=[] } []with mode:=.returning },(Steps.trans hgo (.one (stepR_end rfl))).trans (g4 b [] cs),rfl,rfl,rfl,rfl,fn,hfn,g5⟩
  ·obtain⟨todo,hgo⟩:=hgo
   refine⟨{ b.atR { a₁ with defers:=[] } (.code .ret :: todo)with mode:=.returning },(hgo.trans (.one (stepR_ret rfl))).trans (g4 b _ cs),rfl,rfl,rfl,rfl,fn,hfn,g5⟩
section
variable [Glo] {la:LMap} {mu:HMap}
def tv:∀(ts:List Tmp) (vs cs:Tl) (tmps:Tl) (tmps':Tj),vs.length=ts.length->VRs la mu vs cs->VRs la mu tmps tmps'.toList->
  VRs la mu (cJ ts vs tmps) ((ts.zip cs).foldl (λ(t:Tj) (x:Tmp×Value)=>t.setIfInBounds x.1 x.2) tmps').toList
 | [],vs,cs,tmps,tmps',hl,hv,ht=>by
  cases vs with
  |nil=>simpa[cJ]using ht
  |cons _ _=>simp at hl
 |t :: ts,vs,cs,tmps,tmps',hl,hv,ht=>by
  cases vs with
  |nil=>simp at hl
  |cons v vs=>
   obtain⟨c,cs',rfl,h1,h2⟩:=hv.uncons
   simp only[cJ,qcH,qct]
   exact tv ts vs cs' _ _ (by simpa using hl) h2 (by simpa using ht.set t h1)
end
def xJ{S:Sems}(hS:ot C S){l:Nat}{args:Tl}{H:Ts}{r:Value}{H':Ts}(h:jK C S l args H r H'):YieldOk C l args H r H':=by
 obtain⟨lp,σ₁,lp₁,e,σ₂,lp₂,j,hl,hlen,hex1,hl1,hst,hex2,hj,hl2,rfl,rfl⟩:=h
 intro _ base mu w args' p hb hp hargs hW c cs
 obtain⟨p',hp',hid,L,hL,e1,e2,e3,e4,e5,e6⟩:=lV (σ:={ tmps:=[],loc:=[],heap:=H }) hW hl
 obtain rfl:p'=p:=by rw[hp]at hp';exact(qae hp').symm
 let tm:Tj:=(L.params.zip args').foldl (λtmps (x:Tmp×Value)=>tmps.setIfInBounds x.1 x.2) L.tmps
 let a₀:Act:={ tmps:=tm,defers:=[] }
 have htm:VRs noL mu (cJ lp.params args lp.tmps) tm.toList:=by
  have:=tv lp.params args args'.toList lp.tmps L.tmps hlen hargs e6
  rw[←e3,←Array.toList_zip]at this
  simp only[tm]
  rw[←qcr,←e3]
  exact this
 have hF:FI C base H mu w noL mu { tmps:=cJ lp.params args lp.tmps,loc:=[],heap:=H } a₀ w:=by
  refine⟨⟨htm,λs b h=>by simp[noL]at h,λs vs hs=>by simp at hs,λs s' b h=>by simp[noL]at h,hW⟩,.refl _ _ _,λs b h=>by simp[noL]at h,⟨[],rfl,by simp,λr hr=>by simp at hr⟩,hb⟩
 let b:Frame:={ (default:Frame)with fn:=L.fn,kind:=.normal,roundOf:=some p'.b }
 obtain⟨a₁,w₁,la₁,mu₁,g1,g2⟩:=hS _ base H mu w (some p'.b) L.fn [] lp.assign _ σ₁ .normal noL mu a₀ w (λh=>absurd rfl h) hex1 hF b [.beginRound,.code lp.body] (c :: cs) rfl rfl
 have hsame:∀ {mu':HMap} {H':Ts} {w':World},Evo H mu w H' mu' w'->mu' l=some p':=λhe=>by
  rw[he.same l (qaN.1 hid).1];exact hp
 obtain⟨p₁,hp₁,hid₁,L₁,hL₁,f1,f2,f3,f4,f5,f6⟩:=lV (σ:=σ₁) g1.sr.wr hl1
 obtain rfl:p₁=p':=by rw[hsame g1.evo]at hp₁;exact(qae hp₁).symm
 obtain⟨hW2,hE2⟩:=WR.setLoop (σ:=σ₁) g1.sr.wr hid₁ hp₁ (r':={ lp₁ with state:=.busy }) (L':={ L₁ with state:=.busy }) rfl f2 f3 f4 f5 f6
 have hF2:=g1.heap hW2 hE2
 obtain⟨a₂,w₂,la₂,mu₂,g3,g4⟩:=hS _ base H mu w (some p₁.b) L.fn [] lp.body _ σ₂ e la₁ mu₁ a₁ _ (λh=>absurd rfl h) hex2 hF2 b [] (c :: cs) rfl rfl
 obtain⟨p₂,hp₂,hid₂,L₂,hL₂,k1,k2,k3,k4,k5,k6⟩:=lV (σ:=σ₂) g3.sr.wr hl2
 obtain rfl:p₂=p₁:=by rw[hsame g3.evo]at hp₂;exact(qae hp₂).symm
 obtain⟨hW4,hE4⟩:=WR.setLoop (σ:=σ₂) g3.sr.wr hid₂ hp₂ (r':={ lp₂ with state:=if j.isNone then .ready else .done,pending:=j }) (L':={ L₂ with state:=if j.isNone then .ready else .done,pending:=j }) rfl rfl k3 k4 k5 k6
 refine⟨.bool j.isNone,mu₂,_,L.fn,tm,L.assign,L.body,.scalar rfl,hW4,g3.evo.trans hE4,?_,?_⟩
 ·have hsz:args'.size=L.params.size:=by
   have h1:=hargs.1
   have h2:L.params.toList.length=lp.params.length:=by rw[e3]
   simp at h1 h2;omega
  simp[Instr.yield,Sem.run_bind,fV hL,hsz,tm]
 ·have hb0:Frame.round p₂.b L.fn tm L.assign L.body .normal=b.atR a₀ [.code L.assign,.beginRound,.code L.body]:=by simp[Frame.round,Frame.atR,b,a₀]
  rw[hb0,e4,e5]
  have s1:Steps C.P (lone (b.atR a₀ [.code lp.assign,.beginRound,.code lp.body]) (c :: cs) w) _:=g2
  have s2:=s1.trans (.one (stepR_beginRound (k:=[.code lp.body]) rfl (oh hL₁ (by rw[f1];exact hst))))
  have s3:=g4
  have hend:=tE (C:=C) hL₂ j
  cases e with
  |normal=>
   cases hj
   exact(s2.trans s3).trans (.one (stepR_round_end rfl rfl hend))
  |ret=>
   cases hj
   obtain⟨t,s3⟩:=s3
   exact(s2.trans s3).trans (.one (stepR_round_ret rfl rfl hend))
  |exit id=>
   cases hj
   obtain⟨t,s3,hx⟩:=s3
   exact(s2.trans s3).trans (.one (stepR_round_exit rfl rfl hx hend))
  |_=>cases hj
def sems_ok(hm:C.P.follows .mixedOrders=true){K:Known}(hK:∀f args H r H',K f args H r H'->cO C f args H r H'):∀n,BOk C (sems C K n).toBelow/\ot C (sems C K n)
 |0=>⟨⟨hK,λ_ _ _ _ _ h=>h.elim⟩,by
   intro _ base H₀ mu₀ w₀ ro fn pts code σ σ' e la mu a w _ h
   exact h.elim⟩
 |n+1=>by
  obtain⟨hB,hS⟩:=sems_ok hm hK n
  refine⟨⟨λf args H r H' h=>h.elim (hK f args H r H') (call_next hS),λ_ _ _ _ _ h=>xJ hS h⟩,?_⟩
  have hcn:ot C _:=code_next hm hB hS
  intro _ base H₀ mu₀ w₀ ro fn pts code σ σ' e la mu a w hro hex hF
  exact hcn _ base H₀ mu₀ w₀ ro fn pts code σ σ' e la mu a w hro hex hF
end
end
section
variable [Val] {C:Cfg}
structure SemsLe(S S':Sems):Prop where
 call:∀f args H r H',S.call f args H r H'->S'.call f args H r H'
 yield:∀l args H r H',S.yield l args H r H'->S'.yield l args H r H'
 ex:∀fid c σ e σ',S.ex fid c σ e σ'->S'.ex fid c σ e σ'
def uf{B B':Below}(hc:∀f args H r H',B.call f args H r H'->B'.call f args H r H')(hy:∀l args H r H',B.yield l args H r H'->B'.yield l args H r H')
  {e:Eff} {dst:Tn} {σ σ':St} (h:jd B e dst σ σ'):jd B' e dst σ σ':=by
 cases e<;>first
  |exact h
  |(obtain⟨r,H,h1,h2⟩:=h;first|exact⟨r,H,hc _ _ _ _ _ h1,h2⟩|exact⟨r,H,hy _ _ _ _ _ h1,h2⟩)
def dQ{B B':Below}(hc:∀f args H r H',B.call f args H r H'->B'.call f args H r H')(hy:∀l args H r H',B.yield l args H r H'->B'.yield l args H r H')
  {pts:TA} {ops:Tm} {i:Nat} {σ σ':St} (h:ai C B pts ops i σ σ'):ai C B' pts ops i σ σ':=by
 unfold ai at *
 split at h
 ·exact h
 ·split at h
  ·exact h
  ·exact h
  ·rcases h with⟨e,h1,h2⟩|h
   ·exact .inl ⟨e,h1,uf hc hy h2⟩
   ·exact .inr h
def eI{B B':Below}(hc:∀f args H r H',B.call f args H r H'->B'.call f args H r H')(hy:∀l args H r H',B.yield l args H r H'->B'.yield l args H r H')
  {pts:TA} {ops:Tm}:∀ {l:TA} {σ σ':St},bn C B pts ops l σ σ'->bn C B' pts ops l σ σ'
 | [],_,_,h=>h
 |_ :: _,_,_,⟨σ₁,h1,h2⟩=>⟨σ₁,dQ hc hy h1,eI hc hy h2⟩
def lj{B B':Below}(hc:∀f args H r H',B.call f args H r H'->B'.call f args H r H')(hy:∀l args H r H',B.yield l args H r H'->B'.yield l args H r H')
  {pts:TA} {ops:Tm}:∀ {l:TA} {σ σ':St},eH C B pts ops l σ σ'->eH C B' pts ops l σ σ'
 | [],_,_,h=>h
 |_ :: _,_,_,⟨σ₀,σ₁,h0,h1,h2⟩=>⟨σ₀,σ₁,h0,dQ hc hy h1,lj hc hy h2⟩
def jD{B B':Below}(hc:∀f args H r H',B.call f args H r H'->B'.call f args H r H')(hy:∀l args H r H',B.yield l args H r H'->B'.yield l args H r H')
  {pts:TA} {ops:Tm} {sl:Nat->Tp}:∀ {l:TA} {σ σ':St},ij C B pts ops sl l σ σ'->ij C B' pts ops sl l σ σ'
 | [],_,_,h=>h
 |i :: _,_,_,⟨h0,σ₁,h1,h2⟩=>⟨h0,σ₁,by
  unfold dJ at h1 ⊢
  split at h1
  ·exact dQ hc hy h1
  ·exact h1,jD hc hy h2⟩
def tU{B B':Below}(hc:∀f args H r H',B.call f args H r H'->B'.call f args H r H')(hy:∀l args H r H',B.yield l args H r H'->B'.yield l args H r H')
  {pts:TA} {ops:Tm} {σ σ':St} (h:eQ C B pts ops σ σ'):eQ C B' pts ops σ σ':=
 h.imp (λh t=>eI hc hy (h t)) λ⟨sl,n,h1,h2,h3,h4⟩=>⟨sl,n,h1,h2,h3,λt=>jD hc hy (h4 t)⟩
def uh{S S':Sems}(h:SemsLe S S'){fid:TA}{c:Code}{σ:St}{e:Exit}{σ':St}(hx:mK C S fid c σ e σ'):mK C S' fid c σ e σ':=by
 cases c with
 |skip=>exact hx
 |label l=>exact hx
 |ret=>exact hx
 |exit id=>exact hx
 |goto l=>exact hx
 |refuse w=>exact hx
 |seq a b=>
  obtain⟨e₁,σ₁,h1,h2⟩:=hx
  exact⟨e₁,σ₁,h.ex _ _ _ _ _ h1,h2.imp (λh2=>⟨h2.1,h.ex _ _ _ _ _ h2.2⟩) id⟩
 |cond c a b=>
  obtain⟨t,h1,h2⟩:=hx
  exact⟨t,h1,h.ex _ _ _ _ _ h2⟩
 |block id b=>
  obtain⟨e₁,h1,h2⟩:=hx
  exact⟨e₁,h.ex _ _ _ _ _ h1,h2⟩
 |loop b=>
  obtain⟨e₁,σ₁,h1,h2⟩:=hx
  exact⟨e₁,σ₁,h.ex _ _ _ _ _ h1,h2.imp (λh2=>⟨h2.1,h.ex _ _ _ _ _ h2.2⟩) id⟩
 |scope b=>exact h.ex _ _ _ _ _ hx
 |region id ops draw=>
  obtain⟨h1,h2⟩:=hx
  refine⟨h1,?_⟩
  cases draw with
  |true=>
   obtain⟨σ₀,h3,h4⟩:=h2
   exact⟨σ₀,h3,tU h.call h.yield h4⟩
  |false=>exact lj h.call h.yield h2
 |rangeFunc f params assign body=>
  obtain⟨h0,g,first,cap,φ,tm,r,H,r₂,h1,h2,h3,h4,h5⟩:=hx
  exact⟨h0,g,first,cap,φ,tm,r,H,r₂,h1,h2,h3,h.call _ _ _ _ _ h4,h5⟩
def qg{S S':Sems}(h:SemsLe S S'){f:TM}{args:Tl}{H:Ts}{r:Value}{H':Ts}(hx:lH C S f args H r H'):lH C S' f args H r H':=by
 obtain⟨fn,b,e,σ,vs,h1,h2,h3,h4,h5⟩:=hx
 exact⟨fn,b,e,σ,vs,h1,h2,h3,h.ex _ _ _ _ _ h4,h5⟩
def oq{S S':Sems}(h:SemsLe S S'){l:Nat}{args:Tl}{H:Ts}{r:Value}{H':Ts}(hx:jK C S l args H r H'):jK C S' l args H r H':=by
 obtain⟨lp,σ₁,lp₁,e,σ₂,lp₂,j,h1,h2,h3,h4,h5,h6,h7⟩:=hx
 exact⟨lp,σ₁,lp₁,e,σ₂,lp₂,j,h1,h2,h.ex _ _ _ _ _ h3,h4,h5,h.ex _ _ _ _ _ h6,h7⟩
class Kno where
 kn:TM->Tl->Value->Prop
 kh:TM->Tl->Ts->Value->Ts->Prop
variable [Kno]
def noK:Known:=λf args H r H'=>(Kno.kn f args r/\H'=H)∨Kno.kh f args H r H'
def sm(C:Cfg)(n:Nat):Sems:=sems C noK n
def sm_succ:∀n,SemsLe (sm C n) (sm C (n+1))
 |0=>⟨λ_ _ _ _ _ h=>.inl h,λ_ _ _ _ _ h=>h.elim,λ_ _ _ _ _ h=>h.elim⟩
 |n+1=>by
  have ih:=sm_succ n
  exact⟨λ_ _ _ _ _ h=>h.imp id (qg ih),λ_ _ _ _ _ h=>oq (C:=C) ih h,λ_ _ _ _ _ h=>uh ih h⟩
def lC{n:Nat}:∀ {m:Nat},n<=m->SemsLe (sm C n) (sm C m)
 |0,h=>by
  obtain rfl:n=0:=Nat.le_zero.1 h
  exact⟨λ_ _ _ _ _ h=>h,λ_ _ _ _ _ h=>h,λ_ _ _ _ _ h=>h⟩
 |m+1,h=>by
  by_cases hm:n=m+1
  ·subst hm;exact⟨λ_ _ _ _ _ h=>h,λ_ _ _ _ _ h=>h,λ_ _ _ _ _ h=>h⟩
  ·have ih:=lC (n:=n) (m:=m) (by omega)
   have hs:=sm_succ (C:=C) m
   exact⟨λ_ _ _ _ _ h=>hs.call _ _ _ _ _ (ih.call _ _ _ _ _ h),λ_ _ _ _ _ h=>hs.yield _ _ _ _ _ (ih.yield _ _ _ _ _ h),λ_ _ _ _ _ h=>hs.ex _ _ _ _ _ (ih.ex _ _ _ _ _ h)⟩
def ip(C:Cfg)(f:TM)(args:Tl)(H:Ts)(r:Value)(H':Ts):Prop:=∃n,(sm C n).call f args H r H'
def jH(C:Cfg)(l:Nat)(args:Tl)(H:Ts)(r:Value)(H':Ts):Prop:=∃n,(sm C n).yield l args H r H'
def uEx(C:Cfg)(fid:TA)(c:Code)(σ:St)(e:Exit)(σ':St):Prop:=∃n,(sm C n).ex fid c σ e σ'
def uB(C:Cfg):Below:={ call:=ip C,yield:=jH C }
theorem uCall_ok(hm:C.P.follows .mixedOrders=true)(hkn:∀f args r,Kno.kn f args r->∀H,cO C f args H r H)(hkh:∀f args H r H',Kno.kh f args H r H'->cO C f args H r H'){f:TM}{args:Tl}{H:Ts}{r:Value}{H':Ts}(h:ip C f args H r H'):cO C f args H r H':=by
 obtain⟨n,h⟩:=h
 exact(sems_ok hm (K:=noK) (λf args H r H' h=>by
  rcases h with⟨h1,rfl⟩|h
  ·exact hkn f args r h1 _
  ·exact hkh f args H r H' h) n).1.call _ _ _ _ _ h
def effRel_at{e:Eff}{dst:Tn}{σ σ':St}(h:jd (uB C) e dst σ σ'):∃n,jd (sm C n).toBelow e dst σ σ':=by
 cases e<;>first
  |exact⟨0,h⟩
  |(obtain⟨r,H,⟨n,h1⟩,h2⟩:=h;exact⟨n,r,H,h1,h2⟩)
def pM{pts:TA}{ops:Tm}{i:Nat}{σ σ':St}(h:ai C (uB C) pts ops i σ σ'):∃n,ai C (sm C n).toBelow pts ops i σ σ':=by
 unfold ai at h
 split at h
 next ho=>exact⟨0,by unfold ai;rw[ho];exact h⟩
 next o ho=>
  split at h
  ·exact h.elim
  next hw=>exact⟨0,by unfold ai;simp only[ho,hw];exact h⟩
  next hw=>
   rcases h with⟨e,h1,h2⟩|h
   ·obtain⟨n,h2⟩:=effRel_at h2
    exact⟨n,by unfold ai;simp only[ho,hw];exact .inl ⟨e,h1,h2⟩⟩
   ·exact⟨0,by unfold ai;simp only[ho,hw];exact .inr h⟩
def gM{pts:TA}{ops:Tm}:∀ {l:TA} {σ σ':St},bn C (uB C) pts ops l σ σ'->∃n,bn C (sm C n).toBelow pts ops l σ σ'
 | [],_,_,h=>⟨0,h⟩
 |_ :: _,_,_,⟨σ₁,h1,h2⟩=>by
  obtain⟨n,h1⟩:=pM h1
  obtain⟨m,h2⟩:=gM h2
  have hn:=lC (C:=C) (qcK n m)
  have hm:=lC (C:=C) (qcV n m)
  exact⟨max n m,σ₁,dQ hn.call hn.yield h1,eI hm.call hm.yield h2⟩
def fc.refl(σ:St):fc σ σ:=⟨rfl,rfl,rfl,λi x y hx hy=>by rw[hx]at hy;exact .inl (qae hy).symm⟩
def pf{B:Below}{pts:TA}{ops:Tm}:∀ {l:TA} {σ σ':St},bn C B pts ops l σ σ'->eH C B pts ops l σ σ'
 | [],_,_,h=>h
 |_ :: _,σ,_,⟨σ₁,h1,h2⟩=>⟨σ,σ₁,.refl σ,h1,pf h2⟩
section rules
variable {fid:TA} {σ σ₁ σ':St} {e e₁:Exit} {a b:Code}
def uEx.skip:uEx C fid .skip σ .normal σ:=⟨1,rfl,rfl⟩
def uEx.label{l:Nat}:uEx C fid (.label l) σ .normal σ:=⟨1,rfl,rfl⟩
def uEx.ret:uEx C fid .ret σ .ret σ:=⟨1,rfl,rfl⟩
def uEx.exit{id:Nat}:uEx C fid (.exit id) σ (.exit id) σ:=⟨1,rfl,rfl⟩
def uEx.seq(h1:uEx C fid a σ .normal σ₁)(h2:uEx C fid b σ₁ e σ'):uEx C fid (.seq a b) σ e σ':=by
 obtain⟨n,h1⟩:=h1
 obtain⟨m,h2⟩:=h2
 exact⟨max n m+1,.normal,σ₁,(lC (qcK n m)).ex _ _ _ _ _ h1,.inl ⟨rfl,(lC (qcV n m)).ex _ _ _ _ _ h2⟩⟩
def uEx.seqX(h1:uEx C fid a σ e σ')(he:e≠.normal):uEx C fid (.seq a b) σ e σ':=by
 obtain⟨n,h1⟩:=h1
 exact⟨n+1,e,σ',h1,.inr ⟨he,rfl,rfl⟩⟩
def uEx.cond{c:TF}{t:Bool}(hc:oval σ.tmps c = .bool t)(h:uEx C fid (if t then a else b) σ e σ'):uEx C fid (.cond c a b) σ e σ':=by
 obtain⟨n,h⟩:=h
 exact⟨n+1,t,hc,h⟩
def uEx.block{id:Nat}(h:uEx C fid b σ e σ'):uEx C fid (.block id b) σ (iI id e) σ':=by
 obtain⟨n,h⟩:=h
 exact⟨n+1,e,h,rfl⟩
def uEx.loop(h1:uEx C fid b (σ.clear (aP fid b)) .normal σ₁)(h2:uEx C fid (.loop b) σ₁ e σ'):uEx C fid (.loop b) σ e σ':=by
 obtain⟨n,h1⟩:=h1
 obtain⟨m,h2⟩:=h2
 exact⟨max n m+1,.normal,σ₁,(lC (qcK n m)).ex _ _ _ _ _ h1,.inl ⟨rfl,(lC (qcV n m)).ex _ _ _ _ _ h2⟩⟩
def uEx.loopX(h1:uEx C fid b (σ.clear (aP fid b)) e σ')(he:e≠.normal):uEx C fid (.loop b) σ e σ':=by
 obtain⟨n,h1⟩:=h1
 exact⟨n+1,e,σ',h1,.inr ⟨he,rfl,rfl⟩⟩
def uEx.scope(h:uEx C fid b σ e σ'):uEx C fid (.scope b) σ e σ':=by
 obtain⟨n,h⟩:=h
 exact⟨n+1,h⟩
def uEx.region{id:Nat}{ops:Tm}(h:bn C (uB C) fid ops (List.range ops.size) σ σ'):uEx C fid (.region id ops false) σ .normal σ':=by
 obtain⟨n,h⟩:=gM h
 exact⟨n+1,rfl,pf h⟩
def uEx.draw{id:Nat}{ops:Tm}(hall:∀n,bn C (sm C n).toBelow fid ops (List.range ops.size) σ σ'->eQ C (sm C n).toBelow fid ops σ σ')
  (h:bn C (uB C) fid ops (List.range ops.size) σ σ'):uEx C fid (.region id ops true) σ .normal σ':=by
 obtain⟨n,h⟩:=gM h
 exact⟨n+1,rfl,σ,.refl σ,hall n h⟩
def uEx.drawS{σ₂:St}{id:Nat}{ops:Tm}{l₁ l₂:TA}{k:Nat}(hall:∀n,bn C (sm C n).toBelow fid ops l₁ σ σ₁->ai C (sm C n).toBelow fid ops k σ₁ σ₂->bn C (sm C n).toBelow fid ops l₂ σ₁ σ'->eQ C (sm C n).toBelow fid ops σ σ')
  (h1:bn C (uB C) fid ops l₁ σ σ₁) (h2:ai C (uB C) fid ops k σ₁ σ₂) (h3:bn C (uB C) fid ops l₂ σ₁ σ'):uEx C fid (.region id ops true) σ .normal σ':=by
 obtain⟨n,h1⟩:=gM h1
 obtain⟨m,h2⟩:=pM h2
 obtain⟨l,h3⟩:=gM h3
 have q1:=lC (C:=C) (show n<=max n (max m l)by omega)
 have q2:=lC (C:=C) (show m<=max n (max m l)by omega)
 have q3:=lC (C:=C) (show l<=max n (max m l)by omega)
 exact⟨max n (max m l)+1,rfl,σ,.refl σ,hall _ (eI q1.call q1.yield h1) (dQ q2.call q2.yield h2) (eI q3.call q3.yield h3)⟩
def uEx.rangeFunc{f:TF}{params:Array Tmp}{assign body:Code}{g:TM}{first cap:Tj}{φ:TM}{tm:Tl}{r:Value}{H:Ts}{r₂:ALoop}
  (h0:fid≠[]) (h1:uY σ.tmps tm) (h2:oval σ.tmps f = .func (.func g) first cap) (h3:noLoc (.func (.func g) first cap)=true)
  (h4:ip C g (first.toList++[.func (.yield σ.heap.length) #[] #[]]++cap.toList)
    (σ.heap++[.loop { state:=.ready,pending:=none,fn:=φ,tmps:=tm,params:=params.toList,assign,body }]) r H)
  (h5:ed H σ.heap.length=some r₂) (h6:r₂.state≠.busy) (h7:vq r₂.pending=some e) :
  uEx C fid (.rangeFunc f params assign body) σ e { σ with heap:=H.set σ.heap.length (.loop { r₂ with state:=.exhausted }) }:=by
 obtain⟨n,h4⟩:=h4
 exact⟨n+1,h0,g,first,cap,φ,tm,r,H,r₂,h1,h2,h3,h4,h5,h6,h7,rfl⟩
def ip.intro{f:TM}{args:Tl}{H:Ts}{fn:Func}{c:Code}{vs:Tl}
  (h1:C.P.funcs[f]?=some fn) (h2:fn.body=some c) (h3:((fn.name == "runtime.NumGoroutine")||C.opq f)=false)
  (h4:uEx C (C.pts f) c (kU fn args H) e σ) (h5:e = .normal∨e = .ret) (h6:cR C σ fn.results.toList=some vs) (h7:noLoc (fq vs)=true) :
  ip C f args H (fq vs) σ.heap:=by
 obtain⟨n,h4⟩:=h4
 exact⟨n+1,.inr ⟨fn,c,e,σ,vs,h1,h2,h3,h4,h5,h6,rfl,h7,rfl⟩⟩
def jH.intro{l:Nat}{args:Tl}{H:Ts}{lp lp₁ lp₂:ALoop}{σ₂:St}{j:Tk}
  (h1:ed H l=some lp) (h2:args.length=lp.params.length)
  (h3:uEx C [] lp.assign { tmps:=cJ lp.params args lp.tmps,loc:=[],heap:=H } .normal σ₁)
  (h4:ed σ₁.heap l=some lp₁) (h5:lp₁.state = .ready)
  (h6:uEx C [] lp.body { σ₁ with heap:=σ₁.heap.set l (.loop { lp₁ with state:=.busy }) } e σ₂) (h7:jumpOf e=some j) (h8:ed σ₂.heap l=some lp₂) :
  jH C l args H (.bool j.isNone) (σ₂.heap.set l (.loop { lp₂ with state:=if j.isNone then .ready else .done,pending:=j })):=by
 obtain⟨n,h3⟩:=h3
 obtain⟨m,h6⟩:=h6
 exact⟨max n m+1,lp,σ₁,lp₁,e,σ₂,lp₂,j,h1,h2,(lC (qcK n m)).ex _ _ _ _ _ h3,h4,h5,(lC (qcV n m)).ex _ _ _ _ _ h6,h7,h8,rfl,rfl⟩
end rules
end
inductive Lf where
 |i (n:Int)
 |b (t:Bool)
 |v (x:Value)
inductive LK where
 |i (k:TH)
 |b
 |v
abbrev _root_.TG:=List LK
inductive SK where
 |leaf (k:LK)
 |agg (ks:TG)
inductive SL where
 |i (k:TH) (n:Int)
 |b (t:Bool)
 |l (t:Bool)
 |v (x:Value)
inductive S0 where
 |leaf (l:SL)
 |agg (cs:List SL)
inductive SV where
 |st (x:S0)
 |tup (xs:List S0)
 |lad (s off:Nat)
 |ldx (s base:Nat) (ix:List (Int×Nat))
 |gad (g off:Nat)
 |gdx (g base:Nat) (ix:List (Int×Nat))
 |un
 |no
inductive LR where
 |unk
 |nil
 |any (n:Nat)
 |row (cs:List SL)
structure Env where
 tm:List SV
 lc:List LR
def SL.val:SL->Value
 | .i k n=>.int k n
 | .b t=>.bool t
 | .l t=>.bool t
 | .v x=>x
def SL.lf:SL->Lf
 | .i _ n=>.i n
 | .b t=>.b t
 | .l t=>.b t
 | .v x=>.v x
def S0.val:S0->Value
 | .leaf l=>l.val
 | .agg cs=>.agg ⟨cs.map SL.val⟩
def S0.cells:S0->List SL
 | .leaf l=>[l]
 | .agg cs=>cs
def offX(base:Nat):List (Int×Nat)->Nat
 | []=>base
 |p :: l=>offX (base+p.1.toNat*p.2) l
def SV.val:SV->Value
 | .st x=>x.val
 | .tup xs=>.tuple ⟨xs.map S0.val⟩
 | .lad s off=>.pointer (some ⟨s,off,some 0⟩)
 | .ldx s base ix=>.pointer (some ⟨s,offX base ix,some 0⟩)
 | .gad g off=>.pointer (some ⟨g,off,some 1⟩)
 | .gdx g base ix=>.pointer (some ⟨g,offX base ix,some 1⟩)
 | .un=>undef
 | .no=>undef
def aW(x:Value):Bool:=noLoc x&&bj x&&aS x && !aJ x
def chk2(x:Value):Option Unit:=if bB x then some ()else none
def slOf:Value->SL
 | .int k n=>.i k n
 | .bool t=>.l t
 |v=>.v v
def s0Of:Value->Option S0
 | .agg cs=>match cs.toList.all scalar with
  |true=>some (.agg (cs.toList.map slOf))
  |false=>none
 |v=>match scalar v with
  |true=>some (.leaf (slOf v))
  |false=>none
def kNo(k:TH):Nat:=@IntKind.rec (λ_=>Nat) 0 1 2 3 4 5 6 7 k
def dy(a b:TH):Bool:=Nat.beq (kNo a) (kNo b)
def SL.is:SL->LK->Bool
 | .i k _,.i k'=>dy k k'
 | .b _,.b=>true
 | .l _,.b=>true
 | .v _,.v=>true
 |_,_=>false
def aT:List SL->TG->Bool
 | [],[]=>true
 |c :: cs,k :: ks=>c.is k&&aT cs ks
 |_,_=>false
def S0.is:S0->SK->Bool
 | .leaf l,.leaf k=>l.is k
 | .agg cs,.agg ks=>aT cs ks
 |_,_=>false
def SL.lk:SL->LK
 | .i k _=>.i k
 | .b _=>.b
 | .l _=>.b
 | .v _=>.v
structure Live where
 tm:List (Nat×SK)
 rows:List (Nat×List LK)
abbrev _root_.TI:=List SK
inductive AC where
 |skip
 |ret
 |exit (id:Nat)
 |label (l:Nat)
 |seq (a b:AC)
 |scope (b:AC)
 |region (id:Nat) (ops:Tm) (draw:Bool) (hs:List (TI)) (j:Option Live)
 |cond (c:TF) (a b:AC) (j:Option Live)
 |block (id:Nat) (b:AC) (j:Option Live)
 |loop (b:AC) (l:Live)
 |rangeFunc (f:TF) (κ:Nat) (ids:TA)
structure Site where
 nt:Nat
 caps:List (Nat×SK)
 params:List (Nat×SK)
 assign:AC
 body:AC
def AC.erase(T:Nat->Tmp->Code):AC->Code
 | .skip=>.skip
 | .ret=>.ret
 | .exit id=>.exit id
 | .label l=>.label l
 | .seq a b=>.seq (a.erase T) (b.erase T)
 | .scope b=>.scope (b.erase T)
 | .region id ops draw _ _=>.region id ops draw
 | .cond c a b _=>.cond c (a.erase T) (b.erase T)
 | .block id b _=>.block id (b.erase T)
 | .loop b _=>.loop (b.erase T)
 | .rangeFunc f κ _=>match f with
  | .tmp t=>T κ t
  |_=> .refuse ""
def oZ:Nat->Tmp->Code:=λ_ _=> .refuse ""
def eY(s:Site)(t:Tmp):Code:=.rangeFunc (.tmp t) (s.params.map (·.1)).toArray (s.assign.erase oZ) (s.body.erase oZ)
def wrT:Code->List Nat
 | .region _ ops _=>ops.toList.filterMap (·.dst)
 | .seq a b=>wrT a++wrT b
 | .cond _ a b=>wrT a++wrT b
 | .block _ b=>wrT b
 | .loop b=>wrT b
 | .scope b=>wrT b
 |_=>[]
def iP(pts:TA)(o:Oper):Tp:=
 match o.op with
 | .box .. | .alloc _=>match o.dst with
  |some d=>if pts.getD d 0=d+2 then some d else none
  |none=>none
 | .store _ a _=>match lz pts a with
  |s+2=>some s
  |_=>none
 |_=>none
def wrR(pts:TA):Code->List Nat
 | .region _ ops _=>ops.toList.filterMap (iP pts)
 | .seq a b=>wrR pts a++wrR pts b
 | .cond _ a b=>wrR pts a++wrR pts b
 | .block _ b=>wrR pts b
 | .loop b=>wrR pts b
 | .scope b=>wrR pts b
 | .rangeFunc _ _ a b=>wrR pts a++wrR pts b
 |_=>[]
section
variable {R:Type}
def fN(n:Nat)(k:Nat->R):R:=Nat.rec (motive:=λ_=>R) (k n) (λm _=>k m) (Nat.succ n)
def fI(n:Int)(k:Int->R):R:=Int.rec (motive:=λ_=>R) (λm=>fN m λm=>k (.ofNat m)) (λm=>fN m λm=>k (.negSucc m)) n
def dq(n:Nat)(k:Nat->R):fN n k=k n:=rfl
def jf(n:Int)(k:Int->R):fI n k=k n:=by cases n<;>rfl
end
def leZ(a b:Int):Bool:=Int.rec (λm=>Int.rec (λn=>Nat.ble m n) (λ_=>false) b) (λm=>Int.rec (λ_=>true) (λn=>Nat.ble n m) b) a
def leZ_iff{a b:Int}:leZ a b=true↔a<=b:=by
 cases a<;>cases b<;>simp only[leZ,qbR,qam,false_iff,true_iff,qaV]<;>omega
def cutL{α:Type}(l:List α):Nat->Nat->Option (List α):=
 List.rec (motive:=λ_=>Nat->Nat->Option (List α))
  (λoff n=>Nat.rec (Nat.rec (some []) (λ_ _=>none) n) (λ_ _=>none) off)
  (λa _ ih off n=>Nat.rec (Nat.rec (some []) (λm _=>Option.rec none (λl=>some (a :: l)) (ih 0 m)) n) (λo _=>ih o n) off) l
def mw{α:Type}:∀(l:List α) (off n:Nat),cutL l off n=if off+n<=l.length then some ((l.drop off).take n)else none
 | [],0,0=>rfl
 | [],0,n+1=>by rw[qdz (by simp)];rfl
 | [],o+1,n=>by rw[qdz (by simp)];rfl
 |a :: l,0,0=>by rw[qdy (by simp)];rfl
 |a :: l,0,n+1=>by
  show(Option.rec none (λl=>some (a :: l)) (cutL l 0 n):Option (List α))=_
  rw[mw l 0 n]
  by_cases h:0+n<=l.length
  ·rw[qdy h,qdy (by simp at h ⊢;omega)];rfl
  ·rw[qdz h,qdz (by simp at h ⊢;omega)]
 |a :: l,o+1,n=>by
  show cutL l o n=_
  rw[mw l o n]
  by_cases h:o+n<=l.length
  ·rw[qdy h,qdy (by simp at h ⊢;omega)];rfl
  ·rw[qdz h,qdz (by simp at h ⊢;omega)]
def splL{α:Type}(l:List α):Nat->List α->Option (List α):=
 List.rec (motive:=λ_=>Nat->List α->Option (List α))
  (λoff new=>Nat.rec (List.rec (some []) (λ_ _ _=>none) new) (λ_ _=>none) off)
  (λa t ih off new=>Nat.rec (List.rec (some (a :: t)) (λb bs _=>Option.rec none (λl=>some (b :: l)) (ih 0 bs)) new) (λo _=>Option.rec none (λl=>some (a :: l)) (ih o new)) off) l
def uO{α:Type}:∀(l:List α) (off:Nat) (new:List α),splL l off new=if off+new.length<=l.length then some (l.take off++new++l.drop (off+new.length))else none
 | [],0,[]=>rfl
 | [],0,b :: bs=>by rw[qdz (by simp)];rfl
 | [],o+1,new=>by rw[qdz (by simp)];rfl
 |a :: l,0,[]=>by rw[qdy (by simp)];rfl
 |a :: l,0,b :: bs=>by
  show(Option.rec none (λl=>some (b :: l)) (splL l 0 bs):Option (List α))=_
  rw[uO l 0 bs]
  by_cases h:0+bs.length<=l.length
  ·rw[qdy h,qdy (by simp at h ⊢;omega)];simp
  ·rw[qdz h,qdz (by simp at h ⊢;omega)]
 |a :: l,o+1,new=>by
  show(Option.rec none (λl=>some (a :: l)) (splL l o new):Option (List α))=_
  rw[uO l o new]
  by_cases h:o+new.length<=l.length
  ·rw[qdy h,qdy (by simp at h ⊢;omega)];simp[Nat.add_right_comm]
  ·rw[qdz h,qdz (by simp at h ⊢;omega)]
abbrev bV:=Nat->Option HObj
inductive Act1 where
 |set (i:Nat) (o:HObj)
 |push (o:HObj)
def Act1.on(H:Ts):Act1->List HObj
 | .set i o=>H.set i o
 | .push o=>H++[o]
def fY(H:Ts)(l:List Act1):Ts:=l.foldl Act1.on H
def gp(g:bV)(id:Nat):Option (Tl):=
 match g id with
 |some (.cells vs _ _)=>some vs
 |_=>none
def ldP(n:Nat)(p:Value)(g:bV):Option (Tl):=
 match p with
 | .pointer (some a)=>match a.spot with
  |none=>(gp g a.block).bind λvs=>cut vs a.off n
  |some _=>none
 |_=>none
def lgP(C:Cfg)(n:Nat)(p:Value)(g:bV):Option (Tl):=
 match p with
 | .pointer (some a)=>match a.spot with
  |none=>(gp g a.block).bind λvs=>cut vs a.off n
  |some k=>match Nat.beq k 1 with
   |true=>(C.G a.block).bind λvs=>cut vs a.off n
   |false=>none
 |_=>none
def stP(p:Value)(new:Tl)(g:bV)(_:Nat):Option (List Act1×List Value):=
 match p with
 | .pointer (some a)=>match a.spot with
  |none=>match g a.block with
   |some (.cells vs e true)=>(splice vs a.off new).map λvs'=>([.set a.block (.cells vs' e true)],[])
   |_=>none
  |some _=>none
 |_=>none
def slG(C:Cfg)(esz:Nat)(g:bV):Value->Option (List Value×Nat)
 | .slice none 0 0=>some ([],0)
 | .slice (some a) len _=>
  if a.spot=some 1 then((C.G a.block).bind λvs=>cut vs a.off (len*esz)).map λx=>(x,len)
  else if a.spot=tag esz then
   match g a.block with
   |some (.cells vs e _)=>if e=esz then(cut vs a.off (len*esz)).map λx=>(x,len)else none
   |_=>none
  else none
 | .string s=>if esz=1 then some (s.data.toList.map λb=>.int .u8 b.toNat,s.size)else none
 |_=>none
def apG(C:Cfg)(esz bytes:Nat)(s x:Value)(g:bV)(n0:Nat):Option (List Act1×List Value):=
 match slG C esz g x with
 |none=>none
 |some (new,n)=>
  match s with
  | .slice none 0 0=>
   if n=0 then some ([],[.slice none 0 0])
   else if bO n bytes then some ([.push (.cells new esz true)],[.slice (some ⟨n0,0,tag esz⟩) n 0])else none
  | .slice (some a) len cx=>
   if a.spot≠tag esz then none else
   match g a.block with
   |some (.cells vs e rw)=>
    if e≠esz then none else
    match cut vs a.off (len*esz)with
    |none=>none
    |some old=>
     match cx with
     |0=>
      if n=0 then some ([],[.slice (some a) len 0])
      else if rw&&bO (len+n) bytes then
       some ([.set a.block .dead,.push (.cells (old++new) esz true)],[.slice (some ⟨n0,0,tag esz⟩) (len+n) 0])
      else none
     |cap+1=>
      if len+n<=cap then
       if rw then(splice vs (a.off+len*esz) new).map λvs'=>([.set a.block (.cells vs' e true)],[.slice (some a) (len+n) (cap+1)])
       else if n=0 then some ([],[.slice (some a) len (cap+1)])else none
      else if bO (len+n) bytes then
       some ([.push (.cells (old++new) esz true)],[.slice (some ⟨n0,0,tag esz⟩) (len+n) 0])
      else none
   |_=>none
  |_=>none
def cpG(C:Cfg)(esz:Nat)(d x:Value)(g:bV)(_:Nat):Option (List Act1×List Value):=
 match d with
 | .slice none 0 0=>(slG C esz g x).map λ_=>([],[.int .i64 0])
 | .slice (some a) dlen _=>
  if a.spot≠tag esz then none else
  match slG C esz g x,g a.block with
  |some (new,n),some (.cells vs e true)=>
   if e≠esz then none else
   (splice vs a.off (new.take (Nat.min n dlen*esz))).map λvs'=>([.set a.block (.cells vs' e true)],[.int .i64 (Nat.min n dlen)])
  |_,_=>none
 |_=>none
def clG(esz:Nat)(z:Tl)(x:Value)(g:bV)(_:Nat):Option (List Act1×List Value):=
 match x with
 | .slice none 0 0=>some ([],[])
 | .slice (some a) n _=>
  if a.spot≠tag esz then none else
  match g a.block with
  |some (.cells vs e true)=>
   if e≠esz then none else
   (splice vs a.off (bm z n)).map λvs'=>([.set a.block (.cells vs' e true)],[])
  |_=>none
 |_=>none
def slS(esz:Nat)(x:Value)(lo hi mx:Tq):Ti:=
 match x with
 | .slice (some a) len cx=>
  if a.spot≠some 1/\a.spot≠tag esz then none else
  if 0<=lo.getD 0/\lo.getD 0<=hi.getD len/\bP len cx hi mx then
   fN (a.off+(lo.getD 0).toNat*esz) λo=>fN ((hi.getD len).toNat - (lo.getD 0).toNat) λn=>fN (bD cx (lo.getD 0).toNat mx) λc=>
   some (.slice (some { a with off:=o }) n c)
  else none
 | .slice none 0 0=>if lo.getD 0=0/\hi.getD 0=0/\mx.getD 0=0/\(mx.isNone∨hi.isSome)then some (.slice none 0 0)else none
 |_=>none
def spotF(s:Tp):Tp:=match s with
 |none=>none
 |some k=>match Nat.beq k 1 with
  |true=>some 1
  |false=>none
def idS(esz:Nat)(x:Value)(i:Int):Ti:=
 match x with
 | .slice (some a) len _=>Int.rec (λj=>match Nat.blt j len with
  |true=>fN (Nat.add a.off (Nat.mul j esz)) λo=>some (.pointer (some ⟨a.block,o,spotF a.spot⟩))
  |false=>none) (λ_=>none) i
 |_=>none
def spotF_eq(s:Tp):spotF s=if s=some 1 then some 1 else none:=by
 unfold spotF
 cases s with
 |none=>rfl
 |some k=>
  cases e:Nat.beq k 1 with
  |true=>rw[qad e];rfl
  |false=>
   rw[qdz (λh=>by cases h;cases e)]
   simp only[e]
def sL(esz:Nat)(x:Value)(i:Int):idS esz x i=match (motive:=Value->Ti) x with
 | .slice (some a) len _=>
  if 0<=i/\i<(len:Int)then some (.pointer (some ⟨a.block,a.off+i.toNat*esz,if a.spot=some 1 then some 1 else none⟩))else none
 |_=>none:=by
 unfold idS
 split
 next a len _=>
  cases i with
  |ofNat j=>
   simp only[dq,spotF_eq]
   cases e:Nat.blt j len with
   |true=>
    rw[qbc]at e
    have hh:0<=Int.ofNat j/\Int.ofNat j<(len:Int):=⟨qav j,by show(j:Int)<len;omega⟩
    rw[qdy hh];rfl
   |false=>
    have:¬j<len:=λh=>by rw[←qbc,e]at h;cases h
    have hh:¬(0<=Int.ofNat j/\Int.ofNat j<(len:Int)):=λh=>this (by have h2:(j:Int)<len:=h.2;omega)
    rw[qdz hh]
  |negSucc j=>
   have hh:¬(0<=Int.negSucc j/\Int.negSucc j<(len:Int)):=λh=>by have:=h.1;omega
   rw[qdz hh]
 ·rfl
def idP(len esz:Nat)(x:Value)(i:Int):Ti:=
 match x with
 | .pointer (some a)=>if 0<=i/\i<(len:Int)then some (.pointer (some { a with off:=a.off+i.toNat*esz }))else none
 |_=>none
def fdP(off:Nat)(x:Value):Ti:=
 match x with
 | .pointer (some a)=>some (.pointer (some { a with off:=a.off+off }))
 |_=>none
def nilP(x:Value):Ti:=
 match x with
 | .pointer (some a)=>some (.pointer (some a))
 | .func (.func f) a b=>some (.func (.func f) a b)
 | .func (.yield f) a b=>some (.func (.yield f) a b)
 |_=>none
def slAG(n esz:Nat)(p:Value)(lo hi mx:Tq)(g:bV):Option (Tl):=
 match p with
 | .pointer (some a)=>match a.spot with
  |none=>match ez n (lo.map (.int .i64)) (hi.map (.int .i64)) (mx.map (.int .i64)),g a.block with
   |some (l,h,m),some (.cells vs e _)=>match Nat.beq e esz&&Nat.ble (a.off+n*esz) vs.length with
    |true=>fN (a.off+l*esz) λo=>fN (h - l) λq=>fN (m - l+1) λc=>some [.slice (some ⟨a.block,o,tag esz⟩) q c]
    |false=>none
   |_,_=>none
  |some _=>none
 |_=>none
def eqBs(a:List UInt8):List UInt8->Bool:=
 List.rec (motive:=λ_=>List UInt8->Bool) (λb=>List.rec true (λ_ _ _=>false) b)
  (λx _ ih b=>List.rec false (λy t _=>Bool.rec false (ih t) (Nat.beq x.toNat y.toNat)) b) a
def vn:∀(a b:List UInt8),eqBs a b=true↔a=b
 | [],[]=>⟨λ_=>rfl,λ_=>rfl⟩
 | [],_ :: _=>⟨λh=>(by cases h),λh=>(by cases h)⟩
 |_ :: _,[]=>⟨λh=>(by cases h),λh=>(by cases h)⟩
 |x :: a,y :: b=>by
  show(Bool.rec false (eqBs a b) (Nat.beq x.toNat y.toNat):Bool)=true↔_
  cases e:Nat.beq x.toNat y.toNat with
  |true=>
   have:x=y:=UInt8.toNat_inj.1 (qad e)
   show eqBs a b=true↔_
   rw[vn a b,this];simp
  |false=>
   constructor
   ·intro h;cases h
   ·intro h
    cases h
    rw[show Nat.beq x.toNat x.toNat=true from qcu _]at e
    cases e
def strEq(x y:Value):Option Bool:=match x with
 | .string a=>match y with
  | .string b=>some (eqBs a.data.toList b.data.toList)
  |_=>none
 |_=>none
def lenS:Value->Option Int
 | .slice _ n _=>some n
 |_=>none
def strAt(s:ByteArray)(j:Int):Tq:=match j with
 | .ofNat n=>(s.data.toList[n]?).map λb=>Int.ofNat b.toNat
 |_=>none
def strAt_ok{s:ByteArray}{j b:Int}(h:strAt s j=some b):0<=j/\(s[j.toNat]?).map (λb=>Value.int .u8 b.toNat)=some (.int .u8 b):=by
 unfold strAt at h
 split at h
 next n=>
  obtain⟨x,h1,rfl⟩:=qac.1 h
  refine⟨qav n,?_⟩
  have:s[n]?=some x:=by
   rw[qcR]at h1
   obtain⟨hlt,h2⟩:=qat.1 h1
   have hs:n<s.size:=hlt
   rw[getElem?_pos s n hs]
   exact congrArg some h2
  show(s[n]?).map _=_
  rw[this]
  rfl
 ·cases h
def capS:Value->Option Int
 | .slice (some _) _ (n+1)=>some n
 | .slice none 0 0=>some 0
 |_=>none
def lenM(m:Value)(g:bV):Option (Tl):=
 match m with
 | .map (some id)=>match g id with
  |some (.map es _)=>some [.int .i64 es.length]
  |_=>none
 |_=>none
def inB(len:Nat)(i:Int):Option Unit:=Int.rec (λj=>match Nat.blt j len with
 |true=>some ()
 |false=>none) (λ_=>none) i
def inB_eq(len:Nat)(i:Int):inB len i=if 0<=i/\i<(len:Int)then some ()else none:=by
 unfold inB
 cases i with
 |ofNat j=>
  simp only
  cases e:Nat.blt j len with
  |true=>rw[qbc]at e;rw[qdy ⟨qav j,by show(j:Int)<len;omega⟩]
  |false=>
   have:¬j<len:=λh=>by rw[←qbc,e]at h;cases h
   rw[qdz (λh=>this (by have h2:(j:Int)<len:=h.2;omega))]
 |negSucc j=>rw[qdz (λh=>by have:=h.1;omega)]
def mkOk(l c:Int):Option Unit:=if 0<=l/\l<=c/\c<=1048576 then some ()else none
abbrev _root_.TD:=List Lf
def rj(cs:TD)(base:Nat)(ix:List (Int×Nat))(n:Nat):Option (TD):=cutL cs (offX base ix) n
def pickL_eq(cs:TD)(base:Nat)(ix:List (Int×Nat))(n:Nat):rj cs base ix n=if offX base ix+n<=cs.length then some ((cs.drop (offX base ix)).take n)else none:=mw _ _ _
def putL(cs:TD)(base:Nat)(ix:List (Int×Nat))(new:TD):Option (TD):=splL cs (offX base ix) new
def putL_eq(cs:TD)(base:Nat)(ix:List (Int×Nat))(new:TD):putL cs base ix new=if offX base ix+new.length<=cs.length then some (cs.take (offX base ix)++new++cs.drop (offX base ix+new.length))else none:=uO _ _ _
def cX(vs:Tl)(base:Nat)(ix:List (Int×Nat))(n:Nat):Option (Tl):=cutL vs (offX base ix) n
def pickV_eq(vs:Tl)(base:Nat)(ix:List (Int×Nat))(n:Nat):cX vs base ix n=cut vs (offX base ix) n:=mw _ _ _
def ldGv(C:Cfg)(n:Nat)(p:Value):Option (Tl):=
 match p with
 | .pointer (some a)=>if a.spot=some 1 then(C.G a.block).bind λvs=>cut vs a.off n else none
 |_=>none
inductive Pk where
 |ld (n:Nat) (p:Value)
 |lg (C:Cfg) (n:Nat) (p:Value)
 |fn (f:bV->Option (Tl))
def Pk.run:Pk->bV->Option (Tl)
 | .ld n p=>ldP n p
 | .lg C n p=>lgP C n p
 | .fn f=>f
inductive Hp where
 |st (p:Value) (new:Tl)
 |ap (C:Cfg) (esz bytes:Nat) (s x:Value)
 |fn (f:bV->Nat->Option (List Act1×List Value))
def Hp.run:Hp->bV->Nat->Option (List Act1×List Value)
 | .st p new=>stP p new
 | .ap C esz bytes s x=>apG C esz bytes s x
 | .fn f=>f
structure Alg(R HT:Type):Type 1 where
 fail:R
 cond:Bool->R->R->R
 ari:BinOp->TH->Int->Int->(Int->R)->R
 shf:BinOp->TH->Int->TH->Int->(Int->R)->R
 cmp:BinOp->Int->Int->(Bool->R)->R
 eqs:List (Lf×Lf)->(Bool->R)->R
 conv:TH->Int->(Int->R)->R
 sel:Bool->Int->Int->(Int->R)->R
 opt:{α:Type}->Option α->(α->R)->R
 chk:Value->R->R
 unI:TD->(Int->TD->R)->R
 unB:TD->(Bool->TD->R)->R
 unV:TD->(Value->TD->R)->R
 un0:TD->R->R
 ucI:TH->Tl->(Int->Tl->R)->R
 ucB:Tl->(Bool->Tl->R)->R
 ucV:Tl->(Value->Tl->R)->R
 uc0:Tl->R->R
 peek:Pk->HT->(Tl->R)->R
 heap:Hp->HT->(Tl->HT->R)->R
 new:HObj->HT->(Nat->HT->R)->R
 call:TM->TD->HT->(TD->HT->R)->R
 callv:Value->Tl->TI->HT->(TD->HT->R)->R
 join:(TD->HT->R)->((TD->HT->R)->R)->R
 loop:((TD->HT->R)->TD->HT->R)->TD->HT->R
 rfun:Nat->Value->Tl->HT->(Tk->HT->R)->R
 pend:Tk->R->R->List (Nat×R)->R
 lp1:Nat->HT->(HT->R)->R
 lp2:Nat->Tk->HT->(HT->R)->R
section
variable {R HT:Type} (A:Alg R HT)
def setK{α:Type}(x:α)(l:List α):Nat->(List α->R)->R:=
 List.rec (motive:=λ_=>Nat->(List α->R)->R) (λ_ k=>k [])
  (λa tl ih i k=>match i with
   |0=>k (x :: tl)
   |i+1=>ih i λl=>k (a :: l)) l
def unL(ks:TG):TD->(List SL->TD->R)->R:=
 List.rec (motive:=λ_=>TD->(List SL->TD->R)->R) (λls K=>K [] ls)
  (λk _ ih ls K=>match k with
   | .i k=>A.unI ls λn r=>ih r λsl r=>K (.i k n :: sl) r
   | .b=>A.unB ls λt r=>ih r λsl r=>K (.b t :: sl) r
   | .v=>A.unV ls λx r=>ih r λsl r=>K (.v x :: sl) r) ks
def unS(sk:SK)(ls:TD)(K:S0->TD->R):R:=
 match sk with
 | .leaf k=>match k with
  | .i k=>A.unI ls λn r=>K (.leaf (.i k n)) r
  | .b=>A.unB ls λt r=>K (.leaf (.b t)) r
  | .v=>A.unV ls λx r=>K (.leaf (.v x)) r
 | .agg ks=>unL A ks ls λsl r=>K (.agg sl) r
def unSs(sks:TI):TD->(List S0->TD->R)->R:=
 List.rec (motive:=λ_=>TD->(List S0->TD->R)->R) (λls K=>K [] ls)
  (λsk _ ih ls K=>unS A sk ls λx r=>ih r λxs r=>K (x :: xs) r) sks
def ucL(ks:TG):Tl->(List SL->Tl->R)->R:=
 List.rec (motive:=λ_=>Tl->(List SL->Tl->R)->R) (λcs K=>K [] cs)
  (λk _ ih cs K=>match k with
   | .i k=>A.ucI k cs λn r=>ih r λsl r=>K (.i k n :: sl) r
   | .b=>A.ucB cs λt r=>ih r λsl r=>K (.b t :: sl) r
   | .v=>A.ucV cs λx r=>A.chk x (ih r λsl r=>K (.v x :: sl) r)) ks
def ucS(sk:SK)(cs:Tl)(K:S0->Tl->R):R:=
 match sk with
 | .leaf k=>match k with
  | .i k=>A.ucI k cs λn r=>K (.leaf (.i k n)) r
  | .b=>A.ucB cs λt r=>K (.leaf (.b t)) r
  | .v=>A.ucV cs λx r=>A.chk x (K (.leaf (.v x)) r)
 | .agg ks=>ucL A ks cs λsl r=>K (.agg sl) r
def ucSs(sks:TI):Tl->(List S0->Tl->R)->R:=
 List.rec (motive:=λ_=>Tl->(List S0->Tl->R)->R) (λcs K=>K [] cs)
  (λsk _ ih cs K=>ucS A sk cs λx r=>ih r λxs r=>K (x :: xs) r) sks
def cg:List S0->List Lf
 | []=>[]
 |x :: l=>x.cells.map SL.lf++cg l
def ah(l:List S0):Tl:=l.map S0.val
def lK(l:List S0):Tl:=l.flatMap λx=>x.cells.map SL.val
def pkT(tm:List SV):List (Nat×SK)->Option (TD)
 | []=>some []
 |(t,sk) :: l=>match tm.getD t .no,pkT tm l with
  | .st x,some ls=>match x.is sk with
   |true=>some (x.cells.map SL.lf++ls)
   |false=>none
  |_,_=>none
def pkR(lc:List LR):List (Nat×List LK)->Option (TD)
 | []=>some []
 |(s,ks) :: l=>match lc.getD s .unk,pkR lc l with
  | .row cs,some ls=>match aT cs ks with
   |true=>some (cs.map SL.lf++ls)
   |false=>none
  |_,_=>none
def pk(ev:Env)(lv:Live):Option (TD):=
 match pkT ev.tm lv.tm,pkR ev.lc lv.rows with
 |some a,some b=>some (a++b)
 |_,_=>none
def SV.inRows(ks:TA):SV->Bool
 | .tup _=>true
 | .lad s _=>ks.contains s
 | .ldx s _ _=>ks.contains s
 |_=>false
def clrT(ws ks:TA)(l:List SV):Nat->(List SV->R)->R:=
 List.rec (motive:=λ_=>Nat->(List SV->R)->R) (λ_ K=>K [])
  (λx _ ih i K=>ih (i+1) λl=>match ws.contains i||x.inRows ks with
   |true=>K (.no :: l)
   |false=>K (x :: l)) l
def qF(n:Nat)(K:Nat->R):R:=Nat.casesOn n (K 0) λm=>K (Nat.succ m)
def clrR(ws ks:TA)(nw:LR)(l:List LR):Nat->(List LR->R)->R:=
 List.rec (motive:=λ_=>Nat->(List LR->R)->R) (λ_ K=>K [])
  (λx _ ih i K=>ih (i+1) λl=>match ks.contains i,ws.contains i with
   |true,_=>K (nw :: l)
   |false,true=>(match x with
    | .row cs=>qF cs.length λn=>K (.any n :: l)
    | .any n=>K (.any n :: l)
    |_=>K (.unk :: l))
   |false,false=>K (x :: l)) l
def upT(lv:List (Nat×SK)):List S0->List SV->(List SV->R)->R:=
 List.rec (motive:=λ_=>List S0->List SV->(List SV->R)->R) (λ_ tm K=>K tm)
  (λp _ ih xs tm K=>match xs with
   |x :: xs=>setK (.st x) tm p.1 λtm=>ih xs tm K
   | []=>A.fail) lv
def upR(lv:List (Nat×List LK)):TD->List LR->(List LR->TD->R)->R:=
 List.rec (motive:=λ_=>TD->List LR->(List LR->TD->R)->R) (λls lc K=>K lc ls)
  (λp _ ih ls lc K=>unL A p.2 ls λcs r=>setK (.row cs) lc p.1 λlc=>ih r lc K) lv
def reE(pts:TA)(c:Code)(nw:LR)(lv:Live)(ev:Env)(ls:TD)(K:Env->R):R:=
 clrT (wrT c) (aP pts c) ev.tm 0 λtm=>clrR (wrR pts c) (aP pts c) nw ev.lc 0 λlc=>
  unSs A (lv.tm.map (·.2)) ls λxs r=>upT A lv.tm xs tm λtm=>upR A lv.rows r lc λlc r=>A.un0 r (K ⟨tm,lc⟩)
abbrev KN(R HT:Type):=Env->HT->R
def sP(pts:TA)(c:Code)(j:Option Live)(ev:Env)(kn:KN R HT)(main:KN R HT->R):R:=
 match j with
 |none=>main kn
 |some lv=>A.join (λls h=>reE A pts c .unk lv ev ls λev=>kn ev h) λjn=>main λev h=>match pk ev lv with
  |some ls=>jn ls h
  |none=>A.fail
structure Ctxt where
 C:Cfg
 pts:List Nat
 T:Nat->Site
def sval(ev:Env):TF->SV
 | .tmp t=>ev.tm.getD t .no
 | .const v=>match s0Of v with
  |some x=>.st x
  |none=>.no
 | .global g=>match Nat.blt g gB with
  |true=>.gad g 0
  |false=>.no
 | .func f=>.st (.leaf (.v (.func (.func f) #[] #[])))
def sval0(ev:Env)(x:TF):Option S0:=
 match sval ev x with
 | .st x=>some x
 |_=>none
def svals(ev:Env):List Operand->Option (List S0)
 | []=>some []
 |x :: l=>match sval0 ev x,svals ev l with
  |some x,some l=>some (x :: l)
  |_,_=>none
def constI:TF->Option Nat
 | .const (.int _ (.ofNat n))=>some n
 |_=>none
def setD(d:Tn)(x:SV)(ev:Env)(h:HT)(K:KN R HT):R:=
 match d with
 |some d=>setK x ev.tm d λtm=>K ⟨tm,ev.lc⟩ h
 |none=>K ev h
def rx(ev:Env)(s:Nat):Option (List SL):=
 match ev.lc.getD s .unk with
 | .row cs=>some cs
 |_=>none
def skKs:SK->List LK
 | .leaf k=>[k]
 | .agg ks=>ks
def cutS(cs:List SL)(off n:Nat):Option (List SL):=if off+n<=cs.length then some ((cs.drop off).take n)else none
def gS(cs:List SL)(off:Nat)(new:List SL):Option (List SL):=if off+new.length<=cs.length then some (cs.take off++new++cs.drop (off+new.length))else none
def rT(cs:List SL)(ks:TG):Nat->List (Int×Nat)->Bool
 |base,[]=>match cutS cs base ks.length with
  |some ds=>aT ds ks
  |none=>true
 |base,p :: l=>!Nat.beq p.2 0&&(List.range (cs.length+1)).all λj=>rT cs ks (base+j*p.2) l
def mkS0(agg:Bool)(cs:List SL):Option S0:=
 match agg,cs with
 |true,cs=>some (.agg cs)
 |false,[c]=>some (.leaf c)
 |_,_=>none
def qC(pl:Nat->Option (Nat×Nat))(cs:List SL):List (Nat×S0)->Option (List SL)
 | []=>some cs
 |(i,x) :: l=>match pl i with
  |some (off,n)=>match Nat.beq x.cells.length n with
   |true=>match gS cs off x.cells with
    |some cs=>qC pl cs l
    |none=>none
   |false=>none
  |none=>none
def aggT(P:TE)(t:TK):Option Bool:=
 match P.underlying t with
 |some (.struct _)|some (.array _ _)=>some true
 |some _=>some false
 |none=>none
def uW(P:TE)(t:TK):Option S0:=(dB P t).bind s0Of
def iU:SK->Bool
 | .leaf _=>false
 | .agg _=>true
def eqB:Bool->Bool->Bool
 |true,true=>true
 |false,false=>true
 |_,_=>false
def newV(X:Ctxt)(d:Tn)(t:TK)(x:S0)(ev:Env)(h:HT)(K:KN R HT):R:=
 match d with
 |none=>A.fail
 |some d=>match Nat.beq (X.pts.getD d 0) (d+2)with
  |true=>match ev.lc.getD d .unk with
   | .nil=>setK (.row x.cells) ev.lc d λlc=>setK (.lad d 0) ev.tm d λtm=>K ⟨tm,lc⟩ h
   |_=>A.fail
  |false=>A.new (.cells (x.cells.map SL.val) (kJ X.C.P t) true) h λn h=>setD (some d) (.st (.leaf (.v (.pointer (some ⟨n,0,none⟩))))) ev h K
def setC(d:Tn)(sk:SK)(cs:Tl)(ev:Env)(h:HT)(K:KN R HT):R:=
 ucS A sk cs λx r=>A.uc0 r (setD d (.st x) ev h K)
def setL(d:Tn)(sk:SK)(ls:TD)(ev:Env)(h:HT)(K:KN R HT):R:=
 unS A sk ls λx r=>A.un0 r (setD d (.st x) ev h K)
def loadE(X:Ctxt)(d:Tn)(sk:SK)(agg:Bool)(n:Nat)(a:TF)(ev:Env)(h:HT)(K:KN R HT):R:=
 match lz X.pts a,sval ev a with
 |0,.st (.leaf (.v p))=>A.peek (.lg X.C n p) h λcs=>setC A d sk cs ev h K
 |1,.gad g off=>match X.C.G g with
  |some vs=>match cut vs off n with
   |some cs=>match cs.all scalar,mkS0 agg (cs.map slOf)with
    |true,some x=>setD d (.st x) ev h K
    |_,_=>setC A d sk cs ev h K
   |none=>A.fail
  |none=>A.fail
 |1,.gdx g base ix=>match X.C.G g with
  |some vs=>A.opt (cX vs base ix n) λcs=>setC A d sk cs ev h K
  |none=>A.fail
 |1,.st (.leaf (.v p))=>A.opt (ldGv X.C n p) λcs=>setC A d sk cs ev h K
 |s+2,.lad s' off=>match Nat.beq s s',(rx ev s).bind (λcs=>(cutS cs off n).bind (mkS0 agg))with
  |true,some x=>setD d (.st x) ev h K
  |_,_=>A.fail
 |s+2,.ldx s' base ix=>match Nat.beq s s',rx ev s with
  |true,some cs=>match rT cs (skKs sk) base ix&&Nat.beq n (skKs sk).length with
   |true=>A.opt (rj (cs.map SL.lf) base ix n) λls=>setL A d sk ls ev h K
   |false=>A.fail
  |_,_=>A.fail
 |_,_=>A.fail
def storeR(r:LR)(off:Nat)(new:List SL):Option (List SL):=
 match r with
 | .row cs=>gS cs off new
 | .any n=>match Nat.beq off 0&&Nat.beq n new.length with
  |true=>some new
  |false=>none
 |_=>none
def storeE(X:Ctxt)(d:Tn)(t:TK)(a:TF)(x:S0)(ev:Env)(h:HT)(K:KN R HT):R:=
 match Nat.beq x.cells.length (X.C.P.cellsOf t)&&(X.C.P.info? t).isSome with
 |false=>A.fail
 |true=>match lz X.pts a,sval ev a with
  |0,.st (.leaf (.v p))=>A.heap (.st p (x.cells.map SL.val)) h λ_ h=>setD d .un ev h K
  |s+2,.lad s' off=>match Nat.beq s s',storeR (ev.lc.getD s .unk) off x.cells with
   |true,some cs=>setK (.row cs) ev.lc s λlc=>setD d .un ⟨ev.tm,lc⟩ h K
   |_,_=>A.fail
  |s+2,.ldx s' base ix=>match Nat.beq s s',rx ev s with
   |true,some cs=>match rT cs (x.cells.map SL.lk) base ix with
    |false=>A.fail
    |true=>A.opt (putL (cs.map SL.lf) base ix (x.cells.map SL.lf)) λls=>unL A (cs.map SL.lk) ls λcs r=>A.un0 r (setK (.row cs) ev.lc s λlc=>setD d .un ⟨ev.tm,lc⟩ h K)
   |_,_=>A.fail
  |_,_=>A.fail
def isCmp:BinOp->Bool
 | .eql | .neq | .lss | .leq | .gtr | .geq=>true
 |_=>false
def isShift:BinOp->Bool
 | .shl | .shr=>true
 |_=>false
def kX(F:TK->Option (TG)):List Field->Nat->Option (TG)
 | [],_=>some []
 |f :: fs,off=>match decide (f.name = "_"),Nat.beq f.offset off,F f.type with
  |false,true,some ks=>(kX F fs (off+ks.length)).map (ks ++ ·)
  |_,_,_=>none
def flatK(P:TE):Nat->TK->Option (TG)
 |0,_=>none
 |d+1,t=>match P.underlying t with
  |some (.int k)=>some [.i k]
  |some .bool=>some [.b]
  |some (.struct fs)=>match P.stoodInHeld t,kX (flatK P d) fs.toList 0 with
   |false,some ks=>match Nat.beq ks.length (P.cellsOf t)with
    |true=>some ks
    |false=>none
   |_,_=>none
  |some (.array n e)=>match flatK P d e with
   |some ks=>match Nat.beq ks.length (P.cellsOf e)&&Nat.beq (List.replicate n ks).flatten.length (P.cellsOf t)with
    |true=>some (List.replicate n ks).flatten
    |false=>none
   |none=>none
  |_=>none
def eqZ:Int->Int->Bool
 | .ofNat a,.ofNat b=>Nat.beq a b
 | .negSucc a,.negSucc b=>Nat.beq a b
 |_,_=>false
def iJ:TG->Tl->Tl->Option Bool
 | [],[],[]=>some true
 | .i k :: ks,.int a x :: xs,.int b y :: ys=>match dy a k,dy b k,iJ ks xs ys with
  |true,true,some r=>(match eqZ x y with
   |true=>some r
   |false=>some false)
  |_,_,_=>none
 | .b :: ks,.bool x :: xs,.bool y :: ys=>match iJ ks xs ys with
  |some r=>(match eqB x y with
   |true=>some r
   |false=>some false)
  |none=>none
 |_,_,_=>none
def difK:TG->Tl->Tl->Option Bool
 | [],_,_=>some true
 | .i k :: ks,.int a x :: xs,.int b y :: ys=>match dy a k,dy b k with
  |true,true=>(match eqZ x y with
   |true=>difK ks xs ys
   |false=>some false)
  |_,_=>none
 | .b :: ks,.bool x :: xs,.bool y :: ys=>match eqB x y with
  |true=>difK ks xs ys
  |false=>some false
 |_,_,_=>none
def il(ks:TG)(cs:Tl):Th->Nat->Option (Tp)
 | [],_=>some none
 |e :: es,i=>match e.key with
  | .agg ds=>match difK ks cs ds.toList with
   |some true=>some (some i)
   |some false=>il ks cs es (i+1)
   |none=>none
  |_=>none
def valI{R:Type}(v:Value)(d:R)(K:TH->Int->R):R:=match v with
 | .int a m=>K a m
 |_=>d
def valB{R:Type}(v:Value)(d:R)(K:Bool->R):R:=match v with
 | .bool a=>K a
 |_=>d
def eqZR(a b:Int):Bool:=@Int.rec (λ_=>Bool) (λm=>@Int.rec (λ_=>Bool) (λn=>Nat.beq m n) (λ_=>false) b) (λm=>@Int.rec (λ_=>Bool) (λ_=>false) (λn=>Nat.beq m n) b) a
def difR(ks:TG):Tl->Tl->Option Bool:=
 @List.rec LK (λ_=>Tl->Tl->Option Bool)
  (λ_ _=>some true)
  (λk _ ih xs ys=>@List.rec Value (λ_=>Option Bool) none (λx xs _=>@List.rec Value (λ_=>Option Bool) none (λy ys _=>
   @LK.rec (λ_=>Option Bool)
    (λk=>valI x none λa m=>valI y none λb n=>@Bool.rec (λ_=>Option Bool) none (@Bool.rec (λ_=>Option Bool) none (@Bool.rec (λ_=>Option Bool) (some false) (ih xs ys) (eqZR m n)) (dy b k)) (dy a k))
    (valB x none λa=>valB y none λb=>@Bool.rec (λ_=>Option Bool) (some false) (ih xs ys) (eqB a b))
    none k) ys) xs) ks
def eqZR_eq(a b:Int):eqZR a b=eqZ a b:=by cases a<;>cases b<;>rfl
def ud:∀(ks:TG) (xs ys:Tl),difR ks xs ys=difK ks xs ys
 | [],_,_=>by simp only[difK];rfl
 |k :: ks,[],ys=>by cases k<;>rfl
 |k :: ks,x :: xs,[]=>by cases k<;>cases x<;>rfl
 | .v :: ks,x :: xs,y :: ys=>by cases x<;>cases y<;>rfl
 | .b :: ks,x :: xs,y :: ys=>by
  cases x<;>first|(cases y<;>rfl)|skip
  cases y<;>first|rfl|skip
  rename_i a b
  show @Bool.rec (λ_=>Option Bool) (some false) (difR ks xs ys) (eqB a b)=_
  rw[ud ks xs ys]
  simp only[difK]
  cases eqB a b<;>rfl
 | .i k :: ks,x :: xs,y :: ys=>by
  cases x<;>first|(cases y<;>rfl)|skip
  cases y<;>first|rfl|skip
  rename_i a m b n
  show @Bool.rec (λ_=>Option Bool) none (@Bool.rec (λ_=>Option Bool) none (@Bool.rec (λ_=>Option Bool) (some false) (difR ks xs ys) (eqZR m n)) (dy b k)) (dy a k)=_
  rw[ud ks xs ys,eqZR_eq]
  simp only[difK]
  cases dy a k<;>cases dy b k<;>first|rfl|(cases eqZ m n<;>rfl)
def findR(ks:TG)(cs:Tl)(es:Th):Nat->Option (Tp):=
 @List.rec MapEntry (λ_=>Nat->Option (Tp)) (λ_=>some none) (λe _ ih i=>match e.key with
  | .agg ds=>@Option.rec Bool (λ_=>Option (Tp)) none (λb=>@Bool.rec (λ_=>Option (Tp)) (fN (Nat.succ i) ih) (some (some i)) b) (difR ks cs ds.toList)
  |_=>none) es
def lQ(ks:TG)(cs:Tl):∀(es:Th) (i:Nat),findR ks cs es i=il ks cs es i
 | [],_=>rfl
 |e :: es,i=>by
  have h:findR ks cs (e :: es) i=match e.key with
   | .agg ds=>@Option.rec Bool (λ_=>Option (Tp)) none (λb=>@Bool.rec (λ_=>Option (Tp)) (findR ks cs es (i+1)) (some (some i)) b) (difR ks cs ds.toList)
   |_=>none:=rfl
  rw[h]
  simp only[il,ud,lQ ks cs es]
  split
  next ds _=>
   cases difK ks cs ds.toList with
   |none=>rfl
   |some b=>cases b<;>rfl
  ·rfl
def ob(P:TE)(kt:TK)(k:Value)(es:Th):Option (Tp):=
 match k with
 | .agg cs=>match aggT P kt,flatK P 10000 kt with
  |some true,some ks=>match findR ks cs.toList es 0 with
   |some r=>some r
   |none=>jg P kt k es
  |_,_=>jg P kt k es
 |_=>jg P kt k es
def keyF(P:TE)(kt:TK)(k:Value):Bool:=
 match k with
 | .agg cs=>match aggT P kt with
  |some true=>match flatK P 10000 kt with
   |some ks'=>match iJ ks' cs.toList cs.toList with
    |some _=>true
    |none=>eN P kt k
   |none=>eN P kt k
  |_=>eN P kt k
 |_=>eN P kt k
def mapG(g:bV)(id:Nat):Option (List MapEntry×Nat):=
 match g id with
 |some (.map es c)=>some (es,c)
 |_=>none
def fj(ag:Bool)(v:Value):Option (Tl):=
 match v,ag with
 | .agg cs,true=>some cs.toList
 | .agg _,false=>none
 |_,true=>none
 |v,false=>some [v]
def luG(C:Cfg)(kt:TK)(ag:Bool)(z:Value)(m k:Value)(ok:Bool)(g:bV):Option (Tl):=
 if !keyF C.P kt k then none else
 match m with
 | .map none=>(fj ag z).map λcs=>cs++if ok then [.bool false]else []
 | .map (some id)=>
  match mapG g id with
  |none=>none
  |some (es,_)=>
   match ob C.P kt k es with
   |none=>none
   |some none=>(fj ag z).map λcs=>cs++if ok then [.bool false]else []
   |some (some i)=>((dW es i).bind (fj ag)).map λcs=>cs++if ok then [.bool true]else []
 |_=>none
def muG(C:Cfg)(kt:TK)(m k v:Value)(g:bV)(_:Nat):Option (List Act1×List Value):=
 match m with
 | .map (some id)=>
  if !keyF C.P kt k then none else
  match mapG g id with
  |none=>none
  |some (es,c)=>
   match ob C.P kt k es with
   |none=>none
   |some none=>some ([.set id (.map (es++[{ key:=k,val:=v,born:=c }]) (c+1))],[])
   |some (some i)=>
    if (es[i]?).all (λe=>Instr.sameBits 10000 e.key k)then some ([.set id (.map (es.modify i λe=>{ e with key:=k,val:=v }) c)],[])else none
 |_=>none
def meG(C:Cfg)(kt:TK)(ag:Bool)(z:Value)(m k:Value)(g:bV)(_:Nat):Option (List Act1×List Value):=
 match m with
 | .map (some id)=>
  if !keyF C.P kt k then none else
  match mapG g id with
  |none=>none
  |some (es,c)=>
   match ob C.P kt k es with
   |none=>none
   |some none=>(fj ag z).map λcs=>([.set id (.map (es++[{ key:=k,val:=z,born:=c }]) (c+1))],cs++[.int .i64 c])
   |some (some i)=>
    match es[i]? with
    |none=>none
    |some e=>if Instr.sameBits 10000 e.key k then(fj ag e.val).map λcs=>([.set id (.map (es.modify i λe=>{ e with key:=k }) c)],cs++[.int .i64 e.born])else none
 |_=>none
def esG(m:Value)(b:Int)(v:Value)(g:bV)(_:Nat):Option (List Act1×List Value):=
 match m with
 | .map (some id)=>
  match mapG g id with
  |none=>none
  |some (es,c)=>
   match es.findIdx? (λe=>(e.born:Int)==b)with
   |some i=>some ([.set id (.map (es.modify i λe=>{ e with val:=v }) c)],[])
   |none=>none
 |_=>none
def deG(C:Cfg)(kt:TK)(m k:Value)(g:bV)(_:Nat):Option (List Act1×List Value):=
 if !keyF C.P kt k then none else
 match m with
 | .map none=>some ([],[])
 | .map (some id)=>
  match mapG g id with
  |none=>none
  |some (es,c)=>
   match ob C.P kt k es with
   |none=>none
   |some none=>some ([],[])
   |some (some i)=>some ([.set id (.map (es.eraseIdx i) c)],[])
 |_=>none
def ti(n:Nat)(x y:Value):Option Bool:=match Nat.beq n (df x),Nat.beq n (df y)with
 |true,true=>kw x y
 |_,_=>none
def tj{P:TE}{t:TK}{td:TypeDesc}{x y:Value}{b:Bool}(hu:P.underlying t=some td)(h:ti (ky td) x y=some b):kw x y=some b/\qW P t x y=true:=by
 unfold ti at h
 split at h
 next h1 h2=>
  refine⟨h,?_⟩
  unfold qW
  rw[hu]
  simp only[qaa,beq_iff_eq]
  exact⟨qad h1,qad h2⟩
 ·cases h
def pW(ks:TG):Bool:=ks.all λk=>match k with
 | .v=>false
 |_=>true
def binE(X:Ctxt)(d:Tn)(op:BinOp)(t:TK)(a b:S0)(ev:Env)(h:HT)(K:KN R HT):R:=
 match a,b with
 | .leaf (.i k x),.leaf (.i k' y)=>
  match isShift op,dy k k',isCmp op with
  |true,_,_=>A.shf op k x k' y λn=>setD d (.st (.leaf (.i k n))) ev h K
  |false,true,true=>A.cmp op x y λt=>setD d (.st (.leaf (.b t))) ev h K
  |false,true,false=>A.ari op k x y λn=>setD d (.st (.leaf (.i k n))) ev h K
  |_,_,_=>A.fail
 | .agg cs,.agg es=>match flatK X.C.P 10000 t,X.C.P.eqGuardType X.C.P.depth t,aggT X.C.P t with
  |some ks,false,some true=>match aT cs ks&&aT es ks&&pW ks with
   |true=>match op with
    | .eql=>A.eqs ((cs.map SL.lf).zip (es.map SL.lf)) λt=>setD d (.st (.leaf (.b t))) ev h K
    | .neq=>A.eqs ((cs.map SL.lf).zip (es.map SL.lf)) λt=>setD d (.st (.leaf (.b (!t)))) ev h K
    |_=>A.fail
   |false=>A.fail
  |_,_,_=>A.fail
 | .leaf (.v x),.leaf (.v y)=>match X.C.P.underlying t with
  |some .string=>match op with
   | .eql=>A.opt (strEq x y) λt'=>setD d (.st (.leaf (.b t'))) ev h K
   | .neq=>A.opt (strEq x y) λt'=>setD d (.st (.leaf (.b (!t')))) ev h K
   |_=>A.fail
  |some td=>match op with
   | .eql=>A.opt (ti (ky td) x y) λt'=>setD d (.st (.leaf (.b t'))) ev h K
   | .neq=>A.opt (ti (ky td) x y) λt'=>setD d (.st (.leaf (.b (!t')))) ev h K
   |_=>A.fail
  |none=>A.fail
 | .leaf x,.leaf y=>match x.is .b&&y.is .b,X.C.P.underlying t with
  |true,some .bool=>match op with
   | .eql=>A.eqs [(x.lf,y.lf)] λt=>setD d (.st (.leaf (.b t))) ev h K
   | .neq=>A.eqs [(x.lf,y.lf)] λt=>setD d (.st (.leaf (.b (!t)))) ev h K
   |_=>A.fail
  |_,_=>A.fail
 |_,_=>A.fail
def optI(ev:Env):Tg->Option (Tq)
 |none=>some none
 |some x=>match sval ev x with
  | .st (.leaf (.i _ n))=>some (some n)
  |_=>none
def lB(hs:TI):SK:=match hs with
 | [k]=>k
 |_=>.agg []
def setR(d:Tn)(sks:TI)(rs:TD)(ev:Env)(h:HT)(K:KN R HT):R:=
 match sks with
 | [sk]=>setL A d sk rs ev h K
 | []=>A.un0 rs (setD d .un ev h K)
 |sks=>unSs A sks rs λxs r=>A.un0 r (setD d (.tup xs) ev h K)
structure Sig where
 ps:List SK
 rs:List SK
def ca:List S0->TI->Bool
 | [],[]=>true
 |x :: l,k :: ks=>x.is k&&ca l ks
 |_,_=>false
def lG(X:Ctxt)(d:Tn)(_sk:SK)(b:Builtin)(xs:List S0)(ts:Array TypeId)(ev:Env)(h:HT)(K:KN R HT):R:=
 match b,xs,ts[0]? with
 | .append,[.leaf (.v s),.leaf (.v x)],some t=>match X.C.P.underlying t with
  |some (.slice e)=>match X.C.P.info? e with
   |some info=>match Nat.beq info.size 0||(iZ info).isNone||(ts[1]?.any λu=>(X.C.P.underlying u) matches some (.int _)|none)||ts[1]?.isNone with
    |true=>A.fail
    |false=>A.heap (.ap X.C info.size info.bytes s x) h λcs h=>setC A d (.leaf .v) cs ev h K
   |none=>A.fail
  |_=>A.fail
 | .len,[x],some t=>match X.C.P.underlying t,x with
  |some (.slice _),.leaf (.v x)=>A.opt (lenS x) λn=>setD d (.st (.leaf (.i .i64 n))) ev h K
  |some (.map _ _),.leaf (.v x)=>A.peek (.fn (lenM x)) h λcs=>setC A d (.leaf (.i .i64)) cs ev h K
  |some (.array n _),_=>setD d (.st (.leaf (.i .i64 n))) ev h K
  |_,_=>A.fail
 | .cap,[x],some t=>match X.C.P.underlying t,x with
  |some (.slice _),.leaf (.v x)=>A.opt (capS x) λn=>setD d (.st (.leaf (.i .i64 n))) ev h K
  |some (.array n _),_=>setD d (.st (.leaf (.i .i64 n))) ev h K
  |_,_=>A.fail
 | .copy,[.leaf (.v s),.leaf (.v x)],some t=>match X.C.P.underlying t with
  |some (.slice e)=>match Nat.beq (X.C.P.cellsOf e) 0 with
   |true=>A.fail
   |false=>A.heap (.fn (cpG X.C (X.C.P.cellsOf e) s x)) h λcs h=>setC A d (.leaf (.i .i64)) cs ev h K
  |_=>A.fail
 | .delete,[.leaf (.v m),k],some t=>match X.C.P.underlying t with
  |some (.map kt _)=>A.heap (.fn (deG X.C kt m k.val)) h λ_ h=>setD d .un ev h K
  |_=>A.fail
 | .clear,[.leaf (.v s)],some t=>match X.C.P.underlying t with
  |some (.slice e)=>match Nat.beq (X.C.P.cellsOf e) 0,uW X.C.P e with
   |false,some z=>A.heap (.fn (clG (X.C.P.cellsOf e) (z.cells.map SL.val) s)) h λ_ h=>setD d .un ev h K
   |_,_=>A.fail
  |_=>A.fail
 | .min,[.leaf (.i k a),.leaf (.i k' b)],_=>match dy k k' with
  |true=>A.cmp .lss b a λt=>A.sel t b a λn=>setD d (.st (.leaf (.i k n))) ev h K
  |false=>A.fail
 | .max,[.leaf (.i k a),.leaf (.i k' b)],_=>match dy k k' with
  |true=>A.cmp .lss a b λt=>A.sel t b a λn=>setD d (.st (.leaf (.i k n))) ev h K
  |false=>A.fail
 |_,_,_=>A.fail
def jZ(X:Ctxt)(d:Tn)(t:TK)(x i:TF)(ev:Env)(h:HT)(K:KN R HT):R:=
 match X.C.P.underlying t with
 |some (.array len e)=>
  let esz:=X.C.P.cellsOf e
  match Nat.beq esz 0,sval ev x,sval ev i,constI i with
  |false,.lad s off,_,some n=>match Nat.blt n len with
   |true=>setD d (.lad s (off+n*esz)) ev h K
   |false=>A.fail
  |false,.gad g off,_,some n=>match Nat.blt n len with
   |true=>setD d (.gad g (off+n*esz)) ev h K
   |false=>A.fail
  |false,.ldx s base ix,_,some n=>match Nat.blt n len with
   |true=>setD d (.ldx s (base+n*esz) ix) ev h K
   |false=>A.fail
  |false,.gdx g base ix,_,some n=>match Nat.blt n len with
   |true=>setD d (.gdx g (base+n*esz) ix) ev h K
   |false=>A.fail
  |false,.lad s off,.st (.leaf (.i _ j)),_=>A.opt (inB len j) λ_=>setD d (.ldx s off [(j,esz)]) ev h K
  |false,.gad g off,.st (.leaf (.i _ j)),_=>A.opt (inB len j) λ_=>setD d (.gdx g off [(j,esz)]) ev h K
  |false,.ldx s base ix,.st (.leaf (.i _ j)),_=>A.opt (inB len j) λ_=>setD d (.ldx s base (ix++[(j,esz)])) ev h K
  |false,.gdx g base ix,.st (.leaf (.i _ j)),_=>A.opt (inB len j) λ_=>setD d (.gdx g base (ix++[(j,esz)])) ev h K
  |false,.st (.leaf (.v p)),.st (.leaf (.i _ j)),_=>A.opt (idP len esz p j) λq=>A.chk q (setD d (.st (.leaf (.v q))) ev h K)
  |_,_,_,_=>A.fail
 |some (.slice e)=>
  let esz:=X.C.P.cellsOf e
  match Nat.beq esz 0,sval ev x,sval ev i with
  |false,.st (.leaf (.v p)),.st (.leaf (.i _ j))=>A.opt (idS esz p j) λq=>setD d (.st (.leaf (.v q))) ev h K
  |_,_,_=>A.fail
 |_=>A.fail
def jS(X:Ctxt)(d:Tn)(t:TK)(x:TF)(f:Nat)(ev:Env)(h:HT)(K:KN R HT):R:=
 match X.C.P.underlying t with
 |some (.struct fs)=>match fs[f]? with
  |some fd=>match Nat.beq (X.C.P.cellsOf fd.type) 0,sval ev x with
   |false,.lad s off=>setD d (.lad s (off+fd.offset)) ev h K
   |false,.gad g off=>setD d (.gad g (off+fd.offset)) ev h K
   |false,.ldx s base ix=>setD d (.ldx s (base+fd.offset) ix) ev h K
   |false,.gdx g base ix=>setD d (.gdx g (base+fd.offset) ix) ev h K
   |false,.st (.leaf (.v p))=>A.opt (fdP fd.offset p) λq=>A.chk q (setD d (.st (.leaf (.v q))) ev h K)
   |_,_=>A.fail
  |none=>A.fail
 |_=>A.fail
abbrev _root_.Tc:=FuncId->Option Sig
def opE(X:Ctxt)(Sg:Tc)(o:Oper)(hs:TI)(ev:Env)(h:HT)(K:KN R HT):R:=
 match o.op with
 | .move x=>match sval ev x with
  | .no=>A.fail
  |y=>setD o.dst y ev h K
 | .assign x=>match sval ev x with
  | .no=>A.fail
  |y=>setD o.dst y ev h K
 | .pick c a b=>match sval ev c,sval ev a,sval ev b with
  | .st (.leaf (.l true)),.st y,_=>setD o.dst (.st y) ev h K
  | .st (.leaf (.l false)),_,.st y=>setD o.dst (.st y) ev h K
  | .st (.leaf (.b t)),.st y,.st z=>A.cond t (setD o.dst (.st y) ev h K) (setD o.dst (.st z) ev h K)
  |_,_,_=>A.fail
 | .alloc t=>match uW X.C.P t with
  |some x=>newV A X o.dst t x ev h K
  |none=>A.fail
 | .box t x=>match sval ev x with
  | .st x=>newV A X o.dst t x ev h K
  |_=>A.fail
 | .build t ps=>match uW X.C.P t,mb X.C.P t,svals ev (ps.toList.map (·.2))with
  |some z,some pl,some xs=>match qC pl z.cells ((ps.toList.map (·.1)).zip xs)with
   |some cs=>setD o.dst (.st (.agg cs)) ev h K
   |none=>A.fail
  |_,_,_=>A.fail
 | .buildSlice t n ps=>match X.C.P.underlying t,svals ev (ps.toList.map (·.2))with
  |some (.slice e),some xs=>match X.C.P.info? e with
   |some info=>match Nat.beq info.size 0||Nat.blt 16777216 (n*info.size),(iZ info).bind s0Of with
    |false,some z=>match qC (λi=>some (i*info.size,info.size)) (List.replicate n z.cells).flatten ((ps.toList.map (·.1)).zip xs)with
     |some cs=>A.new (.cells (cs.map SL.val) info.size true) h λm h=>setD o.dst (.st (.leaf (.v (.slice (some ⟨m,0,tag info.size⟩) n (n+1))))) ev h K
     |none=>A.fail
    |_,_=>A.fail
   |none=>A.fail
  |_,_=>A.fail
 | .load t a=>match aggT X.C.P t with
  |some agg=>match eqB agg (iU (lB hs))with
   |true=>loadE A X o.dst (lB hs) agg (if agg then X.C.P.cellsOf t else 1) a ev h K
   |false=>A.fail
  |none=>A.fail
 | .store t a x=>match sval ev x with
  | .st x=>storeE A X o.dst t a x ev h K
  |_=>A.fail
 | .nilCheck x=>match sval ev x with
  | .st (.leaf (.v p))=>A.opt (nilP p) λq=>A.chk q (setD o.dst (.st (.leaf (.v q))) ev h K)
  | .lad s off=>setD o.dst (.lad s off) ev h K
  | .gad s off=>setD o.dst (.gad s off) ev h K
  |_=>A.fail
 | .binOp op t x y _=>match sval0 ev x,sval0 ev y with
  |some a,some b=>binE A X o.dst op t a b ev h K
  |_,_=>A.fail
 | .unOp op _ x=>match op,sval ev x with
  | .not,.st (.leaf (.b t))=>setD o.dst (.st (.leaf (.b (!t)))) ev h K
  | .not,.st (.leaf (.l t))=>setD o.dst (.st (.leaf (.l (!t)))) ev h K
  | .neg,.st (.leaf (.i k n))=>A.ari .sub k 0 n λn=>setD o.dst (.st (.leaf (.i k n))) ev h K
  |_,_=>A.fail
 | .convert sT dT x=>match X.C.P.underlying sT,X.C.P.underlying dT,sval ev x with
  |some (.int _),some (.int k),.st (.leaf (.i _ n))=>A.conv k n λn=>setD o.dst (.st (.leaf (.i k n))) ev h K
  |_,_,_=>A.fail
 | .makeFunc fn first cap=>match fn,svals ev first.toList,svals ev cap.toList with
  | .func g,some a,some b=>A.chk (.func (.func g) ⟨ah a⟩ ⟨ah b⟩) (setD o.dst (.st (.leaf (.v (.func (.func g) ⟨ah a⟩ ⟨ah b⟩)))) ev h K)
  |_,_,_=>A.fail
 | .makeMap t r=>match mT X.C t (r.map λ_=>.int .i64 0),optI ev r with
  |true,some _=>A.new (.map [] 0) h λn h=>setD o.dst (.st (.leaf (.v (.map (some n))))) ev h K
  |_,_=>A.fail
 | .makeSlice t l c=>match X.C.P.underlying t,sval ev l,sval ev c with
  |some (.slice e),.st (.leaf (.i _ l)),.st (.leaf (.i _ c))=>match X.C.P.info? e with
   |some info=>match Nat.beq info.size 0||Nat.blt 4096 info.bytes,(iZ info).bind s0Of with
    |false,some z=>A.opt (mkOk l c) λ_=>
      A.new (.cells (bm (z.cells.map SL.val) c.toNat) info.size true) h λn h=>setD o.dst (.st (.leaf (.v (.slice (some ⟨n,0,tag info.size⟩) l.toNat (c.toNat+1))))) ev h K
    |_,_=>A.fail
   |none=>A.fail
  |_,_,_=>A.fail
 | .slice t x lo hi mx=>match X.C.P.underlying t,sval ev x,optI ev lo,optI ev hi,optI ev mx with
  |some (.slice e),.st (.leaf (.v x)),some lo,some hi,some mx=>match Nat.beq (X.C.P.cellsOf e) 0 with
   |true=>A.fail
   |false=>A.opt (slS (X.C.P.cellsOf e) x lo hi mx) λq=>A.chk q (setD o.dst (.st (.leaf (.v q))) ev h K)
  |some (.array _ e),.gad g off,some lo,some hi,some mx=>match Nat.beq (X.C.P.cellsOf e) 0 with
   |true=>A.fail
   |false=>A.opt (cM X.C t ⟨g,off,some 1⟩ (lo.map (.int .i64)) (hi.map (.int .i64)) (mx.map (.int .i64)) []) λq=>A.chk q (setD o.dst (.st (.leaf (.v q))) ev h K)
  |some (.array n e),.st (.leaf (.v p)),some lo,some hi,some mx=>match Nat.beq (X.C.P.cellsOf e) 0 with
   |true=>A.fail
   |false=>A.peek (.fn (slAG n (X.C.P.cellsOf e) p lo hi mx)) h λcs=>setC A o.dst (.leaf .v) cs ev h K
  |_,_,_,_,_=>A.fail
 | .fieldAddr t x f=>jS A X o.dst t x f ev h K
 | .indexAddr t x i=>jZ A X o.dst t x i ev h K
 | .field t x f=>match X.C.P.underlying t,sval ev x with
  |some (.struct fs),.st (.agg cs)=>match fs[f]? with
   |some fd=>match (aggT X.C.P fd.type).bind (λag=>(cutS cs fd.offset (if ag then X.C.P.cellsOf fd.type else 1)).bind (mkS0 ag))with
    |some x=>setD o.dst (.st x) ev h K
    |none=>A.fail
   |none=>A.fail
  |_,_=>A.fail
 | .index t x i=>match X.C.P.underlying t,sval ev x,sval ev i with
  |some (.array len e),.st (.agg cs),.st (.leaf (.i _ j))=>match aggT X.C.P e with
   |some ag=>match eqB ag (iU (lB hs))&&rT cs (skKs (lB hs)) 0 [(j,X.C.P.cellsOf e)]&&Nat.beq (if ag then X.C.P.cellsOf e else 1) (skKs (lB hs)).length with
    |false=>A.fail
    |true=>A.opt (inB len j) λ_=>A.opt (rj (cs.map SL.lf) 0 [(j,X.C.P.cellsOf e)] (if ag then X.C.P.cellsOf e else 1)) λls=>setL A o.dst (lB hs) ls ev h K
   |none=>A.fail
  |some .string,.st (.leaf (.v (.string s))),.st (.leaf (.i _ j))=>A.opt (strAt s j) λb=>setD o.dst (.st (.leaf (.i .u8 b))) ev h K
  |_,_,_=>A.fail
 | .lookup t m k ok=>match X.C.P.underlying t,sval ev m,sval0 ev k with
  |some (.map kt et),.st (.leaf (.v m)),some k=>match dB X.C.P et with
   |some z=>match hs,ok with
    | [sk],false=>A.peek (.fn (luG X.C kt (iU sk) z m k.val false)) h λcs=>ucS A sk cs λx r=>A.uc0 r (setD o.dst (.st x) ev h K)
    | [sk,.leaf .b],true=>A.peek (.fn (luG X.C kt (iU sk) z m k.val true)) h λcs=>ucS A sk cs λx r=>A.ucB r λt r=>A.uc0 r (setD o.dst (.tup [x,.leaf (.b t)]) ev h K)
    |_,_=>A.fail
   |none=>A.fail
  |_,_,_=>A.fail
 | .mapUpdate t m k v=>match X.C.P.underlying t,sval ev m,sval0 ev k,sval0 ev v with
  |some (.map kt _),.st (.leaf (.v m)),some k,some v=>A.heap (.fn (muG X.C kt m k.val v.val)) h λ_ h=>setD o.dst .un ev h K
  |_,_,_,_=>A.fail
 | .insert t m k v=>match X.C.P.underlying t,sval ev m,sval0 ev k,sval0 ev v with
  |some (.map kt _),.st (.leaf (.v m)),some k,some v=>A.heap (.fn (muG X.C kt m k.val v.val)) h λ_ h=>setD o.dst .un ev h K
  |_,_,_,_=>A.fail
 | .mapEntry t m k=>match X.C.P.underlying t,sval ev m,sval0 ev k with
  |some (.map kt et),.st (.leaf (.v m)),some k=>match dB X.C.P et with
   |some z=>match hs with
    | [sk,.leaf (.i .i64)]=>A.heap (.fn (meG X.C kt (iU sk) z m k.val)) h λcs h=>ucS A sk cs λx r=>A.ucI .i64 r λn r=>A.uc0 r (setD o.dst (.tup [x,.leaf (.i .i64 n)]) ev h K)
    |_=>A.fail
   |none=>A.fail
  |_,_,_=>A.fail
 | .entryStore _ m s v=>match sval ev m,sval ev s,sval0 ev v with
  | .st (.leaf (.v m)),.st (.leaf (.i _ b)),some v=>A.heap (.fn (esG m b v.val)) h λ_ h=>setD o.dst .un ev h K
  |_,_,_=>A.fail
 | .extract t i=>match sval ev t with
  | .tup xs=>match xs[i]? with
   |some x=>setD o.dst (.st x) ev h K
   |none=>A.fail
  |_=>A.fail
 | .call c=>match svals ev c.args.toList with
  |some xs=>match c.callee with
   | .builtin b=>lG A X o.dst (lB hs) b xs c.argTypes ev h K
   | .value f=>match sval ev f with
    | .st (.leaf (.v v))=>match f with
     | .func g=>match Sg g with
      |some sg=>match ca xs sg.ps with
       |true=>A.call g (cg xs) h λrs h=>setR A o.dst sg.rs rs ev h K
       |false=>A.fail
      |none=>A.fail
     |_=>A.callv v (ah xs) hs h λrs h=>setR A o.dst hs rs ev h K
    |_=>A.fail
   |_=>A.fail
  |none=>A.fail
 |_=>A.fail
def opG(X:Ctxt)(Sg:Tc)(ops:Tm)(o:Oper)(hs:TI)(ev:Env)(h:HT)(K:KN R HT):R:=
 match o.guard with
 |none=>opE A X Sg o hs ev h K
 |some (j,want)=>match (ops[j]?).bind (·.dst)with
  |some d=>match ev.tm.getD d .no with
   | .st (.leaf (.l b))=>match b==want with
    |true=>opE A X Sg o hs ev h K
    |false=>setD o.dst .un ev h K
   | .un=>setD o.dst .un ev h K
   | .st (.leaf (.b t))=>match want with
    |true=>A.cond t (setK (.st (.leaf (.l true))) ev.tm d λtm=>opE A X Sg o hs ⟨tm,ev.lc⟩ h K) (setK (.st (.leaf (.l false))) ev.tm d λtm=>setD o.dst .un ⟨tm,ev.lc⟩ h K)
    |false=>A.cond t (setK (.st (.leaf (.l true))) ev.tm d λtm=>setD o.dst .un ⟨tm,ev.lc⟩ h K) (setK (.st (.leaf (.l false))) ev.tm d λtm=>opE A X Sg o hs ⟨tm,ev.lc⟩ h K)
   |_=>A.fail
  |none=>A.fail
abbrev _root_.Tv:=List Oper
def opsE(X:Ctxt)(Sg:Tc)(ops:Tm)(l:Tv):List (TI)->Env->HT->KN R HT->R:=
 List.rec (motive:=λ_=>List (TI)->Env->HT->KN R HT->R) (λ_ ev h K=>K ev h)
  (λo _ ih hs ev h K=>opG A X Sg ops o (hs.headD []) ev h λev h=>ih hs.tail ev h K) l
end
namespace Sx
def rA:TF->TF->Bool
 | .tmp a,.tmp b=>Nat.beq a b
 |_,_=>false
def fl(a b:Oper):Bool:=
 match a.op with
 | .lookup t m k false=>(match b.op with
  | .mapEntry t' m' k'=>Nat.beq t t'&&rA m m'&&rA k k'
  |_=>false)
 |_=>false
def ancOf(acc:TA)(o:Oper):Nat:=
 o.after.toList.foldl (λm e=>match Region.binds .any e with
  |true=>Nat.lor (Nat.lor m (Nat.shiftLeft 1 e.on)) (acc.getD e.on 0)
  |false=>m) 0
def ancs:Tv->TA->List Nat
 | [],acc=>acc
 |o :: l,acc=>ancs l (acc++[ancOf acc o])
def adr:Value->List Nat
 | .pointer (some a)=>match a.spot with
  |none=>[a.block]
  |some _=>[]
 | .slice (some a) _ _=>match a.spot with
  |some 1=>[]
  |_=>[a.block]
 | .map (some id)=>[id]
 |_=>[]
def adrP:Value->List Nat
 | .pointer (some a)=>match a.spot with
  |none=>[a.block]
  |some _=>[]
 |_=>[]
def adrM:Value->List Nat
 | .map (some id)=>[id]
 |_=>[]
def cV(pts:TA)(o:Oper):List Operand×Nat:=
 match o.op with
 | .load _ a=>match lz pts a with
  |0=>([a],0)
  |_=>([],0)
 | .store _ a _=>match lz pts a with
  |0=>([a],0)
  |_=>([],0)
 | .slice _ x _ _ _=>([x],1)
 | .lookup _ m _ _=>([m],0)
 | .mapUpdate _ m _ _ | .insert _ m _ _ | .mapEntry _ m _ | .entryStore _ m _ _=>([m],0)
 | .call c=>match c.callee with
  | .builtin b=>match b with
   | .append | .copy=>(c.args.toList,0)
   | .delete | .clear=>(c.args.toList.take 1,0)
   | .len=>(c.args.toList,2)
   |_=>([],0)
  |_=>([],0)
 |_=>([],0)
def adrK:Nat->Value->List Nat
 |0,v=>adr v
 |1,v=>adrP v
 |_,v=>adrM v
def eo(pts:TA)(o:Oper):List Operand:=
 match o.op with
 | .store _ a _=>match lz pts a with
  |0=>[a]
  |_=>[]
 | .mapUpdate _ m _ _ | .insert _ m _ _ | .mapEntry _ m _ | .entryStore _ m _ _=>[m]
 | .call c=>match c.callee with
  | .builtin b=>match b with
   | .append | .copy | .delete | .clear=>c.args.toList.take 1
   |_=>[]
  |_=>[]
 |_=>[]
def hCls(pts:TA)(o:Oper):Nat:=
 match o.op with
 | .load _ a=>match lz pts a with
  |0=>1
  |_=>0
 | .store _ a _=>match lz pts a with
  |0=>2
  |_=>0
 | .alloc _ | .box _ _=>match de pts o with
  |true=>2
  |false=>0
 | .buildSlice _ _ _ | .makeMap _ _ | .makeSlice _ _ _ | .mapUpdate _ _ _ _ | .mapEntry _ _ _ | .entryStore _ _ _ _ | .insert _ _ _ _=>2
 | .lookup _ _ _ _ | .slice _ _ _ _ _=>1
 | .call c=>match c.callee with
  | .builtin b=>match b with
   | .append | .copy | .delete | .clear=>2
   | .len=>1
   |_=>0
  |_=>0
 |_=>0
def conf(pts:TA)(a b:Oper):Bool:=Nat.ble 3 (hCls pts a+hCls pts b) && !fl a b
def su(pts:TA)(b:Oper)(m i:Nat):Tv->Nat->List (Nat×Nat)
 | [],_=>[]
 |a :: l,k=>match Nat.testBit m k || !conf pts a b with
  |true=>su pts b m i l (k+1)
  |false=>(k,i) :: su pts b m i l (k+1)
def vj(pts:TA)(ms:TA):Tv->Tv->Nat->List (Nat×Nat)
 |_,[],_=>[]
 |pre,b :: l,i=>su pts b (ms.getD i 0) i pre 0++vj pts ms (pre++[b]) l (i+1)
def vk(pts:TA)(ops:Tm):List (Nat×Nat):=vj pts (ancs ops.toList []) [] ops.toList 0
def memN(x:Nat):TA->Bool
 | []=>false
 |y :: l=>match Nat.beq x y with
  |true=>true
  |false=>memN x l
def disjN:TA->TA->Bool
 | [],_=>true
 |x :: l,m=>match memN x m with
  |true=>false
  |false=>disjN l m
def sepL:List (Value×Nat×Value)->Option Unit
 | []=>some ()
 |p :: l=>match disjN (adr p.1) (adrK p.2.1 p.2.2)with
  |true=>sepL l
  |false=>none
def entV:SV->Option (Tl)
 | .st (.leaf (.v x))=>some [x]
 | .no=>none
 |_=>some []
def qr(ev:Env):List Operand->Option (Tl)
 | []=>some []
 |x :: l=>match entV (sval ev x),qr ev l with
  |some a,some b=>some (a++b)
  |_,_=>none
def wOps(pts:TA)(o:Oper):List Operand:=eo pts o++match hCls pts o,o.dst with
 |2,some d=>[.tmp d]
 |_,_=>[]
def cross(us:Tl)(k:Nat)(vs:Tl):List (Value×Nat×Value):=us.flatMap λu=>vs.map λv=>(u,k,v)
def sepOne(pts:TA)(ev:Env)(a b:Oper):Option (List (Value×Nat×Value)):=
 match qr ev (wOps pts a),qr ev (wOps pts b),qr ev (cV pts a).1,qr ev (cV pts b).1 with
 |some wa,some wb,some fa,some fb=>some (cross wa (cV pts b).2 fb++cross wa 0 wb++cross wb (cV pts a).2 fa)
 |_,_,_,_=>none
def rB(pts:TA)(ops:Tm)(ev:Env):List (Nat×Nat)->Option (List (Value×Nat×Value))
 | []=>some []
 |p :: l=>match ops[p.1]?,ops[p.2]?,rB pts ops ev l with
  |some a,some b,some r=>(sepOne pts ev a b).map λx=>x++r
  |_,_,_=>none
def sepK{R HT:Type}(A:Alg R HT)(pts:TA)(ops:Tm)(ps:List (Nat×Nat))(kn:KN R HT):KN R HT:=
 match ps with
 | []=>kn
 |ps=>λev h=>match rB pts ops ev ps with
  |some l=>A.opt (sepL l) λ_=>kn ev h
  |none=>A.fail
def splOf:List (Nat×Nat)->Option (Nat×Nat)
 | []=>none
 |p :: l=>match l with
  | []=>match Nat.ble 1000 p.1 with
   |true=>some (p.1 - 1000,p.2)
   |false=>none
  |_=>none
def eqFn(x y:Value):Option Unit:=match x with
 | .func (.yield l) a b=>match y with
  | .func (.yield m) c d=>match Nat.beq l m,a.toList,b.toList,c.toList,d.toList with
   |true,[],[],[],[]=>some ()
   |_,_,_,_,_=>none
  |_=>none
 |_=>none
def entF:SV->Option Value
 | .st (.leaf (.v x))=>some x
 |_=>none
def reK{R HT:Type}(A:Alg R HT)(X:Ctxt)(Sg:Tc)(ops:Tm)(k:Nat)(hs:TI)(ev:Env)(h:HT)(kn:KN R HT):R:=
 match ops[k]? with
 |some o=>match o.dst with
  |some d=>opG A X Sg ops o hs ev h λev' _=>match entF (ev.tm.getD d .no),entF (ev'.tm.getD d .no)with
   |some x,some y=>A.opt (eqFn x y) λ_=>kn ev h
   |_,_=>A.fail
  |none=>A.fail
 |none=>A.fail
def regE{R HT:Type}(A:Alg R HT)(X:Ctxt)(Sg:Tc)(ops:Tm)(hs:List (TI))(ps:List (Nat×Nat))(ev:Env)(h:HT)(kn:KN R HT):R:=
 match splOf ps with
 |none=>opsE A X Sg ops ops.toList hs ev h (sepK A X.pts ops ps kn)
 |some p=>opsE A X Sg ops (ops.toList.take (p.2+1)) hs ev h λev h=>reK A X Sg ops p.1 (hs.getD p.1 []) ev h λev h=>
  opsE A X Sg ops (ops.toList.drop (p.2+1)) (hs.drop (p.2+1)) ev h kn
end Sx
abbrev Dr:=List Nat->Tm->Option (List (Nat×Nat))
section
variable {R HT:Type} (A:Alg R HT)
def sA(e:Exit)(id:Nat):Bool:=match e with
 | .exit i=>Nat.beq i id
 |_=>false
def mj(tm:List SV):List (Nat×SK)->Option (Tl)
 | []=>some []
 |(t,sk) :: l=>match tm.getD t .no,mj tm l with
  | .st x,some vs=>match x.is sk with
   |true=>some (x.val :: vs)
   |false=>none
  |_,_=>none
def drX(dr:Dr)(draw:Bool)(pts:TA)(ops:Tm):Option (List (Nat×Nat)):=match draw with
 |true=>dr pts ops
 |false=>some []
def exec(X:Ctxt)(Sg:Tc)(dr:Dr)(c:AC):Env->HT->KN R HT->(Exit->KN R HT)->R:=
 AC.rec (motive:=λ_=>Env->HT->KN R HT->(Exit->KN R HT)->R)
  (λev h kn _=>kn ev h)
  (λev h _ kx=>kx .ret ev h)
  (λid ev h _ kx=>kx (.exit id) ev h)
  (λ_ ev h kn _=>kn ev h)
  (λ_ _ iha ihb ev h kn kx=>iha ev h (λev h=>ihb ev h kn kx) kx)
  (λ_ ih ev h kn kx=>ih ev h kn kx)
  (λid ops draw hs j ev h kn _=>match drX dr draw X.pts ops with
   |none=>A.fail
   |some ps=>sP A X.pts (.region id ops draw) j ev kn λkn=>Sx.regE A X Sg ops hs ps ev h kn)
  (λc a b j iha ihb ev h kn kx=>match sval ev c with
   | .st (.leaf (.l true))=>iha ev h kn kx
   | .st (.leaf (.l false))=>ihb ev h kn kx
   | .st (.leaf (.b t))=>sP A X.pts (.cond c (a.erase λκ t=>eY (X.T κ) t) (b.erase λκ t=>eY (X.T κ) t)) j ev kn λkn=>A.cond t (iha ev h kn kx) (ihb ev h kn kx)
   |_=>A.fail)
  (λid b j ih ev h kn kx=>sP A X.pts (b.erase λκ t=>eY (X.T κ) t) j ev kn λkn=>ih ev h kn λe=>match sA e id with
   |true=>kn
   |false=>kx e)
  (λb lv ih ev h _ kx=>match pk ev lv with
   |none=>A.fail
   |some ls=>match lv.rows.all λp=>!(aP X.pts (b.erase λκ t=>eY (X.T κ) t)).contains p.1 with
    |false=>A.fail
    |true=>A.loop (λself ls h=>reE A X.pts (b.erase λκ t=>eY (X.T κ) t) .nil lv ev ls λev=>ih ev h (λev h=>match pk ev lv with
     |some ls=>self ls h
     |none=>A.fail) kx) ls h)
  (λf κ ids ev h kn kx=>match f,sval ev f,X.pts with
   | .tmp _,.st (.leaf (.v v)),_ :: _=>match Nat.beq ev.tm.length (X.T κ).nt,mj ev.tm (X.T κ).caps with
    |true,some vs=>A.rfun κ v vs h λpd h=>A.pend pd (kn ev h) (kx .ret ev h) (ids.map λid=>(id,kx (.exit id) ev h))
    |_,_=>A.fail
   |_,_,_=>A.fail) c
def chkAll(cs:List SL)(K:R):R:=
 List.rec K (λc _ ih=>match c with
  | .v x=>A.opt (chk2 x) λ_=>ih
  |_=>ih) cs
def fZ(many:Bool)(x:S0)(K:R):R:=
 match many,x with
 |true,.agg cs=>chkAll A cs K
 |_,_=>K
def resE(X:Ctxt)(many:Bool)(ev:Env)(h:HT)(rvs:List ResultVar):TI->TD->(TD->HT->R)->R:=
 List.rec (motive:=λ_=>TI->TD->(TD->HT->R)->R) (λsks acc K=>match sks with
   | []=>K acc h
   |_=>A.fail)
  (λrv _ ih sks acc K=>match sks with
   | []=>A.fail
   |sk :: sks=>match rv with
    | .tmp t=>match ev.tm.getD t .no with
     | .st x=>match x.is sk with
      |true=>fZ A many x (ih sks (acc++x.cells.map SL.lf) K)
      |false=>A.fail
     |_=>A.fail
    | .cell a t=>match aggT X.C.P t with
     |some agg=>
      let n:=if agg then X.C.P.cellsOf t else 1
      match ev.tm.getD a .no with
      | .lad s off=>match (rx ev s).bind (λcs=>(cutS cs off n).bind (mkS0 agg))with
       |some x=>match x.is sk with
        |true=>fZ A many x (ih sks (acc++x.cells.map SL.lf) K)
        |false=>A.fail
       |none=>A.fail
      | .st (.leaf (.v p))=>match agg,sk with
       |true,.agg _=>A.peek (.ld n p) h λcs=>ucS A sk cs λx r=>A.uc0 r (fZ A many x (ih sks (acc++x.cells.map SL.lf) K))
       |false,.leaf _=>A.peek (.ld n p) h λcs=>ucS A sk cs λx r=>A.uc0 r (fZ A many x (ih sks (acc++x.cells.map SL.lf) K))
       |_,_=>A.fail
      |_=>A.fail
     |none=>A.fail) rvs
structure Fn1 where
 sg:Sig
 nt:Nat
 rvs:List ResultVar
 code:AC
def av(X:Ctxt)(Sg:Tc)(dr:Dr)(fn:Fn1)(ls:TD)(h:HT)(K:TD->HT->R):R:=
 unSs A fn.sg.ps ls λxs r=>A.un0 r (
  exec A X Sg dr fn.code ⟨xs.map .st++List.replicate (fn.nt - xs.length) .no,List.replicate fn.nt .nil⟩ h
   (λev h=>resE A X (Nat.blt 1 fn.rvs.length) ev h fn.rvs fn.sg.rs [] K)
   λe ev h=>match e with
    | .ret=>resE A X (Nat.blt 1 fn.rvs.length) ev h fn.rvs fn.sg.rs [] K
    |_=>A.fail)
def eR(nt:Nat):List (Nat×SK)->List S0->List SV->List SV
 |(t,_) :: l,x :: xs,tm=>eR nt l xs (tm.set t (.st x))
 |_,_,tm=>tm
def noRF:AC->Bool
 | .seq a b=>noRF a&&noRF b
 | .scope b=>noRF b
 | .cond _ a b _=>noRF a&&noRF b
 | .block _ b _=>noRF b
 | .loop b _=>noRF b
 | .rangeFunc _ _ _=>false
 |_=>true
def qP(l:List (Nat×SK)):Bool:=l.all λp=>match p.2 with
 | .leaf _=>true
 | .agg _=>false
def xa(X:Ctxt)(Sg:Tc)(dr:Dr)(st:Site)(vs:Tl)(l:Nat)(ls:TD)(h:HT)(K:TD->HT->R):R:=
 match qP st.caps&&noRF st.assign&&noRF st.body with
 |false=>A.fail
 |true=>ucSs A (st.caps.map (·.2)) vs λxs r=>A.uc0 r (unSs A (st.params.map (·.2)) ls λys r=>A.un0 r (
  exec A { X with pts:=[] } Sg dr st.assign ⟨eR st.nt st.params ys (eR st.nt st.caps xs (List.replicate st.nt .no)),[]⟩ h
   (λev h=>A.lp1 l h λh=>exec A { X with pts:=[] } Sg dr st.body ev h
    (λ_ h=>A.lp2 l none h λh=>K [.b true] h)
    λe _ h=>match e with
     | .ret=>A.lp2 l (some .ret) h λh=>K [.b false] h
     | .exit id=>A.lp2 l (some (.exit id)) h λh=>K [.b false] h
     |_=>A.fail)
   λ_ _ _=>A.fail))
end
inductive An where
 |r (hs:List (TI)) (j:Option Live)
 |c (j:Option Live)
 |b (j:Option Live)
 |l (lv:Live)
 |f (κ:Nat) (ids:TA)
abbrev lv:SK:=.leaf .v
abbrev lb:SK:=.leaf .b
abbrev li:SK:=.leaf (.i .i64)
def rV:Code->List An->AC×List An
 | .skip,l=>(.skip,l)
 | .ret,l=>(.ret,l)
 | .exit id,l=>(.exit id,l)
 | .label n,l=>(.label n,l)
 | .seq a b,l=>
  let x:=rV a l
  let y:=rV b x.2
  (.seq x.1 y.1,y.2)
 | .scope b,l=>
  let x:=rV b l
  (.scope x.1,x.2)
 | .region id ops draw,.r hs j :: l=>(.region id ops draw hs j,l)
 | .cond c a b,.c j :: l=>
  let x:=rV a l
  let y:=rV b x.2
  (.cond c x.1 y.1 j,y.2)
 | .block id b,.b j :: l=>
  let x:=rV b l
  (.block id x.1 j,x.2)
 | .loop b,.l lv :: l=>
  let x:=rV b l
  (.loop x.1 lv,x.2)
 | .rangeFunc f _ _ _,.f κ ids :: l=>(.rangeFunc f κ ids,l)
 |_,l=>(.exit 1000000,l)
def codeOf(P:TE)(f:TM):Code:=((P.funcs[f]?).bind (·.body)).getD .skip
def fn1(P:TE)(f:TM)(sg:Sig)(an:List An):Fn1:=
 match P.funcs[f]? with
 |some fn=>⟨sg,fn.ntmps,fn.results.toList,(rV (codeOf P f) an).1⟩
 |none=>⟨sg,0,[],.skip⟩
abbrev g00:SK:=.agg [.i .i64,.i .i64,.i .u8]
abbrev g01:SK:=.agg [.i .i64,.i .u8,.i .u8]
abbrev g02:SK:=.leaf (.i .u8)
abbrev g03:SK:=.agg [.i .i64,.i .i64]
abbrev g04:SK:=.agg [.i .u8,.i .i64,.i .i64]
abbrev g05:SK:=.leaf (.i .u64)
abbrev g06:SK:=.agg [.i .i64,.i .i64,.i .i64,.i .i64]
abbrev g07:SK:=.agg [.i .i64,.i .i64,.v]
abbrev g08:SK:=.agg [.i .i64,.i .u8]
abbrev g09:SK:=.agg [.i .u8,.i .i64]
abbrev g010:SK:=.agg [.i .i64,.i .i64,.i .u8,.i .i64,.b,.b,.b,.b,.b,.b,.b,.b,.b,.b,.b,.b]
abbrev g011:SK:=.agg [.i .u8,.i .u8,.v]
abbrev g012:SK:=.agg [.b,.b,.b,.b,.b,.b,.b,.b,.b,.b,.b,.b]
abbrev g013:SK:=.agg [.i .i64,.i .i64,.i .u8,.i .i64,.i .i64,.i .i64,.i .u8,.i .i64,.i .i64,.i .u8,.i .i64,.i .i64,.i .u8,.i .i64,.i .i64,.i .i64,.i .i64]
abbrev r0r:An:=.r [] none
abbrev c0c:An:=.c none
abbrev b0b:An:=.b none
abbrev rN(x:List (TI)):An:=.r x none
open Go.Proofs
def gl2:Tl:=[.int .i64 1,.int .i64 0,.int .i64 0,.int .i64 1,.int .i64 0,.int .i64 (-1),.int .i64 1,.int .i64 0,.int .i64 (-1),.int .i64 0,.int .i64 0,.int .i64 (-1),.int .i64 0,.int .i64 1,.int .i64 (-1),.int .i64 0,.int .i64 (-1),.int .i64 0,.int .i64 0,.int .i64 1,.int .i64 0,.int .i64 (-1),.int .i64 (-1),.int .i64 0,.int .i64 1,.int .i64 0,.int .i64 0,.int .i64 (-1),.int .i64 0,.int .i64 1,.int .i64 1,.int .i64 0]
def gl3:Tl:=[.int .i64 0,.int .i64 (-1),.int .u8 2,.int .i64 0,.int .i64 0,.int .i64 (-1),.int .u8 2,.int .i64 0,.int .i64 0,.int .u8 1,.int .i64 0,.int .i64 0,.int .u8 3,.int .i64 0,.int .i64 0,.int .i64 2,.int .i64 0,.int .i64 1,.int .i64 0,.int .u8 1,.int .i64 1,.int .i64 1,.int .i64 0,.int .u8 3,.int .i64 0,.int .i64 0,.int .u8 0,.int .i64 0,.int .i64 0,.int .u8 2,.int .i64 2,.int .i64 2,.int .i64 2,.int .i64 0,.int .i64 0,.int .i64 1,.int .u8 2,.int .i64 1,.int .i64 0,.int .i64 1,.int .u8 0,.int .i64 0,.int .i64 0,.int .u8 3,.int .i64 0,.int .i64 0,.int .u8 1,.int .i64 2,.int .i64 2,.int .i64 0,.int .i64 2,.int .i64 (-1),.int .i64 0,.int .u8 1,.int .i64 0,.int .i64 (-1),.int .i64 0,.int .u8 1,.int .i64 0,.int .i64 0,.int .u8 2,.int .i64 0,.int .i64 0,.int .u8 0,.int .i64 0,.int .i64 0,.int .i64 0,.int .i64 2]
def gl1:Tl:=[.int .i64 1,.int .i64 0,.int .i64 0,.int .i64 1,.int .i64 (-1),.int .i64 0,.int .i64 0,.int .i64 (-1)]
def gl0:Tl:=[.slice (some ⟨1000000,0,some 1⟩) 1 0,.slice (some ⟨1000001,0,some 1⟩) 3 0,.slice (some ⟨1000002,0,some 1⟩) 2 0,.slice (some ⟨1000003,0,some 1⟩) 3 0]
def gl4:Tl:=[.int .u8 1]
def gl5:Tl:=[.int .u8 2,.int .u8 4,.int .u8 1]
def gl6:Tl:=[.int .u8 2,.int .u8 1]
def gl7:Tl:=[.int .u8 2,.int .u8 3,.int .u8 1]
def glx(g:Nat):Option (Tl):=match Nat.beq g 1000000,Nat.beq g 1000001,Nat.beq g 1000002,Nat.beq g 1000003 with
 |true,_,_,_=>some gl4
 |_,true,_,_=>some gl5
 |_,_,true,_=>some gl6
 |_,_,_,true=>some gl7
 |_,_,_,_=>none
def ptsTab:List (TA):=[
 [],
 [],
 [0],
 [0,3,0,0,0,0,8],
 [0,0,0,0,6,7,0,0,0,11,0,0,0,0,0,0,0,0,0,0,0,0,0,0,0,7,0,0,0,0,0,0,0,0,0,0,0,0,0,0,0,0,0,0,0,0,0,0,0,0,0,0,0,0,0,0,0,0,0,0,0,0,0,0,0,0,0,0,0,0,0,0,0,0,0,0,0,0,0,0,0,0,0,0,0,0,0,0,0,0,0,0,0,0,0,0,0,0,0,0,0,0,0,0,0,0,0,0,0,0,0,0,0,0,0,0,7,0,0,0,0,0,7,7,0,0,0,0,7,0,0,0,0,0,0,0,7,0,7],
 [0,3,0,0,0,7,3,0,0,0,0,3,0,0,0,0,0,0,0,3,0,0,0,0,0,0,0,0,0,0,0,0,0,0,0,3,0,0,0,0,0,0,0,0,0,0,0,3,0,0,0,0,0,0,7,0,0,7,0,0,7,0,0,7,0,0,7,0,0,7,0,0,7,0,0,7],
 [0],
 [0,0,0,5],
 [0,0,0,0,0,7,0,0,0,0,0,0,0,0,0,0,0,0,0,0,0,0,0,0,0,0,0,7,0,0,0,0,0,0,0,0,0,0,0,0,0,0,0,0,0,0,7,0,0,0,0,0,0,0,0,0,7],
 [0],
 [0],
 [0,0,0,0,6,0,0,0,0,0,0,0,0,0,0,17,6,0,6],
 [0,0,0,0,0,0,0,0,10],
 [0],
 [],
 [0,0,0,0,0,0,0,0,0,11,0,0,0,15,0,0,0,0,0,0,22,0,24,0,0,0,0,0,0,0,0,0,0,0,0,0,0,0,0,0,0,0,11,0,0,0,0,0,0,0,0,0,0,0,0,0,0,0,0,0,0,0,15,0,15,0,0,0,0,0,0,0,0,0,0,0,0,0,0,0,0,0,0,0,0,0,15,15,0,15,15,0,15,0,0,0,0,0,0,0,0,0,0,0,0,0,0,0,0,0,0,15,0,0,0,0,0,0,15,0,0,0,0,0,0,0,0,0,0,0,24],
 [0],
 [0],
 [0,0,0,5],
 [0,0,4,5,0,4,0,5,0,0,4,0,5,0,0,4,0,5,0,0,4,0,5,0,0,4,0,5],
 [0,0,0,0,0,7,0,0,0,0,0,0,0,0,7,0,7],
 [0,0,0,0,0,0,8,0,10,0,0,0,0,0,0,0,0,0,0,0,0,0,0,0,0,0,0,0,0,0,1,0,0,0,0,0,0,0,0,0,0,0,0,0,0,0,1],
 [0,0,4,0,6,4,0,0,1,1,0,0,4,0,0,1,1],
 [0],
 [0,0,0,0,0,0,0,0,0,11],
 [0,0,0,5],
 [0],
 [0],
 [0],
 [0],
 [0,0,4,5,0,4,0,5,0,0,4,0,5,0,0,4,0,0,5],
 [0,0,0,5],
 [0],
 [0,0,0,0,6],
 [0],
 [0],
 [0,0,0,0,6,0,8],
 [0],
 [0,0,0,5],
 [0],
 [0],
 [0],
 [0,3],
 [0,3,0,3,0,0,0,3,0,0,0,0,3,0,0,0,0,3,0,0,0,0,3],
 [0,0,0,0,6,0,0,0,0,0,0,0,6,0,6],
 [0],
 [0],
 [0,0,4,0,0,0,8,0,0,0,0,0,0,0,0,0,0,0,0,0,0,0,0,0,0,0,0,0,0,0,0,8,0,0,0,0,0,0,0,0,0,0,0,0,8,0,0,0,0,0,0,0,0,8,0,0,0,0,0,0,0,0,8,0,0,0,0,0,0,0,8,0,0,0,0,0,0,0,0,0,0,0,0,8,0,0,0,8,0,0,8,0,0,8],
 [2],
 [0,3,4,0,0,0,0,0,3,0,0,0,3,0,0,0,0,0,3,0,0,0,0,0,3,0,3,0,0,3,0,0,3],
 [0,0,4,5],
 [0],
 [0],
 [0],
 [0],
 [0],
 [0],
 [0],
 [0],
 [0],
 [0,0,4,5,0,4,0,5,0,0,0,4,0,0,0,5],
 [0],
 [0,3,0,3,0,0,0,3,0,0,0,0,3,0,0,0,0,3],
 [0,0,4,5,0,0,0,0,0,0,0,0,14,15,0,0,0,0,0,0,0,0,0,0,0,0,0,0,0,0,0,0,0,0,0,0,0,0,0,0,0,0,4],
 [0],
 [0],
 [0],
 [0],
 [0],
 [0,3,0,0,0,7,8,0,0,3,0,0,0,0,0,3,0,0,3,0,0,0,0,0,0,0,3,0,7,0,7,0,0,0,0,0,0,0,0,0,0,0,0,0,0,3,0,0,0,0,0,3,0,0,0,0,0,0,3],
 [0,3,0,3,0,0,0,0,3,0,0,0,0,3,0,0,0,0,3,0,3],
 [0,0,0,0,0,0,0,0,0,0,0,0,0,15],
 [0,0,4,0,6],
 [0,0,4,5,6,0,0,0,0,0,0,0,0,0,0,0,0,0,5,0,1,0,4,0,4,0,0,0,0,4,0,1,0,5,0,1,0,0,0,0,5,0,0,0,5],
 [0,0,4,5,6,0,8],
 [0],
 [0],
 [0],
 [0],
 [0],
 [0],
 [0],
 [0],
 [],
 [0],
 [],
 [0],
 [0],
 [0],
 [0],
 [0],
 [0],
 [0],
 [0],
 [0,3,0,3,0,0,0,3,0,0,0,0,3,0,0,0,0,3,0,0,0,0,3,0,3],
 [0],
 [0,3,0,3],
 [0],
 [0,0,0,5,0,0,8],
 [0,3,4,3,0,3],
 [0,0,4,5,0,4,0,5,0,0,4,0,5,0,0,4,0,0,5],
 [0],
 [0,3,0,0,0,7,3,0,0,0,3,0,0,0,0,0,0,0,7,0,7],
 [0,3,0,0,0,0,3,0,0,3],
 [0,0,0,0,0,0,0,9,10,0,12,0,14,0,16],
 [0,0,4,5,6,0,8,0,0,0,0,0,0,0,0,0,0,0,0,5],
 [0,0,0,5,0,0,0,0,10,0,12],
 [0,0,4,0,0,0,0,0,0,4,0,0,4],
 [0,0,4,0,6,0,0,4,0,0,0,0,4],
 [0,0,0,5,0,0,0,0,5,0,0,0,5,0,0,0,0,5,0,0,0,5],
 [0,3,4],
 [0,3,0,0,6],
 [0,0,4,5,6,0,0,0,0,0,0,4,0,4,0,0,0,0,0,0,4,0,4],
 [0,0,4,5,6,7,8,9,0,11,0,0,5,0,1,1,0,0,0,0,0,0,0,4,4,0,0,0,0,0,0,7,0,7,0,0,0,0,7,0,7,0,0,0,0,0,0,0,0,0,0,11,0,0,0,0,0,9],
 [],
 [0],
 [0],
 [0],
 [0],
 [],
 [0],
 [0],
 [0],
 [0,0,4,5,6,0,0,9,0,0,0,0,0,0,0,0,0,5,0,5,0,0,0,0,0,0,0,0,0,0,0,0,0,5],
 [0,0,4,0,6,0,8,9,0,0,0,0,0,0,0,0,4,0,1,0,8,0,4,0,8,0,0,0,0,0,0,4,0,4,0,0,0,0,0,0,0,4,0,4,0,0,0,0,8,0,0,4,0,8,0,0,9],
 [0,0,4,0,6,0,8,0,0,0,0,0,0,0,0,4,0,0,1,1,1,0,8,0,4,0,0,8,0,4,0,0,8,8],
 [0,0,4,5,0,0,0,0,0,0,0,0,0,0,0,0,5,0,0,0,0,5,0,4,0,0,0,0,5,0,0,0,0,5,0,4,0,0,0,5,0,4,0,0,5,0,0,0,5],
 [0,3,4,3,0,0,0,3],
 [0,0,4,5,6,0,0,0,10,0,0,0,0,0,0,0,0,0,0,4,0,1,0,5,0,5,0,0,0,0,0,4,0,0,0,0,4],
 [0],
 [0],
 [0,3,0,3,0,0,0,3,0,0,0,0,3,0,0,0,0,3],
 [],
 [],
 [],
 [],
 [],
 [],
 [],
 [],
 [],
 [],
 [],
 [],
 [],
 [],
 [],
 [],
 [],
 [],
 [],
 [],
 [],
 [],
 [],
 [],
 []]
def cc:Cfg where
 P:=Tryz.prog
 G:=λg=>match g with
  |2=>some gl2
  |3=>some gl3
  |1=>some gl1
  |0=>some gl0
  |g=>glx g
 opq:=λf=>Nat.beq f 40
 pts:=λf=>ptsTab.getD f []
def ab:TM->Option Sig
 |2=>some ⟨[],[]⟩
 |3=>some ⟨[g011],[lb]⟩
 |4=>some ⟨[lv,g011,.agg [.v,.i .i64,.i .i64,.i .u8]],[lb]⟩
 |5=>some ⟨[g011],[lv]⟩
 |6=>some ⟨[lv],[lv]⟩
 |7=>some ⟨[lv],[lv,g00,li]⟩
 |8=>some ⟨[lv,lv,g00],[lb,li]⟩
 |9=>some ⟨[lv],[li,li]⟩
 |10=>some ⟨[lv],[li,li]⟩
 |11=>some ⟨[lv,g00,lv],[lv,lb]⟩
 |12=>some ⟨[],[lb]⟩
 |13=>some ⟨[lv],[li]⟩
 |15=>some ⟨[lv],[li,li]⟩
 |16=>some ⟨[lv],[li]⟩
 |17=>some ⟨[lv],[li]⟩
 |18=>some ⟨[lv,g00],[lb]⟩
 |19=>some ⟨[g00,g00],[lb]⟩
 |20=>some ⟨[lv],[lv]⟩
 |21=>some ⟨[g00,lv,lv,lv,lv,lv],[]⟩
 |22=>some ⟨[g00,li],[g00]⟩
 |23=>some ⟨[lv],[lv]⟩
 |24=>some ⟨[lv],[lv,li]⟩
 |25=>some ⟨[lv,g00],[lb]⟩
 |26=>some ⟨[lv,lv],[lb]⟩
 |27=>some ⟨[g02],[lb]⟩
 |28=>some ⟨[lv],[lv]⟩
 |29=>some ⟨[lv],[lb]⟩
 |30=>some ⟨[g00,g00],[li]⟩
 |31=>some ⟨[lv,g00],[li]⟩
 |32=>some ⟨[lv,lb],[lb]⟩
 |33=>some ⟨[g00,lv,lv,lv],[]⟩
 |34=>some ⟨[lv,lv],[lb]⟩
 |35=>some ⟨[g02],[lb]⟩
 |36=>some ⟨[lv],[lv,li]⟩
 |37=>some ⟨[lv],[lv,li]⟩
 |38=>some ⟨[lv,g00],[lb]⟩
 |39=>some ⟨[lv,lv],[lb]⟩
 |40=>some ⟨[lv],[lv]⟩
 |41=>some ⟨[lv,lv],[lb]⟩
 |42=>some ⟨[g00],[lb]⟩
 |43=>some ⟨[g00],[li]⟩
 |44=>some ⟨[lv],[li]⟩
 |45=>some ⟨[lv,lb],[li]⟩
 |46=>some ⟨[lv,lv],[li]⟩
 |47=>some ⟨[lv],[g07,li]⟩
 |48=>some ⟨[],[g04]⟩
 |49=>some ⟨[g09],[g04,li]⟩
 |50=>some ⟨[g07,g04],[lv,li]⟩
 |51=>some ⟨[lv],[lv]⟩
 |52=>some ⟨[lv,lv],[]⟩
 |53=>some ⟨[lv],[lv]⟩
 |54=>some ⟨[lv],[lv]⟩
 |55=>some ⟨[lv,g02],[lv]⟩
 |56=>some ⟨[lv],[lv]⟩
 |57=>some ⟨[lv,lv],[li]⟩
 |58=>some ⟨[li,li],[li]⟩
 |59=>some ⟨[lv,lv],[]⟩
 |60=>some ⟨[g01,g01],[li]⟩
 |61=>some ⟨[lv],[lv]⟩
 |62=>some ⟨[g09],[li]⟩
 |63=>some ⟨[g07,g04],[lv,lv,li]⟩
 |64=>some ⟨[lv,li,li,li,lv],[]⟩
 |65=>some ⟨[g05],[li]⟩
 |66=>some ⟨[lv],[]⟩
 |67=>some ⟨[li],[lb]⟩
 |68=>some ⟨[lv,li,li,li,lv],[]⟩
 |69=>some ⟨[g07],[li]⟩
 |70=>some ⟨[g04],[li]⟩
 |71=>some ⟨[g07],[lv,li]⟩
 |72=>some ⟨[g03,li],[g00,li]⟩
 |73=>some ⟨[g04,g04],[g04,li]⟩
 |74=>some ⟨[g04,g00],[g00,li]⟩
 |75=>some ⟨[lv,li,li,lv],[]⟩
 |76=>some ⟨[lv,li,li,lv],[]⟩
 |77=>some ⟨[lv,li,li,lv],[]⟩
 |78=>some ⟨[lv,li,li,lv],[li,li]⟩
 |79=>some ⟨[lv,li,li,lv],[]⟩
 |80=>some ⟨[lv,li,li,lv],[lb]⟩
 |81=>some ⟨[lv,li,li,li,lv],[li]⟩
 |82=>some ⟨[lv,li,li,li,lv],[li,lb]⟩
 |84=>some ⟨[g05],[li]⟩
 |86=>some ⟨[lv,li,li,lv],[]⟩
 |87=>some ⟨[lv,li,li,lv],[]⟩
 |88=>some ⟨[lv,li,li,lv],[]⟩
 |89=>some ⟨[lv,li,li,lv],[li,li]⟩
 |90=>some ⟨[lv,li,li,lv],[]⟩
 |91=>some ⟨[lv,li,li,lv],[lb]⟩
 |92=>some ⟨[lv,li,li,li,lv],[li]⟩
 |93=>some ⟨[lv,li,li,li,lv],[li,lb]⟩
 |94=>some ⟨[g03],[li]⟩
 |95=>some ⟨[lv,lv],[lb]⟩
 |96=>some ⟨[g01],[lb]⟩
 |97=>some ⟨[g02],[lb]⟩
 |98=>some ⟨[g03,li,g02],[g08,li]⟩
 |99=>some ⟨[g01],[g08]⟩
 |100=>some ⟨[g08,g08],[li]⟩
 |101=>some ⟨[li],[lb]⟩
 |102=>some ⟨[g07],[lv]⟩
 |103=>some ⟨[g03],[li]⟩
 |104=>some ⟨[li,g02,lv,lv,lv],[g04]⟩
 |105=>some ⟨[g03,g08],[g09,li]⟩
 |106=>some ⟨[g03,li,g02],[li,li]⟩
 |107=>some ⟨[g03,li],[lb]⟩
 |108=>some ⟨[g03,li],[g00]⟩
 |109=>some ⟨[g06,li,li],[li,li]⟩
 |110=>some ⟨[g04],[g04,li]⟩
 |111=>some ⟨[g06],[g02]⟩
 |112=>some ⟨[g06,g06],[g06]⟩
 |113=>some ⟨[g04,g00],[g00]⟩
 |115=>some ⟨[li],[g05]⟩
 |116=>some ⟨[lv],[g05]⟩
 |117=>some ⟨[lv,li,lv,lv],[li]⟩
 |118=>some ⟨[lv,li,li,li,lv,lv],[li]⟩
 |120=>some ⟨[lv,li,lv,lv],[li]⟩
 |121=>some ⟨[lv,li,li,li,lv,lv],[li]⟩
 |122=>some ⟨[lv,lv],[li]⟩
 |123=>some ⟨[g03,g08],[g00,li]⟩
 |124=>some ⟨[g00,g02],[g09,li]⟩
 |125=>some ⟨[g00,g02],[g00,li]⟩
 |126=>some ⟨[g03,g00],[li,li]⟩
 |127=>some ⟨[g00],[g03]⟩
 |128=>some ⟨[g04,g03],[g03,li]⟩
 |129=>some ⟨[lv,li,li,lv,lv],[li,li]⟩
 |130=>some ⟨[lv,li,li,lv,lv],[li,li]⟩
 |131=>some ⟨[g03],[li]⟩
 |_=>none
def an3:List An:=[r0r,rN [[g011]],r0r,r0r,rN [[],[],[g00]],r0r,r0r,rN [[],[],[],[],[],[],[],[],[],[],[],[],[],[],[],[],[],[],[],[],[],[],[],[],[],[],[],[],[],[],[],[],[],[],[],[],[],[],[],[g00],[],[],[g00]],c0c,r0r,rN [[],[g00]],.r [] (some ⟨[(2,lb)],[]⟩)]
def an5:List An:=[r0r,rN [[],[g02],[],[],[],[],[g02]],r0r,.b (some ⟨[(3,lv)],[]⟩),.l ⟨[(3,lv),(4,li)],[]⟩,rN [[],[],[lv]],c0c,b0b,rN [[],[],[lv],[],[],[],[g02],[],[],[],[],[],[g00]],rN [[],[lv],[],[],[],[g02]],b0b,r0r,.c (some ⟨[],[(5,[.i .i64,.i .i64,.i .u8])]⟩),rN [[],[li]],r0r,.c (some ⟨[],[(5,[.i .i64,.i .i64,.i .u8])]⟩),rN [[],[li]],r0r,.c (some ⟨[],[(5,[.i .i64,.i .i64,.i .u8])]⟩),rN [[],[li]],rN [[],[li]],rN [[],[g00]],.c (some ⟨[(3,lv)],[]⟩),rN [[],[g00]],r0r,r0r]
def an6:List An:=[r0r,r0r,r0r,b0b,.l ⟨[(3,lv),(4,li)],[]⟩,r0r,c0c,b0b,r0r,b0b,.l ⟨[(3,lv),(5,g02)],[]⟩,r0r,c0c,b0b,rN [[],[],[],[],[],[li],[],[],[],[],[li]],r0r,r0r,r0r,b0b,.l ⟨[(6,li)],[]⟩,r0r,c0c,b0b,r0r,.b (some ⟨[],[]⟩),.l ⟨[(7,li)],[]⟩,rN [[],[],[],[],[],[],[g00],[],[],[],[],[g00]],c0c,b0b,rN [[],[],[],[],[],[],[],[],[],[g00],[],[],[],[g00]],r0r,r0r,r0r]
def an7:List An:=[r0r,r0r,r0r,c0c,r0r,r0r,rN [[],[],[],[li],[],[],[],[li]],r0r,r0r,r0r,r0r,rN [[lv],[g00]],rN [[lv],[li]],rN [[lv]],r0r,c0c,r0r,rN [[lv],[g00]]]
def an8:List An:=[r0r,r0r,r0r,c0c,r0r,r0r,b0b,r0r,c0c,r0r,rN [[],[g02],[],[],[],[g00]],c0c,r0r,r0r,b0b,.l ⟨[(38,li)],[]⟩,r0r,c0c,b0b,r0r,rN [[],[],[],[],[li],[],[li]],rN [[],[],[],[],[li],[],[li]],r0r,r0r]
def an9:List An:=[r0r,r0r,r0r,c0c,r0r,r0r,r0r,b0b,.l ⟨[(5,li),(15,li)],[]⟩,r0r,c0c,b0b,rN [[],[g02]],r0r,.c (some ⟨[(5,li)],[]⟩),r0r,r0r,r0r]
def an10:List An:=[r0r,r0r,r0r,c0c,r0r,r0r]
def an11:List An:=[r0r,r0r,rN [[],[li],[],[li]],r0r,.b (some ⟨[(8,lv)],[]⟩),.l ⟨[(8,lv),(9,li),(10,li),(11,li),(12,li)],[]⟩,r0r,c0c,b0b,rN [[],[],[],[],[],[],[],[g02]],.c (some ⟨[(8,lv)],[]⟩),r0r,rN [[],[],[],[],[],[],[],[],[g02]],.c (some ⟨[(13,lv)],[]⟩),r0r,rN [[],[],[],[],[],[],[],[],[g02]],.c (some ⟨[(13,lv)],[]⟩),r0r,r0r,b0b,.l ⟨[(8,lv),(14,li)],[]⟩,r0r,c0c,b0b,rN [[],[],[],[],[],[],[li]],rN [[],[g00]],c0c,r0r,rN [[],[g00]],.c (some ⟨[(8,lv)],[]⟩),rN [[],[g00]],r0r,r0r,c0c,rN [[],[],[],[g02]],b0b,r0r,.c (some ⟨[(9,li),(10,li),(11,li)],[]⟩),rN [[],[],[],[],[li]],rN [[],[],[],[],[li]],r0r,.c (some ⟨[(11,li)],[]⟩),r0r,r0r,.c (some ⟨[(11,li)],[]⟩),r0r,r0r,r0r,r0r]
def an12:List An:=[r0r,r0r,r0r,r0r,r0r,r0r,b0b,.l ⟨[(5,li)],[]⟩,r0r,c0c,b0b,rN [[],[],[],[lv]],r0r,r0r,r0r,rN [[],[],[g00]],rN [[],[],[],[],[],[],[],[],[],[],[],[],[],[],[],[],[],[],[],[],[],[],[],[],[lv],[],[],[],[],[],[],[],[li],[],[],[],[],[],[],[],[li],[],[],[],[g00]],c0c,r0r,r0r,r0r]
def an13:List An:=[r0r,b0b,r0r,c0c,r0r,r0r,c0c,r0r,r0r,b0b,.l ⟨[(3,li)],[]⟩,r0r,c0c,b0b,rN [[],[],[],[],[g00],[],[],[],[g00]],c0c,r0r,r0r,r0r]
def an15:List An:=[r0r,r0r,b0b,r0r,c0c,r0r,r0r,c0c,r0r,r0r,r0r,r0r,b0b,.l ⟨[(7,lv),(38,li)],[]⟩,r0r,c0c,b0b,rN [[],[g00]],rN [[],[g02]],.c (some ⟨[(7,lv)],[]⟩),rN [[],[g00]],r0r,r0r,b0b,.l ⟨[(7,lv),(10,li)],[]⟩,b0b,r0r,r0r,b0b,.l ⟨[(11,lv),(55,li)],[]⟩,r0r,c0c,b0b,rN [[],[g010]],r0r,b0b,.l ⟨[(11,lv),(59,li)],[]⟩,r0r,c0c,b0b,r0r,rN [[],[g012]],rN [[],[li]],r0r,r0r,b0b,r0r,.c (some ⟨[(17,lv),(16,li)],[]⟩),r0r,r0r,r0r,.c (some ⟨[(17,lv),(16,li)],[]⟩),r0r,r0r,r0r,b0b,.l ⟨[(82,li)],[]⟩,r0r,c0c,b0b,rN [[],[li]],rN [[],[],[li],[],[],[li],[],[li]],rN [[],[g00]],r0r,r0r,c0c,r0r,rN [[],[g00],[],[],[],[g012],[],[],[g00],[],[],[],[g012]],b0b,.l ⟨[(11,lv),(126,li)],[]⟩,r0r,c0c,b0b,rN [[g010]],rN [[],[],[g00],[],[],[],[g010],[lb]],.c (some ⟨[(11,lv)],[]⟩),rN [[],[g010]],rN [[],[g010]],r0r,r0r,r0r,r0r,r0r]
def an16:List An:=[r0r,r0r,r0r,c0c,r0r,r0r,c0c,r0r,r0r,rN [[lv]],c0c,r0r,r0r,r0r,r0r,rN [[lv],[],[],[],[li],[],[],[],[li]],rN [[lv],[],[lv]],c0c,r0r,r0r]
def an17:List An:=[r0r,r0r,c0c,r0r,r0r,r0r,b0b,.l ⟨[(3,li),(10,li)],[]⟩,r0r,c0c,b0b,rN [[],[],[g02]],rN [[],[],[],[],[],[],[],[],[],[],[],[g02]],.c (some ⟨[],[]⟩),r0r,r0r,.c (some ⟨[(3,li)],[]⟩),r0r,r0r,r0r,c0c,r0r,r0r]
def an18:List An:=[r0r,r0r,b0b,.l ⟨[(5,li)],[]⟩,r0r,c0c,b0b,rN [[],[],[],[g00],[g00]],c0c,r0r,r0r,r0r]
def an19:List An:=[r0r,rN [[],[li],[],[li]],c0c,rN [[],[li],[],[li]],rN [[],[li],[],[li]],c0c,rN [[],[li],[],[li]],rN [[],[g02],[],[g02]]]
def an20:List An:=[r0r,r0r,r0r,b0b,.l ⟨[(9,li)],[]⟩,r0r,c0c,b0b,rN [[],[g00]],rN [[],[],[li],[],[li]],r0r,r0r]
def an21:List An:=[r0r,rN [[lv],[g00]],rN [[lv]],r0r,b0b,.l ⟨[(14,li)],[]⟩,r0r,c0c,.b (some ⟨[],[]⟩),r0r,rN [[g00]],rN [[lv],[g00],[lb]],c0c,rN [[lv],[],[li],[],[],[],[],[lv]],r0r,rN [[lv],[g00]],r0r,rN [[lv],[],[li],[],[],[],[],[lv]],r0r,r0r]
def an22:List An:=[r0r,rN [[],[li],[],[],[],[li],[],[],[li],[],[],[],[li]]]
def an23:List An:=[r0r,r0r]
def an24:List An:=[r0r,r0r,r0r,c0c,r0r,r0r,r0r,r0r,b0b,.l ⟨[(7,lv),(21,li)],[]⟩,r0r,c0c,b0b,rN [[],[g00]],rN [[],[g00],[lb]],.c (some ⟨[(7,lv)],[]⟩),rN [[],[g00]],rN [[],[g00]],r0r,r0r]
def an25:List An:=[r0r,rN [[],[g00]]]
def an26:List An:=[r0r,r0r]
def an27:List An:=[r0r,.r [] (some ⟨[(2,lb)],[]⟩)]
def an28:List An:=[r0r,r0r]
def an29:List An:=[r0r,r0r]
def an30:List An:=[r0r,rN [[],[li],[],[li],[],[],[li],[],[li],[],[],[g02],[],[],[g02]]]
def an31:List An:=[r0r,r0r,b0b,.l ⟨[(8,li)],[]⟩,r0r,c0c,b0b,r0r,rN [[g00],[],[],[],[g00]],c0c,r0r,r0r,r0r]
def an32:List An:=[r0r,r0r]
def an33:List An:=[r0r,rN [[lv],[g00],[lb],[],[],[lv],[g00],[lb]],c0c,rN [[lv],[g00]],r0r,b0b,.l ⟨[(17,li)],[]⟩,r0r,c0c,b0b,r0r,rN [[lv],[g00]],r0r]
def an34:List An:=[r0r,r0r]
def an35:List An:=[r0r,.r [] (some ⟨[(2,lb)],[]⟩)]
def an36:List An:=[r0r,r0r,r0r,c0c,r0r,r0r,rN [[],[],[],[],[],[],[g02]],.c (some ⟨[],[(6,[.i .u8,.i .i64,.i .i64])]⟩),r0r,rN [[g07],[g04]]]
def an37:List An:=[r0r,r0r,c0c,r0r,r0r,r0r,r0r,r0r,c0c,r0r,r0r]
def an38:List An:=[r0r,rN [[],[g00]]]
def an39:List An:=[r0r,r0r,c0c,r0r,r0r,b0b,.l ⟨[(13,li)],[]⟩,r0r,c0c,b0b,r0r,rN [[],[],[],[g00],[],[],[],[g00]],c0c,r0r,r0r,r0r]
def an41:List An:=[r0r,r0r]
def an42:List An:=[r0r,rN [[g00]]]
def an43:List An:=[r0r,rN [[],[li],[],[],[],[li],[],[],[],[],[li],[],[],[],[],[li],[],[],[],[],[g02]],c0c,r0r,r0r]
def an44:List An:=[r0r,r0r,b0b,.l ⟨[(8,li)],[]⟩,r0r,c0c,b0b,rN [[],[g03]],rN [[],[li],[],[li]],r0r,c0c,r0r,r0r,r0r]
def an45:List An:=[r0r,r0r,b0b,.l ⟨[(8,li)],[]⟩,r0r,c0c,b0b,r0r,rN [[],[],[],[],[lb]],c0c,r0r,r0r,r0r]
def an46:List An:=[r0r,r0r,b0b,.l ⟨[(8,li)],[]⟩,r0r,c0c,b0b,r0r,rN [[],[],[],[],[g02],[lb]],c0c,r0r,r0r,r0r]
def an47:List An:=[r0r,r0r,r0r,c0c,r0r,r0r,r0r,r0r,b0b,.l ⟨[(8,li),(7,lb),(26,li)],[(6,[.i .i64,.i .i64,.v])]⟩,r0r,c0c,.b (some ⟨[(8,li),(7,lb)],[(6,[.i .i64,.i .i64,.v])]⟩),rN [[],[g02]],r0r,r0r,.c (some ⟨[(11,g02)],[]⟩),r0r,b0b,r0r,c0c,r0r,r0r,.c (some ⟨[(8,li)],[(6,[.i .i64,.i .i64,.v])]⟩),rN [[],[lv]],r0r,r0r,.c (some ⟨[],[(6,[.i .i64,.i .i64,.v])]⟩),rN [[],[lv]],rN [[],[lv]],r0r,r0r,rN [[],[lv]],rN [[],[lv]],rN [[g07]]]
def an48:List An:=[r0r,r0r]
def an49:List An:=[r0r,rN [[g09]],c0c,r0r,rN [[],[g02]],b0b,r0r,c0c,rN [[],[li]],r0r,c0c,rN [[],[li]],r0r,c0c,rN [[],[li],[],[li]],rN [[],[li],[],[],[li]]]
def an50:List An:=[r0r,rN [[g07],[g04]],r0r]
def an51:List An:=[r0r,r0r,c0c,r0r,r0r]
def an52:List An:=[r0r,r0r]
def an53:List An:=[r0r,r0r,c0c,r0r,r0r,b0b,.l ⟨[(3,li)],[]⟩,r0r,c0c,b0b,rN [[],[],[],[g00],[],[],[],[],[g00]],c0c,r0r,r0r,b0b,.l ⟨[(3,li),(5,li)],[]⟩,r0r,c0c,b0b,rN [[],[],[],[g00],[],[],[],[],[g00]],.c (some ⟨[(3,li)],[]⟩),rN [[],[],[],[],[],[g00]],r0r,r0r,r0r,r0r,r0r,r0r]
def an54:List An:=[r0r,r0r]
def an57:List An:=[r0r,r0r,b0b,.l ⟨[(8,li)],[]⟩,r0r,c0c,b0b,r0r,rN [[],[],[],[],[g00],[lb]],c0c,r0r,r0r,r0r]
def an58:List An:=[r0r,r0r,r0r,r0r,c0c,r0r,c0c,r0r,r0r,r0r,c0c,r0r,r0r,c0c,r0r,r0r,c0c,r0r,r0r]
def an59:List An:=[r0r,r0r]
def an60:List An:=[r0r,rN [[],[li],[],[li],[],[],[],[g02],[],[],[],[g02]]]
def an61:List An:=[r0r,r0r]
def an62:List An:=[r0r,rN [[],[g02],[],[],[],[g02],[],[],[],[],[li],[],[],[],[],[li]],c0c,r0r,r0r]
def an63:List An:=[r0r,rN [[g07]],r0r,c0c,r0r,rN [[g04]],c0c,r0r,rN [[g07]],r0r,c0c,r0r,r0r,r0r,b0b,.l ⟨[(36,li)],[]⟩,r0r,c0c,b0b,rN [[],[],[g04]],rN [[],[g03]],rN [[],[],[g04],[g04]],r0r,c0c,r0r,rN [[],[],[],[],[],[g04],[g00]],r0r,c0c,r0r,r0r,r0r]
def an64:List An:=[r0r,r0r,b0b,.l ⟨[(3,li),(1,li),(11,lb),(10,lb),(2,li)],[]⟩,.b (some ⟨[(3,li),(1,li),(11,lb),(10,lb),(2,li)],[]⟩),r0r,r0r,c0c,r0r,r0r,c0c,r0r,r0r,.c (some ⟨[(3,li)],[]⟩),r0r,r0r,r0r,r0r,.c (some ⟨[(13,li),(14,li)],[]⟩),r0r,r0r,r0r,r0r,.c (some ⟨[],[]⟩),r0r,c0c,rN [[],[],[],[],[],[],[],[],[g00],[],[],[],[g00],[li]],.c (some ⟨[(1,li)],[]⟩),r0r,r0r,r0r,r0r,r0r,r0r,r0r,.c (some ⟨[(10,lb),(1,li),(2,li)],[]⟩),r0r,r0r,r0r,r0r,r0r,r0r]
def an65:List An:=[r0r,c0c,r0r,r0r]
def an67:List An:=[r0r,r0r]
def an68:List An:=[r0r,r0r,b0b,.l ⟨[(3,li),(1,li),(11,lb),(10,lb),(2,li)],[]⟩,.b (some ⟨[(3,li),(1,li),(11,lb),(10,lb),(2,li)],[]⟩),r0r,r0r,c0c,r0r,r0r,c0c,r0r,r0r,.c (some ⟨[(3,li)],[]⟩),r0r,r0r,r0r,r0r,.c (some ⟨[(13,li),(14,li)],[]⟩),r0r,r0r,r0r,r0r,.c (some ⟨[],[]⟩),r0r,c0c,rN [[],[],[],[],[],[],[],[],[g01],[],[],[],[g01],[li]],.c (some ⟨[(1,li)],[]⟩),r0r,r0r,r0r,r0r,r0r,r0r,r0r,.c (some ⟨[(10,lb),(1,li),(2,li)],[]⟩),r0r,r0r,r0r,r0r,r0r,r0r]
def an69:List An:=[r0r,rN [[],[g03]],r0r,c0c,r0r,rN [[],[lv]],c0c,r0r,rN [[],[lv]],b0b,.l ⟨[(21,li)],[]⟩,r0r,c0c,b0b,rN [[],[g01]],rN [[],[g03],[],[li],[],[g02]],rN [[],[],[],[g08],[g01]],c0c,r0r,r0r,r0r,b0b,.l ⟨[(8,li)],[]⟩,rN [[],[],[lv]],c0c,b0b,rN [[],[lv],[],[],[],[g01],[],[],[lv],[],[],[g01]],c0c,r0r,r0r,r0r]
def an70:List An:=[r0r,rN [[],[g02],[],[],[],[],[li],[],[],[],[],[li],[],[],[],[],[li],[],[li]],c0c,r0r,r0r]
def an71:List An:=[r0r,rN [[g07]],rN [[],[g03]],rN [[lv]],r0r,r0r,r0r,b0b,.l ⟨[(8,lv)],[]⟩,r0r,c0c,b0b,rN [[],[],[li]],r0r,r0r,b0b,.l ⟨[(8,lv),(35,g02)],[]⟩,r0r,c0c,.b (some ⟨[(8,lv)],[]⟩),r0r,rN [[],[g03]],r0r,c0c,rN [[],[],[],[g04]],rN [[],[],[],[lb]],.c (some ⟨[(8,lv)],[]⟩),rN [[lv],[],[],[],[g04]],r0r,rN [[lv],[],[],[g04],[g04]],c0c,r0r,r0r,rN [[lv]]]
def an72:List An:=[r0r,rN [[g03]],r0r,c0c,r0r,rN [[g03]],c0c,r0r,rN [[g03]]]
def an73:List An:=[r0r,rN [[g04],[],[],[],[g04]],c0c,r0r,rN [[],[g02],[],[g06],[],[li],[],[li]],rN [[],[g02],[],[g06],[],[g02],[],[g06],[],[],[],[],[li],[],[],[],[li]]]
def an74:List An:=[r0r,rN [[g04],[],[],[],[g00]],c0c,r0r,rN [[g04],[g00]],rN [[g00]],c0c,r0r,rN [[g00]]]
def an75:List An:=[r0r,b0b,.l ⟨[(8,li)],[]⟩,r0r,c0c,b0b,r0r,.b (some ⟨[],[]⟩),.l ⟨[(9,li)],[]⟩,rN [[],[],[],[],[],[],[],[],[g00],[],[],[],[],[g00],[li]],c0c,b0b,rN [[],[],[],[],[],[],[],[],[],[g00],[],[],[],[g00]],r0r,r0r]
def an77:List An:=[r0r,r0r,.c (some ⟨[],[]⟩),r0r,r0r,r0r,b0b,.l ⟨[(11,li)],[]⟩,r0r,c0c,b0b,r0r,r0r,.c (some ⟨[(12,li)],[]⟩),r0r,rN [[],[],[],[],[],[],[],[],[],[],[],[g00],[],[],[],[g00]],r0r]
def an78:List An:=[r0r,r0r,r0r,r0r,r0r,r0r,r0r,.c (some ⟨[(13,li)],[]⟩),r0r,.c (some ⟨[(12,li),(13,li),(14,li)],[]⟩),r0r,r0r,r0r,r0r,rN [[li]],b0b,r0r,c0c,r0r,r0r,c0c,r0r,r0r]
def an79:List An:=[r0r,r0r,b0b,.l ⟨[(8,li),(9,li)],[]⟩,r0r,c0c,b0b,rN [[],[],[],[],[],[],[],[g00],[],[],[],[g00]],r0r,r0r]
def an80:List An:=[r0r,r0r,r0r,b0b,.l ⟨[(9,li),(10,li)],[]⟩,r0r,c0c,b0b,.b (some ⟨[(9,li)],[]⟩),.l ⟨[(9,li)],[]⟩,rN [[],[],[],[],[],[],[],[],[g00],[],[],[],[],[g00],[li]],c0c,b0b,r0r,r0r,c0c,r0r,r0r,c0c,r0r,rN [[],[],[],[],[],[],[],[],[],[g00],[],[],[],[g00]],r0r,.c (some ⟨[],[]⟩),r0r,.b (some ⟨[],[]⟩),.l ⟨[(11,li)],[]⟩,r0r,c0c,b0b,rN [[],[],[],[],[g00],[],[],[],[],[g00],[li]],c0c,rN [[],[],[],[],[],[],[],[],[],[g00],[],[],[],[g00]],r0r,r0r,.c (some ⟨[],[]⟩),r0r,.b (some ⟨[],[]⟩),.l ⟨[(12,li)],[]⟩,r0r,c0c,b0b,rN [[],[],[],[],[g00],[],[],[],[],[g00],[li]],c0c,rN [[],[],[],[],[],[],[],[],[],[g00],[],[],[],[g00]],r0r,r0r,r0r]
def an81:List An:=[r0r,rN [[],[],[],[],[],[],[],[g00],[],[],[],[g00]],r0r,b0b,.l ⟨[(11,li),(12,li)],[]⟩,b0b,.b (some ⟨[(11,li)],[]⟩),.l ⟨[(11,li)],[]⟩,rN [[],[],[],[],[],[],[],[],[g00],[],[],[],[g00],[li]],c0c,b0b,r0r,.b (some ⟨[(12,li)],[]⟩),.l ⟨[(12,li)],[]⟩,rN [[],[],[],[],[],[],[],[],[g00],[],[],[],[g00],[li]],c0c,b0b,r0r,r0r,c0c,rN [[],[],[],[],[],[],[],[g00],[],[],[],[g00]],r0r,r0r,r0r]
def an82:List An:=[r0r,rN [[],[],[],[],[],[],[],[g00],[],[],[],[g00]],r0r,.b (some ⟨[(12,li)],[]⟩),.l ⟨[(12,li)],[]⟩,rN [[],[],[],[],[],[],[],[],[g00],[],[],[],[g00],[li]],c0c,b0b,r0r,.b (some ⟨[(13,li)],[]⟩),.l ⟨[(13,li)],[]⟩,rN [[],[],[],[],[],[],[],[],[g00],[],[],[],[g00],[li]],c0c,b0b,r0r,r0r,c0c,rN [[],[],[],[],[],[],[],[g00],[],[],[],[g00]],r0r,rN [[],[],[],[],[],[],[],[g00],[],[],[],[g00]],r0r,r0r,b0b,.l ⟨[(12,li),(13,li)],[]⟩,b0b,.b (some ⟨[(12,li)],[]⟩),.l ⟨[(12,li)],[]⟩,rN [[],[],[],[],[],[],[],[],[g00],[],[],[],[g00],[li]],c0c,b0b,r0r,.b (some ⟨[(13,li)],[]⟩),.l ⟨[(13,li)],[]⟩,rN [[],[],[],[],[],[],[],[],[g00],[],[],[],[g00],[li]],c0c,b0b,r0r,r0r,c0c,rN [[],[],[],[],[],[],[],[g00],[],[],[],[g00]],r0r,r0r,rN [[],[],[],[],[],[],[],[g00],[],[],[],[g00]],r0r]
def an84:List An:=[r0r,r0r,.c (some ⟨[(0,g05),(2,li)],[]⟩),r0r,r0r,r0r,.c (some ⟨[(0,g05),(2,li)],[]⟩),r0r,r0r,r0r,.c (some ⟨[(0,g05),(2,li)],[]⟩),r0r,r0r,r0r]
def an86:List An:=[r0r,b0b,.l ⟨[(8,li)],[]⟩,r0r,c0c,b0b,r0r,.b (some ⟨[],[]⟩),.l ⟨[(9,li)],[]⟩,rN [[],[],[],[],[],[],[],[],[g01],[],[],[],[],[g01],[li]],c0c,b0b,rN [[],[],[],[],[],[],[],[],[],[g01],[],[],[],[g01]],r0r,r0r]
def an88:List An:=[r0r,r0r,.c (some ⟨[],[]⟩),r0r,r0r,r0r,b0b,.l ⟨[(11,li)],[]⟩,r0r,c0c,b0b,r0r,r0r,.c (some ⟨[(12,li)],[]⟩),r0r,rN [[],[],[],[],[],[],[],[],[],[],[],[g01],[],[],[],[g01]],r0r]
def an89:List An:=[r0r,r0r,r0r,r0r,r0r,r0r,r0r,.c (some ⟨[(13,li)],[]⟩),r0r,.c (some ⟨[(12,li),(13,li),(14,li)],[]⟩),r0r,r0r,r0r,r0r,rN [[li]],b0b,r0r,c0c,r0r,r0r,c0c,r0r,r0r]
def an90:List An:=[r0r,r0r,b0b,.l ⟨[(8,li),(9,li)],[]⟩,r0r,c0c,b0b,rN [[],[],[],[],[],[],[],[g01],[],[],[],[g01]],r0r,r0r]
def an91:List An:=[r0r,r0r,r0r,b0b,.l ⟨[(9,li),(10,li)],[]⟩,r0r,c0c,b0b,.b (some ⟨[(9,li)],[]⟩),.l ⟨[(9,li)],[]⟩,rN [[],[],[],[],[],[],[],[],[g01],[],[],[],[],[g01],[li]],c0c,b0b,r0r,r0r,c0c,r0r,r0r,c0c,r0r,rN [[],[],[],[],[],[],[],[],[],[g01],[],[],[],[g01]],r0r,.c (some ⟨[],[]⟩),r0r,.b (some ⟨[],[]⟩),.l ⟨[(11,li)],[]⟩,r0r,c0c,b0b,rN [[],[],[],[],[g01],[],[],[],[],[g01],[li]],c0c,rN [[],[],[],[],[],[],[],[],[],[g01],[],[],[],[g01]],r0r,r0r,.c (some ⟨[],[]⟩),r0r,.b (some ⟨[],[]⟩),.l ⟨[(12,li)],[]⟩,r0r,c0c,b0b,rN [[],[],[],[],[g01],[],[],[],[],[g01],[li]],c0c,rN [[],[],[],[],[],[],[],[],[],[g01],[],[],[],[g01]],r0r,r0r,r0r]
def an92:List An:=[r0r,rN [[],[],[],[],[],[],[],[g01],[],[],[],[g01]],r0r,b0b,.l ⟨[(11,li),(12,li)],[]⟩,b0b,.b (some ⟨[(11,li)],[]⟩),.l ⟨[(11,li)],[]⟩,rN [[],[],[],[],[],[],[],[],[g01],[],[],[],[g01],[li]],c0c,b0b,r0r,.b (some ⟨[(12,li)],[]⟩),.l ⟨[(12,li)],[]⟩,rN [[],[],[],[],[],[],[],[],[g01],[],[],[],[g01],[li]],c0c,b0b,r0r,r0r,c0c,rN [[],[],[],[],[],[],[],[g01],[],[],[],[g01]],r0r,r0r,r0r]
def an93:List An:=[r0r,rN [[],[],[],[],[],[],[],[g01],[],[],[],[g01]],r0r,.b (some ⟨[(12,li)],[]⟩),.l ⟨[(12,li)],[]⟩,rN [[],[],[],[],[],[],[],[],[g01],[],[],[],[g01],[li]],c0c,b0b,r0r,.b (some ⟨[(13,li)],[]⟩),.l ⟨[(13,li)],[]⟩,rN [[],[],[],[],[],[],[],[],[g01],[],[],[],[g01],[li]],c0c,b0b,r0r,r0r,c0c,rN [[],[],[],[],[],[],[],[g01],[],[],[],[g01]],r0r,rN [[],[],[],[],[],[],[],[g01],[],[],[],[g01]],r0r,r0r,b0b,.l ⟨[(12,li),(13,li)],[]⟩,b0b,.b (some ⟨[(12,li)],[]⟩),.l ⟨[(12,li)],[]⟩,rN [[],[],[],[],[],[],[],[],[g01],[],[],[],[g01],[li]],c0c,b0b,r0r,.b (some ⟨[(13,li)],[]⟩),.l ⟨[(13,li)],[]⟩,rN [[],[],[],[],[],[],[],[],[g01],[],[],[],[g01],[li]],c0c,b0b,r0r,r0r,c0c,rN [[],[],[],[],[],[],[],[g01],[],[],[],[g01]],r0r,r0r,rN [[],[],[],[],[],[],[],[g01],[],[],[],[g01]],r0r]
def an94:List An:=[r0r,rN [[],[li],[],[],[],[li],[],[],[],[],[li],[],[],[],[],[li],[],[],[],[],[li],[],[li]],c0c,r0r,r0r]
def an95:List An:=[r0r,r0r]
def an96:List An:=[r0r,rN [[],[g02]]]
def an97:List An:=[r0r,.r [] (some ⟨[(2,lb)],[]⟩)]
def an98:List An:=[r0r,rN [[g03]],r0r,c0c,r0r,r0r]
def an99:List An:=[r0r,rN [[],[li],[],[g02]]]
def an100:List An:=[r0r,rN [[],[li],[],[li]],c0c,rN [[],[li],[],[li]],rN [[],[g02],[],[],[g02]]]
def an101:List An:=[r0r,.r [] (some ⟨[(2,lb)],[]⟩)]
def an102:List An:=[r0r,rN [[],[lv]],rN [[],[lv]],b0b,.l ⟨[(13,li)],[]⟩,r0r,c0c,b0b,rN [[],[g01]],rN [[],[],[li],[],[g02]],r0r,r0r]
def an103:List An:=[r0r,rN [[g03]],c0c,r0r,rN [[],[li],[],[],[li]]]
def an104:List An:=[r0r,rN [[],[g03]],rN [[lv],[g08],[lb]],c0c,rN [[lv],[],[],[g04]],rN [[],[g03],[g08]],rN [[g09]],rN [[g04],[lv],[],[],[g04]],rN [[g04]]]
def an105:List An:=[r0r,rN [[g03],[g08]],r0r,c0c,r0r,rN [[g00],[],[g02]]]
def an106:List An:=[r0r,rN [[g03]],r0r,c0c,r0r,rN [[g00]],r0r,c0c,r0r,rN [[g03],[g00]]]
def an107:List An:=[r0r,.r [[],[],[],[],[],[li],[],[],[li]] (some ⟨[(4,lb)],[]⟩)]
def an108:List An:=[r0r,rN [[],[],[],[li],[],[],[],[],[li]]]
def an109:List An:=[r0r,rN [[],[li],[],[],[],[li],[],[],[],[],[li],[],[],[],[li]]]
def an110:List An:=[r0r,rN [[g04]],c0c,r0r,rN [[g04]]]
def an111:List An:=[r0r,rN [[.agg [.i .i64,.i .i64,.i .i64,.i .i64,.i .i64,.i .i64,.i .i64,.i .i64,.i .i64,.i .i64,.i .i64,.i .i64,.i .i64,.i .i64,.i .i64,.i .i64,.i .i64,.i .i64,.i .i64,.i .i64,.i .i64,.i .i64,.i .i64,.i .i64,.i .i64,.i .i64,.i .i64,.i .i64,.i .i64,.i .i64,.i .i64,.i .i64]]],b0b,.l ⟨[(6,li)],[]⟩,r0r,c0c,b0b,rN [[],[g06]],rN [[g06],[g06]],c0c,r0r,r0r,r0r]
def an112:List An:=[r0r,rN [[g06],[],[li],[],[li]],rN [[g06],[],[li],[],[li]],r0r]
def an113:List An:=[r0r,rN [[g00],[],[],[g02],[],[],[g03]],rN [[g04],[g03]],r0r,rN [[g04],[g03]],rN [[],[li],[],[li],[],[],[],[],[li],[],[li]],rN [[.agg [.i .i64,.i .i64,.i .u8,.i .i64,.i .i64,.i .i64,.i .u8,.i .i64,.i .i64,.i .u8,.i .i64,.i .i64,.i .u8,.i .i64,.i .i64,.i .i64,.i .i64,.i .i64,.i .i64,.i .u8,.i .i64,.i .i64,.i .i64,.i .u8,.i .i64,.i .i64,.i .u8,.i .i64,.i .i64,.i .u8,.i .i64,.i .i64,.i .i64,.i .i64,.i .i64,.i .i64,.i .u8,.i .i64,.i .i64,.i .i64,.i .u8,.i .i64,.i .i64,.i .u8,.i .i64,.i .i64,.i .u8,.i .i64,.i .i64,.i .i64,.i .i64,.i .i64,.i .i64,.i .u8,.i .i64,.i .i64,.i .i64,.i .u8,.i .i64,.i .i64,.i .u8,.i .i64,.i .i64,.i .u8,.i .i64,.i .i64,.i .i64,.i .i64]]],b0b,.l ⟨[(47,li)],[(7,[.i .i64,.i .i64,.i .u8])]⟩,r0r,c0c,b0b,rN [[],[g013]],rN [[],[g03],[g03]],.c (some ⟨[],[(7,[.i .i64,.i .i64,.i .u8])]⟩),r0r,r0r,rN [[g00]]]
def an115:List An:=[r0r,r0r]
def an116:List An:=[r0r,rN [[],[],[g05],[],[],[g05]],rN [[],[],[g05],[],[],[g05]],rN [[],[],[g05],[],[],[g05]],rN [[],[],[g05]]]
def an117:List An:=[r0r,r0r]
def an118:List An:=[r0r,r0r,r0r,r0r,r0r]
def an120:List An:=[r0r,r0r]
def an121:List An:=[r0r,r0r,r0r,r0r,r0r]
def an122:List An:=[r0r,r0r,b0b,.l ⟨[(8,li)],[]⟩,r0r,c0c,b0b,r0r,rN [[],[],[],[],[g01],[lb]],c0c,r0r,r0r,r0r]
def an123:List An:=[r0r,rN [[g03]],r0r,c0c,r0r,rN [[g03],[],[li],[],[g02]],rN [[],[],[],[g08],[g08]],c0c,r0r,rN [[g03],[],[li]]]
def an124:List An:=[r0r,rN [[g00]],c0c,r0r,rN [[],[g02],[],[g013]],rN [[],[g02],[],[li],[],[li]],b0b,r0r,.c (some ⟨[],[(7,[.i .u8,.i .i64])]⟩),rN [[],[li],[],[li]],r0r,.c (some ⟨[],[(7,[.i .u8,.i .i64])]⟩),rN [[],[li],[],[li]],rN [[],[g02]],.c (some ⟨[],[(7,[.i .u8,.i .i64])]⟩),rN [[],[li],[],[li]],rN [[g09]],c0c,r0r,rN [[g09]]]
def an125:List An:=[r0r,rN [[g00]],c0c,r0r,rN [[],[g02],[],[],[],[],[g00]],rN [[],[li],[],[li],[],[],[li],[],[li]],rN [[g00]],c0c,r0r,rN [[g00]]]
def an126:List An:=[r0r,rN [[g03]],r0r,c0c,r0r,rN [[g00],[],[],[],[],[li],[],[],[],[],[li],[],[li],[],[],[],[],[li],[],[],[],[],[li],[],[li]],c0c,r0r,rN [[],[li],[],[li],[],[],[li],[],[],[],[g02]]]
def an127:List An:=[r0r,rN [[],[li],[],[],[],[li]]]
def an128:List An:=[r0r,rN [[g04],[],[],[],[g03]],c0c,r0r,rN [[],[g02],[],[g06],[],[li],[],[li]],rN [[],[],[li],[],[],[],[],[li]],rN [[g03]],c0c,r0r,rN [[g03]]]
def an129:List An:=[r0r,rN [[],[],[],[],[g00],[],[],[],[g00],[li]],c0c,rN [[],[],[li]],r0r,r0r]
def an130:List An:=[r0r,rN [[],[],[],[],[g01],[],[],[],[g01],[li]],c0c,rN [[],[],[li]],r0r,r0r]
def an131:List An:=[r0r,rN [[],[li],[],[],[],[li],[],[],[],[],[li],[],[],[],[],[li]],c0c,r0r,r0r]
def aa:Nat->Site
 |_=>⟨0,[],[],.skip,.skip⟩
def xc(f:TM):Ctxt:=⟨cc,ptsTab.getD f [],aa⟩
end Go.Am
end

/-
  THE MACHINE FOLLOWS THE ABSTRACT RUN: calls, rounds, and all depths.
-/
import Derived.Test.YtdngmncaohgacaaDoorAm6c
set_option linter.unusedSectionVars false
set_option linter.unusedSimpArgs false
set_option linter.unusedVariables false
set_option linter.constructorNameAsVariable false
namespace Go.Am

section
variable [Val]

section
variable {C : Cfg} {base : Nat} {H₀ : List HObj} {mu₀ : HMap} {w₀ : World} {la : LMap} {mu : HMap} {σ : St} {a : Act} {w : World}

/-- A mark's block is shut. -/
theorem FI.shut {d : Deferred} {ds : List Deferred} (h : FI C base H₀ mu₀ w₀ la mu σ a w) (hd : a.defers = d :: ds) :
    ∃ r, d.target = .collected r ∧ (Instr.takeDeferred r).run C.P w = .ok [] { w with heap := w.heap.setIfInBounds r (.deferred none) } ∧
      FI C base H₀ mu₀ w₀ la mu σ { a with defers := ds } { w with heap := w.heap.setIfInBounds r (.deferred none) } := by
  obtain ⟨rs, h1, h2, h3⟩ := h.marks
  rw [hd] at h1
  cases rs with
  | nil => cases h1
  | cons r rs =>
    simp only [List.map_cons, List.cons.injEq] at h1
    obtain ⟨rfl, rfl⟩ := h1
    obtain ⟨k1, k2, k3⟩ := h3 r (by simp)
    have hlt : r < w.heap.size := (Array.getElem?_eq_some_iff.1 k2).1
    have hold : ∀ b, b ≠ r → (w.heap.setIfInBounds r (.deferred none))[b]? = w.heap[b]? := fun b hb => Array.getElem?_setIfInBounds_ne (Ne.symm hb)
    have hlow := h.low
    refine ⟨r, rfl, ?_, ⟨⟨h.sr.vals, h.sr.ldom, ?_, h.sr.linj, ⟨?_, h.sr.wr.inj, h.sr.wr.own, h.sr.wr.ro, h.sr.wr.dom, ?_⟩⟩, ?_, h.fresh, ?_, h.low⟩⟩
    · have hg : (getObj r).run C.P w = .ok (.deferred (some [])) w := by simp [getObj, Sem.run, k2]
      have hs : (setObj r (.deferred none)).run C.P w = .ok () { w with heap := w.heap.setIfInBounds r (.deferred none) } := by simp [setObj, Sem.run, k2]
      simp [Instr.takeDeferred, Sem.run_bind, hg, hs, Result.andThen]
    · intro s vs hs
      obtain ⟨b, c, e, e1, e2, e3, e4⟩ := h.sr.loc s vs hs
      exact ⟨b, c, e, e1, e2, by rw [← e3]; exact hold b (fun eb => by subst eb; rw [k2] at e3; cases e3), e4⟩
    · intro id o hid ha
      obtain ⟨p, e1, e2⟩ := h.sr.wr.obj id o hid ha
      refine ⟨p, e1, ?_⟩
      show objR mu p (w.heap.setIfInBounds r (.deferred none))[p.b]? o
      by_cases hpb : p.b = r
      · exfalso
        by_cases hown : o.owned = true
        · exact k3 ⟨id, o, p, hid, hown, e1, hpb⟩
        · have := h.sr.wr.ro id o p hid ha (by simpa using hown) e1
          omega
      · rw [hold _ hpb]; exact e2
    · intro g vs hg
      obtain ⟨e1, e2, c, e', fr, e3, e4⟩ := h.sr.wr.glob g vs hg
      exact ⟨e1, e2, c, e', fr, by rw [← e3]; exact hold g (by omega), e4⟩
    · refine ⟨h.evo.len, h.evo.same, by simpa using h.evo.size, fun k hk ho => ?_, h.evo.steal, h.evo.os, h.evo.tape, h.evo.output⟩
      rw [← h.evo.keep k hk ho]
      exact hold k (by omega)
    · have hnd := List.nodup_cons.1 h2
      refine ⟨rs, rfl, hnd.2, fun r' hr' => ?_⟩
      obtain ⟨e1, e2, e3⟩ := h3 r' (by simp [hr'])
      exact ⟨e1, by rw [← e2]; exact hold r' (fun e => hnd.1 (e ▸ hr')), e3⟩

/-- All marks are shut. -/
theorem unwind_ok : ∀ (ds : List Deferred) (a : Act) (w : World), a.defers = ds → FI C base H₀ mu₀ w₀ la mu σ a w →
    ∃ w', FI C base H₀ mu₀ w₀ la mu σ { a with defers := [] } w' ∧
      ∀ (b : Frame) (todo : List Item) (cs : List Frame), Steps C.P (lone { b.atR a todo with mode := .returning } cs w) (lone { b.atR { a with defers := [] } todo with mode := .returning } cs w')
  | [], a, w, hd, h => by
    obtain ⟨tmps, defers⟩ := a
    simp only at hd
    subst hd
    exact ⟨w, h, fun b todo cs => .refl _ _⟩
  | d :: ds, a, w, hd, h => by
    obtain ⟨r, h1, h2, h3⟩ := h.shut hd
    obtain ⟨w', h4, h5⟩ := unwind_ok ds { a with defers := ds } _ rfl h3
    refine ⟨w', h4, fun b todo cs => .head ?_ (h5 b todo cs)⟩
    exact step_collected (fr := { b.atR a todo with mode := .returning }) (by simp) (show a.defers = d :: ds from hd) h1 h2

def resultS (tmps : Array Value) : ResultVar → Sem Value
  | .tmp t => pure (tmps.getD t undef)
  | .cell p t => do loadVar t (← asAddr (tmps.getD p undef))

theorem results_eq (fn : Func) (tmps : Array Value) : results fn tmps = (do
    let vs ← fn.results.mapM (resultS tmps)
    pure (if h : vs.size = 1 then vs[0] else .tuple vs)) := by
  have : (fun x => match x with
    | ResultVar.tmp t => pure (tmps.getD t undef)
    | ResultVar.cell p t => (do loadVar t (← asAddr (tmps.getD p undef)) : Sem Value)) = resultS tmps := by
    funext x; cases x <;> rfl
  rw [← this]
  rfl

theorem resultA_ok (h : SR C base la mu σ a.tmps w) {x : ResultVar} {v : Value} (hx : resultA C σ x = some v) :
    ∃ v', (resultS a.tmps x).run C.P w = .ok v' w ∧ VR la mu v v' := by
  have hget : ∀ t, VR la mu (σ.tmps.getD t undef) (a.tmps.getD t undef) := fun t => eval_ok h (.tmp t)
  cases x with
  | tmp t =>
    simp only [resultA] at hx
    cases hx
    exact ⟨_, rfl, hget t⟩
  | cell p t =>
    simp only [resultA] at hx
    have hp := hget p
    split at hx
    · rename_i ad hv
      rw [hv] at hp
      split at hx
      · rename_i hsp
        cases hcl : hcells σ.heap ad.block with
        | none => rw [hcl] at hx; cases hx
        | some vs =>
          rw [hcl] at hx
          generalize hw : a.tmps.getD p undef = y at hp ⊢
          cases hp with
          | scalar hs => simp [Am.scalar] at hs
          | lptr _ => simp at hsp
          | gptr => simp at hsp
          | hptr hmu =>
            obtain ⟨c, e, fr, h1, h2⟩ := hcells_ok h.wr hcl hmu
            obtain ⟨v', h3, h4⟩ := run_loadVar (C := C) h2 hx h1
            exact ⟨v', by simp only [resultS, hw, asAddr]; exact h3, h4.up⟩
      · rename_i hsp
        split at hx
        · rename_i vs hloc
          generalize hw : a.tmps.getD p undef = y at hp ⊢
          cases hp with
          | scalar hs => simp [Am.scalar] at hs
          | hptr _ => simp at hsp
          | gptr => simp at hsp
          | lptr hla =>
            obtain ⟨c, e, h1, h2, h3⟩ := loc_ok h hloc hla
            obtain ⟨v', h4, h5⟩ := run_loadVar (C := C) (CellsR.of_list h2) hx h1
            exact ⟨v', by simp only [resultS, hw, asAddr]; simpa using h4, h5.up⟩
        · cases hx
      · cases hx
    · cases hx

theorem resultsA_ok (h : SR C base la mu σ a.tmps w) : ∀ {l : List ResultVar} {vs : List Value}, resultsA C σ l = some vs →
    ∃ vs', (l.mapM (resultS a.tmps)).run C.P w = .ok vs' w ∧ VRs la mu vs vs'
  | [], vs, hx => by
    cases hx
    exact ⟨[], by simp, .nil⟩
  | x :: l, vs, hx => by
    simp only [resultsA] at hx
    split at hx
    · rename_i v vs1 hv hvs
      cases hx
      obtain ⟨v', h1, h2⟩ := resultA_ok h hv
      obtain ⟨vs', h3, h4⟩ := resultsA_ok h hvs
      refine ⟨v' :: vs', ?_, .cons h2 h4⟩
      simp only [List.mapM_cons, Sem.run_bind, h1, Result.andThen_ok, Sem.run_pure, h3]
    · cases hx

theorem results_ok (h : SR C base la mu σ a.tmps w) {fn : Func} {vs : List Value} (hx : resultsA C σ fn.results.toList = some vs) :
    ∃ v', (results fn a.tmps).run C.P w = .ok v' w ∧ VR la mu (packA vs) v' := by
  obtain ⟨vs', h1, h2⟩ := resultsA_ok h hx
  rw [results_eq, Array.mapM_eq_mapM_toList, Sem.run_bind, Sem.run_map, h1]
  match vs, vs', h2 with
  | [], [], _ => exact ⟨_, rfl, .undef⟩
  | [v], [v'], h2 => exact ⟨v', rfl, h2.head⟩
  | v :: u :: l, v' :: u' :: l', h2 => exact ⟨.tuple (v' :: u' :: l').toArray, rfl, VRs.tuple (a := (v :: u :: l).toArray) (by simpa using h2)⟩
  | [], _ :: _, h2 => simpa using h2.1
  | [_], [], h2 => simpa using h2.1
  | [_], _ :: _ :: _, h2 => simpa using h2.1
  | _ :: _ :: _, [], h2 => simpa using h2.1
  | _ :: _ :: _, [_], h2 => simpa using h2.1

theorem call_next {S : Sems} (hS : CodeOk C S) {f : FuncId} {args : List Value} {H : List HObj} {r : Value} {H' : List HObj} (h : callNext C S f args H r H') : CallOk C f args H r H' := by
  obtain ⟨fn, body, e, σ, vs, hfn, hbody, hname, hex, he, hres, rfl, hnl, rfl⟩ := h
  intro base mu w args' hb hargs hW
  let a₀ : Act := { tmps := args' ++ Array.replicate (fn.ntmps - args'.size) undef, defers := [] }
  have hlen : args.length = args'.size := by simpa using hargs.1
  have hF : FI C base H mu w noL mu (enterA fn args H) a₀ w := by
    refine ⟨⟨?_, fun s b h => by simp [noL] at h, fun s vs hs => ?_, fun s s' b h => by simp [noL] at h, hW⟩, .refl _ _ _, fun s b h => by simp [noL] at h, ⟨[], rfl, by simp, fun r hr => by simp at hr⟩, hb⟩
    · simp only [enterA, a₀, Array.toList_append, Array.toList_replicate, hlen]
      exact hargs.append (.replicate _ .undef)
    · simp only [enterA, List.getElem?_replicate] at hs
      split at hs <;> cases hs
  obtain ⟨a₁, w₁, la₁, mu₁, g1, g2⟩ := hS base H mu w none f _ body _ σ e noL mu a₀ w (fun _ => rfl) hex hF
  obtain ⟨w₂, g3, g4⟩ := unwind_ok a₁.defers a₁ w₁ rfl g1
  obtain ⟨v', g5, g6⟩ := results_ok (a := { a₁ with defers := [] }) g3.sr hres
  refine ⟨v', mu₁, w₂, noLoc_down hnl g6, g3.sr.wr, g3.evo, ?_, fun cs => ?_⟩
  · have hbn : fn.body.isNone = false := by rw [hbody]; rfl
    have hp : (program).run C.P w = .ok C.P w := rfl
    simp only [callFunc, Sem.run_bind, hp, Result.andThen_ok, hfn, hname, hbn]
    rfl
  · let b : Frame := { (default : Frame) with fn := f, kind := .normal, roundOf := none }
    have henter : Frame.enter C.P f args' .normal = b.atR a₀ [.code body] := by simp [Frame.enter, Frame.atR, hfn, hbody, b, a₀]
    rw [henter]
    have hgo := g2 b [] cs rfl rfl
    rcases he with rfl | rfl
    · refine ⟨{ b.atR { a₁ with defers := [] } [] with mode := .returning }, (Steps.trans hgo (.one (stepR_end rfl))).trans (g4 b [] cs), rfl, rfl, rfl, rfl, fn, hfn, g5⟩
    · obtain ⟨todo, hgo⟩ := hgo
      refine ⟨{ b.atR { a₁ with defers := [] } (.code .ret :: todo) with mode := .returning }, (hgo.trans (.one (stepR_ret rfl))).trans (g4 b _ cs), rfl, rfl, rfl, rfl, fn, hfn, g5⟩

theorem putAll_ok : ∀ (ts : List Tmp) (vs cs : List Value) (tmps : List Value) (tmps' : Array Value), vs.length = ts.length → VRs la mu vs cs → VRs la mu tmps tmps'.toList →
    VRs la mu (putAll ts vs tmps) ((ts.zip cs).foldl (fun (t : Array Value) (x : Tmp × Value) => t.setIfInBounds x.1 x.2) tmps').toList
  | [], vs, cs, tmps, tmps', hl, hv, ht => by
    cases vs with
    | nil => simpa [putAll] using ht
    | cons _ _ => simp at hl
  | t :: ts, vs, cs, tmps, tmps', hl, hv, ht => by
    cases vs with
    | nil => simp at hl
    | cons v vs =>
      obtain ⟨c, cs', rfl, h1, h2⟩ := hv.uncons
      simp only [putAll, List.zip_cons_cons, List.foldl_cons]
      exact putAll_ok ts vs cs' _ _ (by simpa using hl) h2 (by simpa using ht.set t h1)

theorem yield_next {S : Sems} (hS : CodeOk C S) {l : Nat} {args : List Value} {H : List HObj} {r : Value} {H' : List HObj} (h : yieldNext C S l args H r H') : YieldOk C l args H r H' := by
  obtain ⟨lp, σ₁, lp₁, e, σ₂, lp₂, j, hl, hlen, hex1, hl1, hst, hex2, hj, hl2, rfl, rfl⟩ := h
  intro base mu w args' p hb hp hargs hW
  obtain ⟨p', hp', hid, L, hL, e1, e2, e3, e4, e5, e6⟩ := hloop_ok (σ := { tmps := [], loc := [], heap := H }) hW hl
  obtain rfl : p' = p := by rw [hp] at hp'; exact (Option.some.inj hp').symm
  let tm : Array Value := (L.params.zip args').foldl (fun tmps (x : Tmp × Value) => tmps.setIfInBounds x.1 x.2) L.tmps
  let a₀ : Act := { tmps := tm, defers := [] }
  have htm : VRs noL mu (putAll lp.params args lp.tmps) tm.toList := by
    have := putAll_ok lp.params args args'.toList lp.tmps L.tmps hlen hargs e6
    rw [← e3, ← Array.toList_zip] at this
    simp only [tm]
    rw [← Array.foldl_toList, ← e3]
    exact this
  have hF : FI C base H mu w noL mu { tmps := putAll lp.params args lp.tmps, loc := [], heap := H } a₀ w := by
    refine ⟨⟨htm, fun s b h => by simp [noL] at h, fun s vs hs => by simp at hs, fun s s' b h => by simp [noL] at h, hW⟩, .refl _ _ _, fun s b h => by simp [noL] at h, ⟨[], rfl, by simp, fun r hr => by simp at hr⟩, hb⟩
  obtain ⟨a₁, w₁, la₁, mu₁, g1, g2⟩ := hS base H mu w (some p'.b) L.fn [] lp.assign _ σ₁ .normal noL mu a₀ w (fun h => absurd rfl h) hex1 hF
  have hsame : ∀ {mu' : HMap} {H' : List HObj} {w' : World}, Evo H mu w H' mu' w' → mu' l = some p' := fun he => by
    rw [he.same l (List.getElem?_eq_some_iff.1 hid).1]; exact hp
  obtain ⟨p₁, hp₁, hid₁, L₁, hL₁, f1, f2, f3, f4, f5, f6⟩ := hloop_ok (σ := σ₁) g1.sr.wr hl1
  obtain rfl : p₁ = p' := by rw [hsame g1.evo] at hp₁; exact (Option.some.inj hp₁).symm
  obtain ⟨hW2, hE2⟩ := WR.setLoop (σ := σ₁) g1.sr.wr hid₁ hp₁ (r' := { lp₁ with state := .busy }) (L' := { L₁ with state := .busy }) rfl f2 f3 f4 f5 f6
  have hF2 := g1.heap hW2 hE2
  obtain ⟨a₂, w₂, la₂, mu₂, g3, g4⟩ := hS base H mu w (some p₁.b) L.fn [] lp.body _ σ₂ e la₁ mu₁ a₁ _ (fun h => absurd rfl h) hex2 hF2
  obtain ⟨p₂, hp₂, hid₂, L₂, hL₂, k1, k2, k3, k4, k5, k6⟩ := hloop_ok (σ := σ₂) g3.sr.wr hl2
  obtain rfl : p₂ = p₁ := by rw [hsame g3.evo] at hp₂; exact (Option.some.inj hp₂).symm
  obtain ⟨hW4, hE4⟩ := WR.setLoop (σ := σ₂) g3.sr.wr hid₂ hp₂ (r' := { lp₂ with state := if j.isNone then .ready else .done, pending := j }) (L' := { L₂ with state := if j.isNone then .ready else .done, pending := j }) rfl rfl k3 k4 k5 k6
  refine ⟨.bool j.isNone, mu₂, _, L.fn, tm, L.assign, L.body, .scalar rfl, hW4, g3.evo.trans hE4, ?_, fun c cs => ?_⟩
  · have hsz : args'.size = L.params.size := by
      have h1 := hargs.1
      have h2 : L.params.toList.length = lp.params.length := by rw [e3]
      simp at h1 h2; omega
    simp [Instr.yield, Sem.run_bind, run_getLoop hL, hsz, tm]
  · let b : Frame := { (default : Frame) with fn := L.fn, kind := .normal, roundOf := some p₂.b }
    have hb0 : Frame.round p₂.b L.fn tm L.assign L.body .normal = b.atR a₀ [.code L.assign, .beginRound, .code L.body] := by simp [Frame.round, Frame.atR, b, a₀]
    rw [hb0, e4, e5]
    have s1 : Steps C.P (lone (b.atR a₀ [.code lp.assign, .beginRound, .code lp.body]) (c :: cs) w) _ := g2 b [.beginRound, .code lp.body] (c :: cs) rfl rfl
    have s2 := s1.trans (.one (stepR_beginRound (k := [.code lp.body]) rfl (run_beginRound hL₁ (by rw [f1]; exact hst))))
    have s3 := g4 b [] (c :: cs) rfl rfl
    have hend := run_endRound (C := C) hL₂ j
    cases e with
    | normal =>
      cases hj
      exact (s2.trans s3).trans (.one (stepR_round_end rfl rfl hend))
    | ret =>
      cases hj
      obtain ⟨t, s3⟩ := s3
      exact (s2.trans s3).trans (.one (stepR_round_ret rfl rfl hend))
    | exit id =>
      cases hj
      obtain ⟨t, s3, hx⟩ := s3
      exact (s2.trans s3).trans (.one (stepR_round_exit rfl rfl hx hend))
    | _ => cases hj

/-- AT EVERY DEPTH. -/
theorem sems_ok (hm : C.P.follows .mixedOrders = true) {K : Known} (hK : ∀ f args H r H', K f args H r H' → CallOk C f args H r H') : ∀ n, BOk C (sems C K n).toBelow ∧ CodeOk C (sems C K n)
  | 0 => ⟨⟨hK, fun _ _ _ _ _ h => h.elim⟩, by
      intro base H₀ mu₀ w₀ ro fn pts code σ σ' e la mu a w _ h
      exact h.elim⟩
  | n + 1 => by
    obtain ⟨hB, hS⟩ := sems_ok hm hK n
    refine ⟨⟨fun f args H r H' h => h.elim (hK f args H r H') (call_next hS), fun _ _ _ _ _ h => yield_next hS h⟩, ?_⟩
    have := code_next hm hB hS
    intro base H₀ mu₀ w₀ ro fn pts code σ σ' e la mu a w hro hex hF
    exact this base H₀ mu₀ w₀ ro fn pts code σ σ' e la mu a w hro hex hF

end
end
end Go.Am

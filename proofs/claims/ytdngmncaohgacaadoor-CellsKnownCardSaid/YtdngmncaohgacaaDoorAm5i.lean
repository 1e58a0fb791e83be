/-
  THE MASTER THEOREM: the effect of an operation is what the operation does.
-/
import Derived.Test.YtdngmncaohgacaaDoorAm5h
set_option linter.unusedSectionVars false
set_option linter.unusedSimpArgs false
set_option linter.unusedVariables false
set_option linter.constructorNameAsVariable false
namespace Go.Am

section
variable [Val]

section
variable {C : Cfg} {base : Nat} {la : LMap} {mu : HMap} {σ : St} {a : Act} {w : World}

theorem nilness_ok {v c : Value} {b : Bool} (hn : nilness v = some b) (h : VR la mu v c) : nilness c = some b ∧ nilKind c = nilKind v := by
  cases h with
  | poison c => simp [nilness] at hn
  | sym _ => simp [nilness] at hn
  | scalar h => exact ⟨hn, rfl⟩
  | agg _ _ => simp [nilness] at hn
  | tuple _ _ => simp [nilness] at hn
  | func _ _ _ _ _ => simp [nilness] at hn ⊢; exact ⟨hn, rfl⟩
  | yield h => simp [nilness] at hn ⊢; exact ⟨hn, rfl⟩
  | lptr h => simp [nilness] at hn ⊢; exact ⟨hn, rfl⟩
  | hptr h => simp [nilness] at hn ⊢; exact ⟨hn, rfl⟩
  | gptr => simp [nilness] at hn ⊢; exact ⟨hn, rfl⟩
  | hslice h hr hl hx => simp [nilness] at hn ⊢; exact ⟨hn, rfl⟩
  | hslice0 hx => simp [nilness] at hn ⊢; exact ⟨hn, rfl⟩
  | gslice hl => simp [nilness] at hn ⊢; exact ⟨hn, rfl⟩
  | gslice0 => simp [nilness] at hn ⊢; exact ⟨hn, rfl⟩
  | map h => simp [nilness] at hn ⊢; exact ⟨hn, rfl⟩

theorem nilEq_parts {x y : Value} {b : Bool} (h : nilEq x y = some b) : ∃ bx by_, nilness x = some bx ∧ nilness y = some by_ ∧ ((bx = true ∧ b = by_) ∨ (by_ = true ∧ b = bx)) := by
  unfold nilEq at h
  split at h
  · rename_i b' h1 h2; cases h; exact ⟨true, b, h1, h2, .inl ⟨rfl, rfl⟩⟩
  · rename_i b' _ h1 h2; cases h; exact ⟨b, true, h1, h2, .inr ⟨rfl, rfl⟩⟩
  · cases h

theorem nilness_slice {v : Value} {b : Bool} (h : nilness v = some b) (hk : nilKind v = 1) : (b = true ∧ v = .slice none 0 0) ∨ (b = false ∧ ∃ ad n c, v = .slice (some ad) n c) := by
  unfold nilness at h
  split at h <;> first | (simp [nilKind] at hk; done) | (cases h; exact .inl ⟨rfl, rfl⟩) | (cases h; exact .inr ⟨rfl, _, _, _, rfl⟩) | cases h
theorem nilness_map {v : Value} {b : Bool} (h : nilness v = some b) (hk : nilKind v = 2) : (b = true ∧ v = .map none) ∨ (b = false ∧ ∃ r, v = .map (some r)) := by
  unfold nilness at h
  split at h <;> first | (simp [nilKind] at hk; done) | (cases h; exact .inl ⟨rfl, rfl⟩) | (cases h; exact .inr ⟨rfl, _, rfl⟩) | cases h
theorem nilness_func {v : Value} {b : Bool} (h : nilness v = some b) (hk : nilKind v = 3) : (b = true ∧ v = .nilFunc) ∨ (b = false ∧ ∃ f x y, v = .func f x y) := by
  unfold nilness at h
  split at h <;> first | (simp [nilKind] at hk; done) | (cases h; exact .inl ⟨rfl, rfl⟩) | (cases h; exact .inr ⟨rfl, _, _, _, rfl⟩) | cases h
theorem nilness_ptr {v : Value} {b : Bool} (h : nilness v = some b) (hk : nilKind v = 4) : (b = true ∧ v = .pointer none) ∨ (b = false ∧ ∃ r, v = .pointer (some r)) := by
  unfold nilness at h
  split at h <;> first | (simp [nilKind] at hk; done) | (cases h; exact .inl ⟨rfl, rfl⟩) | (cases h; exact .inr ⟨rfl, _, rfl⟩) | cases h

theorem run_nilEq {t : TypeId} {x y : Value} {b : Bool} (hn : nilEq x y = some b) (ho : nilOk C.P t x y = true) : (Op.equal t x y).run C.P w = .ok b w := by
  obtain ⟨bx, by_, h1, h2, h3⟩ := nilEq_parts hn
  unfold nilOk at ho
  split at ho
  · rename_i d hd
    simp only [Bool.and_eq_true, beq_iff_eq] at ho
    obtain ⟨ho1, ho2⟩ := ho
    have hu := run_underlying hd w
    have e0 : Op.equal t x y = Op.equalIn (9999 + 1) t x y := rfl
    rw [e0]
    unfold Op.equalIn
    rw [Sem.run_bind, hu, Result.andThen_ok]
    cases d with
    | slice e =>
      have hx := nilness_slice h1 (by rw [← ho1]; rfl)
      have hy := nilness_slice h2 (by rw [← ho2]; rfl)
      rcases hx with ⟨rfl, rfl⟩ | ⟨rfl, _, _, _, rfl⟩ <;> rcases hy with ⟨rfl, rfl⟩ | ⟨rfl, _, _, _, rfl⟩ <;> simp at h3 <;> subst h3 <;> rfl
    | map k e =>
      have hx := nilness_map h1 (by rw [← ho1]; rfl)
      have hy := nilness_map h2 (by rw [← ho2]; rfl)
      rcases hx with ⟨rfl, rfl⟩ | ⟨rfl, _, rfl⟩ <;> rcases hy with ⟨rfl, rfl⟩ | ⟨rfl, _, rfl⟩ <;> simp at h3 <;> subst h3 <;> rfl
    | func p r v =>
      have hx := nilness_func h1 (by rw [← ho1]; rfl)
      have hy := nilness_func h2 (by rw [← ho2]; rfl)
      rcases hx with ⟨rfl, rfl⟩ | ⟨rfl, _, _, _, rfl⟩ <;> rcases hy with ⟨rfl, rfl⟩ | ⟨rfl, _, _, _, rfl⟩ <;> simp at h3 <;> subst h3 <;> rfl
    | pointer e =>
      have hx := nilness_ptr h1 (by rw [← ho1]; rfl)
      have hy := nilness_ptr h2 (by rw [← ho2]; rfl)
      rcases hx with ⟨rfl, rfl⟩ | ⟨rfl, _, rfl⟩ <;> rcases hy with ⟨rfl, rfl⟩ | ⟨rfl, _, rfl⟩ <;> simp at h3 <;> subst h3 <;> rfl
    | _ =>
      simp only [nilType] at ho1
      cases x <;> simp [nilKind] at ho1
  · cases ho

theorem nilEq_ok {v1 v2 c1 c2 : Value} {b : Bool} {t : TypeId} (h1 : VR la mu v1 c1) (h2 : VR la mu v2 c2) (hn : nilEq v1 v2 = some b) (ho : nilOk C.P t v1 v2 = true) : nilEq c1 c2 = some b ∧ nilOk C.P t c1 c2 = true := by
  obtain ⟨bx, by_, g1, g2, g3⟩ := nilEq_parts hn
  obtain ⟨k1, k2⟩ := nilness_ok g1 h1
  obtain ⟨k3, k4⟩ := nilness_ok g2 h2
  refine ⟨?_, by unfold nilOk at ho ⊢; rw [k2, k4]; exact ho⟩
  unfold nilEq
  rw [k1, k3]
  rcases g3 with ⟨rfl, rfl⟩ | ⟨rfl, rfl⟩
  · rfl
  · cases b <;> rfl

theorem eqGuard_nil {op : BinOp} {t : TypeId} {x y : Operand} {c1 c2 : Value} {b : Bool} (hn : nilEq c1 c2 = some b) : (eqGuard op t x y c1 c2).run C.P w = .ok () w := by
  obtain ⟨bx, by_, g1, g2, g3⟩ := nilEq_parts hn
  cases c1 <;> (try (simp [nilness] at g1; done)) <;> cases op <;> rfl

theorem binOp_eql {t : TypeId} {c1 c2 : Value} {b : Bool} (hn : nilEq c1 c2 = some b) : binOp .eql t c1 c2 = (do pure (.bool (← Op.equal t c1 c2))) := by
  obtain ⟨bx, by_, g1, g2, g3⟩ := nilEq_parts hn
  cases c1 <;> (try (simp [nilness] at g1; done)) <;> cases c2 <;> (try (simp [nilness] at g2; done)) <;> rfl
theorem binOp_neq {t : TypeId} {c1 c2 : Value} {b : Bool} (hn : nilEq c1 c2 = some b) : binOp .neq t c1 c2 = (do pure (.bool (!(← Op.equal t c1 c2)))) := by
  obtain ⟨bx, by_, g1, g2, g3⟩ := nilEq_parts hn
  cases c1 <;> (try (simp [nilness] at g1; done)) <;> cases c2 <;> (try (simp [nilness] at g2; done)) <;> rfl

theorem VR.func_inv {g : FuncId} {x y : Array Value} {c : Value} (h : VR la mu (.func (.func g) x y) c) : ∃ x' y', c = .func (.func g) x' y' ∧ VRs la mu x.toList x'.toList ∧ VRs la mu y.toList y'.toList := by
  cases h with
  | scalar h => simp [Am.scalar] at h
  | func _ ha hb h1 h2 =>
    exact ⟨_, _, rfl, ⟨by simpa using ha, fun i u v hu hv => h1 i u v (by simpa using hu) (by simpa using hv)⟩, ⟨by simpa using hb, fun i u v hu hv => h2 i u v (by simpa using hu) (by simpa using hv)⟩⟩

theorem VR.yield_inv {l : Nat} {x y : Array Value} {c : Value} (h : VR la mu (.func (.yield l) x y) c) : ∃ p, mu l = some p ∧ c = .func (.yield p.b) #[] #[] := by
  cases h with
  | scalar h => simp [Am.scalar] at h
  | func hf _ _ _ _ => exact absurd rfl (hf l)
  | yield h => exact ⟨_, h, rfl⟩

theorem VR.slice_len {ad : Option Addr} {n cx : Nat} {c : Value} (h : VR la mu (.slice ad n cx) c) : ∃ a' cap, c = .slice a' n cap ∧ (∀ m, ad.isSome → cx = m + 1 → cap = m) := by
  cases h with
  | scalar h => exact ⟨_, _, rfl, fun m hs _ => by cases ad with | none => cases hs | some a => simp [Am.scalar] at h⟩
  | hslice h hr hl hx => exact ⟨_, _, rfl, fun m _ hm => by omega⟩
  | hslice0 hx => exact ⟨_, _, rfl, fun m _ hm => by omega⟩
  | gslice hl => exact ⟨_, _, rfl, fun m _ hm => by omega⟩
  | gslice0 => exact ⟨_, _, rfl, fun m _ hm => by omega⟩

theorem prel_ok (h : SR C base la mu σ a.tmps w) (ps : Array (Nat × Operand)) (ht : ∀ p ∈ ps.toList, isTuple (oval σ.tmps p.2) = false) :
    PRel la mu (ps.toList.map fun p => (p.1, oval σ.tmps p.2)) (ps.map fun (i, x) => (i, a.eval x)).toList := by
  rw [Array.toList_map]
  refine ⟨by simp, fun i p q hp hq => ?_⟩
  rw [List.getElem?_map] at hp hq
  cases hx : ps.toList[i]? with
  | none => rw [hx] at hp; cases hp
  | some x =>
    rw [hx] at hp hq
    cases hp
    cases hq
    exact ⟨rfl, ht x (List.mem_of_getElem? hx), eval_ok h x.2⟩

theorem builtin_run {c : Call} {o : Oper} {b : Builtin} (ho : o.op = .call c) (hc : c.callee = .builtin b) :
    execOp a.eval o = builtin b c.argTypes o.type (c.args.map fun | .const _ => true | _ => false) (c.args.map a.eval) := by
  obtain ⟨dst, op, type, pos, after, guard⟩ := o
  simp only at ho
  subst ho
  simp only [execOp, resolve, hc]
  rfl

theorem args_two {c : Call} {s x : Value} (h : c.args.toList.map (oval σ.tmps) = [s, x]) : ∃ xs xx, c.args = #[xs, xx] ∧ s = oval σ.tmps xs ∧ x = oval σ.tmps xx := by
  obtain ⟨l, hl⟩ : ∃ l, c.args = l.toArray := ⟨c.args.toList, by simp⟩
  rw [hl] at h
  match l, h with
  | [u, v], h =>
    simp at h
    exact ⟨u, v, by rw [hl], h.1.symm, h.2.symm⟩
theorem args_one {c : Call} {s : Value} (h : c.args.toList.map (oval σ.tmps) = [s]) : ∃ xs, c.args = #[xs] ∧ s = oval σ.tmps xs := by
  obtain ⟨l, hl⟩ : ∃ l, c.args = l.toArray := ⟨c.args.toList, by simp⟩
  rw [hl] at h
  match l, h with
  | [u], h =>
    simp at h
    exact ⟨u, by rw [hl], h.symm⟩

theorem effOk_val {v : Value} {s : Sem Next} (h : ∃ v', s.run C.P w = .ok (.value v') w ∧ VR la mu v v') : EffOk C base la mu σ w s (.val v) := h

theorem val_of {s : Sem Value} {v : Value} (h : ∃ v', s.run C.P w = .ok v' w ∧ VR la mu v v') : EffOk C base la mu σ w (do pure (.value (← s))) (.val v) := by
  obtain ⟨v', h1, h2⟩ := h
  exact valOk_of h1 h2

theorem pure_ok (h : SR C base la mu σ a.tmps w) {o : Oper} {e : Eff} (hs : ∀ cs b, o.op ≠ .select cs b) (he : pureEff C (oval σ.tmps) o = some e) : EffOk C base la mu σ w (execOp a.eval o) e := by
  obtain ⟨v, rfl, hv⟩ := pureEff_ok h hs he
  exact hv

theorem builtinEff_ok (h : SR C base la mu σ a.tmps w) (hb : base ≤ w.heap.size) {c : Call} {o : Oper} {b : Builtin} {e : Eff} (ho : o.op = .call c) (hc : c.callee = .builtin b)
    (he : builtinEff C (oval σ.tmps) b (c.args.toList.map (oval σ.tmps)) c.argTypes o = some e) : EffOk C base la mu σ w (execOp a.eval o) e := by
  have hsel : ∀ cs b, o.op ≠ .select cs b := by rw [ho]; intro cs b h; cases h
  unfold builtinEff at he
  split at he
  · rename_i s x t hargs h0
    obtain ⟨xs, xx, hca, rfl, rfl⟩ := args_two hargs
    split at he
    · cases he
    · rename_i hcond
      cases he
      simp only [Bool.or_eq_true, not_or, Bool.not_eq_true] at hcond
      obtain ⟨xT, hxT⟩ : ∃ xT, c.argTypes[1]? = some xT := by
        cases hx : c.argTypes[1]? with
        | none => simp [hx] at hcond
        | some xT => exact ⟨xT, rfl⟩
      rw [hxT] at hcond
      have hd : ∃ d, C.P.underlying xT = some d ∧ isIntD d = false := by
        have hc1 := hcond.1
        simp only [Option.any_some] at hc1
        split at hc1
        · cases hc1
        · cases hc1
        · rename_i hn1 hn2
          cases hu : C.P.underlying xT with
          | none => exact absurd hu hn2
          | some d =>
            refine ⟨d, rfl, ?_⟩
            cases d <;> first | rfl | exact absurd hu (hn1 _)
      obtain ⟨d, hd1, hd2⟩ := hd
      intro H' v hv
      have := appendA_ok (ty := o.type) h hb h0 hxT hd1 hd2 hv
      rw [builtin_run ho hc, hca]
      simpa [builtin] using this
  · rename_i x t hargs h0
    obtain ⟨xs, hca, rfl⟩ := args_one hargs
    have hx := eval_ok h xs
    split at he
    · rename_i e0 ad n cx hu hxe
      cases he
      rw [hxe] at hx
      obtain ⟨a', cap, hev, _⟩ := hx.slice_len
      rw [builtin_run ho hc, hca]
      exact ⟨.int .i64 n, by simp [builtin, Builtin.len_, h0, run_underlying hu, hev, goInt], .scalar rfl⟩
    · rename_i kt et id hu hxe
      cases he
      rw [hxe] at hx
      obtain ⟨p, hp, hev⟩ := hx.map_inv
      intro v hv
      cases hm : hmap σ.heap id with
      | none => simp [hm] at hv
      | some q =>
        obtain ⟨es, cl⟩ := q
        simp only [hm, Option.map_some, Option.some.injEq] at hv
        subst hv
        obtain ⟨es', h1, h2, h3⟩ := hmap_ok h.wr hm hp
        rw [builtin_run ho hc, hca]
        refine ⟨.int .i64 es'.size, by simp [builtin, Builtin.len_, h0, run_underlying hu, hev, run_getObj_map h1, goInt], by rw [h2]; exact .scalar rfl⟩
    · rename_i n e0 hu
      cases he
      rw [builtin_run ho hc, hca]
      exact ⟨.int .i64 n, by simp [builtin, Builtin.len_, h0, run_underlying hu, goInt], .scalar rfl⟩
    · exact pure_ok h hsel he
  · rename_i x t hargs h0
    obtain ⟨xs, hca, rfl⟩ := args_one hargs
    have hx := eval_ok h xs
    split at he
    · rename_i e0 ad n cx hu hxe
      cases he
      rw [hxe] at hx
      obtain ⟨a', cap, hev, hcap⟩ := hx.slice_len
      have := hcap cx rfl rfl
      subst this
      rw [builtin_run ho hc, hca]
      exact ⟨.int .i64 cap, by simp [builtin, Builtin.cap_, h0, run_underlying hu, hev, goInt], .scalar rfl⟩
    · rename_i e0 hu hxe
      cases he
      rw [hxe] at hx
      have hev := scalar_eq (a := .slice none 0 0) rfl hx
      rw [builtin_run ho hc, hca]
      exact ⟨.int .i64 0, by simp [builtin, Builtin.cap_, h0, run_underlying hu, hev, goInt], .scalar rfl⟩
    · rename_i n e0 hu
      cases he
      rw [builtin_run ho hc, hca]
      exact ⟨.int .i64 n, by simp [builtin, Builtin.cap_, h0, run_underlying hu, goInt], .scalar rfl⟩
    · cases he
  · rename_i d x t hargs h0
    obtain ⟨xs, xx, hca, rfl, rfl⟩ := args_two hargs
    cases he
    intro H' v hv
    have := copyA_ok (ty := o.type) h h0 hv
    rw [builtin_run ho hc, hca]
    simpa [builtin] using this
  · rename_i m k t hargs h0
    obtain ⟨xs, xx, hca, rfl, rfl⟩ := args_two hargs
    cases he
    intro H' v hv
    have := deleteA_ok (ty := o.type) h h0 hv
    rw [builtin_run ho hc, hca]
    simpa [builtin] using this
  · exact pure_ok h hsel he

theorem callEff_ok (h : SR C base la mu σ a.tmps w) (hb : base ≤ w.heap.size) {c : Call} {o : Oper} {e : Eff} (ho : o.op = .call c) (he : callEff C (oval σ.tmps) c o = some e) : EffOk C base la mu σ w (execOp a.eval o) e := by
  unfold callEff at he
  simp only at he
  split at he
  · rename_i b hc
    exact builtinEff_ok h hb ho hc he
  · cases he
  · rename_i f hc
    split at he
    · cases he
    · rename_i hargs
      simp only [Bool.not_eq_true, Bool.not_eq_false'] at hargs
      have hargsR := (evals_ok h c.args).down hargs
      have hf := eval_ok h f
      have hrun : ∀ fn x y, a.eval f = .func fn x y → (execOp a.eval o).run C.P w = (invoke (.fn fn y) (x ++ c.args.map a.eval)).run C.P w := by
        intro fn x y hev
        obtain ⟨dst, op, type, pos, after, guard⟩ := o
        simp only at ho
        subst ho
        simp [execOp, resolve, hc, hev, Deferred.ofValue]
      split at he
      · rename_i g first cap hfe
        split at he
        · rename_i hnl
          cases he
          rw [hfe] at hf
          obtain ⟨x', y', hev, r1, r2⟩ := hf.func_inv
          have hnl' : first.toList.all noLoc3 = true ∧ cap.toList.all noLoc3 = true := by simpa [noLoc] using hnl
          have d1 : VRs noL mu first.toList x'.toList := ⟨r1.1, fun i u v hu hv => noLoc3_down (all_get hnl'.1 hu) (r1.2 i u v hu hv)⟩
          have d2 : VRs noL mu cap.toList y'.toList := ⟨r2.1, fun i u v hu hv => noLoc3_down (all_get hnl'.2 hu) (r2.2 i u v hu hv)⟩
          refine ⟨x' ++ c.args.map a.eval ++ y', ?_, ?_⟩
          · simp only [Array.toList_append]
            exact (d1.append hargsR).append d2
          · rw [hrun _ _ _ hev]; rfl
        · cases he
      · rename_i l first cap hfe
        split at he
        · rename_i hsz
          cases he
          rw [hfe] at hf
          obtain ⟨p, hp, hev⟩ := hf.yield_inv
          refine ⟨p, #[] ++ c.args.map a.eval, hp, by simpa using hargsR, ?_⟩
          rw [hrun _ _ _ hev]; rfl
        · cases he
      · cases he

theorem effOf_ok (h : SR C base la mu σ a.tmps w) (hb : base ≤ w.heap.size) {pts : List Nat} {o : Oper} {e : Eff} (he : effOf C pts (oval σ.tmps) o = some e) : EffOk C base la mu σ w (execOp a.eval o) e := by
  obtain ⟨dst, op, type, pos, after, guard⟩ := o
  cases op with
  | move x => simp only [effOf] at he; cases he; exact ⟨_, rfl, eval_ok h x⟩
  | assign x => simp only [effOf] at he; cases he; exact ⟨_, rfl, eval_ok h x⟩
  | pick c x y =>
    simp only [effOf] at he
    split at he
    · rename_i q hq
      cases he
      have hc := eval_ok h c
      rw [hq] at hc
      have hcv := hc.bool
      refine ⟨if q then a.eval x else a.eval y, by simp [execOp, hcv, asBool], ?_⟩
      cases q
      · exact eval_ok h y
      · exact eval_ok h x
    · cases he
  | alloc t =>
    simp only [effOf] at he
    cases hz : zeroOf C.P t with
    | none => rw [hz] at he; cases he
    | some z =>
      rw [hz, Option.bind_some] at he
      have hzr := zero_run hz w
      have := newVarEff_ok h hb (VR.of_flat (zeroOf_ok hz).2.1) he
      have hrun : (execOp a.eval { dst, op := .alloc t, type, pos, after, guard }).run C.P w = (do pure (.value (← Instr.box t z)) : Sem Next).run C.P w := by
        simp [execOp, Instr.alloc, Instr.box, hzr]
      revert this
      cases e <;> simp only [EffOk, ValOk, HOk, hrun] <;> exact id
  | box t x => simp only [effOf] at he; exact newVarEff_ok h hb (eval_ok h x) he
  | build t ps =>
    simp only [effOf] at he
    split at he
    · rename_i hall
      cases hbd : buildA C t (ps.toList.map fun p => (p.1, oval σ.tmps p.2)) with
      | none => rw [hbd] at he; cases he
      | some v =>
        rw [hbd] at he
        cases he
        have hp := prel_ok h ps fun p hp => by
          have := List.all_eq_true.1 hall p hp
          simpa using this
        exact val_of (buildA_ok hbd hp)
    · cases he
  | buildSlice t n ps =>
    simp only [effOf] at he
    split at he
    · rename_i hall
      have hnt : ∀ p ∈ ps.toList, isTuple (oval σ.tmps p.2) = false := fun p hp => by
        have := List.all_eq_true.1 hall p hp
        cases hv : oval σ.tmps p.2 with
        | tuple vs =>
          rw [hv] at this
          have := List.all_eq_true.1 this (.tuple vs) (by simp [Value.cells])
          simp only [cellOk, oneCell, Bool.and_eq_true] at this
          simp [isTuple, this.2]
        | _ => rfl
      have hp := prel_ok h ps hnt
      cases hbd : buildSliceA C t n (ps.toList.map fun p => (p.1, oval σ.tmps p.2)) with
      | none => rw [hbd] at he; cases he
      | some r =>
        rw [hbd] at he
        cases he
        intro H' v hv
        cases hv
        exact buildSliceA_ok h hb hp (fun p hp => by
          obtain ⟨q, hq, rfl⟩ := List.mem_map.1 hp
          exact List.all_eq_true.1 hall q hq) hbd
    · cases he
  | load t x => simp only [effOf] at he; exact loadEff_ok h he
  | store t x y => simp only [effOf] at he; exact storeEff_ok h he
  | nilCheck x =>
    simp only [effOf] at he
    have hx := eval_ok h x
    split at he
    · rename_i ad hv
      cases he
      rw [hv] at hx
      cases hc : a.eval x with
      | pointer p =>
        rw [hc] at hx
        cases p with
        | none => cases hx
        | some p => exact ⟨_, by simp [execOp, hc], hx⟩
      | _ => rw [hc] at hx; cases hx <;> (rename_i hs; simp [Am.scalar] at hs)
    · rename_i f u v hv
      cases he
      rw [hv] at hx
      obtain ⟨u', v', hev, _, _⟩ := hx.func_inv
      rw [hev] at hx
      exact ⟨_, by simp [execOp, hev], hx⟩
    · rename_i f u v hv
      cases he
      rw [hv] at hx
      obtain ⟨p, _, hev⟩ := hx.yield_inv
      rw [hev] at hx
      exact ⟨_, by simp [execOp, hev], hx⟩
    · cases he
  | binOp op t x y yt =>
    have hpure : pureEff C (oval σ.tmps) { dst, op := .binOp op t x y yt, type, pos, after, guard } = some e → EffOk C base la mu σ w (execOp a.eval { dst, op := .binOp op t x y yt, type, pos, after, guard }) e :=
      fun he => pure_ok h (by intro cs b h; cases h) he
    simp only [effOf] at he
    split at he
    · split at he
      · rename_i b hn
        split at he
        · rename_i ho
          cases he
          obtain ⟨n1, n2⟩ := nilEq_ok (eval_ok h x) (eval_ok h y) hn ho
          refine ⟨.bool b, ?_, .scalar rfl⟩
          simp only [execOp, Sem.run_bind, eqGuard_nil n1, Result.andThen_ok, binOp_eql n1, run_nilEq n1 n2, Sem.run_pure]
        · cases he
      · exact hpure he
    · split at he
      · rename_i b hn
        split at he
        · rename_i ho
          cases he
          obtain ⟨n1, n2⟩ := nilEq_ok (eval_ok h x) (eval_ok h y) hn ho
          refine ⟨.bool !b, ?_, .scalar rfl⟩
          simp only [execOp, Sem.run_bind, eqGuard_nil n1, Result.andThen_ok, binOp_neq n1, run_nilEq n1 n2, Sem.run_pure]
        · cases he
      · exact hpure he
    · exact hpure he
  | unOp op t x => simp only [effOf] at he; exact pure_ok h (by intro cs b h; cases h) he
  | convert s d x => simp only [effOf] at he; exact pure_ok h (by intro cs b h; cases h) he
  | makeFunc fn first cap =>
    simp only [effOf] at he
    split at he
    · cases he
    · rename_i hfn
      cases he
      refine ⟨.func fn (first.map a.eval) (cap.map a.eval), by simp [execOp, Instr.makeFunc], ?_⟩
      have r1 := evals_ok h first
      have r2 := evals_ok h cap
      refine .func (fun l hl => hfn l hl) (by simp) (by simp) (fun i u v hu hv => r1.2 i u v (by simpa using hu) (by simpa using hv)) (fun i u v hu hv => r2.2 i u v (by simpa using hu) (by simpa using hv))
  | makeMap t r =>
    simp only [effOf] at he
    split at he
    · rename_i hr
      cases he
      intro H' v hv
      cases hv
      exact makeMap_ok h hb hr
    · cases he
  | makeSlice t l c =>
    simp only [effOf] at he
    cases he
    intro H' v hv
    exact makeSliceA_ok h hb hv
  | slice t x lo hi mx =>
    have hpure : pureEff C (oval σ.tmps) { dst, op := .slice t x lo hi mx, type, pos, after, guard } = some e → EffOk C base la mu σ w (execOp a.eval { dst, op := .slice t x lo hi mx, type, pos, after, guard }) e :=
      fun he => pure_ok h (by intro cs b h; cases h) he
    have hx := eval_ok h x
    have o1 := ORel.map lo fun x => eval_ok h x
    have o2 := ORel.map hi fun x => eval_ok h x
    have o3 := ORel.map mx fun x => eval_ok h x
    simp only [effOf] at he
    split at he
    · rename_i ad hv
      rw [hv] at hx
      split at he
      · rename_i hsp
        cases hs : sliceArr C t ad (lo.map (oval σ.tmps)) (hi.map (oval σ.tmps)) (mx.map (oval σ.tmps)) [] with
        | none => rw [hs] at he; cases he
        | some v =>
          rw [hs] at he
          cases he
          exact val_of (sliceArr_ok h.wr (.inl hsp) hs hx o1 o2 o3)
      · cases he
        intro v hv
        obtain ⟨v', h1, h2⟩ := sliceArr_ok h.wr (.inr rfl) hv hx o1 o2 o3
        exact valOk_of h1 h2
    · unfold orElse at he
      split at he
      · rename_i v hs
        cases he
        exact val_of (sliceA_ok hs hx o1 o2 o3)
      · exact hpure he
  | fieldAddr t x f =>
    simp only [effOf] at he
    cases hs : fieldAddrA C t (oval σ.tmps x) f with
    | none => rw [hs] at he; cases he
    | some v => rw [hs] at he; cases he; exact val_of (fieldAddrA_ok hs (eval_ok h x))
  | field t x f =>
    simp only [effOf] at he
    cases hs : fieldA C t (oval σ.tmps x) f with
    | none => rw [hs] at he; cases he
    | some v => rw [hs] at he; cases he; exact val_of (fieldA_ok hs (eval_ok h x))
  | indexAddr t x i =>
    simp only [effOf] at he
    cases hs : indexAddrA C t (oval σ.tmps x) (oval σ.tmps i) with
    | none => rw [hs] at he; cases he
    | some v => rw [hs] at he; cases he; exact val_of (indexAddrA_ok hs (eval_ok h x) (eval_ok h i))
  | index t x i =>
    simp only [effOf] at he
    cases hs : indexA C t (oval σ.tmps x) (oval σ.tmps i) with
    | none => rw [hs] at he; cases he
    | some v => rw [hs] at he; cases he; exact val_of (indexA_ok hs (eval_ok h x) (eval_ok h i))
  | lookup t m k ok =>
    simp only [effOf] at he
    have hm := eval_ok h m
    have hk := eval_ok h k
    split at he
    · rename_i hme
      rw [hme] at hm
      cases hs : lookupA C t (.map none) (oval σ.tmps k) ok [] with
      | none => rw [hs] at he; cases he
      | some v => rw [hs] at he; cases he; exact val_of (lookupA_ok h.wr (.inl rfl) hm hk hs)
    · cases he
      intro v hv
      obtain ⟨v', h1, h2⟩ := lookupA_ok h.wr (.inr rfl) hm hk hv
      exact valOk_of h1 h2
  | mapUpdate t m k v => simp only [effOf] at he; cases he; intro H' u hu; exact mapUpdateA_ok h hu
  | insert t m k v => simp only [effOf] at he; cases he; intro H' u hu; exact mapUpdateA_ok h hu
  | mapEntry t m k => simp only [effOf] at he; cases he; intro H' u hu; exact mapEntryA_ok h hu
  | entryStore t m s v => simp only [effOf] at he; cases he; intro H' u hu; exact entryStoreA_ok h hu
  | extract t i =>
    simp only [effOf] at he
    have ht := eval_ok h t
    split at he
    · rename_i vs hv
      split at he
      · cases he
      · rename_i hsz
        cases hs : vs[i]? with
        | none => rw [hs] at he; cases he
        | some v =>
          rw [hs] at he
          cases he
          rw [hv] at ht
          obtain ⟨ds, hev, hds⟩ := ht.untuple (by omega)
          obtain ⟨v', h1, h2⟩ := hds.get (i := i) (by simpa using hs)
          refine ⟨v', ?_, h2⟩
          have h1' : ds[i]? = some v' := by simpa using h1
          simp [execOp, Instr.extract, hev, h1']
    · cases he
  | call c => simp only [effOf] at he; exact callEff_ok h hb rfl he
  | _ => simp only [effOf] at he; cases he

end
end
end Go.Am

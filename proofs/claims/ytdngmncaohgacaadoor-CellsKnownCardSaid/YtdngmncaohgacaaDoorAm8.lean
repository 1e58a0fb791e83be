/-
  THE EXECUTOR IS SOUND: trees, numbers, linear forms.
-/
import Derived.Test.YtdngmncaohgacaaDoorAm7
import Derived.IntWalk
set_option linter.unusedSectionVars false
set_option linter.unusedSimpArgs false
set_option linter.unusedVariables false
set_option linter.constructorNameAsVariable false
namespace Go.Am

/-! ### Trees -/

theorem pthF_num : ∀ (f n : Nat), n ≤ f → 1 ≤ n → (pthF f n).num = n
  | 0, n, h, h1 => by omega
  | f + 1, n, h, h1 => by
    unfold pthF
    by_cases hn : n ≤ 1
    · have : n = 1 := by omega
      subst this
      rfl
    · have h2 : Nat.ble n 1 = false := by
        rw [← Bool.not_eq_true, Nat.ble_eq]; exact hn
      rw [h2]
      have ih := pthF_num f (n / 2) (by omega) (by omega)
      by_cases hm : n % 2 = 0
      · simp [hm, Pth.num, ih]; omega
      · simp [hm, Pth.num, ih]; omega

theorem pathOf_num (n : Nat) : (pathOf n).num = n + 1 := pthF_num _ _ (Nat.le_refl _) (by omega)
theorem pathOf_inj {a b : Nat} (h : pathOf a = pathOf b) : a = b := by
  have := congrArg Pth.num h
  rw [pathOf_num, pathOf_num] at this
  omega

def Pth.set {α : Type} (d : α) : Pth → Tr α → α → Tr α
  | .e, .leaf, x => .node x .leaf .leaf
  | .e, .node _ l r, x => .node x l r
  | .o p, .leaf, x => .node d (Pth.set d p .leaf x) .leaf
  | .o p, .node v l r, x => .node v (Pth.set d p l x) r
  | .i p, .leaf, x => .node d .leaf (Pth.set d p .leaf x)
  | .i p, .node v l r, x => .node v l (Pth.set d p r x)

theorem Pth.setK_eq {α : Type} (d : α) : ∀ (p : Pth) (t : Tr α) (x : α) (k : Tr α → Bool), p.setK d t x k = k (p.set d t x)
  | .e, t, x, k => by cases t <;> rfl
  | .o p, t, x, k => by
    cases t with
    | leaf => exact Pth.setK_eq d p .leaf x _
    | node v l r => exact Pth.setK_eq d p l x _
  | .i p, t, x, k => by
    cases t with
    | leaf => exact Pth.setK_eq d p .leaf x _
    | node v l r => exact Pth.setK_eq d p r x _

theorem Pth.get_leaf {α : Type} (d : α) (p : Pth) : p.get d .leaf = d := by cases p <;> rfl

theorem Pth.get_set {α : Type} (d : α) : ∀ (p : Pth) (t : Tr α) (x : α), p.get d (p.set d t x) = x
  | .e, t, x => by cases t <;> rfl
  | .o p, t, x => by
    cases t with
    | leaf => exact Pth.get_set d p .leaf x
    | node v l r => exact Pth.get_set d p l x
  | .i p, t, x => by
    cases t with
    | leaf => exact Pth.get_set d p .leaf x
    | node v l r => exact Pth.get_set d p r x

theorem Pth.get_set_ne {α : Type} (d : α) : ∀ (p q : Pth) (t : Tr α) (x : α), q ≠ p → q.get d (p.set d t x) = q.get d t
  | .e, q, t, x, h => by cases q <;> cases t <;> first | rfl | exact absurd rfl h | exact Pth.get_leaf d _
  | .o p, q, t, x, h => by
    cases q with
    | e => cases t <;> rfl
    | o q =>
      have hq : q ≠ p := fun e => h (e ▸ rfl)
      cases t with
      | leaf => exact (Pth.get_set_ne d p q .leaf x hq).trans (Pth.get_leaf d q)
      | node v l r => exact Pth.get_set_ne d p q l x hq
    | i q =>
      cases t with
      | leaf => exact Pth.get_leaf d q
      | node v l r => rfl
  | .i p, q, t, x, h => by
    cases q with
    | e => cases t <;> rfl
    | i q =>
      have hq : q ≠ p := fun e => h (e ▸ rfl)
      cases t with
      | leaf => exact (Pth.get_set_ne d p q .leaf x hq).trans (Pth.get_leaf d q)
      | node v l r => exact Pth.get_set_ne d p q r x hq
    | o q =>
      cases t with
      | leaf => exact Pth.get_leaf d q
      | node v l r => rfl

def Tr.map {α : Type} (f : α → α) : Tr α → Tr α
  | .leaf => .leaf
  | .node v l r => .node (f v) (l.map f) (r.map f)

theorem Tr.mapK_eq {α : Type} (f : α → α) : ∀ (t : Tr α) (k : Tr α → Bool), t.mapK f k = k (t.map f)
  | .leaf, k => rfl
  | .node v l r, k => by
    show l.mapK f (fun l => r.mapK f fun r => k (.node (f v) l r)) = _
    rw [Tr.mapK_eq f l, Tr.mapK_eq f r]; rfl

theorem Pth.get_map {α : Type} (d : α) (f : α → α) (hf : f d = d) : ∀ (p : Pth) (t : Tr α), p.get d (t.map f) = f (p.get d t)
  | .e, t => by cases t <;> first | rfl | exact hf.symm
  | .o p, t => by
    cases t with
    | leaf => exact hf.symm
    | node v l r => exact Pth.get_map d f hf p l
  | .i p, t => by
    cases t with
    | leaf => exact hf.symm
    | node v l r => exact Pth.get_map d f hf p r

/-! ### Numbers -/

theorem forceN_eq (n : Nat) (k : Nat → Bool) : forceN n k = k n := by cases n <;> rfl
theorem forceI_eq (n : Int) (k : Int → Bool) : forceI n k = k n := by
  cases n with
  | ofNat m => exact forceN_eq m fun m => k (.ofNat m)
  | negSucc m => exact forceN_eq m fun m => k (.negSucc m)

theorem leI_iff {a b : Int} : leI a b = true ↔ a ≤ b := by
  cases a <;> cases b <;> simp [leI] <;> omega
theorem leI_false {a b : Int} : leI a b = false ↔ b < a := by
  rw [← Bool.not_eq_true, leI_iff]; omega
theorem eqI_iff {a b : Int} : eqI a b = true ↔ a = b := by
  cases a <;> cases b <;> simp [eqI] <;> omega
theorem eqI_false {a b : Int} : eqI a b = false ↔ a ≠ b := by
  rw [← Bool.not_eq_true, eqI_iff]

theorem fits_iff {k : IntKind} {c : Int} (h : fits k c = true) : (k.signed = true → -(kmax k : Int) - 1 ≤ c) ∧ (k.signed = false → 0 ≤ c) ∧ c ≤ kmax k := by
  cases c with
  | ofNat n =>
    simp only [fits, Nat.ble_eq] at h
    refine ⟨fun _ => ?_, fun _ => ?_, ?_⟩ <;> simp <;> omega
  | negSucc n =>
    simp only [fits, Bool.and_eq_true, Nat.ble_eq] at h
    refine ⟨fun _ => ?_, fun hs => ?_, ?_⟩
    · omega
    · rw [h.1] at hs; cases hs
    · omega

theorem fits_wrap {k : IntKind} {c : Int} (h : fits k c = true) : k.wrap c = c := by
  obtain ⟨h1, h2, h3⟩ := fits_iff h
  cases k <;> simp only [IntKind.signed, kmax, forall_const, reduceCtorEq, false_implies] at h1 h2 h3
  · exact Go.IntWalk.i8_in c (by omega)
  · exact Go.IntWalk.i16_in c (by omega)
  · exact Go.IntWalk.i32_in c (by omega)
  · exact Go.IntWalk.i64_in c (by omega)
  · exact Go.IntWalk.u8_in c (by omega)
  · exact Go.IntWalk.u16_in c (by omega)
  · exact Go.IntWalk.u32_in c (by omega)
  · exact Go.IntWalk.u64_in c (by omega)

/-! ### Linear forms -/

/-- The variables have the values that are known of them. -/
def Sat (Γ : Ctx) (ρ : List Int) : Prop :=
  (∀ (i : Nat) p x, Γ.iv[i]? = some p → ρ[i]? = some x → p.1 ≤ x ∧ x ≤ p.2) ∧ Γ.iv.length = ρ.length ∧
    ∀ e ∈ Γ.cs, e.2.1 ≤ dot e.1 ρ ∧ dot e.1 ρ ≤ e.2.2

theorem dot_ladd : ∀ (l m ρ : List Int), dot (ladd l m) ρ = dot l ρ + dot m ρ
  | [], m, ρ => by simp [ladd, dot]
  | a :: l, [], ρ => by simp [ladd, dot]
  | a :: l, b :: m, [] => by simp [ladd, dot]
  | a :: l, b :: m, x :: ρ => by
    simp only [ladd, dot, dot_ladd l m ρ]
    show (a + b) * x + _ = _
    rw [Int.add_mul]; omega

theorem dot_lscale (c : Int) : ∀ (l ρ : List Int), dot (lscale c l) ρ = c * dot l ρ
  | [], ρ => by simp [lscale, dot]
  | a :: l, [] => by simp [lscale, dot]
  | a :: l, x :: ρ => by
    have := dot_lscale c l ρ
    simp only [lscale, List.map_cons, dot] at this ⊢
    rw [this]
    show c * a * x + _ = _
    rw [Int.mul_add, Int.mul_assoc]

theorem eval_ladd (l m : Lin) (ρ : List Int) : Lin.eval (ladd l m) ρ = Lin.eval l ρ + Lin.eval m ρ := by
  cases l with
  | nil => simp [ladd, Lin.eval]
  | cons a l =>
    cases m with
    | nil => simp [ladd, Lin.eval]
    | cons b m =>
      simp only [ladd, Lin.eval, dot_ladd]
      show a + b + _ = _
      omega
theorem eval_lscale (c : Int) (l : Lin) (ρ : List Int) : Lin.eval (lscale c l) ρ = c * Lin.eval l ρ := by
  cases l with
  | nil => simp [lscale, Lin.eval]
  | cons a l =>
    have := dot_lscale c l ρ
    simp only [lscale, List.map_cons, Lin.eval] at this ⊢
    rw [this]
    show c * a + _ = _
    rw [Int.mul_add]
theorem eval_lsub (a b : Lin) (ρ : List Int) : Lin.eval (lsub a b) ρ = Lin.eval a ρ - Lin.eval b ρ := by
  rw [lsub, eval_ladd, eval_lscale]; omega

theorem dot_zero : ∀ (l ρ : List Int), allZero l = true → dot l ρ = 0
  | [], ρ, _ => by simp [dot]
  | a :: l, [], _ => by simp [dot]
  | a :: l, x :: ρ, h => by
    simp only [allZero, List.all_cons, Bool.and_eq_true, eqI_iff] at h
    obtain ⟨rfl, h⟩ := h
    simp [dot, dot_zero l ρ h]

theorem dot_trim : ∀ (l ρ : List Int), dot (trim l) ρ = dot l ρ
  | [], ρ => rfl
  | c :: l, ρ => by
    unfold trim
    split
    · rename_i h
      simp only [Bool.and_eq_true, eqI_iff] at h
      obtain ⟨rfl, h⟩ := h
      cases ρ with
      | nil => rfl
      | cons x ρ => simp [dot, dot_zero l ρ h]
    · cases ρ with
      | nil => rfl
      | cons x ρ => simp [dot, dot_trim l ρ]

theorem eval_trim (l : Lin) (ρ : List Int) : Lin.eval (trim l) ρ = Lin.eval l ρ := by
  cases l with
  | nil => rfl
  | cons c l =>
    unfold trim
    split
    · rename_i h
      simp only [Bool.and_eq_true, eqI_iff] at h
      obtain ⟨rfl, h⟩ := h
      simp [Lin.eval, dot_zero l ρ h]
    · simp [Lin.eval, dot_trim]

theorem eqL_eq : ∀ {l m : List Int}, eqL l m = true → l = m
  | [], [], _ => rfl
  | a :: l, b :: m, h => by
    simp only [eqL, Bool.and_eq_true, eqI_iff] at h
    rw [h.1, eqL_eq h.2]
  | [], _ :: _, h => by cases h
  | _ :: _, [], h => by cases h

theorem dot_norm (l ρ : List Int) : dot l ρ = (norm l).1 * dot (norm l).2 ρ := by
  unfold norm
  simp only
  split
  · rename_i h
    have h := eqL_eq h
    conv => lhs; rw [← h]
    exact dot_lscale _ _ _
  · simp

theorem mul_mono_l {c a b : Int} (hc : 0 ≤ c) (h : a ≤ b) : c * a ≤ c * b := Int.mul_le_mul_of_nonneg_left h hc
theorem mul_mono_r {c a b : Int} (hc : c ≤ 0) (h : a ≤ b) : c * b ≤ c * a := Int.mul_le_mul_of_nonpos_left hc h

theorem ivDot_ok : ∀ (l : List Int) (iv : List (Int × Int)) (ρ : List Int), (∀ (i : Nat) p x, iv[i]? = some p → ρ[i]? = some x → p.1 ≤ x ∧ x ≤ p.2) → iv.length = ρ.length →
    (ivDot l iv).1 ≤ dot l ρ ∧ dot l ρ ≤ (ivDot l iv).2
  | [], iv, ρ, _, _ => by simp [ivDot, dot]
  | c :: l, [], ρ, _, hl => by
    cases ρ with
    | nil => simp [ivDot, dot]
    | cons x ρ => simp at hl
  | c :: l, p :: iv, [], _, hl => by simp at hl
  | c :: l, p :: iv, x :: ρ, h, hl => by
    have ih := ivDot_ok l iv ρ (fun i q y hq hy => h (i + 1) q y (by simpa using hq) (by simpa using hy)) (by simpa using hl)
    have h0 := h 0 p x rfl rfl
    simp only [ivDot, dot]
    split
    · rename_i hc
      have hc := leI_iff.1 hc
      have h1 := mul_mono_l hc h0.1
      have h2 := mul_mono_l hc h0.2
      show c * p.1 + _ ≤ _ ∧ _ ≤ c * p.2 + _
      omega
    · rename_i hc
      have hc := leI_false.1 hc
      have h1 := mul_mono_r (Int.le_of_lt hc) h0.1
      have h2 := mul_mono_r (Int.le_of_lt hc) h0.2
      show c * p.2 + _ ≤ _ ∧ _ ≤ c * p.1 + _
      omega

theorem maxI_le {a b c : Int} : maxI a b ≤ c ↔ a ≤ c ∧ b ≤ c := by
  unfold maxI
  split
  · rename_i h; have := leI_iff.1 h; omega
  · rename_i h; have := leI_false.1 h; omega
theorem le_minI {a b c : Int} : c ≤ minI a b ↔ c ≤ a ∧ c ≤ b := by
  unfold minI
  split
  · rename_i h; have := leI_iff.1 h; omega
  · rename_i h; have := leI_false.1 h; omega

theorem csIv_ok (m ρ : List Int) : ∀ (cs : List (List Int × Int × Int)) (p : Int × Int), (∀ e ∈ cs, e.2.1 ≤ dot e.1 ρ ∧ dot e.1 ρ ≤ e.2.2) → p.1 ≤ dot m ρ ∧ dot m ρ ≤ p.2 →
    (csIv m cs p).1 ≤ dot m ρ ∧ dot m ρ ≤ (csIv m cs p).2
  | [], p, _, h => h
  | e :: cs, p, hc, h => by
    unfold csIv
    split
    · rename_i he
      have he := eqL_eq he
      have h1 := hc e (by simp)
      rw [he] at h1
      exact csIv_ok m ρ cs _ (fun e he => hc e (by simp [he])) ⟨maxI_le.2 ⟨h.1, h1.1⟩, le_minI.2 ⟨h.2, h1.2⟩⟩
    · exact csIv_ok m ρ cs p (fun e he => hc e (by simp [he])) h

theorem ivT_ok {Γ : Ctx} {ρ : List Int} (h : Sat Γ ρ) (m : List Int) : (ivT Γ m).1 ≤ dot m ρ ∧ dot m ρ ≤ (ivT Γ m).2 :=
  csIv_ok m ρ Γ.cs _ h.2.2 (ivDot_ok m Γ.iv ρ h.1 h.2.1)

theorem ivOf_ok {Γ : Ctx} {ρ : List Int} (h : Sat Γ ρ) (l : Lin) : (ivOf Γ l).1 ≤ l.eval ρ ∧ l.eval ρ ≤ (ivOf Γ l).2 := by
  cases l with
  | nil => simp [ivOf, Lin.eval]
  | cons c0 l =>
    have ht := ivT_ok h (norm l).2
    simp only [ivOf, Lin.eval]
    rw [dot_norm l ρ]
    split
    · rename_i hc
      have hc := leI_iff.1 hc
      have h1 := mul_mono_l hc ht.1
      have h2 := mul_mono_l hc ht.2
      show c0 + _ ≤ _ ∧ _ ≤ c0 + _
      refine ⟨Int.add_le_add_left h1 _, Int.add_le_add_left h2 _⟩
    · rename_i hc
      have hc := leI_false.1 hc
      have h1 := mul_mono_r (Int.le_of_lt hc) ht.1
      have h2 := mul_mono_r (Int.le_of_lt hc) ht.2
      show c0 + _ ≤ _ ∧ _ ≤ c0 + _
      refine ⟨Int.add_le_add_left h2 _, Int.add_le_add_left h1 _⟩

theorem unitL_ok : ∀ {l : List Int} {i : Nat} (ρ : List Int), unitL l = some i → dot l ρ = (ρ[i]?).getD 0
  | c :: l, i, ρ, h => by
    unfold unitL at h
    split at h
    · rename_i hc
      cases h
      simp only [Bool.and_eq_true, eqI_iff] at hc
      obtain ⟨rfl, hz⟩ := hc
      cases ρ with
      | nil => simp [dot]
      | cons x ρ => simp [dot, dot_zero l ρ hz]
    · split at h
      · rename_i hc
        have hc := eqI_iff.1 hc
        subst hc
        cases hu : unitL l with
        | none => rw [hu] at h; cases h
        | some j =>
          rw [hu] at h
          cases h
          cases ρ with
          | nil => simp [dot]
          | cons x ρ => simp [dot, unitL_ok ρ hu]
      · cases h

theorem forceL_eq : ∀ (l : List Int) (k : List Int → Bool), forceL l k = k l
  | [], k => rfl
  | c :: l, k => by
    show forceI c (fun c => forceL l fun l => k (c :: l)) = _
    rw [forceI_eq, forceL_eq l]

theorem le_ediv {b t : Int} {g : Nat} (hg : 0 < g) (h : (g : Int) * t ≤ b) : t ≤ b / (g : Int) :=
  Int.le_ediv_of_mul_le (by omega) (by rw [Int.mul_comm]; exact h)

/-- A case that does not hold needs no proof; one that holds goes on. -/
theorem refineK_ok {Γ : Ctx} {ρ : List Int} {l : Lin} {lo hi : Int} {K : Ctx → Bool} (hk : refineK Γ l lo hi K = true) (h : Sat Γ ρ) (h1 : lo ≤ l.eval ρ) (h2 : l.eval ρ ≤ hi) :
    ∃ Γ', Sat Γ' ρ ∧ K Γ' = true := by
  cases l with
  | nil => exact ⟨Γ, h, hk⟩
  | cons c0 l =>
    simp only [Lin.eval] at h1 h2
    rw [dot_norm l ρ] at h1 h2
    have ht := ivT_ok h (norm l).2
    simp only [refineK] at hk
    generalize norm l = n at *
    obtain ⟨g, m⟩ := n
    simp only at *
    have hgo : ∀ b1 b2 : Int, b1 ≤ dot m ρ → dot m ρ ≤ b2 → (forceI (maxI (ivT Γ m).1 b1) fun x => forceI (minI (ivT Γ m).2 b2) fun y => match leI x y with
        | false => true
        | true => match unitL m with
          | some i => K { Γ with iv := Γ.iv.set i (x, y) }
          | none => forceL m fun m => K { Γ with cs := (m, x, y) :: Γ.cs }) = true → ∃ Γ', Sat Γ' ρ ∧ K Γ' = true := by
      intro b1 b2 hb1 hb2 hk
      rw [forceI_eq, forceI_eq] at hk
      have hx : maxI (ivT Γ m).1 b1 ≤ dot m ρ := maxI_le.2 ⟨ht.1, hb1⟩
      have hy : dot m ρ ≤ minI (ivT Γ m).2 b2 := le_minI.2 ⟨ht.2, hb2⟩
      split at hk
      · rename_i hxy
        have := leI_false.1 hxy
        omega
      · split at hk
        · rename_i i hu
          refine ⟨{ Γ with iv := Γ.iv.set i (maxI (ivT Γ m).1 b1, minI (ivT Γ m).2 b2) }, ⟨fun j p x hp hx' => ?_, by simpa using h.2.1, h.2.2⟩, hk⟩
          simp only [List.getElem?_set] at hp
          split at hp
          · rename_i hij
            subst hij
            split at hp
            · cases hp
              have := unitL_ok ρ hu
              rw [hx'] at this
              simp at this
              rw [this] at hx hy
              exact ⟨hx, hy⟩
            · cases hp
          · exact h.1 j p x hp hx'
        · rw [forceL_eq] at hk
          refine ⟨{ Γ with cs := (m, maxI (ivT Γ m).1 b1, minI (ivT Γ m).2 b2) :: Γ.cs }, ⟨h.1, h.2.1, fun e he => ?_⟩, hk⟩
          rcases List.mem_cons.1 he with rfl | he
          · exact ⟨hx, hy⟩
          · exact h.2.2 e he
    match g with
    | .ofNat 0 =>
      simp only at hk
      simp at h1 h2
      split at hk
      · exact ⟨Γ, h, hk⟩
      · rename_i hc
        rw [← Bool.not_eq_true, Bool.and_eq_true, leI_iff, leI_iff] at hc
        exact absurd ⟨h1, h2⟩ hc
    | .ofNat (g + 1) =>
      simp only at hk
      have e : (Int.ofNat (g + 1) : Int) = ((g + 1 : Nat) : Int) := rfl
      rw [e] at h1 h2 hk
      refine hgo _ _ ?_ ?_ hk
      · have := le_ediv (t := -(dot m ρ)) (b := -(lo - c0)) (g := g + 1) (by omega) (by rw [Int.mul_neg]; omega)
        omega
      · exact le_ediv (by omega) (by omega)
    | .negSucc g =>
      simp only at hk
      have e : (Int.negSucc g : Int) = -((g + 1 : Nat) : Int) := rfl
      have e2 : (Int.ofNat (g + 1) : Int) = ((g + 1 : Nat) : Int) := rfl
      rw [e] at h1 h2
      rw [e2] at hk
      rw [Int.neg_mul] at h1 h2
      refine hgo _ _ ?_ ?_ hk
      · have := le_ediv (t := -(dot m ρ)) (b := hi - c0) (g := g + 1) (by omega) (by rw [Int.mul_neg]; omega)
        omega
      · exact le_ediv (by omega) (by omega)

end Go.Am

/-
  WHAT AN ABSTRACT STATE SAYS OF A WORLD: values, objects, worlds, frames; how these relations are handed on.
-/
import Derived.Test.YtdngmncaohgacaaDoorAm2
set_option linter.unusedSectionVars false
set_option linter.unusedSimpArgs false
set_option linter.unusedVariables false
set_option linter.constructorNameAsVariable false
namespace Go.Am

/-- Where an abstract object lies: its block, from which cell on, how many cells there are from there on, the cells of an element. -/
structure Pl where
  b : Nat
  o : Nat
  room : Nat
  esz : Nat

abbrev LMap := Nat → Option Nat
abbrev HMap := Nat → Option Pl
def noL : LMap := fun _ => none

section
variable [Val]

inductive VR (la : LMap) (mu : HMap) : Value → Value → Prop
  | poison (c : Value) : VR la mu (.tuple #[.tuple #[]]) c
  | sym {cs : Array Value} {k : IntKind} (h : symKind cs = some k) : VR la mu (.tuple #[.agg cs]) (.int k (Val.num cs))
  | scalar {v : Value} (h : scalar v = true) : VR la mu v v
  | agg {a c : Array Value} (hs : a.size = c.size) (h : ∀ (i : Nat) (x y : Value), a[i]? = some x → c[i]? = some y → VR la mu x y) : VR la mu (.agg a) (.agg c)
  | tuple {a c : Array Value} (hn : a.size ≠ 1) (hs : a.size = c.size) (h : ∀ (i : Nat) (x y : Value), a[i]? = some x → c[i]? = some y → VR la mu x y) : VR la mu (.tuple a) (.tuple c)
  | func {fn : Fn} {a b a' b' : Array Value} (hf : ∀ l, fn ≠ .yield l) (ha : a.size = a'.size) (hb : b.size = b'.size)
      (h₁ : ∀ (i : Nat) (x y : Value), a[i]? = some x → a'[i]? = some y → VR la mu x y) (h₂ : ∀ (i : Nat) (x y : Value), b[i]? = some x → b'[i]? = some y → VR la mu x y) :
      VR la mu (.func fn a b) (.func fn a' b')
  | yield {l : Nat} {p : Pl} (h : mu l = some p) : VR la mu (.func (.yield l) #[] #[]) (.func (.yield p.b) #[] #[])
  | lptr {s off b : Nat} (h : la s = some b) : VR la mu (.pointer (some ⟨s, off, some 0⟩)) (.pointer (some ⟨b, off, none⟩))
  | hptr {id off : Nat} {p : Pl} (h : mu id = some p) : VR la mu (.pointer (some ⟨id, off, none⟩)) (.pointer (some ⟨p.b, p.o + off, none⟩))
  | gptr {g off : Nat} : VR la mu (.pointer (some ⟨g, off, some 1⟩)) (.pointer (some ⟨g, off, none⟩))
  | hslice {id off len cap cx : Nat} {p : Pl} (h : mu id = some p) (hr : off + cap * p.esz ≤ p.room) (hl : len ≤ cap) (hx : cx = 0 ∨ cx = cap + 1) :
      VR la mu (.slice (some ⟨id, off, tag p.esz⟩) len cx) (.slice (some ⟨p.b, p.o + off, none⟩) len cap)
  | hslice0 {id off cx esz : Nat} {a : Addr} (hx : cx ≤ 1) : VR la mu (.slice (some ⟨id, off, tag esz⟩) 0 cx) (.slice (some a) 0 0)
  | gslice {g off len cap : Nat} (hl : len ≤ cap) : VR la mu (.slice (some ⟨g, off, some 1⟩) len (cap + 1)) (.slice (some ⟨g, off, none⟩) len cap)
  | gslice0 {g off : Nat} {a : Addr} : VR la mu (.slice (some ⟨g, off, some 1⟩) 0 1) (.slice (some a) 0 0)
  | map {id : Nat} {p : Pl} (h : mu id = some p) : VR la mu (.map (some id)) (.map (some p.b))

theorem VR.mono {la la' : LMap} {mu mu' : HMap} {a c : Value} (h : VR la mu a c) (hl : ∀ s b, la s = some b → la' s = some b) (hm : ∀ i p, mu i = some p → mu' i = some p) :
    VR la' mu' a c := by
  induction h with
  | poison c => exact .poison c
  | sym h => exact .sym h
  | scalar h => exact .scalar h
  | agg hs _ ih => exact .agg hs ih
  | tuple hn hs _ ih => exact .tuple hn hs ih
  | func hf ha hb _ _ ih1 ih2 => exact .func hf ha hb ih1 ih2
  | yield h => exact .yield (hm _ _ h)
  | lptr h => exact .lptr (hl _ _ h)
  | hptr h => exact .hptr (hm _ _ h)
  | gptr => exact .gptr
  | hslice h hr hl' hx => exact .hslice (hm _ _ h) hr hl' hx
  | hslice0 hx => exact .hslice0 hx
  | gslice hl' => exact .gslice hl'
  | gslice0 => exact .gslice0
  | map h => exact .map (hm _ _ h)

theorem VR.up {la : LMap} {mu : HMap} {a c : Value} (h : VR noL mu a c) : VR la mu a c :=
  h.mono (fun _ _ h => by cases h) (fun _ _ h => h)

theorem VR.undef {la : LMap} {mu : HMap} : VR la mu undef undef := .tuple (by simp) rfl fun i x y h => by simp at h

theorem scalar_eq {la : LMap} {mu : HMap} {a c : Value} (hs : scalar a = true) (h : VR la mu a c) : c = a := by
  cases h <;> first | rfl | (simp [Am.scalar] at hs)

theorem flat1_eq {la : LMap} {mu : HMap} {a c : Value} (hs : flat1 a = true) (h : VR la mu a c) : c = a := by
  cases a with
  | agg cs =>
    cases h with
    | scalar _ => rfl
    | agg hsz h =>
      rename_i ds
      simp only [flat1] at hs
      congr 1
      apply Array.ext hsz.symm
      intro i h1 h2
      exact scalar_eq (all_get (i := i) hs (by simp [h2])) (h i cs[i] ds[i] (by simp [h2]) (by simp [h1]))
  | _ => exact scalar_eq hs h

theorem flat_eq {la : LMap} {mu : HMap} {a c : Value} (hs : flat a = true) (h : VR la mu a c) : c = a := by
  cases a with
  | tuple cs =>
    cases h with
    | poison c => simp [flat, flat1, Am.scalar] at hs
    | sym _ => simp [flat] at hs
    | scalar _ => rfl
    | tuple hn hsz h =>
      rename_i ds
      simp only [flat, Bool.and_eq_true] at hs
      replace hs := hs.2
      congr 1
      apply Array.ext hsz.symm
      intro i h1 h2
      exact flat1_eq (all_get (i := i) hs (by simp [h2])) (h i cs[i] ds[i] (by simp [h2]) (by simp [h1]))
  | _ => exact flat1_eq hs h

theorem VR.of_flat1 {la : LMap} {mu : HMap} {v : Value} (h : flat1 v = true) : VR la mu v v := by
  cases v with
  | agg cs =>
    refine .agg rfl fun i x y hx hy => ?_
    obtain rfl : x = y := by rw [hx] at hy; exact Option.some.inj hy
    exact .scalar (all_get (i := i) (l := cs.toList) h (by simpa using hx))
  | _ => exact .scalar h

theorem VR.of_flat {la : LMap} {mu : HMap} {v : Value} (h : flat v = true) : VR la mu v v := by
  cases v with
  | tuple cs =>
    simp only [flat, Bool.and_eq_true, bne_iff_ne] at h
    refine .tuple h.1 rfl fun i x y hx hy => ?_
    obtain rfl : x = y := by rw [hx] at hy; exact Option.some.inj hy
    exact .of_flat1 (all_get (i := i) (l := cs.toList) h.2 (by simpa using hx))
  | _ => exact .of_flat1 h

/-! ### Without local rows -/

theorem noLoc1_down {la : LMap} {mu : HMap} {a c : Value} (hs : noLoc1 a = true) (h : VR la mu a c) : VR noL mu a c := by
  cases h with
  | poison c => simp [noLoc1, isSym] at hs
  | sym h => exact .sym h
  | scalar h => exact .scalar h
  | agg _ _ => simp [noLoc1] at hs
  | tuple hn _ _ => exact absurd (isSym_size hs) hn
  | func _ _ _ _ _ => simp [noLoc1] at hs
  | yield h => simp [noLoc1] at hs
  | lptr h => simp [noLoc1] at hs
  | hptr h => exact .hptr h
  | gptr => exact .gptr
  | hslice h hr hl' hx => exact .hslice h hr hl' hx
  | hslice0 hx => exact .hslice0 hx
  | gslice hl' => exact .gslice hl'
  | gslice0 => exact .gslice0
  | map h => exact .map h

theorem down_next {f g : Value → Bool} {la : LMap} {mu : HMap}
    (hf : ∀ a c, f a = true → VR la mu a c → VR noL mu a c)
    (hagg : ∀ cs, g (.agg cs) = cs.toList.all f) (hfun : ∀ fn a b, g (.func fn a b) = (a.toList.all f && b.toList.all f))
    (htup : ∀ vs, g (.tuple vs) = true → vs.toList.all f = true ∨ isSym (.tuple vs) = true)
    (hel : ∀ v, (∀ cs, v ≠ .agg cs) → (∀ fn a b, v ≠ .func fn a b) → (∀ vs, v ≠ .tuple vs) → g v = f v)
    {a c : Value} (hs : g a = true) (h : VR la mu a c) : VR noL mu a c := by
  cases h with
  | poison c => exact .poison c
  | sym h => exact .sym h
  | scalar h => exact .scalar h
  | agg hsz h =>
    rw [hagg] at hs
    exact .agg hsz fun i x y hx hy => hf _ _ (all_get (i := i) hs (by simpa using hx)) (h i x y hx hy)
  | tuple hn hsz h =>
    have := (htup _ hs).resolve_right fun hh => hn (isSym_size hh)
    exact .tuple hn hsz fun i x y hx hy => hf _ _ (all_get (i := i) this (by simpa using hx)) (h i x y hx hy)
  | func h0 ha hb h1 h2 =>
    rw [hfun, Bool.and_eq_true] at hs
    exact .func h0 ha hb (fun i x y hx hy => hf _ _ (all_get (i := i) hs.1 (by simpa using hx)) (h1 i x y hx hy))
      (fun i x y hx hy => hf _ _ (all_get (i := i) hs.2 (by simpa using hx)) (h2 i x y hx hy))
  | yield h => exact .yield h
  | lptr h =>
    rw [hel _ (by simp) (by simp) (by simp)] at hs
    exact hf _ _ hs (.lptr h)
  | hptr h => exact .hptr h
  | gptr => exact .gptr
  | hslice h hr hl' hx => exact .hslice h hr hl' hx
  | hslice0 hx => exact .hslice0 hx
  | gslice hl' => exact .gslice hl'
  | gslice0 => exact .gslice0
  | map h => exact .map h

theorem noLoc2_down {la : LMap} {mu : HMap} {a c : Value} (hs : noLoc2 a = true) (h : VR la mu a c) : VR noL mu a c :=
  down_next (f := noLoc1) (g := noLoc2) (fun _ _ => noLoc1_down) (fun _ => rfl) (fun _ _ _ => rfl)
    (fun vs h => by
      have h' : (vs.size == 0 || isSym (.tuple vs)) = true := h
      simp only [Bool.or_eq_true, beq_iff_eq] at h'
      rcases h' with h' | h'
      · left; simp at h'; simp [h']
      · exact .inr h') (fun v h1 h2 h3 => by cases v <;> first | rfl | exact absurd rfl (h1 _) | exact absurd rfl (h2 _ _ _) | exact absurd rfl (h3 _)) hs h
theorem noLoc3_down {la : LMap} {mu : HMap} {a c : Value} (hs : noLoc3 a = true) (h : VR la mu a c) : VR noL mu a c :=
  down_next (f := noLoc2) (g := noLoc3) (fun _ _ => noLoc2_down) (fun _ => rfl) (fun _ _ _ => rfl)
    (fun _ h => .inl h) (fun v h1 h2 h3 => by cases v <;> first | rfl | exact absurd rfl (h1 _) | exact absurd rfl (h2 _ _ _) | exact absurd rfl (h3 _)) hs h
theorem noLoc_down {la : LMap} {mu : HMap} {a c : Value} (hs : noLoc a = true) (h : VR la mu a c) : VR noL mu a c :=
  down_next (f := noLoc3) (g := noLoc) (fun _ _ => noLoc3_down) (fun _ => rfl) (fun _ _ _ => rfl)
    (fun _ h => .inl h) (fun v h1 h2 h3 => by cases v <;> first | rfl | exact absurd rfl (h1 _) | exact absurd rfl (h2 _ _ _) | exact absurd rfl (h3 _)) hs h

theorem cellOk_down {la : LMap} {mu : HMap} {a c : Value} (hs : cellOk a = true) (h : VR la mu a c) : VR noL mu a c :=
  noLoc_down (by simp only [cellOk, Bool.and_eq_true] at hs; exact hs.1) h

/-- A cell's value takes one cell in the world, too. -/
theorem oneCell_of {la : LMap} {mu : HMap} {a c : Value} (hs : oneCell a = true) (h : VR la mu a c) : oneCell c = true := by
  cases h with
  | poison c => simp [oneCell, isSym] at hs
  | sym _ => rfl
  | tuple hn _ _ => exact absurd (isSym_size hs) hn
  | scalar h => exact hs
  | _ => first | rfl | (simp [oneCell] at hs)

/-- In the world there are no symbolic numbers. -/
theorem no_tuple_of {la : LMap} {mu : HMap} {a : Value} {vs : Array Value} (hs : oneCell a = true) (h : VR la mu a (.tuple vs)) : False := by
  cases h with
  | poison c => simp [oneCell, isSym] at hs
  | tuple hn _ _ => exact absurd (isSym_size hs) hn
  | scalar h => simp [Am.scalar] at h

/-! ### Lists of values -/

/-- Cell by cell. -/
def VRs (la : LMap) (mu : HMap) (vs cs : List Value) : Prop := vs.length = cs.length ∧ ∀ (i : Nat) (x y : Value), vs[i]? = some x → cs[i]? = some y → VR la mu x y

theorem VRs.nil {la : LMap} {mu : HMap} : VRs la mu [] [] := ⟨rfl, fun i x y h => by simp at h⟩
theorem VRs.cons {la : LMap} {mu : HMap} {v c : Value} {vs cs : List Value} (h : VR la mu v c) (hs : VRs la mu vs cs) : VRs la mu (v :: vs) (c :: cs) := by
  refine ⟨by simp [hs.1], fun i x y hx hy => ?_⟩
  cases i with
  | zero => simp at hx hy; subst hx hy; exact h
  | succ i => exact hs.2 i x y (by simpa using hx) (by simpa using hy)
theorem VRs.head {la : LMap} {mu : HMap} {v c : Value} {vs cs : List Value} (h : VRs la mu (v :: vs) (c :: cs)) : VR la mu v c := h.2 0 v c rfl rfl
theorem VRs.tail {la : LMap} {mu : HMap} {v c : Value} {vs cs : List Value} (h : VRs la mu (v :: vs) (c :: cs)) : VRs la mu vs cs :=
  ⟨by have := h.1; simpa using this, fun i x y hx hy => h.2 (i + 1) x y (by simpa using hx) (by simpa using hy)⟩
theorem VRs.uncons {la : LMap} {mu : HMap} {v : Value} {vs cs : List Value} (h : VRs la mu (v :: vs) cs) : ∃ c cs', cs = c :: cs' ∧ VR la mu v c ∧ VRs la mu vs cs' := by
  cases cs with
  | nil => have := h.1; simp at this
  | cons c cs => exact ⟨c, cs, rfl, h.head, h.tail⟩
theorem VRs.unnil {la : LMap} {mu : HMap} {cs : List Value} (h : VRs la mu [] cs) : cs = [] := by
  have := h.1; cases cs <;> simp_all
theorem VRs.append {la : LMap} {mu : HMap} {vs cs vs' cs' : List Value} (h : VRs la mu vs cs) (h' : VRs la mu vs' cs') : VRs la mu (vs ++ vs') (cs ++ cs') := by
  refine ⟨by simp [h.1, h'.1], fun i x y hx hy => ?_⟩
  have e := h.1
  by_cases hi : i < vs.length
  · rw [List.getElem?_append_left hi] at hx
    rw [List.getElem?_append_left (by omega)] at hy
    exact h.2 i x y hx hy
  · rw [List.getElem?_append_right (by omega)] at hx
    rw [List.getElem?_append_right (by omega)] at hy
    rw [← e] at hy
    exact h'.2 _ x y hx hy
theorem VRs.mono {la la' : LMap} {mu mu' : HMap} {vs cs : List Value} (h : VRs la mu vs cs) (hl : ∀ s b, la s = some b → la' s = some b) (hm : ∀ i p, mu i = some p → mu' i = some p) :
    VRs la' mu' vs cs := ⟨h.1, fun i x y hx hy => (h.2 i x y hx hy).mono hl hm⟩
theorem VRs.up {la : LMap} {mu : HMap} {vs cs : List Value} (h : VRs noL mu vs cs) : VRs la mu vs cs := ⟨h.1, fun i x y hx hy => (h.2 i x y hx hy).up⟩
theorem VRs.down {la : LMap} {mu : HMap} {vs cs : List Value} (hv : vs.all noLoc = true) (h : VRs la mu vs cs) : VRs noL mu vs cs :=
  ⟨h.1, fun i x y hx hy => noLoc_down (all_get hv hx) (h.2 i x y hx hy)⟩
theorem VRs.downc {la : LMap} {mu : HMap} {vs cs : List Value} (hv : vs.all cellOk = true) (h : VRs la mu vs cs) : VRs noL mu vs cs :=
  ⟨h.1, fun i x y hx hy => cellOk_down (all_get hv hx) (h.2 i x y hx hy)⟩
theorem VRs.map {la : LMap} {mu : HMap} {α : Type} {f g : α → Value} (l : List α) (h : ∀ x, x ∈ l → VR la mu (f x) (g x)) : VRs la mu (l.map f) (l.map g) := by
  induction l with
  | nil => exact .nil
  | cons a l ih => exact .cons (h a (by simp)) (ih fun x hx => h x (by simp [hx]))
theorem VRs.take {la : LMap} {mu : HMap} {vs cs : List Value} (h : VRs la mu vs cs) (n : Nat) : VRs la mu (vs.take n) (cs.take n) := by
  refine ⟨by simp [h.1], fun i x y hx hy => ?_⟩
  rw [List.getElem?_take] at hx hy
  split at hx
  · rename_i hi; rw [if_pos hi] at hy; exact h.2 i x y hx hy
  · cases hx
theorem VRs.drop {la : LMap} {mu : HMap} {vs cs : List Value} (h : VRs la mu vs cs) (n : Nat) : VRs la mu (vs.drop n) (cs.drop n) := by
  refine ⟨by simp [h.1], fun i x y hx hy => ?_⟩
  rw [List.getElem?_drop] at hx hy
  exact h.2 _ x y hx hy
theorem VRs.set {la : LMap} {mu : HMap} {vs cs : List Value} (h : VRs la mu vs cs) (n : Nat) {v c : Value} (hv : VR la mu v c) : VRs la mu (vs.set n v) (cs.set n c) := by
  refine ⟨by simp [h.1], fun i x y hx hy => ?_⟩
  rw [List.getElem?_set] at hx hy
  by_cases hn : n = i
  · subst hn
    simp only [if_true] at hx hy
    split at hx
    · rename_i hl
      rw [if_pos (by rw [← h.1]; exact hl)] at hy
      simp at hx hy; subst hx hy; exact hv
    · cases hx
  · rw [if_neg hn] at hx hy
    exact h.2 i x y hx hy
theorem VRs.replicate {la : LMap} {mu : HMap} (n : Nat) {v c : Value} (hv : VR la mu v c) : VRs la mu (List.replicate n v) (List.replicate n c) := by
  induction n with
  | zero => exact .nil
  | succ n ih => exact .cons hv ih
theorem VRs.get {la : LMap} {mu : HMap} {vs cs : List Value} (h : VRs la mu vs cs) {i : Nat} {x : Value} (hx : vs[i]? = some x) : ∃ y, cs[i]? = some y ∧ VR la mu x y := by
  have hi : i < vs.length := by
    rcases Nat.lt_or_ge i vs.length with h | h
    · exact h
    · rw [List.getElem?_eq_none h] at hx; cases hx
  have hj : i < cs.length := by have := h.1; omega
  exact ⟨cs[i], by simp [hj], h.2 i x _ hx (by simp [hj])⟩
theorem VRs.agg {la : LMap} {mu : HMap} {a c : Array Value} (h : VRs la mu a.toList c.toList) : VR la mu (.agg a) (.agg c) :=
  .agg (by simpa using h.1) fun i x y hx hy => h.2 i x y (by simpa using hx) (by simpa using hy)
theorem VR.unagg {la : LMap} {mu : HMap} {a : Array Value} {c : Value} (h : VR la mu (.agg a) c) : ∃ d, c = .agg d ∧ VRs la mu a.toList d.toList := by
  cases h with
  | scalar h => simp [Am.scalar] at h
  | agg hs h => exact ⟨_, rfl, by simpa using hs, fun i x y hx hy => h i x y (by simpa using hx) (by simpa using hy)⟩
theorem VRs.tuple {la : LMap} {mu : HMap} {a c : Array Value} (h : VRs la mu a.toList c.toList) (hn : a.size ≠ 1 := by simp) : VR la mu (.tuple a) (.tuple c) :=
  .tuple hn (by simpa using h.1) fun i x y hx hy => h.2 i x y (by simpa using hx) (by simpa using hy)
theorem VR.untuple {la : LMap} {mu : HMap} {a : Array Value} {c : Value} (hn : a.size ≠ 1) (h : VR la mu (.tuple a) c) : ∃ d, c = .tuple d ∧ VRs la mu a.toList d.toList := by
  cases h with
  | poison c => simp at hn
  | sym _ => simp at hn
  | scalar h => simp [Am.scalar] at h
  | tuple _ hs h => exact ⟨_, rfl, by simpa using hs, fun i x y hx hy => h i x y (by simpa using hx) (by simpa using hy)⟩

/-- The cells of related values. -/
theorem VR.cells {la : LMap} {mu : HMap} {a c : Value} (ht : isTuple a = false) (h : VR la mu a c) : VRs la mu a.cells.toList c.cells.toList := by
  cases a with
  | agg cs =>
    obtain ⟨d, rfl, hd⟩ := h.unagg
    exact hd
  | tuple vs =>
    have hs : oneCell (.tuple vs) = true := by simpa [isTuple, oneCell] using ht
    rw [cells_of_oneCell (oneCell_of hs h)]
    exact .cons h .nil
  | _ =>
    rw [cells_of_oneCell (oneCell_of rfl h)]
    exact .cons h .nil

end
end Go.Am

/-
  VALUES THAT ARE COMPARED CELL BY CELL.
-/
import Derived.Test.YtdngmncaohgacaaDoorSx6b
import Derived.Laws.StructEq
import Derived.Laws.Entries
set_option linter.unusedSectionVars false
set_option linter.unusedSimpArgs false
set_option linter.unusedVariables false
set_option linter.constructorNameAsVariable false
namespace Go.Am

section
variable {P : Program}

theorem pv_bind {α β : Type} (s : Sem α) (f : α → Sem β) : pev P (s >>= f) = (pev P s).bind fun a => pev P (f a) := by
  show pev P (s.bind f) = _
  induction s with
  | pure a => rfl
  | program k ih => exact ih P
  | _ => rfl
theorem pv_pure {α : Type} (a : α) : pev P (pure a : Sem α) = some a := rfl
theorem pv_map {α β : Type} (s : Sem α) (f : α → β) : pev P (Functor.map f s) = (pev P s).map f := by
  have : (Functor.map f s) = (s >>= fun a => pure (f a)) := by
    show Functor.map f s = _
    rfl
  rw [this, pv_bind]
  cases pev P s <;> rfl
theorem pv_program : pev P program = some P := rfl
theorem pv_underlying {t : TypeId} {d : TypeDesc} (h : P.underlying t = some d) : pev P (underlying t) = some d := by
  unfold underlying
  rw [pv_bind, pv_program]
  simp only [Option.bind_some, h]
  rfl

theorem pev_eq_int {d : Nat} {t : TypeId} {k k' : IntKind} {a b : Int} (h : P.underlying t = some (.int k')) : pev P (Op.equalIn (d + 1) t (.int k a) (.int k b)) = some (a == b) := by
  simp only [Op.equalIn, pv_bind, pv_underlying h, Option.bind_some, if_true, pv_pure]
theorem pev_eq_bool {d : Nat} {t : TypeId} {a b : Bool} (h : P.underlying t = some .bool) : pev P (Op.equalIn (d + 1) t (.bool a) (.bool b)) = some (a == b) := by
  simp only [Op.equalIn, pv_bind, pv_underlying h, Option.bind_some, pv_pure]

theorem pv_isAgg {t : TypeId} {ag : Bool} (h : aggT P t = some ag) : pev P (isAgg t) = some ag := by
  unfold isAgg
  unfold aggT at h
  split at h
  · rename_i fs e; cases h; rw [pv_bind, pv_underlying e]; rfl
  · rename_i fs e; cases h; rw [pv_bind, pv_underlying e]; rfl
  · rename_i d h1 h2 e
    cases h
    rw [pv_bind, pv_underlying e]
    simp only [Option.bind_some]
    rfl
  · cases h

theorem pv_sizeOf {t : TypeId} {d : TypeDesc} (h : P.underlying t = some d) : pev P (sizeOf t) = some (P.cellsOf t) := by
  unfold sizeOf typeInfo
  have hi : ∃ i, P.info? t = some i := by
    unfold Program.underlying at h
    cases hi : P.info? t with
    | none => simp [hi] at h
    | some i => exact ⟨i, rfl⟩
  obtain ⟨i, hi⟩ := hi
  simp only [pv_bind, pv_program, Option.bind_some, hi]
  simp [pev, Program.cellsOf, hi]
  rfl

theorem pv_part {t : TypeId} {ag : Bool} (h : aggT P t = some ag) {cs : List Value} {off : Nat} {ds : List Value} (hc : cut cs off (if ag then P.cellsOf t else 1) = some ds) :
    ∃ v, pev P (part t ⟨cs⟩ off) = some v ∧ mkV ag ds v := by
  have hu : ∃ d, P.underlying t = some d := by
    unfold aggT at h
    cases hh : P.underlying t with
    | none => rw [hh] at h; cases h
    | some d => exact ⟨d, rfl⟩
  obtain ⟨d, hu⟩ := hu
  unfold part
  rw [pv_bind, pv_isAgg h]
  simp only [Option.bind_some]
  unfold cut at hc
  cases ag with
  | true =>
    simp only [if_true] at hc ⊢
    split at hc
    · rename_i hle
      cases hc
      refine ⟨.agg ⟨(cs.drop off).take (P.cellsOf t)⟩, ?_, .inl ⟨rfl, rfl⟩⟩
      rw [pv_bind, pv_sizeOf hu]
      simp only [Option.bind_some, pv_pure, Option.some.injEq, Value.agg.injEq]
      apply Array.toList_inj.1
      rw [Array.toList_extract]
      simp [List.extract]
    · cases hc
  | false =>
    simp only [Bool.false_eq_true, if_false] at hc ⊢
    split at hc
    · rename_i hle
      cases hc
      have hlt : off < cs.length := by omega
      refine ⟨cs[off], ?_, .inr ⟨rfl, by rw [List.drop_eq_getElem_cons hlt]; rfl⟩⟩
      have : (⟨cs⟩ : Array Value)[off]? = some cs[off] := by simp [hlt]
      rw [this]
      rfl
    · cases hc

/-- Cells that are compared one by one. -/
def eqSL (a b : List SL) : Bool := eqAll ((a.map SL.lf).zip (b.map SL.lf))

theorem eqAll_append (a b : List (Lf × Lf)) : eqAll (a ++ b) = (eqAll a && eqAll b) := by simp [eqAll]
theorem eqSL_append {a b c d : List SL} (h : a.length = b.length) : eqSL (a ++ c) (b ++ d) = (eqSL a b && eqSL c d) := by
  unfold eqSL
  rw [List.map_append, List.map_append, List.zip_append (by simpa using h), eqAll_append]

/-- The value of a type that is made of leaves. -/
def flatV (ag : Bool) (cs : List SL) (v : Value) : Prop := mkV ag (cs.map SL.val) v

def EqD (P : Program) (d : Nat) (t : TypeId) (ks : List LK) : Prop :=
  ∃ ag, aggT P t = some ag ∧ (if ag then P.cellsOf t else 1) = ks.length ∧ ∀ (a b : List SL) (x y : Value), allIs a ks = true → allIs b ks = true → flatV ag a x → flatV ag b y → pev P (Op.equalIn d t x y) = some (eqSL a b)

theorem allIs_split {cs : List SL} {ka kb : List LK} (h : allIs cs (ka ++ kb) = true) : ∃ a b, cs = a ++ b ∧ allIs a ka = true ∧ allIs b kb = true := by
  induction ka generalizing cs with
  | nil => exact ⟨[], cs, rfl, rfl, h⟩
  | cons k ka ih =>
    cases cs with
    | nil => cases h
    | cons c cs =>
      simp only [List.cons_append, allIs, Bool.and_eq_true] at h
      obtain ⟨a, b, rfl, h1, h2⟩ := ih h.2
      exact ⟨c :: a, b, rfl, by simp [allIs, h.1, h1], h2⟩

theorem cut_mid {pre mid post : List SL} {n off : Nat} (ho : off = pre.length) (hn : n = mid.length) : cut ((pre ++ mid ++ post).map SL.val) off n = some (mid.map SL.val) := by
  subst ho; subst hn
  unfold cut
  rw [if_pos (by simp)]
  congr 1
  rw [List.map_append, List.map_append, List.append_assoc, List.drop_append, List.take_append]
  simp

theorem pv_ite {α : Type} {c : Prop} [Decidable c] (a b : Sem α) : pev P (if c then a else b) = if c then pev P a else pev P b := by split <;> rfl

theorem pv_eqFields {d : Nat} {F : TypeId → Option (List LK)} (hF : ∀ t ks, F t = some ks → EqD P d t ks) : ∀ (fs : List Field) (off : Nat) (ks : List LK), flatFs F fs off = some ks →
    ∀ (pa a pb b : List SL), pa.length = off → pb.length = off → allIs a ks = true → allIs b ks = true →
      pev P (Op.eqFields d ⟨(pa ++ a).map SL.val⟩ ⟨(pb ++ b).map SL.val⟩ fs) = some (eqSL a b)
  | [], off, ks, h, pa, a, pb, b, _, _, ha, hb => by
    cases h
    cases a with
    | cons _ _ => cases ha
    | nil => cases b with
      | cons _ _ => cases hb
      | nil => rfl
  | f :: fs, off, ks, h, pa, a, pb, b, la, lb, ha, hb => by
    simp only [flatFs] at h
    split at h
    · rename_i k1 hn ho hk
      have hn : ¬ f.name = "_" := of_decide_eq_false hn
      have ho := Nat.eq_of_beq_eq_true ho
      obtain ⟨k2, hr, rfl⟩ := Option.map_eq_some_iff.1 h
      obtain ⟨ag, h1, h2, h3⟩ := hF _ _ hk
      obtain ⟨a1, a2, rfl, ha1, ha2⟩ := allIs_split ha
      obtain ⟨b1, b2, rfl, hb1, hb2⟩ := allIs_split hb
      have la1 := allIs_length ha1
      have lb1 := allIs_length hb1
      obtain ⟨x, hx1, hx2⟩ := pv_part h1 (cs := (pa ++ (a1 ++ a2)).map SL.val) (off := f.offset) (ds := a1.map SL.val) (by rw [← List.append_assoc]; exact cut_mid (by omega) (by omega))
      obtain ⟨y, hy1, hy2⟩ := pv_part h1 (cs := (pb ++ (b1 ++ b2)).map SL.val) (off := f.offset) (ds := b1.map SL.val) (by rw [← List.append_assoc]; exact cut_mid (by omega) (by omega))
      have he := h3 a1 b1 x y ha1 hb1 hx2 hy2
      have ih := pv_eqFields hF fs (off + k1.length) k2 hr (pa ++ a1) a2 (pb ++ b1) b2 (by simp; omega) (by simp; omega) ha2 hb2
      rw [List.append_assoc, List.append_assoc] at ih
      simp only [Op.eqFields, ne_eq, hn, not_false_eq_true, if_true]
      rw [pv_bind, hx1]
      simp only [Option.bind_some]
      rw [pv_bind, hy1]
      simp only [Option.bind_some]
      rw [pv_bind, he]
      simp only [Option.bind_some]
      rw [eqSL_append (by omega)]
      cases eqSL a1 b1 with
      | true => simpa using ih
      | false => rfl
    · cases h

theorem pv_equalIn_struct (d : Nat) (t : TypeId) (fs : Array Field) (xs ys : Array Value) (ht : P.underlying t = some (.struct fs)) (hp : P.stoodInHeld t = false) :
    pev P (Op.equalIn (d + 1) t (.agg xs) (.agg ys)) = pev P (Op.eqFields d xs ys fs.toList) := by
  simp only [Op.equalIn, pv_bind, pv_underlying ht, Option.bind_some, pv_program, hp, Bool.false_eq_true, if_false]
  rw [← Array.forIn_toList]
  generalize fs.toList = fs
  clear ht
  induction fs with
  | nil => simp only [List.forIn_nil, Op.eqFields]; rfl
  | cons f fs ih =>
    simp only [List.forIn_cons, Op.eqFields, pv_bind, pv_ite]
    split
    · cases h1 : pev P (part f.type xs f.offset) with
      | none => simp
      | some a =>
        cases h2 : pev P (part f.type ys f.offset) with
        | none => simp [h1, h2]
        | some b =>
          cases h3 : pev P (Op.equalIn d f.type a b) with
          | none => simp [h1, h2, h3]
          | some r =>
            cases r
            · simp [h1, h2, h3, pv_pure]
            · simpa [h1, h2, h3, pv_pure] using ih
    · simpa [pv_pure] using ih

/-- The items of two arrays from some index on. -/
def eqItemsA (d n : Nat) (e : TypeId) (xs ys : Array Value) : List Nat → Sem Bool
  | [] => pure true
  | i :: is => do
    let a ← part e xs (i * n)
    let b ← part e ys (i * n)
    let r ← Op.equalIn d e a b
    if (!r) = true then pure false else eqItemsA d n e xs ys is

theorem pv_equalIn_array (d : Nat) (t e : TypeId) (n : Nat) (xs ys : Array Value) (ht : P.underlying t = some (.array n e)) (he : ∃ k, P.underlying e = some k) :
    pev P (Op.equalIn (d + 1) t (.agg xs) (.agg ys)) = pev P (eqItemsA d (P.cellsOf e) e xs ys (List.range n)) := by
  obtain ⟨k, he⟩ := he
  simp only [Op.equalIn, pv_bind, pv_underlying ht, Option.bind_some, pv_sizeOf he]
  rw [Std.Legacy.Range.forIn_eq_forIn_range']
  simp only [Std.Legacy.Range.size, Nat.sub_zero, Nat.add_sub_cancel, Nat.div_one]
  rw [List.range_eq_range']
  generalize List.range' 0 n = is
  clear ht
  induction is with
  | nil => simp only [List.forIn_nil, eqItemsA]; rfl
  | cons i is ih =>
    simp only [List.forIn_cons, eqItemsA, pv_bind, pv_ite]
    cases h1 : pev P (part e xs (i * P.cellsOf e)) with
    | none => simp
    | some a =>
      cases h2 : pev P (part e ys (i * P.cellsOf e)) with
      | none => simp
      | some b =>
        cases h3 : pev P (Op.equalIn d e a b) with
        | none => simp [h3]
        | some r =>
          cases r
          · simp [h3, pv_pure]
          · simpa [h3, pv_pure] using ih

theorem pv_eqItems {d : Nat} {e : TypeId} {ke : List LK} (hE : EqD P d e ke) (hlen : ke.length = P.cellsOf e) : ∀ (n i : Nat) (pa a pb b : List SL), pa.length = i * P.cellsOf e → pb.length = i * P.cellsOf e →
    allIs a (List.replicate n ke).flatten = true → allIs b (List.replicate n ke).flatten = true →
      pev P (eqItemsA d (P.cellsOf e) e ⟨(pa ++ a).map SL.val⟩ ⟨(pb ++ b).map SL.val⟩ (List.range' i n)) = some (eqSL a b)
  | 0, i, pa, a, pb, b, _, _, ha, hb => by
    cases a with
    | cons _ _ => cases ha
    | nil => cases b with
      | cons _ _ => cases hb
      | nil => rfl
  | n + 1, i, pa, a, pb, b, la, lb, ha, hb => by
    rw [List.replicate_succ, List.flatten_cons] at ha hb
    obtain ⟨ag, h1, h2, h3⟩ := hE
    obtain ⟨a1, a2, rfl, ha1, ha2⟩ := allIs_split ha
    obtain ⟨b1, b2, rfl, hb1, hb2⟩ := allIs_split hb
    have la1 := allIs_length ha1
    have lb1 := allIs_length hb1
    obtain ⟨x, hx1, hx2⟩ := pv_part h1 (cs := (pa ++ (a1 ++ a2)).map SL.val) (off := i * P.cellsOf e) (ds := a1.map SL.val) (by rw [← List.append_assoc]; exact cut_mid la.symm (by omega))
    obtain ⟨y, hy1, hy2⟩ := pv_part h1 (cs := (pb ++ (b1 ++ b2)).map SL.val) (off := i * P.cellsOf e) (ds := b1.map SL.val) (by rw [← List.append_assoc]; exact cut_mid lb.symm (by omega))
    have he := h3 a1 b1 x y ha1 hb1 hx2 hy2
    have ih := pv_eqItems ⟨ag, h1, h2, h3⟩ hlen n (i + 1) (pa ++ a1) a2 (pb ++ b1) b2 (by simp [Nat.add_mul]; omega) (by simp [Nat.add_mul]; omega) ha2 hb2
    rw [List.append_assoc, List.append_assoc] at ih
    simp only [List.range'_succ, eqItemsA]
    rw [pv_bind, hx1]
    simp only [Option.bind_some]
    rw [pv_bind, hy1]
    simp only [Option.bind_some]
    rw [pv_bind, he]
    simp only [Option.bind_some]
    rw [eqSL_append (by omega)]
    cases eqSL a1 b1 with
    | true => simpa using ih
    | false => rfl

theorem eq_leaf {k : LK} (hk : k ≠ .v) {a b : List SL} (ha : allIs a [k] = true) (hb : allIs b [k] = true) : ∃ x y, a = [x] ∧ b = [y] ∧ x.is k = true ∧ y.is k = true := by
  cases a with
  | nil => cases ha
  | cons x as => cases as with
    | cons _ _ => simp [allIs] at ha
    | nil => cases b with
      | nil => cases hb
      | cons y bs => cases bs with
        | cons _ _ => simp [allIs] at hb
        | nil => simp only [allIs, Bool.and_true] at ha hb; exact ⟨x, y, rfl, rfl, ha, hb⟩

/-- A flat type's values are compared leaf by leaf. -/
theorem flatK_ok : ∀ (d : Nat) (t : TypeId) (ks : List LK), flatK P d t = some ks → EqD P d t ks
  | 0, t, ks, h => by cases h
  | d + 1, t, ks, h => by
    simp only [flatK] at h
    split at h
    · rename_i k e
      cases h
      refine ⟨false, by simp [aggT, e], by simp, fun a b x y ha hb hx hy => ?_⟩
      obtain ⟨u, v, rfl, rfl, hu, hv⟩ := eq_leaf (by simp) ha hb
      rcases hx with ⟨h0, _⟩ | ⟨_, hx⟩
      · cases h0
      rcases hy with ⟨h0, _⟩ | ⟨_, hy⟩
      · cases h0
      simp only [List.map_cons, List.map_nil, List.cons.injEq, and_true] at hx hy
      subst hx; subst hy
      cases u <;> simp only [SL.is, Bool.false_eq_true] at hu
      cases v <;> simp only [SL.is, Bool.false_eq_true] at hv
      have e1 := kNo_inj hu
      have e2 := kNo_inj hv
      subst e1; subst e2
      simp only [SL.val]
      rw [pev_eq_int e]
      simp [eqSL, eqAll, SL.lf, eqLfD]
    · rename_i e
      cases h
      refine ⟨false, by simp [aggT, e], by simp, fun a b x y ha hb hx hy => ?_⟩
      obtain ⟨u, v, rfl, rfl, hu, hv⟩ := eq_leaf (by simp) ha hb
      rcases hx with ⟨h0, _⟩ | ⟨_, hx⟩
      · cases h0
      rcases hy with ⟨h0, _⟩ | ⟨_, hy⟩
      · cases h0
      simp only [List.map_cons, List.map_nil, List.cons.injEq, and_true] at hx hy
      subst hx; subst hy
      cases u <;> simp only [SL.is, Bool.false_eq_true] at hu <;> cases v <;> simp only [SL.is, Bool.false_eq_true] at hv <;>
      · simp only [SL.val]
        rw [pev_eq_bool e]
        simp [eqSL, eqAll, SL.lf, eqLfD]
    · rename_i fs e
      split at h
      · rename_i k1 hs hf
        split at h
        · rename_i hl
          cases h
          have hl := Nat.eq_of_beq_eq_true hl
          refine ⟨true, by simp [aggT, e], by simp [hl], fun a b x y ha hb hx hy => ?_⟩
          rcases hx with ⟨_, rfl⟩ | ⟨h0, _⟩
          · rcases hy with ⟨_, rfl⟩ | ⟨h0, _⟩
            · rw [pv_equalIn_struct d t fs _ _ e hs]
              exact pv_eqFields (flatK_ok d) fs.toList 0 _ hf [] a [] b rfl rfl ha hb
            · cases h0
          · cases h0
        · cases h
      · cases h
    · rename_i n el e
      split at h
      · rename_i ke hk
        split at h
        · rename_i hl
          simp only [Bool.and_eq_true] at hl
          have hl1 := Nat.eq_of_beq_eq_true hl.1
          have hl2 := Nat.eq_of_beq_eq_true hl.2
          cases h
          refine ⟨true, by simp [aggT, e], by simp only [if_true]; exact hl2.symm, fun a b x y ha hb hx hy => ?_⟩
          rcases hx with ⟨_, rfl⟩ | ⟨h0, _⟩
          · rcases hy with ⟨_, rfl⟩ | ⟨h0, _⟩
            · have hE := flatK_ok d el ke hk
              have hu : ∃ k, P.underlying el = some k := by
                obtain ⟨ag, h1, _⟩ := hE
                unfold aggT at h1
                cases hh : P.underlying el with
                | none => rw [hh] at h1; cases h1
                | some k => exact ⟨k, rfl⟩
              rw [pv_equalIn_array d t el n _ _ e hu, List.range_eq_range']
              exact pv_eqItems hE hl1 n 0 [] a [] b (by simp) (by simp) ha hb
            · cases h0
          · cases h0
        · cases h
      · cases h
    · cases h

end
end Go.Am

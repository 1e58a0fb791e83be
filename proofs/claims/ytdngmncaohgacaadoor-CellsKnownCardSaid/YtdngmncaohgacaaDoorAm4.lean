/-
  WORLDS: what an abstract heap says of a world, how a world may go on, and what a frame holds.
-/
import Derived.Test.YtdngmncaohgacaaDoorAm3
set_option linter.unusedSectionVars false
set_option linter.unusedSimpArgs false
set_option linter.unusedVariables false
set_option linter.constructorNameAsVariable false
namespace Go.Am

section
variable [Val]

def entryR (mu : HMap) (e e' : MapEntry) : Prop := e'.key = e.key ∧ flat1 e.key = true ∧ e'.born = e.born ∧ VR noL mu e.val e'.val

/-- What an abstract object says of what lies in its block. -/
def objR (mu : HMap) (p : Pl) (x : Option Obj) : HObj → Prop
  | .cells vs esz rw => p.esz = esz ∧ vs.length ≤ p.room ∧ vs.all cellOk = true ∧ ∃ c e fr, x = some (.cells c e fr) ∧ c.size = p.o + p.room ∧ (rw = true → fr = (0, 0)) ∧
      ∀ (i : Nat) v, vs[i]? = some v → ∃ v', c[p.o + i]? = some v' ∧ VR noL mu v v'
  | .map es clock => ∃ es', x = some (.map es' clock) ∧ es'.size = es.length ∧ ∀ (i : Nat) e, es[i]? = some e → ∃ e', es'[i]? = some e' ∧ entryR mu e e'
  | .loop r => ∃ L : Loop, x = some (.loop L) ∧ L.state = r.state ∧ L.pending = r.pending ∧ L.params.toList = r.params ∧ L.assign = r.assign ∧ L.body = r.body ∧ VRs noL mu r.tmps L.tmps.toList
  | .siter s pos => x = some (.stringIter s pos)
  | .dead => True

theorem entryR.mono {mu mu' : HMap} (hm : ∀ i p, mu i = some p → mu' i = some p) {e e' : MapEntry} (h : entryR mu e e') : entryR mu' e e' :=
  ⟨h.1, h.2.1, h.2.2.1, h.2.2.2.mono (fun _ _ h => h) hm⟩

theorem objR.mono {mu mu' : HMap} (hm : ∀ i p, mu i = some p → mu' i = some p) {p : Pl} {x : Option Obj} {o : HObj} (h : objR mu p x o) : objR mu' p x o := by
  cases o with
  | cells vs esz rw =>
    obtain ⟨h1, h2, h3, c, e, fr, h4, h5, h6, h7⟩ := h
    exact ⟨h1, h2, h3, c, e, fr, h4, h5, h6, fun i v hv => let ⟨v', a, b⟩ := h7 i v hv; ⟨v', a, b.mono (fun _ _ h => h) hm⟩⟩
  | map es clock =>
    obtain ⟨es', h1, h2, h3⟩ := h
    exact ⟨es', h1, h2, fun i e he => let ⟨e', a, b⟩ := h3 i e he; ⟨e', a, b.mono hm⟩⟩
  | loop r =>
    obtain ⟨L, h1, h2, h3, h4, h5, h6, h7⟩ := h
    exact ⟨L, h1, h2, h3, h4, h5, h6, h7.mono (fun _ _ h => h) hm⟩
  | siter s pos => exact h
  | dead => trivial

structure WR (C : Cfg) (base : Nat) (mu : HMap) (H : List HObj) (w : World) : Prop where
  obj : ∀ id o, H[id]? = some o → o.alive = true → ∃ p, mu id = some p ∧ objR mu p w.heap[p.b]? o
  inj : ∀ (i j : Nat) oi oj pi pj, H[i]? = some oi → H[j]? = some oj → oi.owned = true → oj.alive = true → i ≠ j → mu i = some pi → mu j = some pj → pi.b ≠ pj.b
  own : ∀ (i : Nat) o p, H[i]? = some o → o.owned = true → mu i = some p → base ≤ p.b
  ro : ∀ (i : Nat) o p, H[i]? = some o → o.alive = true → o.owned = false → mu i = some p → p.b < base
  dom : ∀ id, H.length ≤ id → mu id = none
  glob : ∀ g vs, C.G g = some vs → g < base ∧ vs.all cellOk = true ∧ ∃ c e fr, w.heap[g]? = some (.cells c e fr) ∧ VRs noL mu vs c.toList

/-- A block that an owned object lies in. -/
def Own (mu : HMap) (H : List HObj) (b : Nat) : Prop := ∃ (id : Nat) (o : HObj) (p : Pl), H[id]? = some o ∧ o.owned = true ∧ mu id = some p ∧ p.b = b

theorem owned_alive {o : HObj} (h : o.owned = true) : o.alive = true := by cases o <;> first | rfl | (simp [HObj.owned] at h)

/-- How a world goes on: what is not owned stays. -/
structure Evo (H : List HObj) (mu : HMap) (w : World) (H' : List HObj) (mu' : HMap) (w' : World) : Prop where
  len : H.length ≤ H'.length
  same : ∀ id, id < H.length → mu' id = mu id
  size : w.heap.size ≤ w'.heap.size
  keep : ∀ b, b < w.heap.size → ¬ Own mu H b → w'.heap[b]? = w.heap[b]?
  steal : ∀ b, Own mu' H' b → w.heap.size ≤ b ∨ Own mu H b
  os : w'.os = w.os
  tape : w'.tape = w.tape
  output : w'.output = w.output

theorem Evo.refl (H : List HObj) (mu : HMap) (w : World) : Evo H mu w H mu w :=
  ⟨Nat.le_refl _, fun _ _ => rfl, Nat.le_refl _, fun _ _ _ => rfl, fun _ h => .inr h, rfl, rfl, rfl⟩

theorem Evo.trans {H₁ H₂ H₃ : List HObj} {m₁ m₂ m₃ : HMap} {w₁ w₂ w₃ : World} (h : Evo H₁ m₁ w₁ H₂ m₂ w₂) (k : Evo H₂ m₂ w₂ H₃ m₃ w₃) : Evo H₁ m₁ w₁ H₃ m₃ w₃ where
  len := Nat.le_trans h.len k.len
  same := fun id hi => (k.same id (Nat.lt_of_lt_of_le hi h.len)).trans (h.same id hi)
  size := Nat.le_trans h.size k.size
  keep := fun b hb ho => (k.keep b (Nat.lt_of_lt_of_le hb h.size) fun ho' => (h.steal b ho').elim (fun hh => by omega) ho).trans (h.keep b hb ho)
  steal := fun b hb => (k.steal b hb).elim (fun hh => .inl (Nat.le_trans h.size hh)) (h.steal b)
  os := k.os.trans h.os
  tape := k.tape.trans h.tape
  output := k.output.trans h.output

/-- A draw. -/
theorem Evo.drew {H H' : List HObj} {m m' : HMap} {w w' : World} (h : Evo H m w H' m' w') (n : Nat) : Evo H m w H' m' { w' with drawn := n } :=
  ⟨h.len, h.same, h.size, h.keep, h.steal, h.os, h.tape, h.output⟩

theorem WR.drew {C : Cfg} {base : Nat} {mu : HMap} {H : List HObj} {w : World} (h : WR C base mu H w) (n : Nat) : WR C base mu H { w with drawn := n } :=
  ⟨h.obj, h.inj, h.own, h.ro, h.dom, h.glob⟩

/-- What the numbers of old objects mean does not turn. -/
theorem Evo.mono {C : Cfg} {base : Nat} {H H' : List HObj} {m m' : HMap} {w w' : World} (h : Evo H m w H' m' w') (hw : WR C base m H w) : ∀ i p, m i = some p → m' i = some p := by
  intro i p hp
  rw [h.same i ?_]; exact hp
  rcases Nat.lt_or_ge i H.length with h1 | h1
  · exact h1
  · rw [hw.dom i h1] at hp; cases hp

def upd (mu : HMap) (i : Nat) (p : Pl) : HMap := fun j => if j = i then some p else mu j
theorem upd_same (mu : HMap) (i : Nat) (p : Pl) : upd mu i p i = some p := by simp [upd]
theorem upd_ne (mu : HMap) {i j : Nat} (p : Pl) (h : j ≠ i) : upd mu i p j = mu j := by simp [upd, h]
theorem upd_mono {C : Cfg} {base : Nat} {H : List HObj} {m : HMap} {w : World} (hw : WR C base m H w) (p : Pl) : ∀ i q, m i = some q → upd m H.length p i = some q := by
  intro i q hq
  by_cases hi : i = H.length
  · subst hi; rw [hw.dom _ (Nat.le_refl _)] at hq; cases hq
  · rw [upd_ne _ _ hi]; exact hq

theorem get_append_one {α : Type} {l : List α} {x y : α} {i : Nat} (h : (l ++ [x])[i]? = some y) : (i < l.length ∧ l[i]? = some y) ∨ (i = l.length ∧ y = x) := by
  rcases Nat.lt_or_ge i l.length with hi | hi
  · rw [List.getElem?_append_left hi] at h; exact .inl ⟨hi, h⟩
  · rw [List.getElem?_append_right hi] at h
    have h0 : i - l.length = 0 := by
      rcases Nat.eq_zero_or_pos (i - l.length) with h0 | h0
      · exact h0
      · rw [List.getElem?_eq_none (by simp; omega)] at h; cases h
    rw [h0] at h
    exact .inr ⟨by omega, by simpa using h.symm⟩

/-- Blocks below the world's size. -/
theorem objR_lt {mu : HMap} {p : Pl} {w : World} {o : HObj} (ha : o.alive = true) (h : objR mu p w.heap[p.b]? o) : p.b < w.heap.size := by
  rcases Nat.lt_or_ge p.b w.heap.size with h1 | h1
  · exact h1
  · rw [Array.getElem?_eq_none h1] at h
    cases o with
    | cells vs esz rw => obtain ⟨_, _, _, c, e, fr, h, _⟩ := h; cases h
    | map es clock => obtain ⟨es', h, _⟩ := h; cases h
    | loop r => obtain ⟨L, h, _⟩ := h; cases h
    | siter s pos => cases h
    | dead => cases ha

theorem WR.lt {C : Cfg} {base : Nat} {mu : HMap} {H : List HObj} {w : World} (h : WR C base mu H w) {id : Nat} {o : HObj} {p : Pl} (ho : H[id]? = some o) (ha : o.alive = true) (hp : mu id = some p) : p.b < w.heap.size := by
  obtain ⟨q, hq, hr⟩ := h.obj id o ho ha
  obtain rfl : p = q := by rw [hp] at hq; exact Option.some.inj hq
  exact objR_lt ha hr

/-- A new object in a new block. -/
theorem WR.new {C : Cfg} {base : Nat} {mu : HMap} {H : List HObj} {w w' : World} (h : WR C base mu H w) (hb : base ≤ w.heap.size) {x : Obj} (hw : w'.heap = w.heap.push x)
    (ho : w'.os = w.os) (ht : w'.tape = w.tape) (hu : w'.output = w.output) (o : HObj) (p : Pl) (hp : p.b = w.heap.size) (hr : objR (upd mu H.length p) p (some x) o) (hro : o.alive = true → o.owned = true) :
    WR C base (upd mu H.length p) (H ++ [o]) w' ∧ Evo H mu w (H ++ [o]) (upd mu H.length p) w' := by
  have hold : ∀ b, b < w.heap.size → w'.heap[b]? = w.heap[b]? := fun b hb => by rw [hw, Array.getElem?_push, if_neg (by omega)]
  have hnew : w'.heap[p.b]? = some x := by rw [hw, Array.getElem?_push, if_pos hp]
  have hm := upd_mono h p
  refine ⟨⟨?_, ?_, ?_, ?_, ?_, ?_⟩, ⟨by simp, ?_, by simp [hw], fun b hb _ => hold b hb, ?_, ho, ht, hu⟩⟩
  · intro id o' hid ha
    rcases get_append_one hid with ⟨hi, hid⟩ | ⟨rfl, rfl⟩
    · obtain ⟨q, hq, hr'⟩ := h.obj id o' hid ha
      refine ⟨q, hm _ _ hq, ?_⟩
      rw [hold _ (objR_lt ha hr')]
      exact hr'.mono hm
    · exact ⟨p, upd_same _ _ _, by rw [hnew]; exact hr⟩
  · intro i j oi oj pi pj hi hj hoi hoj hij hpi hpj
    rcases get_append_one hi with ⟨hi', hi2⟩ | ⟨rfl, rfl⟩
    · rw [upd_ne _ _ (by omega)] at hpi
      rcases get_append_one hj with ⟨hj', hj2⟩ | ⟨rfl, rfl⟩
      · rw [upd_ne _ _ (by omega)] at hpj
        exact h.inj i j oi oj pi pj hi2 hj2 hoi hoj hij hpi hpj
      · rw [upd_same] at hpj
        obtain rfl := Option.some.inj hpj
        have := h.lt hi2 (owned_alive hoi) hpi
        omega
    · rw [upd_same] at hpi
      obtain rfl := Option.some.inj hpi
      rcases get_append_one hj with ⟨hj', hj2⟩ | ⟨rfl, rfl⟩
      · rw [upd_ne _ _ (by omega)] at hpj
        have := h.lt hj2 hoj hpj
        omega
      · exact absurd rfl hij
  · intro i o' q hi ho' hq
    rcases get_append_one hi with ⟨hi', hi2⟩ | ⟨rfl, rfl⟩
    · rw [upd_ne _ _ (by omega)] at hq
      exact h.own i o' q hi2 ho' hq
    · rw [upd_same] at hq
      obtain rfl := Option.some.inj hq
      omega
  · intro i o' q hi ha ho' hq
    rcases get_append_one hi with ⟨hi', hi2⟩ | ⟨rfl, rfl⟩
    · rw [upd_ne _ _ (by omega)] at hq
      exact h.ro i o' q hi2 ha ho' hq
    · rw [hro ha] at ho'; cases ho'
  · intro id hid
    simp at hid
    rw [upd_ne _ _ (by omega)]
    exact h.dom id (by omega)
  · intro g vs hg
    obtain ⟨h1, h2, c, e, fr, h3, h4⟩ := h.glob g vs hg
    exact ⟨h1, h2, c, e, fr, by rw [hold g (by omega)]; exact h3, h4.mono (fun _ _ h => h) hm⟩
  · intro id hid
    rw [upd_ne _ _ (by omega)]
  · rintro b ⟨id, o', q, hid, ho', hq, rfl⟩
    rcases get_append_one hid with ⟨hi', hi⟩ | ⟨rfl, rfl⟩
    · rw [upd_ne _ _ (by omega)] at hq
      exact .inr ⟨id, o', q, hi, ho', hq, rfl⟩
    · rw [upd_same] at hq
      obtain rfl := Option.some.inj hq
      exact .inl (by omega)

theorem get_set {α : Type} {l : List α} {x y : α} {i j : Nat} (h : (l.set i x)[j]? = some y) : (j ≠ i ∧ l[j]? = some y) ∨ (j = i ∧ i < l.length ∧ y = x) := by
  rw [List.getElem?_set] at h
  by_cases hij : i = j
  · subst hij
    simp only [if_true] at h
    split at h
    · rename_i hl; exact .inr ⟨rfl, hl, by simpa using h.symm⟩
    · cases h
  · rw [if_neg hij] at h; exact .inl ⟨fun e => hij e.symm, h⟩

/-- An owned object is written, or dies. -/
theorem WR.set {C : Cfg} {base : Nat} {mu : HMap} {H : List HObj} {w w' : World} (h : WR C base mu H w) {id : Nat} {o : HObj} {p : Pl} (hid : H[id]? = some o) (ho : o.owned = true)
    (hp : mu id = some p) {x : Obj} (hw : w'.heap = w.heap.setIfInBounds p.b x) (hos : w'.os = w.os) (ht : w'.tape = w.tape) (hu : w'.output = w.output)
    (o' : HObj) (ho' : o'.alive = true → o'.owned = true) (hr : objR mu p (some x) o') :
    WR C base mu (H.set id o') w' ∧ Evo H mu w (H.set id o') mu w' := by
  have hlt := h.lt hid (owned_alive ho) hp
  have hbase := h.own id o p hid ho hp
  have hsame : w'.heap[p.b]? = some x := by rw [hw]; simp [hlt]
  have hold : ∀ b, b ≠ p.b → w'.heap[b]? = w.heap[b]? := fun b hb => by rw [hw, Array.getElem?_setIfInBounds_ne (Ne.symm hb)]
  have hback : ∀ (j : Nat) oj, (H.set id o')[j]? = some oj → oj.alive = true → ∃ oj', H[j]? = some oj' ∧ oj'.alive = true ∧ (oj.owned = true → oj'.owned = true) := by
    intro j oj hj ha
    rcases get_set hj with ⟨_, hj⟩ | ⟨rfl, _, rfl⟩
    · exact ⟨oj, hj, ha, fun h => h⟩
    · exact ⟨o, hid, owned_alive ho, fun _ => ho⟩
  refine ⟨⟨?_, ?_, ?_, ?_, ?_, ?_⟩, ⟨by simp, fun _ _ => rfl, by simp [hw], ?_, ?_, hos, ht, hu⟩⟩
  · intro j oj hj ha
    rcases get_set hj with ⟨hne, hj⟩ | ⟨rfl, _, rfl⟩
    · obtain ⟨q, hq, hr'⟩ := h.obj j oj hj ha
      refine ⟨q, hq, ?_⟩
      rw [hold q.b fun e => h.inj id j o oj p q hid hj ho ha (Ne.symm hne) hp hq e.symm]
      exact hr'
    · exact ⟨p, hp, by rw [hsame]; exact hr⟩
  · intro i j oi oj pi pj hi hj hoi hoj hij hpi hpj
    obtain ⟨oi', hi', _, hoi'⟩ := hback i oi hi (owned_alive hoi)
    obtain ⟨oj', hj', haj, _⟩ := hback j oj hj hoj
    exact h.inj i j oi' oj' pi pj hi' hj' (hoi' hoi) haj hij hpi hpj
  · intro i oi q hi hoi hq
    obtain ⟨oi', hi', _, hoi'⟩ := hback i oi hi (owned_alive hoi)
    exact h.own i oi' q hi' (hoi' hoi) hq
  · intro i oi q hi ha hoi hq
    rcases get_set hi with ⟨_, hi2⟩ | ⟨rfl, _, rfl⟩
    · exact h.ro i oi q hi2 ha hoi hq
    · rw [ho' ha] at hoi; cases hoi
  · intro i hi
    exact h.dom i (by simpa using hi)
  · intro g vs hg
    obtain ⟨h1, h2, c, e, fr, h3, h4⟩ := h.glob g vs hg
    exact ⟨h1, h2, c, e, fr, by rw [hold g (by omega)]; exact h3, h4⟩
  · intro b _ hb
    exact hold b fun e => hb ⟨id, o, p, hid, ho, hp, e.symm⟩
  · rintro b ⟨j, oj, q, hj, hoj, hq, rfl⟩
    obtain ⟨oj', hj', _, hoj'⟩ := hback j oj hj (owned_alive hoj)
    exact .inr ⟨j, oj', q, hj', hoj' hoj, hq, rfl⟩

/-- An owned object hands its block on to a new one: an append in place. -/
theorem WR.move {C : Cfg} {base : Nat} {mu : HMap} {H : List HObj} {w w' : World} (h : WR C base mu H w) {id : Nat} {o : HObj} {p : Pl} (hid : H[id]? = some o) (ho : o.owned = true)
    (hp : mu id = some p) {x : Obj} (hw : w'.heap = w.heap.setIfInBounds p.b x) (hos : w'.os = w.os) (ht : w'.tape = w.tape) (hu : w'.output = w.output)
    (o' : HObj) (q : Pl) (hq : q.b = p.b) (hr : objR (upd mu H.length q) q (some x) o') (hro : o'.alive = true → o'.owned = true) :
    WR C base (upd mu H.length q) (H.set id .dead ++ [o']) w' ∧ Evo H mu w (H.set id .dead ++ [o']) (upd mu H.length q) w' := by
  obtain ⟨hW, hE⟩ := h.set hid ho hp (x := x) hw hos ht hu .dead (fun h => by cases h) trivial
  have hlt := h.lt hid (owned_alive ho) hp
  have hbase := h.own id o p hid ho hp
  have hlen : (H.set id HObj.dead).length = H.length := by simp
  have hsame : w'.heap[p.b]? = some x := by rw [hw]; simp [hlt]
  have hm : ∀ i r, mu i = some r → upd mu H.length q i = some r := upd_mono h q
  have hidl : id < H.length := by
    rcases Nat.lt_or_ge id H.length with h1 | h1
    · exact h1
    · rw [List.getElem?_eq_none h1] at hid; cases hid
  have hfree : ∀ (j : Nat) oj r, (H.set id HObj.dead)[j]? = some oj → oj.alive = true → mu j = some r → r.b ≠ p.b := by
    intro j oj r hj ha hr' e
    rcases get_set hj with ⟨hne, hj⟩ | ⟨rfl, _, rfl⟩
    · exact h.inj id j o oj p r hid hj ho ha (Ne.symm hne) hp hr' e.symm
    · cases ha
  refine ⟨⟨?_, ?_, ?_, ?_, ?_, ?_⟩, ⟨by simp, ?_, hE.size, hE.keep, ?_, hos, ht, hu⟩⟩
  · intro j oj hj ha
    rcases get_append_one hj with ⟨hj', hj2⟩ | ⟨rfl, rfl⟩
    · obtain ⟨r, hr', hr''⟩ := hW.obj j oj hj2 ha
      exact ⟨r, hm _ _ hr', hr''.mono hm⟩
    · rw [hlen]
      exact ⟨q, upd_same _ _ _, by rw [hq, hsame]; exact hr⟩
  · intro i j oi oj pi pj hi hj hoi hoj hij hpi hpj
    rcases get_append_one hi with ⟨hi', hi2⟩ | ⟨rfl, rfl⟩
    · rw [upd_ne _ _ (by omega)] at hpi
      rcases get_append_one hj with ⟨hj', hj2⟩ | ⟨rfl, rfl⟩
      · rw [upd_ne _ _ (by omega)] at hpj
        exact hW.inj i j oi oj pi pj hi2 hj2 hoi hoj hij hpi hpj
      · rw [hlen, upd_same] at hpj
        obtain rfl := Option.some.inj hpj
        rw [hq]
        exact hfree i oi pi hi2 (owned_alive hoi) hpi
    · rw [hlen, upd_same] at hpi
      obtain rfl := Option.some.inj hpi
      rcases get_append_one hj with ⟨hj', hj2⟩ | ⟨rfl, rfl⟩
      · rw [upd_ne _ _ (by omega)] at hpj
        rw [hq]
        exact Ne.symm (hfree j oj pj hj2 hoj hpj)
      · exact absurd rfl hij
  · intro i oi r hi hoi hr'
    rcases get_append_one hi with ⟨hi', hi2⟩ | ⟨rfl, rfl⟩
    · rw [upd_ne _ _ (by omega)] at hr'
      exact hW.own i oi r hi2 hoi hr'
    · rw [hlen, upd_same] at hr'
      obtain rfl := Option.some.inj hr'
      omega
  · intro i oi r hi ha hoi hr'
    rcases get_append_one hi with ⟨hi', hi2⟩ | ⟨rfl, rfl⟩
    · rw [upd_ne _ _ (by omega)] at hr'
      exact hW.ro i oi r hi2 ha hoi hr'
    · rw [hro ha] at hoi; cases hoi
  · intro i hi
    simp at hi
    rw [upd_ne _ _ (by omega)]
    exact h.dom i (by omega)
  · intro g vs hg
    obtain ⟨h1, h2, c, e, fr, h3, h4⟩ := hW.glob g vs hg
    exact ⟨h1, h2, c, e, fr, h3, h4.mono (fun _ _ h => h) hm⟩
  · intro i hi
    rw [upd_ne _ _ (by omega)]
  · rintro b ⟨j, oj, r, hj, hoj, hr', rfl⟩
    rcases get_append_one hj with ⟨hj', hj2⟩ | ⟨rfl, rfl⟩
    · rw [upd_ne _ _ (by omega)] at hr'
      exact hE.steal _ ⟨j, oj, r, hj2, hoj, hr', rfl⟩
    · rw [hlen, upd_same] at hr'
      obtain rfl := Option.some.inj hr'
      exact .inr ⟨id, o, p, hid, ho, hp, hq.symm⟩

/-! ### Frames -/

/-- What a frame's state says of its temporaries and of the world. -/
structure SR (C : Cfg) (base : Nat) (la : LMap) (mu : HMap) (σ : St) (tmps : Array Value) (w : World) : Prop where
  vals : VRs la mu σ.tmps tmps.toList
  ldom : ∀ s b, la s = some b → ∃ vs, σ.loc[s]? = some (some vs)
  loc : ∀ (s : Nat) vs, σ.loc[s]? = some (some vs) → ∃ b c e, la s = some b ∧ base ≤ b ∧ w.heap[b]? = some (.cells c e (0, 0)) ∧ vs.all cellOk = true ∧ VRs noL mu vs c.toList ∧ ¬ Own mu σ.heap b
  linj : ∀ s s' b, la s = some b → la s' = some b → s = s'
  wr : WR C base mu σ.heap w

/-- A heap step beside the frame. -/
theorem SR.evo {C : Cfg} {base : Nat} {la : LMap} {mu mu' : HMap} {σ : St} {tmps : Array Value} {w w' : World} {H' : List HObj} (h : SR C base la mu σ tmps w)
    (hw : WR C base mu' H' w') (he : Evo σ.heap mu w H' mu' w') : SR C base la mu' { σ with heap := H' } tmps w' := by
  have hm := he.mono h.wr
  refine ⟨h.vals.mono (fun _ _ h => h) hm, h.ldom, ?_, h.linj, hw⟩
  intro s vs hs
  obtain ⟨b, c, e, h1, h2, h3, h4, h5, h6⟩ := h.loc s vs hs
  have hb : b < w.heap.size := by
    rcases Nat.lt_or_ge b w.heap.size with h | h
    · exact h
    · rw [Array.getElem?_eq_none h] at h3; cases h3
  exact ⟨b, c, e, h1, h2, by have := he.keep b hb h6; rw [this]; exact h3, h4, h5.mono (fun _ _ h => h) hm, fun ho => (he.steal b ho).elim (fun hh => by omega) h6⟩

theorem SR.put {C : Cfg} {base : Nat} {la : LMap} {mu : HMap} {σ : St} {tmps : Array Value} {w : World} (h : SR C base la mu σ tmps w) (dst : Option Tmp) {v v' : Value} (hv : VR la mu v v') :
    SR C base la mu (σ.put dst v) (match dst with | some d => tmps.setIfInBounds d v' | none => tmps) w := by
  cases dst with
  | none => exact h
  | some d =>
    refine ⟨?_, h.ldom, h.loc, h.linj, h.wr⟩
    have := h.vals.set d hv
    simpa [St.put] using this

end
end Go.Am

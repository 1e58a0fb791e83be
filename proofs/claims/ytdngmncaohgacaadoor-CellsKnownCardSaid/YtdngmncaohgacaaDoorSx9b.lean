/-
  REGIONS THAT DRAW THEIR ORDER, second part: whatever the order.
-/
import Derived.Test.YtdngmncaohgacaaDoorSx9
set_option linter.unusedSectionVars false
set_option linter.unusedSimpArgs false
set_option linter.unusedVariables false
set_option linter.constructorNameAsVariable false
namespace Go.Am
namespace Sx

section
variable [Val] {C : Cfg} {B : Below} {N : FuncId → Option Nat} {pts : List Nat} {ops : Array Oper}

theorem move_front {i : Nat} {post : List Nat} : ∀ (pre : List Nat), (∀ k ∈ pre, ∀ σ σ₁ σ' : St, stepRel C B pts ops k σ σ₁ → stepRel C B pts ops i σ₁ σ' → ∃ τ, stepRel C B pts ops i σ τ ∧ stepRel C B pts ops k τ σ') →
    ∀ σ σ' : St, opsRel C B pts ops (pre ++ i :: post) σ σ' → opsRel C B pts ops (i :: (pre ++ post)) σ σ'
  | [], _, σ, σ', h => h
  | k :: pre, hc, σ, σ', ⟨σ₁, h1, h2⟩ => by
    obtain ⟨σ₂, h3, h4⟩ := move_front pre (fun k hk => hc k (by simp [hk])) σ₁ σ' h2
    obtain ⟨τ, h5, h6⟩ := hc k (by simp) σ σ₁ σ₂ h1 h3
    exact ⟨τ, h5, σ₂, h6, h4⟩

/-- The operations that come before one, as bits. -/
def ancOf (acc : List Nat) (o : Oper) : Nat :=
  o.after.toList.foldl (fun m e => match Region.binds .any e with
    | true => Nat.lor (Nat.lor m (Nat.shiftLeft 1 e.on)) (acc.getD e.on 0)
    | false => m) 0
def ancs : List Oper → List Nat → List Nat
  | [], acc => acc
  | o :: l, acc => ancs l (acc ++ [ancOf acc o])

inductive Anc (ops : Array Oper) (k : Nat) : Nat → Prop
  | edge {i : Nat} {o : Oper} {e : Edge} (ho : ops[i]? = some o) (he : e ∈ o.after.toList) (hb : Region.binds .any e = true) (hk : e.on = k) : Anc ops k i
  | step {i : Nat} {o : Oper} {e : Edge} (ho : ops[i]? = some o) (he : e ∈ o.after.toList) (hb : Region.binds .any e = true) (h : Anc ops k e.on) : Anc ops k i

theorem ancOf_ok {acc : List Nat} (hacc : ∀ (i k : Nat), (acc.getD i 0).testBit k = true → Anc ops k i) {i : Nat} {o : Oper} (ho : ops[i]? = some o) {k : Nat} (h : (ancOf acc o).testBit k = true) : Anc ops k i := by
  unfold ancOf at h
  have main : ∀ (l : List Edge) (m : Nat), (∀ e ∈ l, e ∈ o.after.toList) → (m.testBit k = true → Anc ops k i) →
      (l.foldl (fun m e => match Region.binds .any e with
        | true => Nat.lor (Nat.lor m (Nat.shiftLeft 1 e.on)) (acc.getD e.on 0)
        | false => m) m).testBit k = true → Anc ops k i := by
    intro l
    induction l with
    | nil => intro m _ hm h; exact hm h
    | cons e l ih =>
      intro m hl hm h
      simp only [List.foldl_cons] at h
      refine ih _ (fun e he => hl e (by simp [he])) (fun hb => ?_) h
      cases hbi : Region.binds .any e with
      | false => simp only [hbi] at hb; exact hm hb
      | true =>
        simp only [hbi] at hb
        have hb' : ((m ||| (1 <<< e.on)) ||| acc.getD e.on 0).testBit k = true := hb
        rw [Nat.testBit_or, Nat.testBit_or, Bool.or_eq_true, Bool.or_eq_true] at hb'
        rcases hb' with (hb' | hb') | hb'
        · exact hm hb'
        · rw [Nat.one_shiftLeft, Nat.testBit_two_pow] at hb'
          exact .edge ho (hl e (by simp)) hbi (by simpa using hb')
        · exact .step ho (hl e (by simp)) hbi (hacc _ _ hb')
  exact main _ 0 (fun _ h => h) (fun h => by simp at h) h

theorem ancs_ok : ∀ (l : List Oper) (acc : List Nat), ops.toList.drop acc.length = l → (∀ (i k : Nat), (acc.getD i 0).testBit k = true → Anc ops k i) → ∀ (i k : Nat), ((ancs l acc).getD i 0).testBit k = true → Anc ops k i
  | [], acc, _, hacc => hacc
  | o :: l, acc, hl, hacc => by
    have ho : ops[acc.length]? = some o := by
      have : (ops.toList.drop acc.length)[0]? = some o := by rw [hl]; rfl
      simpa using this
    refine ancs_ok l (acc ++ [ancOf acc o]) (by rw [List.length_append, ← List.drop_drop, hl]; rfl) fun i k h => ?_
    rw [List.getD_eq_getElem?_getD, List.getElem?_append] at h
    split at h
    · exact hacc i k (by rw [List.getD_eq_getElem?_getD]; exact h)
    · rename_i hge
      by_cases hi : i = acc.length
      · subst hi
        simp at h
        exact ancOf_ok hacc ho h
      · rw [List.getElem?_eq_none (by simp; omega)] at h
        simp at h

/-- THE CHECK: edges go back; two operations that nothing orders may change places. -/
def edgesBack : List Oper → Nat → Bool
  | [], _ => true
  | o :: l, i => (o.after.toList.all fun e => !Region.binds .any e || Nat.blt e.on i) && edgesBack l (i + 1)
def commAll (N : FuncId → Option Nat) (pts : List Nat) (ops : Array Oper) (b : Oper) (m : Nat) : List Oper → Nat → Bool
  | [], _ => true
  | a :: l, k => (Nat.testBit m k || comm2 N pts ops a b) && commAll N pts ops b m l (k + 1)
def pairsOk (N : FuncId → Option Nat) (pts : List Nat) (ops : Array Oper) (ms : List Nat) : List Oper → List Oper → Nat → Bool
  | _, [], _ => true
  | pre, b :: l, i => commAll N pts ops b (ms.getD i 0) pre 0 && pairsOk N pts ops ms (pre ++ [b]) l (i + 1)
def regOk (N : FuncId → Option Nat) (pts : List Nat) (ops : Array Oper) : Bool :=
  edgesBack ops.toList 0 && pairsOk N pts ops (ancs ops.toList []) [] ops.toList 0

theorem edgesBack_ok : ∀ {l : List Oper} {i : Nat}, edgesBack l i = true → ∀ (j : Nat) o, l[j]? = some o → ∀ e ∈ o.after.toList, Region.binds .any e = true → e.on < i + j
  | [], i, _, j, o, h, _, _, _ => by simp at h
  | o :: l, i, h, j, p, hj, e, he, hb => by
    simp only [edgesBack, Bool.and_eq_true, List.all_eq_true] at h
    cases j with
    | zero =>
      simp at hj
      subst hj
      have := h.1 e he
      rw [hb] at this
      simpa [Nat.blt_eq] using this
    | succ j =>
      have := edgesBack_ok h.2 j p (by simpa using hj) e he hb
      omega

theorem commAll_ok {b : Oper} {m : Nat} : ∀ {l : List Oper} {k : Nat}, commAll N pts ops b m l k = true → ∀ (j : Nat) a, l[j]? = some a → m.testBit (k + j) = true ∨ comm2 N pts ops a b = true
  | [], k, _, j, a, h => by simp at h
  | a :: l, k, h, j, c, hj => by
    simp only [commAll, Bool.and_eq_true, Bool.or_eq_true] at h
    cases j with
    | zero => simp at hj; subst hj; exact h.1
    | succ j =>
      have := commAll_ok h.2 j c (by simpa using hj)
      rwa [show k + 1 + j = k + (j + 1) by omega] at this

theorem pairsOk_ok {ms : List Nat} : ∀ {l pre : List Oper} {i : Nat}, pre.length = i → pairsOk N pts ops ms pre l i = true → ∀ (j : Nat) b, l[j]? = some b → ∀ (k : Nat) a, k < i + j → (pre ++ l)[k]? = some a → (ms.getD (i + j) 0).testBit k = true ∨ comm2 N pts ops a b = true
  | [], pre, i, _, _, j, b, h, _, _, _, _ => by simp at h
  | b :: l, pre, i, hp, h, j, c, hj, k, a, hk, ha => by
    simp only [pairsOk, Bool.and_eq_true] at h
    cases j with
    | zero =>
      simp at hj
      subst hj
      rw [List.getElem?_append_left (by omega)] at ha
      have := commAll_ok h.1 k a ha
      simpa using this
    | succ j =>
      have := pairsOk_ok (pre := pre ++ [b]) (i := i + 1) (by simp [hp]) h.2 j c (by simpa using hj) k a (by omega) (by simpa using ha)
      rwa [show i + 1 + j = i + (j + 1) by omega] at this

theorem regOk_pair (h : regOk N pts ops = true) {i k : Nat} {a b : Oper} (hb : ops[i]? = some b) (ha : ops[k]? = some a) (hk : k < i) : Anc ops k i ∨ comm2 N pts ops a b = true := by
  simp only [regOk, Bool.and_eq_true] at h
  have := pairsOk_ok (pre := []) (i := 0) rfl h.2 i b (by simpa using hb) k a (by omega) (by simpa using ha)
  rw [Nat.zero_add] at this
  exact this.imp (fun h => ancs_ok ops.toList [] rfl (fun i k h => by simp at h) i k h) id
theorem regOk_back (h : regOk N pts ops = true) {i : Nat} {o : Oper} (ho : ops[i]? = some o) {e : Edge} (he : e ∈ o.after.toList) (hb : Region.binds .any e = true) : e.on < i := by
  simp only [regOk, Bool.and_eq_true] at h
  have := edgesBack_ok h.1 i o (by simpa using ho) e he hb
  omega

/-- What is not listed yet. -/
def unl (n : Nat) (listed : Array Bool) : List Nat := (List.range n).filter fun i => !listed.getD i true

theorem anc_listed {listed : Array Bool} (hcl : ∀ (x : Nat) o, listed.getD x true = true → ops[x]? = some o → ∀ e ∈ o.after.toList, Region.binds .any e = true → listed.getD e.on false = true) {k i : Nat} (h : Anc ops k i)
    (hr : ∀ o, ops[i]? = some o → ∀ e ∈ o.after.toList, Region.binds .any e = true → listed.getD e.on false = true) : listed.getD k false = true := by
  induction h with
  | edge ho he hb hk => rw [← hk]; exact hr _ ho _ he hb
  | step ho he hb h ih =>
    have h1 := hr _ ho _ he hb
    refine ih fun o ho2 e he2 hb2 => hcl _ o ?_ ho2 e he2 hb2
    rename_i e0
    rw [Array.getD_eq_getD_getElem?] at h1 ⊢
    cases hx : listed[e0.on]? with
    | none => rfl
    | some b => rw [hx] at h1; exact h1

theorem filter_split {p : Nat → Bool} {i : Nat} : ∀ {l : List Nat}, l.Nodup → i ∈ l.filter p → ∃ pre post, l.filter p = pre ++ i :: post ∧ (l.filter fun j => p j && j != i) = pre ++ post ∧ (∀ k ∈ pre, k ∈ l.filter p ∧ k ≠ i)
  | [], _, h => by simp at h
  | x :: l, hn, h => by
    rw [List.nodup_cons] at hn
    by_cases hx : x = i
    · subst hx
      have hp : p x = true := (List.mem_filter.1 h).2
      refine ⟨[], l.filter p, by simp [hp], ?_, by simp⟩
      simp only [List.nil_append, List.filter_cons, hp, bne_self_eq_false, Bool.and_false, Bool.false_eq_true, if_false]
      refine List.filter_congr fun j hj => ?_
      have : j ≠ x := fun e => hn.1 (e ▸ hj)
      simp [this]
    · have h' : i ∈ l.filter p := by
        rw [List.mem_filter] at h ⊢
        exact ⟨(List.mem_cons.1 h.1).resolve_left fun e => hx e.symm, h.2⟩
      obtain ⟨pre, post, e1, e2, e3⟩ := filter_split hn.2 h'
      by_cases hp : p x = true
      · refine ⟨x :: pre, post, by simp [List.filter_cons, hp, e1], ?_, fun k hk => ?_⟩
        · simp only [List.filter_cons, hp, Bool.true_and, List.cons_append]
          rw [if_pos (by simpa using hx), e2]
        · rcases List.mem_cons.1 hk with rfl | hk
          · exact ⟨by simp [List.mem_filter, hp], hx⟩
          · obtain ⟨q1, q2⟩ := e3 k hk
            rw [List.mem_filter] at q1 ⊢
            exact ⟨⟨by simp [q1.1], q1.2⟩, q2⟩
      · refine ⟨pre, post, by simp [List.filter_cons, hp, e1], ?_, fun k hk => ?_⟩
        · simp only [List.filter_cons, hp, Bool.false_and, Bool.false_eq_true, if_false]
          exact e2
        · obtain ⟨q1, q2⟩ := e3 k hk
          rw [List.mem_filter] at q1 ⊢
          exact ⟨⟨by simp [q1.1], q1.2⟩, q2⟩

theorem filter_order {p : Nat → Bool} : ∀ {n : Nat} {pre post : List Nat} {i : Nat}, (List.range n).filter p = pre ++ i :: post → ∀ k ∈ pre, k < i := by
  intro n pre post i h k hk
  have hs : ((List.range n).filter p).Pairwise (· < ·) := List.Pairwise.filter _ List.pairwise_lt_range
  rw [h, List.pairwise_append] at hs
  exact hs.2.2 k hk i (by simp)

theorem go_ok (hN : NeuB N B) (hreg : regOk N pts ops = true) : ∀ (fuel t : Nat) (listed : Array Bool), listed.size = ops.size → (unl ops.size listed).length = fuel →
    (∀ (x : Nat) o, listed.getD x true = true → ops[x]? = some o → ∀ e ∈ o.after.toList, Region.binds .any e = true → listed.getD e.on false = true) →
    ∀ σ σ' : St, opsRel C B pts ops (unl ops.size listed) σ σ' → opsRel C B pts ops (Region.linearise.go .any ops fuel t listed []) σ σ'
  | 0, t, listed, _, hl, _, σ, σ', h => by
    have : unl ops.size listed = [] := List.length_eq_zero_iff.1 hl
    rw [this] at h
    simpa [Region.linearise.go] using h
  | fuel + 1, t, listed, hsz, hl, hcl, σ, σ', h => by
    simp only [Region.linearise.go]
    generalize hrs : ((List.range ops.size).filter fun i => !listed.getD i true && ((ops[i]?).map (·.after.all fun e => !Region.binds .any e || listed.getD e.on false)).getD false) = rs
    have hready : ∀ i ∈ rs, i < ops.size ∧ listed.getD i true = false ∧ ∀ o, ops[i]? = some o → ∀ e ∈ o.after.toList, Region.binds .any e = true → listed.getD e.on false = true := by
      intro i hi
      rw [← hrs, List.mem_filter, List.mem_range] at hi
      obtain ⟨h1, h2⟩ := hi
      simp only [Bool.and_eq_true, Bool.not_eq_true'] at h2
      refine ⟨h1, h2.1, fun o ho e he hb => ?_⟩
      have h3 := h2.2
      rw [ho] at h3
      simp only [Option.map_some, Option.getD_some] at h3
      rw [Array.all_eq_true'] at h3
      have := h3 e (by simpa using he)
      rw [hb] at this
      simpa using this
    have hne : rs ≠ [] := by
      -- the first one that is not listed is ready
      have hu : unl ops.size listed ≠ [] := by intro e; rw [e] at hl; cases hl
      obtain ⟨i0, tl, hu0⟩ := List.exists_cons_of_ne_nil hu
      have hi0 : i0 ∈ unl ops.size listed := by rw [hu0]; simp
      have hi1 := hi0
      rw [unl, List.mem_filter, List.mem_range] at hi1
      have hmem : i0 ∈ rs := by
        rw [← hrs, List.mem_filter, List.mem_range]
        refine ⟨hi1.1, ?_⟩
        simp only [Bool.and_eq_true]
        refine ⟨hi1.2, ?_⟩
        have ho : ops[i0]? = some ops[i0] := by simp [hi1.1]
        rw [ho]
        simp only [Option.map_some, Option.getD_some]
        rw [Array.all_eq_true']
        intro e he
        cases hb : Region.binds .any e with
        | false => simp
        | true =>
          have hlt := regOk_back hreg ho (by simpa using he) hb
          simp only [Bool.not_true, Bool.false_or]
          -- it is less than the first one that is not listed
          by_cases hlis : listed.getD e.on true = true
          · have hs : e.on < listed.size := by omega
            rw [Array.getD_eq_getD_getElem?] at hlis ⊢
            rw [Array.getElem?_eq_getElem hs] at hlis ⊢
            exact hlis
          · exfalso
            have hm : e.on ∈ unl ops.size listed := by
              rw [unl, List.mem_filter, List.mem_range]
              exact ⟨by omega, by simpa using hlis⟩
            rw [hu0] at hm
            rcases List.mem_cons.1 hm with hm | hm
            · omega
            · have hs : (unl ops.size listed).Pairwise (· < ·) := List.Pairwise.filter _ List.pairwise_lt_range
              rw [hu0, List.pairwise_cons] at hs
              have := hs.1 _ hm
              omega
      intro e; rw [e] at hmem; cases hmem
    have hlen : 0 < rs.length := List.length_pos_iff.2 hne
    have hget : rs[t % rs.length]? = some (rs[t % rs.length]'(Nat.mod_lt _ hlen)) := List.getElem?_eq_getElem (Nat.mod_lt _ hlen)
    rw [hget]
    simp only
    generalize hi : rs[t % rs.length]'(Nat.mod_lt _ hlen) = i
    have hmem : i ∈ rs := by rw [← hi]; exact List.getElem_mem _
    obtain ⟨i1, i2, i3⟩ := hready i hmem
    rw [linearise_go_acc, List.reverse_singleton, List.singleton_append]
    have hiu : i ∈ (List.range ops.size).filter fun j => !listed.getD j true := by
      rw [List.mem_filter, List.mem_range]; exact ⟨i1, by simp [i2]⟩
    obtain ⟨pre, post, e1, e2, e3⟩ := filter_split List.nodup_range hiu
    have hord := filter_order e1
    have hnew : unl ops.size (listed.setIfInBounds i true) = pre ++ post := by
      rw [← e2]
      unfold unl
      refine List.filter_congr fun j hj => ?_
      rw [Array.getD_eq_getD_getElem?, Array.getD_eq_getD_getElem?, Array.getElem?_setIfInBounds]
      by_cases hji : i = j
      · subst hji
        rw [if_pos rfl, if_pos (by omega)]
        simp
      · rw [if_neg hji]
        have : (j != i) = true := by simpa using fun e => hji e.symm
        simp [this]
    have hmf := move_front (C := C) (B := B) (pts := pts) (ops := ops) (i := i) (post := post) pre (fun k hk σ σ₁ σ' s1 s2 => by
      obtain ⟨m1, m2⟩ := e3 k hk
      rw [List.mem_filter, List.mem_range] at m1
      have ha : ops[k]? = some ops[k] := by simp [m1.1]
      have hb : ops[i]? = some ops[i] := by simp [i1]
      rcases regOk_pair hreg hb ha (hord k hk) with hanc | hcm
      · exfalso
        have := anc_listed hcl hanc i3
        have m3 := m1.2
        rw [Array.getD_eq_getD_getElem?] at this m3
        rw [Array.getElem?_eq_getElem (by omega)] at this m3
        simp only [Option.getD_some] at this m3
        rw [this] at m3
        cases m3
      · exact swap_ok hN ha hb hcm s1 s2) σ σ'
    obtain ⟨σ₁, s1, s2⟩ := hmf (by rw [← e1]; exact h)
    refine ⟨σ₁, s1, go_ok hN hreg fuel _ _ (by simp [hsz]) ?_ ?_ σ₁ σ' (by rw [hnew]; exact s2)⟩
    · rw [hnew]
      have : (unl ops.size listed).length = (pre ++ post).length + 1 := by
        show (List.filter _ _).length = _
        rw [e1]; simp; omega
      omega
    · intro x o hx ho e he hb
      have keep : ∀ y, listed.getD y false = true → (listed.setIfInBounds i true).getD y false = true := by
        intro y hy
        rw [Array.getD_eq_getD_getElem?] at hy ⊢
        rw [Array.getElem?_setIfInBounds]
        split
        · rename_i h1
          subst h1
          rw [if_pos (by omega)]; rfl
        · exact hy
      by_cases hxi : x = i
      · subst hxi; exact keep _ (i3 o ho e he hb)
      · refine keep _ (hcl x o ?_ ho e he hb)
        rw [Array.getD_eq_getD_getElem?, Array.getElem?_setIfInBounds, if_neg (fun e => hxi e.symm)] at hx
        rw [Array.getD_eq_getD_getElem?]; exact hx

/-- WHATEVER THE ORDER. -/
theorem any_ok (hN : NeuB N B) (hreg : regOk N pts ops = true) {σ σ' : St} (h : opsRel C B pts ops (List.range ops.size) σ σ') : anyRel C B pts ops σ σ' := by
  intro t
  have hz : unl ops.size (Array.replicate ops.size false) = List.range ops.size := by
    unfold unl
    rw [List.filter_eq_self]
    intro i hi
    rw [List.mem_range] at hi
    rw [Array.getD_eq_getD_getElem?, Array.getElem?_replicate, if_pos hi]
    rfl
  refine go_ok hN hreg ops.size t (Array.replicate ops.size false) (by simp) (by rw [hz]; simp) (fun x o hx ho => ?_) σ σ' (by rw [hz]; exact h)
  have hlt : x < ops.size := (Array.getElem?_eq_some_iff.1 ho).1
  rw [Array.getD_eq_getD_getElem?, Array.getElem?_replicate, if_pos hlt] at hx
  cases hx

end
end Sx
end Go.Am

/-
  PART 5 OF THE PROOF: Sx9b Sx9c Sx10 Sx11 Gq Sx12 Sx13 Px1 Sx14 Bx1 Gy (no conditions).
-/
import Derived.Test.YtdngmncaohgacaaDoorQk4
import Derived.Calls
import Derived.LaidMore
import Derived.MakeChecks
import Derived.OpenShut
import Derived.ProofKit
import Derived.Stop.Joined
import Derived.Test.YtdngmncaohgacaaDoorRows
import GoSem.ClaimJoined
set_option linter.unusedSectionVars false
set_option linter.unusedSimpArgs false
set_option linter.unusedVariables false
set_option linter.constructorNameAsVariable false
set_option linter.defProp false
/-
  REGIONS THAT DRAW THEIR ORDER, second part: whatever the order.
-/
namespace Go.Am
namespace Sx

section
variable [Val] {C : Cfg} {B : Below} {N : FuncId → Option Nat} {pts : List Nat} {ops : Array Oper}

theorem move_front {i : Nat} {post : List Nat} : ∀ (pre : List Nat), (∀ k ∈ pre, ∀ σ σ₁ σ' : St, stepRel C B pts ops k σ σ₁ → stepRel C B pts ops i σ₁ σ' → ∃ τ, stepRel C B pts ops i σ τ ∧ stepRel C B pts ops k τ σ') →
    ∀ σ σ' : St, opsRel C B pts ops (pre ++ i :: post) σ σ' → opsRel C B pts ops (i :: (pre ++ post)) σ σ'
  | [], _, σ, σ', h => h
  | k :: pre, hc, σ, σ', ⟨σ₁, h1, h2⟩ => by
    obtain ⟨σ₂, h3, h4⟩ := move_front pre (fun k hk => hc k (by simp [hk])) σ₁ σ' h2
    obtain ⟨τ, h5, h6⟩ := hc k (by simp) σ σ₁ σ₂ h1 h3
    exact ⟨τ, h5, σ₂, h6, h4⟩

/-- The operations that come before one, as bits. -/
noncomputable def ancOf (acc : List Nat) (o : Oper) : Nat :=
  o.after.toList.foldl (fun m e => match Region.binds .any e with
    | true => Nat.lor (Nat.lor m (Nat.shiftLeft 1 e.on)) (acc.getD e.on 0)
    | false => m) 0
noncomputable def ancs : List Oper → List Nat → List Nat
  | [], acc => acc
  | o :: l, acc => ancs l (acc ++ [ancOf acc o])

inductive Anc (ops : Array Oper) (k : Nat) : Nat → Prop
  | edge {i : Nat} {o : Oper} {e : Edge} (ho : ops[i]? = some o) (he : e ∈ o.after.toList) (hb : Region.binds .any e = true) (hk : e.on = k) : Anc ops k i
  | step {i : Nat} {o : Oper} {e : Edge} (ho : ops[i]? = some o) (he : e ∈ o.after.toList) (hb : Region.binds .any e = true) (h : Anc ops k e.on) : Anc ops k i

theorem ancOf_ok {acc : List Nat} (hacc : ∀ (i k : Nat), (acc.getD i 0).testBit k = true → Anc ops k i) {i : Nat} {o : Oper} (ho : ops[i]? = some o) {k : Nat} (h : (ancOf acc o).testBit k = true) : Anc ops k i := by
  unfold ancOf at h
  have main : ∀ (l : List Edge) (m : Nat), (∀ e ∈ l, e ∈ o.after.toList) → (m.testBit k = true → Anc ops k i) →
      (l.foldl (fun m e => match Region.binds .any e with
        | true => Nat.lor (Nat.lor m (Nat.shiftLeft 1 e.on)) (acc.getD e.on 0)
        | false => m) m).testBit k = true → Anc ops k i := by
    intro l
    induction l with
    | nil => intro m _ hm h; exact hm h
    | cons e l ih =>
      intro m hl hm h
      simp only [List.foldl_cons] at h
      refine ih _ (fun e he => hl e (by simp [he])) (fun hb => ?_) h
      cases hbi : Region.binds .any e with
      | false => simp only [hbi] at hb; exact hm hb
      | true =>
        simp only [hbi] at hb
        have hb' : ((m ||| (1 <<< e.on)) ||| acc.getD e.on 0).testBit k = true := hb
        rw [Nat.testBit_or, Nat.testBit_or, Bool.or_eq_true, Bool.or_eq_true] at hb'
        rcases hb' with (hb' | hb') | hb'
        · exact hm hb'
        · rw [Nat.one_shiftLeft, Nat.testBit_two_pow] at hb'
          exact .edge ho (hl e (by simp)) hbi (by simpa using hb')
        · exact .step ho (hl e (by simp)) hbi (hacc _ _ hb')
  exact main _ 0 (fun _ h => h) (fun h => by simp at h) h

theorem ancs_ok : ∀ (l : List Oper) (acc : List Nat), ops.toList.drop acc.length = l → (∀ (i k : Nat), (acc.getD i 0).testBit k = true → Anc ops k i) → ∀ (i k : Nat), ((ancs l acc).getD i 0).testBit k = true → Anc ops k i
  | [], acc, _, hacc => hacc
  | o :: l, acc, hl, hacc => by
    have ho : ops[acc.length]? = some o := by
      have : (ops.toList.drop acc.length)[0]? = some o := by rw [hl]; rfl
      simpa using this
    refine ancs_ok l (acc ++ [ancOf acc o]) (by rw [List.length_append, ← List.drop_drop, hl]; rfl) fun i k h => ?_
    rw [List.getD_eq_getElem?_getD, List.getElem?_append] at h
    split at h
    · exact hacc i k (by rw [List.getD_eq_getElem?_getD]; exact h)
    · rename_i hge
      by_cases hi : i = acc.length
      · subst hi
        simp at h
        exact ancOf_ok hacc ho h
      · rw [List.getElem?_eq_none (by simp; omega)] at h
        simp at h

/-- THE CHECK: edges go back; two operations that nothing orders may change places. -/
noncomputable def edgesBack : List Oper → Nat → Bool
  | [], _ => true
  | o :: l, i => (o.after.toList.all fun e => !Region.binds .any e || Nat.blt e.on i) && edgesBack l (i + 1)
noncomputable def commAll (N : FuncId → Option Nat) (pts : List Nat) (ops : Array Oper) (b : Oper) (m : Nat) : List Oper → Nat → Bool
  | [], _ => true
  | a :: l, k => (Nat.testBit m k || comm2 N pts ops a b) && commAll N pts ops b m l (k + 1)
noncomputable def pairsOk (N : FuncId → Option Nat) (pts : List Nat) (ops : Array Oper) (ms : List Nat) : List Oper → List Oper → Nat → Bool
  | _, [], _ => true
  | pre, b :: l, i => commAll N pts ops b (ms.getD i 0) pre 0 && pairsOk N pts ops ms (pre ++ [b]) l (i + 1)
noncomputable def regOk (N : FuncId → Option Nat) (pts : List Nat) (ops : Array Oper) : Bool :=
  edgesBack ops.toList 0 && pairsOk N pts ops (ancs ops.toList []) [] ops.toList 0

theorem edgesBack_ok : ∀ {l : List Oper} {i : Nat}, edgesBack l i = true → ∀ (j : Nat) o, l[j]? = some o → ∀ e ∈ o.after.toList, Region.binds .any e = true → e.on < i + j
  | [], i, _, j, o, h, _, _, _ => by simp at h
  | o :: l, i, h, j, p, hj, e, he, hb => by
    simp only [edgesBack, Bool.and_eq_true, List.all_eq_true] at h
    cases j with
    | zero =>
      simp at hj
      subst hj
      have := h.1 e he
      rw [hb] at this
      simpa [Nat.blt_eq] using this
    | succ j =>
      have := edgesBack_ok h.2 j p (by simpa using hj) e he hb
      omega

theorem commAll_ok {b : Oper} {m : Nat} : ∀ {l : List Oper} {k : Nat}, commAll N pts ops b m l k = true → ∀ (j : Nat) a, l[j]? = some a → m.testBit (k + j) = true ∨ comm2 N pts ops a b = true
  | [], k, _, j, a, h => by simp at h
  | a :: l, k, h, j, c, hj => by
    simp only [commAll, Bool.and_eq_true, Bool.or_eq_true] at h
    cases j with
    | zero => simp at hj; subst hj; exact h.1
    | succ j =>
      have := commAll_ok h.2 j c (by simpa using hj)
      rwa [show k + 1 + j = k + (j + 1) by omega] at this

theorem pairsOk_ok {ms : List Nat} : ∀ {l pre : List Oper} {i : Nat}, pre.length = i → pairsOk N pts ops ms pre l i = true → ∀ (j : Nat) b, l[j]? = some b → ∀ (k : Nat) a, k < i + j → (pre ++ l)[k]? = some a → (ms.getD (i + j) 0).testBit k = true ∨ comm2 N pts ops a b = true
  | [], pre, i, _, _, j, b, h, _, _, _, _ => by simp at h
  | b :: l, pre, i, hp, h, j, c, hj, k, a, hk, ha => by
    simp only [pairsOk, Bool.and_eq_true] at h
    cases j with
    | zero =>
      simp at hj
      subst hj
      rw [List.getElem?_append_left (by omega)] at ha
      have := commAll_ok h.1 k a ha
      simpa using this
    | succ j =>
      have := pairsOk_ok (pre := pre ++ [b]) (i := i + 1) (by simp [hp]) h.2 j c (by simpa using hj) k a (by omega) (by simpa using ha)
      rwa [show i + 1 + j = i + (j + 1) by omega] at this

theorem regOk_pair (h : regOk N pts ops = true) {i k : Nat} {a b : Oper} (hb : ops[i]? = some b) (ha : ops[k]? = some a) (hk : k < i) : Anc ops k i ∨ comm2 N pts ops a b = true := by
  simp only [regOk, Bool.and_eq_true] at h
  have := pairsOk_ok (pre := []) (i := 0) rfl h.2 i b (by simpa using hb) k a (by omega) (by simpa using ha)
  rw [Nat.zero_add] at this
  exact this.imp (fun h => ancs_ok ops.toList [] rfl (fun i k h => by simp at h) i k h) id
theorem regOk_back (h : regOk N pts ops = true) {i : Nat} {o : Oper} (ho : ops[i]? = some o) {e : Edge} (he : e ∈ o.after.toList) (hb : Region.binds .any e = true) : e.on < i := by
  simp only [regOk, Bool.and_eq_true] at h
  have := edgesBack_ok h.1 i o (by simpa using ho) e he hb
  omega

/-- What is not listed yet. -/
noncomputable def unl (n : Nat) (listed : Array Bool) : List Nat := (List.range n).filter fun i => !listed.getD i true

theorem anc_listed {listed : Array Bool} (hcl : ∀ (x : Nat) o, listed.getD x true = true → ops[x]? = some o → ∀ e ∈ o.after.toList, Region.binds .any e = true → listed.getD e.on false = true) {k i : Nat} (h : Anc ops k i)
    (hr : ∀ o, ops[i]? = some o → ∀ e ∈ o.after.toList, Region.binds .any e = true → listed.getD e.on false = true) : listed.getD k false = true := by
  induction h with
  | edge ho he hb hk => rw [← hk]; exact hr _ ho _ he hb
  | step ho he hb h ih =>
    have h1 := hr _ ho _ he hb
    refine ih fun o ho2 e he2 hb2 => hcl _ o ?_ ho2 e he2 hb2
    rename_i e0
    rw [Array.getD_eq_getD_getElem?] at h1 ⊢
    cases hx : listed[e0.on]? with
    | none => rfl
    | some b => rw [hx] at h1; exact h1

theorem filter_split {p : Nat → Bool} {i : Nat} : ∀ {l : List Nat}, l.Nodup → i ∈ l.filter p → ∃ pre post, l.filter p = pre ++ i :: post ∧ (l.filter fun j => p j && j != i) = pre ++ post ∧ (∀ k ∈ pre, k ∈ l.filter p ∧ k ≠ i)
  | [], _, h => by simp at h
  | x :: l, hn, h => by
    rw [List.nodup_cons] at hn
    by_cases hx : x = i
    · subst hx
      have hp : p x = true := (List.mem_filter.1 h).2
      refine ⟨[], l.filter p, by simp [hp], ?_, by simp⟩
      simp only [List.nil_append, List.filter_cons, hp, bne_self_eq_false, Bool.and_false, Bool.false_eq_true, if_false]
      refine List.filter_congr fun j hj => ?_
      have : j ≠ x := fun e => hn.1 (e ▸ hj)
      simp [this]
    · have h' : i ∈ l.filter p := by
        rw [List.mem_filter] at h ⊢
        exact ⟨(List.mem_cons.1 h.1).resolve_left fun e => hx e.symm, h.2⟩
      obtain ⟨pre, post, e1, e2, e3⟩ := filter_split hn.2 h'
      by_cases hp : p x = true
      · refine ⟨x :: pre, post, by simp [List.filter_cons, hp, e1], ?_, fun k hk => ?_⟩
        · simp only [List.filter_cons, hp, Bool.true_and, List.cons_append]
          rw [if_pos (by simpa using hx), e2]
        · rcases List.mem_cons.1 hk with rfl | hk
          · exact ⟨by simp [List.mem_filter, hp], hx⟩
          · obtain ⟨q1, q2⟩ := e3 k hk
            rw [List.mem_filter] at q1 ⊢
            exact ⟨⟨by simp [q1.1], q1.2⟩, q2⟩
      · refine ⟨pre, post, by simp [List.filter_cons, hp, e1], ?_, fun k hk => ?_⟩
        · simp only [List.filter_cons, hp, Bool.false_and, Bool.false_eq_true, if_false]
          exact e2
        · obtain ⟨q1, q2⟩ := e3 k hk
          rw [List.mem_filter] at q1 ⊢
          exact ⟨⟨by simp [q1.1], q1.2⟩, q2⟩

theorem filter_order {p : Nat → Bool} : ∀ {n : Nat} {pre post : List Nat} {i : Nat}, (List.range n).filter p = pre ++ i :: post → ∀ k ∈ pre, k < i := by
  intro n pre post i h k hk
  have hs : ((List.range n).filter p).Pairwise (· < ·) := List.Pairwise.filter _ List.pairwise_lt_range
  rw [h, List.pairwise_append] at hs
  exact hs.2.2 k hk i (by simp)

theorem go_ok (hN : NeuB N B) (hreg : regOk N pts ops = true) : ∀ (fuel t : Nat) (listed : Array Bool), listed.size = ops.size → (unl ops.size listed).length = fuel →
    (∀ (x : Nat) o, listed.getD x true = true → ops[x]? = some o → ∀ e ∈ o.after.toList, Region.binds .any e = true → listed.getD e.on false = true) →
    ∀ σ σ' : St, opsRel C B pts ops (unl ops.size listed) σ σ' → opsRel C B pts ops (Region.linearise.go .any ops fuel t listed []) σ σ'
  | 0, t, listed, _, hl, _, σ, σ', h => by
    have : unl ops.size listed = [] := List.length_eq_zero_iff.1 hl
    rw [this] at h
    simpa [Region.linearise.go] using h
  | fuel + 1, t, listed, hsz, hl, hcl, σ, σ', h => by
    simp only [Region.linearise.go]
    generalize hrs : ((List.range ops.size).filter fun i => !listed.getD i true && ((ops[i]?).map (·.after.all fun e => !Region.binds .any e || listed.getD e.on false)).getD false) = rs
    have hready : ∀ i ∈ rs, i < ops.size ∧ listed.getD i true = false ∧ ∀ o, ops[i]? = some o → ∀ e ∈ o.after.toList, Region.binds .any e = true → listed.getD e.on false = true := by
      intro i hi
      rw [← hrs, List.mem_filter, List.mem_range] at hi
      obtain ⟨h1, h2⟩ := hi
      simp only [Bool.and_eq_true, Bool.not_eq_true'] at h2
      refine ⟨h1, h2.1, fun o ho e he hb => ?_⟩
      have h3 := h2.2
      rw [ho] at h3
      simp only [Option.map_some, Option.getD_some] at h3
      rw [Array.all_eq_true'] at h3
      have := h3 e (by simpa using he)
      rw [hb] at this
      simpa using this
    have hne : rs ≠ [] := by
      -- the first one that is not listed is ready
      have hu : unl ops.size listed ≠ [] := by intro e; rw [e] at hl; cases hl
      obtain ⟨i0, tl, hu0⟩ := List.exists_cons_of_ne_nil hu
      have hi0 : i0 ∈ unl ops.size listed := by rw [hu0]; simp
      have hi1 := hi0
      rw [unl, List.mem_filter, List.mem_range] at hi1
      have hmem : i0 ∈ rs := by
        rw [← hrs, List.mem_filter, List.mem_range]
        refine ⟨hi1.1, ?_⟩
        simp only [Bool.and_eq_true]
        refine ⟨hi1.2, ?_⟩
        have ho : ops[i0]? = some ops[i0] := by simp [hi1.1]
        rw [ho]
        simp only [Option.map_some, Option.getD_some]
        rw [Array.all_eq_true']
        intro e he
        cases hb : Region.binds .any e with
        | false => simp
        | true =>
          have hlt := regOk_back hreg ho (by simpa using he) hb
          simp only [Bool.not_true, Bool.false_or]
          -- it is less than the first one that is not listed
          by_cases hlis : listed.getD e.on true = true
          · have hs : e.on < listed.size := by omega
            rw [Array.getD_eq_getD_getElem?] at hlis ⊢
            rw [Array.getElem?_eq_getElem hs] at hlis ⊢
            exact hlis
          · exfalso
            have hm : e.on ∈ unl ops.size listed := by
              rw [unl, List.mem_filter, List.mem_range]
              exact ⟨by omega, by simpa using hlis⟩
            rw [hu0] at hm
            rcases List.mem_cons.1 hm with hm | hm
            · omega
            · have hs : (unl ops.size listed).Pairwise (· < ·) := List.Pairwise.filter _ List.pairwise_lt_range
              rw [hu0, List.pairwise_cons] at hs
              have := hs.1 _ hm
              omega
      intro e; rw [e] at hmem; cases hmem
    have hlen : 0 < rs.length := List.length_pos_iff.2 hne
    have hget : rs[t % rs.length]? = some (rs[t % rs.length]'(Nat.mod_lt _ hlen)) := List.getElem?_eq_getElem (Nat.mod_lt _ hlen)
    rw [hget]
    simp only
    generalize hi : rs[t % rs.length]'(Nat.mod_lt _ hlen) = i
    have hmem : i ∈ rs := by rw [← hi]; exact List.getElem_mem _
    obtain ⟨i1, i2, i3⟩ := hready i hmem
    rw [linearise_go_acc, List.reverse_singleton, List.singleton_append]
    have hiu : i ∈ (List.range ops.size).filter fun j => !listed.getD j true := by
      rw [List.mem_filter, List.mem_range]; exact ⟨i1, by simp [i2]⟩
    obtain ⟨pre, post, e1, e2, e3⟩ := filter_split List.nodup_range hiu
    have hord := filter_order e1
    have hnew : unl ops.size (listed.setIfInBounds i true) = pre ++ post := by
      rw [← e2]
      unfold unl
      refine List.filter_congr fun j hj => ?_
      rw [Array.getD_eq_getD_getElem?, Array.getD_eq_getD_getElem?, Array.getElem?_setIfInBounds]
      by_cases hji : i = j
      · subst hji
        rw [if_pos rfl, if_pos (by omega)]
        simp
      · rw [if_neg hji]
        have : (j != i) = true := by simpa using fun e => hji e.symm
        simp [this]
    have hmf := move_front (C := C) (B := B) (pts := pts) (ops := ops) (i := i) (post := post) pre (fun k hk σ σ₁ σ' s1 s2 => by
      obtain ⟨m1, m2⟩ := e3 k hk
      rw [List.mem_filter, List.mem_range] at m1
      have ha : ops[k]? = some ops[k] := by simp [m1.1]
      have hb : ops[i]? = some ops[i] := by simp [i1]
      rcases regOk_pair hreg hb ha (hord k hk) with hanc | hcm
      · exfalso
        have := anc_listed hcl hanc i3
        have m3 := m1.2
        rw [Array.getD_eq_getD_getElem?] at this m3
        rw [Array.getElem?_eq_getElem (by omega)] at this m3
        simp only [Option.getD_some] at this m3
        rw [this] at m3
        cases m3
      · exact swap_ok hN ha hb hcm s1 s2) σ σ'
    obtain ⟨σ₁, s1, s2⟩ := hmf (by rw [← e1]; exact h)
    refine ⟨σ₁, s1, go_ok hN hreg fuel _ _ (by simp [hsz]) ?_ ?_ σ₁ σ' (by rw [hnew]; exact s2)⟩
    · rw [hnew]
      have : (unl ops.size listed).length = (pre ++ post).length + 1 := by
        show (List.filter _ _).length = _
        rw [e1]; simp; omega
      omega
    · intro x o hx ho e he hb
      have keep : ∀ y, listed.getD y false = true → (listed.setIfInBounds i true).getD y false = true := by
        intro y hy
        rw [Array.getD_eq_getD_getElem?] at hy ⊢
        rw [Array.getElem?_setIfInBounds]
        split
        · rename_i h1
          subst h1
          rw [if_pos (by omega)]; rfl
        · exact hy
      by_cases hxi : x = i
      · subst hxi; exact keep _ (i3 o ho e he hb)
      · refine keep _ (hcl x o ?_ ho e he hb)
        rw [Array.getD_eq_getD_getElem?, Array.getElem?_setIfInBounds, if_neg (fun e => hxi e.symm)] at hx
        rw [Array.getD_eq_getD_getElem?]; exact hx

/-- WHATEVER THE ORDER. -/
theorem any_ok (hN : NeuB N B) (hreg : regOk N pts ops = true) {σ σ' : St} (h : opsRel C B pts ops (List.range ops.size) σ σ') : anyRel C B pts ops σ σ' := by
  intro t
  have hz : unl ops.size (Array.replicate ops.size false) = List.range ops.size := by
    unfold unl
    rw [List.filter_eq_self]
    intro i hi
    rw [List.mem_range] at hi
    rw [Array.getD_eq_getD_getElem?, Array.getElem?_replicate, if_pos hi]
    rfl
  refine go_ok hN hreg ops.size t (Array.replicate ops.size false) (by simp) (by rw [hz]; simp) (fun x o hx ho => ?_) σ σ' (by rw [hz]; exact h)
  have hlt : x < ops.size := (Array.getElem?_eq_some_iff.1 ho).1
  rw [Array.getD_eq_getD_getElem?, Array.getElem?_replicate, if_pos hlt] at hx
  cases hx

end
end Sx
end Go.Am

/-
  REGIONS THAT DRAW THEIR ORDER, third part: functions that have nothing to do with the heap.
-/
namespace Go.Am
namespace Sx

section
variable [Val] [Kno] {C : Cfg}

/-- Not the address of something in the heap. -/
def Lo (v : Value) : Prop := match v with
  | .pointer (some p) => p.spot = some 0
  | _ => True

theorem plain_lo {v : Value} (h : plain v = true) : Lo v := by
  cases v <;> try trivial
  rename_i a
  cases a <;> first | trivial | (simp [plain, plain1, scalar, isSym] at h)

theorem clearV_lo {keys : List Nat} {v : Value} (h : Lo v) : Lo (clearV keys v) := by
  unfold clearV
  repeat' split
  all_goals first | exact h | trivial

/-- The slots that hold local rows. -/
def LoS (as0 : List Nat) (σ : St) : Prop := ∀ a ∈ as0, ∀ v, σ.tmps[a]? = some v → Lo v

noncomputable def neuOp (N : FuncId → Option Nat) (pts as0 : List Nat) (o : Oper) : Bool :=
  (match memOf N pts o with
  | some .no => true
  | some (.row _ _) => true
  | some (.neu _) => true
  | _ => false) &&
  match o.dst with
  | some d => !as0.contains d || (Nat.beq (pts.getD d 0) (d + 2) && match o.op with
    | .alloc _ => true
    | .box _ _ => true
    | _ => false)
  | none => true
noncomputable def neuC (N : FuncId → Option Nat) (pts as0 : List Nat) : Code → Bool
  | .skip | .label _ | .ret | .exit _ => true
  | .seq a b => neuC N pts as0 a && neuC N pts as0 b
  | .cond _ a b => neuC N pts as0 a && neuC N pts as0 b
  | .block _ b => neuC N pts as0 b
  | .loop b => neuC N pts as0 b
  | .scope b => neuC N pts as0 b
  | .region _ ops _ => ops.toList.all (neuOp N pts as0)
  | _ => false
noncomputable def cellRes (l : List ResultVar) : List Nat := l.filterMap fun r => match r with
  | .cell a _ => some a
  | .tmp _ => none
/-- A function that has nothing to do with the heap. -/
noncomputable def neuF (N : FuncId → Option Nat) (C : Cfg) (f : FuncId) (n : Nat) : Bool :=
  match C.P.funcs[f]? with
  | some fn => match fn.body with
    | some b => neuC N (C.pts f) (cellRes fn.results.toList) b && (cellRes fn.results.toList).all fun a => Nat.ble n a
    | none => false
  | none => false

theorem newVar_lo {pts : List Nat} {d : Nat} {t : TypeId} {v : Value} {e : Eff} (hp : pts.getD d 0 = d + 2) (he : newVarEff C pts (some d) t v = some e) : ∃ s vs, e = .lnew s vs := by
  unfold newVarEff at he
  split at he
  · cases he
  · simp only at he
    split at he
    · cases he
    · exact ⟨_, _, (Option.some.inj he).symm⟩

theorem put_lo {as0 : List Nat} {σ τ : St} {dst : Option Tmp} {v : Value} (h : LoS as0 σ) (ht : τ.tmps = σ.tmps) (hv : (∀ d, dst = some d → d ∉ as0) ∨ Lo v) : LoS as0 (τ.put dst v) := by
  intro a ha x hx
  cases dst with
  | none => exact h a ha x (by rw [← ht]; exact hx)
  | some d =>
    simp only [St.put, List.getElem?_set, ht] at hx
    split at hx
    · rename_i hd
      subst hd
      split at hx
      · cases hx
        rcases hv with hv | hv
        · exact absurd ha (hv _ rfl)
        · exact hv
      · cases hx
    · exact h a ha x hx

theorem step_neu {N : FuncId → Option Nat} {B : Below} (hN : NeuB N B) {pts as0 : List Nat} {ops : Array Oper} (hops : ops.toList.all (neuOp N pts as0) = true) {i : Nat} {σ σ' : St} (hl : LoS as0 σ) (h : stepRel C B pts ops i σ σ') :
    σ'.heap = σ.heap ∧ LoS as0 σ' ∧ ∀ H, stepRel C B pts ops i { σ with heap := H } { σ' with heap := H } := by
  cases hi : ops[i]? with
  | none =>
    have : σ' = σ := by simpa [stepRel, hi] using h
    subst this
    exact ⟨rfl, hl, fun H => by simp [stepRel, hi]⟩
  | some o =>
    have ho : neuOp N pts as0 o = true := List.all_eq_true.1 hops o (by
      have := Array.mem_of_getElem? hi
      simpa using this)
    unfold neuOp at ho
    rw [Bool.and_eq_true] at ho
    obtain ⟨o1, o2⟩ := ho
    have hm : memOf N pts o ≠ none := by intro e; rw [e] at o1; cases o1
    obtain ⟨e, rfl, te, le⟩ := local_ok hN hi hm h
    have hh : e.hp = none := by
      cases he : e.hp with
      | none => rfl
      | some x =>
        have := te.2 (by rw [he]; simp)
        rw [this] at o1; cases o1
    refine ⟨by rw [on_heap, hh]; rfl, ?_, fun H => ?_⟩
    · by_cases hd : ∀ d, o.dst = some d → d ∉ as0
      · unfold Ef.on
        exact put_lo hl rfl (.inl hd)
      · -- a local row is laid
        obtain ⟨d, hd⟩ := Classical.not_forall.1 hd
        obtain ⟨hdst, hd⟩ := Classical.not_imp.1 hd
        have hd := Classical.not_not.1 hd
        rw [hdst] at o2
        simp only [List.contains_eq_mem, hd, decide_true, Bool.not_true, Bool.false_or, Bool.and_eq_true] at o2
        have hp : pts.getD d 0 = d + 2 := by simpa using o2.1
        unfold stepRel at h
        simp only [hi] at h
        split at h
        · exact h.elim
        · rw [h]; exact put_lo hl rfl (.inr trivial)
        · rcases h with ⟨ef, h1, h2⟩ | ⟨v, h1, h2⟩
          · have hef : ∃ s vs, ef = .lnew s vs := by
              have o3 := o2.2
              obtain ⟨dst, op, ty, pos, after, guard⟩ := o
              simp only at hdst o3
              subst hdst
              cases op <;> first | cases o3 | skip
              · simp only [effOf] at h1
                obtain ⟨z, _, hz⟩ := Option.bind_eq_some_iff.1 h1
                exact newVar_lo hp hz
              · exact newVar_lo hp h1
            obtain ⟨s, vs, rfl⟩ := hef
            obtain ⟨p, hp1, hp2⟩ := h2
            rw [hp2]
            simp only [applyEff] at hp1
            split at hp1
            · cases hp1
              exact put_lo hl rfl (.inr rfl)
            · cases hp1
          · rw [h2]
            exact put_lo hl rfl (.inr (plain_lo h1.2.2.1))
    · have hs : Sees N pts ops o σ { σ with heap := H } := by
        refine ⟨fun t _ => rfl, ?_⟩
        cases hmm : memOf N pts o with
        | none => trivial
        | some m => rw [hmm] at o1; cases m <;> first | trivial | cases o1 | rfl
      have := le _ hs
      have e2 : e.on o.dst { σ with heap := H } = { e.on o.dst σ with heap := H } := by
        unfold Ef.on
        rw [hh]
        cases o.dst <;> rfl
      rw [e2] at this
      exact this

theorem ops_neu {N : FuncId → Option Nat} {B : Below} (hN : NeuB N B) {pts as0 : List Nat} {ops : Array Oper} (hops : ops.toList.all (neuOp N pts as0) = true) : ∀ (l : List Nat) {σ σ' : St}, LoS as0 σ → opsRel C B pts ops l σ σ' →
    σ'.heap = σ.heap ∧ LoS as0 σ' ∧ ∀ H, opsRel C B pts ops l { σ with heap := H } { σ' with heap := H }
  | [], σ, σ', hl, h => by
    have : σ' = σ := h
    subst this
    exact ⟨rfl, hl, fun H => rfl⟩
  | i :: l, σ, σ', hl, ⟨σ₁, h1, h2⟩ => by
    obtain ⟨a1, a2, a3⟩ := step_neu hN hops hl h1
    obtain ⟨b1, b2, b3⟩ := ops_neu hN hops l a2 h2
    exact ⟨b1.trans a1, b2, fun H => ⟨_, a3 H, b3 H⟩⟩

theorem restate_lo {as0 : List Nat} {σ σ' : St} (hl : LoS as0 σ) (h : Restate σ σ') : LoS as0 σ' := by
  intro a ha v hv
  obtain ⟨_, _, h3, h4⟩ := h
  have hlt : a < σ'.tmps.length := (List.getElem?_eq_some_iff.1 hv).1
  have hx : σ.tmps[a]? = some (σ.tmps[a]'(by omega)) := List.getElem?_eq_getElem _
  rcases h4 a _ _ hx hv with e | ⟨_, h5, _⟩
  · rw [e]; exact hl a ha _ hx
  · exact plain_lo h5
theorem restate_heap {σ σ' : St} (h : Restate σ σ') (H : List HObj) : Restate { σ with heap := H } { σ' with heap := H } := ⟨h.1, rfl, h.2.2.1, h.2.2.2⟩

theorem opsR_neu {N : FuncId → Option Nat} {B : Below} (hN : NeuB N B) {pts as0 : List Nat} {ops : Array Oper} (hops : ops.toList.all (neuOp N pts as0) = true) : ∀ (l : List Nat) {σ σ' : St}, LoS as0 σ → opsRelR C B pts ops l σ σ' →
    σ'.heap = σ.heap ∧ LoS as0 σ' ∧ ∀ H, opsRelR C B pts ops l { σ with heap := H } { σ' with heap := H }
  | [], σ, σ', hl, h => by
    have : σ' = σ := h
    subst this
    exact ⟨rfl, hl, fun H => rfl⟩
  | i :: l, σ, σ', hl, ⟨σ₀, σ₁, h0, h1, h2⟩ => by
    obtain ⟨a1, a2, a3⟩ := step_neu hN hops (restate_lo hl h0) h1
    obtain ⟨b1, b2, b3⟩ := opsR_neu hN hops l a2 h2
    exact ⟨b1.trans (a1.trans h0.2.1), b2, fun H => ⟨_, _, restate_heap h0 H, a3 H, b3 H⟩⟩

theorem clear_lo {as0 : List Nat} {σ : St} {keys : List Nat} (hl : LoS as0 σ) : LoS as0 (σ.clear keys) := by
  unfold St.clear
  split
  · exact hl
  · intro a ha v hv
    simp only [List.getElem?_map, Option.map_eq_some_iff] at hv
    obtain ⟨x, hx, rfl⟩ := hv
    exact clearV_lo (hl a ha x hx)
theorem clearHp (σ : St) (keys : List Nat) (H : List HObj) : St.clear { σ with heap := H } keys = { σ.clear keys with heap := H } := by
  unfold St.clear
  split <;> rfl
theorem clearHp' (σ : St) (keys : List Nat) : (σ.clear keys).heap = σ.heap := by
  unfold St.clear
  split <;> rfl

theorem result_neu {σ : St} {r : ResultVar} {as0 : List Nat} (hl : LoS as0 σ) (ha : ∀ a ∈ cellRes [r], a ∈ as0) (H : List HObj) : resultA C { σ with heap := H } r = resultA C σ r := by
  cases r with
  | tmp t => rfl
  | cell a t =>
    have hm : a ∈ as0 := ha a (by simp [cellRes])
    unfold resultA
    simp only
    cases hv : σ.tmps[a]? with
    | none => simp [List.getD_eq_getElem?_getD, hv, undef]
    | some v =>
      have := hl a hm v hv
      simp only [List.getD_eq_getElem?_getD, hv, Option.getD_some]
      cases v <;> try rfl
      rename_i p
      cases p with
      | none => rfl
      | some p =>
        have hs : p.spot = some 0 := this
        simp only [hs]
theorem results_neu {σ : St} {as0 : List Nat} (hl : LoS as0 σ) (H : List HObj) : ∀ (l : List ResultVar), (∀ a ∈ cellRes l, a ∈ as0) → resultsA C { σ with heap := H } l = resultsA C σ l
  | [], _ => rfl
  | r :: l, ha => by
    have h1 := result_neu (C := C) (r := r) hl (fun a h => ha a (by cases r <;> simp [cellRes] at h ⊢; exact .inl h)) H
    have h2 := results_neu hl H l (fun a h => ha a (by cases r <;> simp [cellRes] at h ⊢ <;> first | exact h | exact .inr h))
    simp only [resultsA, h1, h2]

/-- NEUTRAL FUNCTIONS. -/
theorem neu_ok {N : FuncId → Option Nat} (hN : ∀ f n, N f = some n → neuF N C f n = true) (hk : ∀ f args H r H', Kno.kh f args H r H' → N f = none) : ∀ n, NeuB N (sm C n).toBelow ∧
    ∀ pts as0 c, neuC N pts as0 c = true → ∀ σ e σ', LoS as0 σ → (sm C n).ex pts c σ e σ' → σ'.heap = σ.heap ∧ LoS as0 σ' ∧ ∀ H, (sm C n).ex pts c { σ with heap := H } e { σ' with heap := H }
  | 0 => ⟨fun f args H r H' hf h => (by
      rcases h with h | h
      · exact ⟨h.2, fun H2 => .inl ⟨h.1, rfl⟩⟩
      · have hf : N f = some _ := hf
        rw [hk f args H r H' h] at hf; cases hf), fun _ _ _ _ _ _ _ _ h => absurd h id⟩
  | n + 1 => by
    obtain ⟨ihc, ihe⟩ := neu_ok hN hk n
    refine ⟨fun f args H r H' hf h => ?_, fun pts as0 c hc σ e σ' hl h => ?_⟩
    · rcases h with h | ⟨fn, b, e, σ, vs, c1, c2, c3, c4, c5, c6, c7, c8, c9⟩
      · rcases h with h | h
        · exact ⟨h.2, fun H2 => .inl (.inl ⟨h.1, rfl⟩)⟩
        · have hf : N f = some _ := hf
          rw [hk f args H r H' h] at hf; cases hf
      · have hn := hN f _ hf
        unfold neuF at hn
        simp only [c1, c2, Bool.and_eq_true, List.all_eq_true] at hn
        have hl : LoS (cellRes fn.results.toList) (enterA fn args H) := by
          intro a ha v hv
          have hge : args.length ≤ a := by simpa using hn.2 a ha
          simp only [enterA] at hv
          rw [List.getElem?_append_right hge, List.getElem?_replicate] at hv
          split at hv
          · cases hv; trivial
          · cases hv
        obtain ⟨d1, d2, d3⟩ := ihe _ _ _ hn.1 _ _ _ hl c4
        refine ⟨c9.trans d1, fun H2 => .inr ⟨fn, b, e, _, vs, c1, c2, c3, d3 H2, c5, ?_, c7, c8, rfl⟩⟩
        rw [results_neu d2 H2 _ (fun a h => h)]
        exact c6
    · have h : exNext C (sm C n) pts c σ e σ' := h
      show _ ∧ _ ∧ ∀ H, exNext C (sm C n) pts c { σ with heap := H } e { σ' with heap := H }
      cases c with
      | skip => obtain ⟨rfl, rfl⟩ := h; exact ⟨rfl, hl, fun H => ⟨rfl, rfl⟩⟩
      | label l => obtain ⟨rfl, rfl⟩ := h; exact ⟨rfl, hl, fun H => ⟨rfl, rfl⟩⟩
      | ret => obtain ⟨rfl, rfl⟩ := h; exact ⟨rfl, hl, fun H => ⟨rfl, rfl⟩⟩
      | exit id => obtain ⟨rfl, rfl⟩ := h; exact ⟨rfl, hl, fun H => ⟨rfl, rfl⟩⟩
      | seq a b =>
        simp only [neuC, Bool.and_eq_true] at hc
        obtain ⟨e₁, σ₁, h1, h2⟩ := h
        obtain ⟨a1, a2, a3⟩ := ihe _ _ _ hc.1 _ _ _ hl h1
        rcases h2 with ⟨rfl, h2⟩ | ⟨h2, rfl, rfl⟩
        · obtain ⟨b1, b2, b3⟩ := ihe _ _ _ hc.2 _ _ _ a2 h2
          exact ⟨b1.trans a1, b2, fun H => ⟨_, _, a3 H, .inl ⟨rfl, b3 H⟩⟩⟩
        · exact ⟨a1, a2, fun H => ⟨_, _, a3 H, .inr ⟨h2, rfl, rfl⟩⟩⟩
      | cond x a b =>
        simp only [neuC, Bool.and_eq_true] at hc
        obtain ⟨t, h1, h2⟩ := h
        cases t with
        | true =>
          obtain ⟨b1, b2, b3⟩ := ihe _ _ _ hc.1 _ _ _ hl h2
          exact ⟨b1, b2, fun H => ⟨true, h1, b3 H⟩⟩
        | false =>
          obtain ⟨b1, b2, b3⟩ := ihe _ _ _ hc.2 _ _ _ hl h2
          exact ⟨b1, b2, fun H => ⟨false, h1, b3 H⟩⟩
      | block id b =>
        obtain ⟨e₁, h1, rfl⟩ := h
        obtain ⟨b1, b2, b3⟩ := ihe pts as0 b hc _ _ _ hl h1
        exact ⟨b1, b2, fun H => ⟨_, b3 H, rfl⟩⟩
      | scope b => exact ihe pts as0 b hc _ _ _ hl h
      | loop b =>
        obtain ⟨e₁, σ₁, h1, h2⟩ := h
        obtain ⟨a1, a2, a3⟩ := ihe pts as0 b hc _ _ _ (clear_lo hl) h1
        rw [clearHp'] at a1
        rcases h2 with ⟨rfl, h2⟩ | ⟨h2, rfl, rfl⟩
        · obtain ⟨b1, b2, b3⟩ := ihe pts as0 (.loop b) hc _ _ _ a2 h2
          exact ⟨b1.trans a1, b2, fun H => ⟨_, _, by rw [clearHp]; exact a3 H, .inl ⟨rfl, b3 H⟩⟩⟩
        · exact ⟨a1, a2, fun H => ⟨_, _, by rw [clearHp]; exact a3 H, .inr ⟨h2, rfl, rfl⟩⟩⟩
      | region id ops draw =>
        obtain ⟨rfl, hq⟩ := h
        cases draw with
        | true =>
          obtain ⟨σ₀, h0, h1⟩ : ∃ σ₀, Restate σ σ₀ ∧ anyRel C (sm C n).toBelow pts ops σ₀ σ' := hq
          have hl0 := restate_lo hl h0
          obtain ⟨a1, a2, _⟩ := ops_neu ihc hc _ hl0 (h1 0)
          refine ⟨a1.trans h0.2.1, a2, fun H => ⟨rfl, ⟨_, restate_heap h0 H, fun t => ?_⟩⟩⟩
          exact (ops_neu ihc hc _ hl0 (h1 t)).2.2 H
        | false =>
          have hq : opsRelR C (sm C n).toBelow pts ops (List.range ops.size) σ σ' := hq
          obtain ⟨a1, a2, a3⟩ := opsR_neu ihc hc _ hl hq
          exact ⟨a1, a2, fun H => ⟨rfl, a3 H⟩⟩
      | _ => cases hc

/-- REGIONS WITH CALLS OF NEUTRAL FUNCTIONS. -/
theorem dr_ok {N : FuncId → Option Nat} (hN : ∀ f n, N f = some n → neuF N C f n = true) (hk : ∀ f args H r H', Kno.kh f args H r H' → N f = none) (pts : List Nat) (ops : Array Oper) (h : regOk N pts ops = true) (n : Nat) (σ σ' : St) (hx : opsRel C (sm C n).toBelow pts ops (List.range ops.size) σ σ') :
    anyRel C (sm C n).toBelow pts ops σ σ' := any_ok (neu_ok hN hk n).1 h hx

end
end Sx
end Go.Am

/-
  THE ALGEBRA OF RUNS TELLS THE TRUTH; whole runs.
-/
namespace Go.Am
noncomputable def LK.plain : LK → Bool
  | .v => false
  | _ => true
noncomputable def SK.plain : SK → Bool
  | .leaf k => k.plain
  | .agg ks => ks.all LK.plain
noncomputable def Sig.plain (s : Sig) : Bool := s.ps.all SK.plain && s.rs.all SK.plain
namespace Sx

section
variable [Val] [Kno]

variable {w : List Lf}

theorem outG_eq (k : IntKind) (c : Int) (K : Int → RT) : outG k c K = K (k.wrap c) := by
  unfold outG
  cases e : fits k c with
  | true => rw [fits_wrap e]
  | false => exact fI_eq _ _
theorem out64_eq (c : Int) (K : Int → RT) : out64 c K = K (IntKind.wrap .i64 c) := by
  refine Eq.trans ?_ (outG_eq .i64 c K)
  cases c <;> rfl
theorem outU8_eq (c : Int) (K : Int → RT) : outU8 c K = K (IntKind.wrap .u8 c) := by
  refine Eq.trans ?_ (outG_eq .u8 c K)
  cases c <;> rfl
theorem outK_eq (k : IntKind) (c : Int) (K : Int → RT) : outK k c K = K (k.wrap c) := by
  cases k <;> first | exact outG_eq _ _ _ | exact out64_eq _ _ | exact outU8_eq _ _
theorem addK_eq (a b : Int) (K : Int → RT) : addK a b K = K (a + b) := by
  unfold addK
  cases a with
  | ofNat m =>
    cases b with
    | ofNat n => exact congrArg K rfl
    | negSucc n =>
      simp only [fN_eq]
      cases e : Nat.blt n m with
      | true => rw [Nat.blt_eq] at e; exact congrArg K (show Int.ofNat (m - (n + 1)) = Int.ofNat m + Int.negSucc n by simp only [Int.ofNat_eq_natCast, Int.negSucc_eq]; omega)
      | false =>
        have e : ¬ n < m := fun h => by rw [← Nat.blt_eq, e] at h; cases h
        exact congrArg K (show Int.negSucc (n - m) = Int.ofNat m + Int.negSucc n by simp only [Int.ofNat_eq_natCast, Int.negSucc_eq]; omega)
  | negSucc m =>
    cases b with
    | ofNat n =>
      simp only [fN_eq]
      cases e : Nat.blt m n with
      | true => rw [Nat.blt_eq] at e; exact congrArg K (show Int.ofNat (n - (m + 1)) = Int.negSucc m + Int.ofNat n by simp only [Int.ofNat_eq_natCast, Int.negSucc_eq]; omega)
      | false =>
        have e : ¬ m < n := fun h => by rw [← Nat.blt_eq, e] at h; cases h
        exact congrArg K (show Int.negSucc (m - n) = Int.negSucc m + Int.ofNat n by simp only [Int.ofNat_eq_natCast, Int.negSucc_eq]; omega)
    | negSucc n => exact congrArg K (show Int.negSucc (m + n + 1) = Int.negSucc m + Int.negSucc n by simp only [Int.negSucc_eq]; omega)
theorem subK_eq (a b : Int) (K : Int → RT) : subK a b K = K (a - b) := by
  unfold subK
  cases a with
  | ofNat m =>
    cases b with
    | ofNat n =>
      simp only [fN_eq]
      cases e : Nat.ble n m with
      | true => rw [Nat.ble_eq] at e; exact congrArg K (show Int.ofNat (m - n) = Int.ofNat m - Int.ofNat n by simp only [Int.ofNat_eq_natCast]; omega)
      | false =>
        have e : ¬ n ≤ m := fun h => by rw [← Nat.ble_eq, e] at h; cases h
        exact congrArg K (show Int.negSucc (n - (m + 1)) = Int.ofNat m - Int.ofNat n by simp only [Int.ofNat_eq_natCast, Int.negSucc_eq]; omega)
    | negSucc n => exact congrArg K (show Int.ofNat (m + n + 1) = Int.ofNat m - Int.negSucc n by simp only [Int.ofNat_eq_natCast, Int.negSucc_eq]; omega)
  | negSucc m =>
    cases b with
    | ofNat n => exact congrArg K (show Int.negSucc (m + n) = Int.negSucc m - Int.ofNat n by simp only [Int.ofNat_eq_natCast, Int.negSucc_eq]; omega)
    | negSucc n =>
      simp only [fN_eq]
      cases e : Nat.ble m n with
      | true => rw [Nat.ble_eq] at e; exact congrArg K (show Int.ofNat (n - m) = Int.negSucc m - Int.negSucc n by simp only [Int.ofNat_eq_natCast, Int.negSucc_eq]; omega)
      | false =>
        have e : ¬ m ≤ n := fun h => by rw [← Nat.ble_eq, e] at h; cases h
        exact congrArg K (show Int.negSucc (m - (n + 1)) = Int.negSucc m - Int.negSucc n by simp only [Int.negSucc_eq]; omega)
theorem mulK_eq (a b : Int) (K : Int → RT) : mulK a b K = K (a * b) := by
  unfold mulK
  cases a with
  | ofNat m =>
    cases b with
    | ofNat n => exact congrArg K rfl
    | negSucc n =>
      cases m with
      | zero => exact congrArg K (show Int.ofNat 0 = Int.ofNat 0 * Int.negSucc n by simp)
      | succ m =>
        refine congrArg K (show Int.negSucc ((m + 1) * n + m) = Int.ofNat (m + 1) * Int.negSucc n from ?_)
        simp only [Int.ofNat_eq_natCast, Int.negSucc_eq, Int.natCast_add, Int.natCast_mul]
        simp only [Int.natCast_one, Int.mul_neg, Int.mul_add, Int.add_mul]
        omega
  | negSucc m =>
    cases b with
    | ofNat n =>
      cases n with
      | zero => exact congrArg K (show Int.ofNat 0 = Int.negSucc m * Int.ofNat 0 by simp)
      | succ n =>
        refine congrArg K (show Int.negSucc (m * (n + 1) + n) = Int.negSucc m * Int.ofNat (n + 1) from ?_)
        simp only [Int.ofNat_eq_natCast, Int.negSucc_eq, Int.natCast_add, Int.natCast_mul]
        simp only [Int.natCast_one, Int.neg_mul, Int.mul_add, Int.add_mul]
        omega
    | negSucc n =>
      refine congrArg K (show Int.ofNat ((m + 1) * (n + 1)) = Int.negSucc m * Int.negSucc n from ?_)
      simp only [Int.ofNat_eq_natCast, Int.negSucc_eq, Int.natCast_add, Int.natCast_mul]
      simp only [Int.natCast_one, Int.neg_mul_neg]
theorem quoK_eq (a b : Int) (K : Int → RT) : quoK a b K = K (Int.tdiv a b) := by
  unfold quoK
  cases a with
  | ofNat m =>
    cases b with
    | ofNat n => exact congrArg K rfl
    | negSucc n => exact fI_eq _ _
  | negSucc m => exact fI_eq _ _
theorem remK_eq (a b : Int) (K : Int → RT) : remK a b K = K (Int.tmod a b) := by
  unfold remK
  cases a with
  | ofNat m =>
    cases b with
    | ofNat n => exact congrArg K rfl
    | negSucc n => exact fI_eq _ _
  | negSucc m => exact fI_eq _ _
theorem isZ_false {b : Int} (h : isZ b = false) : b ≠ 0 := by
  intro e; subst e; cases h
theorem fitsK {k : IntKind} {c : Int} {K : Int → RT} (h : outK k c K = some w) : K (k.wrap c) = some w := (outK_eq k c K).symm.trans h

theorem ariB_ok {op : BinOp} {k : IntKind} {a b : Int} {K : Int → RT} (h : ariB op k a b K = some w) : ∃ n, ArRun op k a b n ∧ K n = some w := by
  cases op <;> simp only [ariB, reduceCtorEq] at h
  · rw [addK_eq, outK_eq] at h
    exact ⟨_, fun P t w => by simp [binOp, Op.intArith], h⟩
  · rw [subK_eq, outK_eq] at h
    exact ⟨_, fun P t w => by simp [binOp, Op.intArith], h⟩
  · rw [mulK_eq, outK_eq] at h
    exact ⟨_, fun P t w => by simp [binOp, Op.intArith], h⟩
  · cases hb : isZ b with
    | true => rw [hb] at h; cases h
    | false =>
      rw [hb] at h
      simp only [quoK_eq, outK_eq] at h
      have hb := isZ_false hb
      exact ⟨_, fun P t w => by simp [binOp, Op.intDiv, hb], h⟩
  · cases hb : isZ b with
    | true => rw [hb] at h; cases h
    | false =>
      rw [hb] at h
      simp only [remK_eq] at h
      have hb := isZ_false hb
      exact ⟨_, fun P t w => by simp [binOp, Op.intDiv, hb], h⟩
  · split at h
    · rename_i hb
      have hb := eqI_iff.1 hb
      subst hb
      rw [fI_eq] at h
      exact ⟨_, run_and_one rfl, h⟩
    · split at h
      · rw [fI_eq] at h
        exact ⟨_, run_and_nat _ _, fitsK h⟩
      · cases h

theorem leI_eq (x y : Int) : leI x y = decide (x ≤ y) := by rw [Bool.eq_iff_iff, leI_iff, decide_eq_true_iff]
theorem eqI_eq (x y : Int) : eqI x y = (x == y) := by rw [Bool.eq_iff_iff, eqI_iff, beq_iff_eq]
theorem eqZK_eq (x y : Int) : eqZK x y = (x == y) := by
  rw [← eqI_eq]
  cases x <;> cases y <;> rfl
theorem leZ_eq (x y : Int) : leZ x y = decide (x ≤ y) := by rw [Bool.eq_iff_iff, leZ_iff, decide_eq_true_iff]
theorem notK_eq (b : Bool) : notK b = !b := by cases b <;> rfl

theorem cmpB_ok {op : BinOp} {a b : Int} {K : Bool → RT} (h : cmpB op a b K = some w) : ∃ t, cmpRes op a b = some t ∧ K t = some w := by
  cases op <;> simp only [cmpB, reduceCtorEq, eqZK_eq, leZ_eq, notK_eq] at h
  · exact ⟨_, rfl, h⟩
  · exact ⟨_, rfl, h⟩
  · exact ⟨_, rfl, by rw [show decide (a < b) = !decide (b ≤ a) by rw [Bool.eq_iff_iff]; simp]; exact h⟩
  · exact ⟨_, rfl, h⟩
  · exact ⟨_, rfl, by rw [show decide (a > b) = !decide (a ≤ b) by rw [Bool.eq_iff_iff]; simp]; exact h⟩
  · exact ⟨_, rfl, h⟩

theorem eqLf_eq (a b : Lf) : eqLf a b = eqLfD a b := by
  cases a <;> cases b <;> try rfl
  · exact eqZK_eq _ _
  · rename_i x y; cases x <;> cases y <;> rfl
theorem eqsV_eq (l : List (Lf × Lf)) : eqsV l = eqAll l := by
  unfold eqAll
  induction l with
  | nil => rfl
  | cons p l ih =>
    show (Bool.rec false (eqsV l) (eqLf p.1 p.2) : Bool) = _
    rw [eqLf_eq, List.all_cons, ih]
    cases eqLfD p.1 p.2 <;> rfl
theorem eqsB_ok {l : List (Lf × Lf)} {K : Bool → RT} (h : eqsB l K = some w) : K (eqAll l) = some w := by
  rw [← eqsV_eq]; exact h

/-- Calls that are told truly. -/
structure CallBOk (C : Cfg) (Sg : FuncId → Option Sig) (T : Nat → Site) (call : CallB) : Prop where
  f : ∀ g ls h K w, GoodLs ls → call (.f g) ls h K = some w → ∃ rs h', CallL C Sg g ls (absH T (toL h)) rs (absH T (toL h')) ∧ K rs h' = some w
  y : ∀ κ vs l ls h K w st pd xs, h.at l = some (.lp κ st pd vs) → Told ((T κ).params.map (·.2)) ls xs → call (.y κ vs l) ls h K = some w →
    ∃ b h', uYield C l (valsOf xs) (absH T (toL h)) (.bool b) (absH T (toL h')) ∧ K [.b b] h' = some w

theorem getH_eq (T : Nat → Site) (h : HL) : getH T h = fun i => (absH T h)[i]? := by
  funext i
  simp only [getH, absH, List.getElem?_map]
  cases h[i]? <;> rfl
theorem getT_eq (T : Nat → Site) (h : HTr) : getT T h = fun i => (absH T (toL h))[i]? := by
  funext i
  simp only [getT, absH, List.getElem?_map, toL_get, Option.map_map]
  cases h.at i <;> rfl
theorem getT_toL (T : Nat → Site) (h : HTr) : getT T h = getH T (toL h) := (getT_eq T h).trans (getH_eq T (toL h)).symm
theorem getH_at {T : Nat → Site} {h : HTr} {i : Nat} {x : HOT} (e : h.at i = some x) : getH T (toL h) i = some (absO T x.ho) := by
  rw [← getT_toL]; unfold getT; rw [e]
theorem absH_len (T : Nat → Site) (h : HL) : (absH T h).length = h.length := by simp [absH]
theorem absH_set (T : Nat → Site) (h : HL) (i : Nat) (o : HO) : absH T (h.set i o) = (absH T h).set i (absO T o) := by simp [absH, List.map_set]
theorem absH_push (T : Nat → Site) (h : HL) (o : HO) : absH T (h ++ [o]) = absH T h ++ [absO T o] := by simp [absH]
theorem actsOnH_ok (T : Nat → Site) : ∀ (l : List Act1) (h : HL), absH T (actsOnH h l) = actsOn (absH T h) l
  | [], h => rfl
  | a :: l, h => by
    have ih := actsOnH_ok T l (a.onH h)
    show absH T (actsOnH (a.onH h) l) = actsOn (a.on (absH T h)) l
    rw [ih]
    congr 1
    cases a with
    | set i o => exact absH_set T h i _
    | push o => exact absH_push T h _

theorem actsK_ok : ∀ {l : List Act1} {h : HTr} {k : HTr → RT}, actsK l h k = some w → ∃ h', toL h' = actsOnH (toL h) l ∧ k h' = some w
  | [], h, k, hk => ⟨h, rfl, hk⟩
  | .set i o :: l, h, k, hk => by
    have hk : (keepO o fun o => putK h i o fun h => actsK l h k) = some w := hk
    obtain ⟨x, e1, e2⟩ := keepO_ok (o := o) (k := fun o => putK h i o fun h => actsK l h k)
    rw [e2, putK_eq] at hk
    obtain ⟨h', e, hk⟩ := actsK_ok hk
    exact ⟨h', by rw [e, toL_put, e1]; rfl, hk⟩
  | .push o :: l, h, k, hk => by
    have hk : (keepO o fun o => pushK h o fun h => actsK l h k) = some w := hk
    obtain ⟨x, e1, e2⟩ := keepO_ok (o := o) (k := fun o => pushK h o fun h => actsK l h k)
    rw [e2, pushK_eq] at hk
    obtain ⟨h', e, hk⟩ := actsK_ok hk
    exact ⟨h', by rw [e, toL_push, e1]; rfl, hk⟩

theorem spot0_eq (s : Option Nat) : spot0 s = (s != some 0) := by
  cases s with
  | none => rfl
  | some k => cases k <;> rfl
theorem goodF_eq (v : Value) : goodF v = goodV v := by
  unfold goodF
  split
  · rename_i a
    rw [spot0_eq]
    simp [goodV, noLoc, noLoc3, noLoc2, noLoc1, oneCell, isTuple]
  · rename_i a _ _
    rw [spot0_eq]
    simp [goodV, noLoc, noLoc3, noLoc2, noLoc1, oneCell, isTuple]
  · rfl
theorem lenR_eq {α : Type} (l : List α) : lenR l = l.length := by
  induction l with
  | nil => rfl
  | cons a l ih => exact congrArg Nat.succ ih
theorem ldB_ok {T : Nat → Site} {n : Nat} {p : Value} {h : HTr} {K : List Value → RT} (hk : ldB n p h K = some w) : ∃ cs, ldP n p (getH T (toL h)) = some cs ∧ K cs = some w := by
  unfold ldB at hk
  split at hk
  · rename_i a
    split at hk
    · rename_i hs
      split at hk
      · rename_i m e rw' c hat
        split at hk
        · rename_i hle
          rw [Nat.ble_eq] at hle
          refine ⟨_, ?_, hk⟩
          unfold ldP
          simp only [hs, cellsG, getH_at hat, HOT.ho, absO, Option.bind_some, cut]
          rw [if_pos (by rw [cellsT_len]; exact hle), readT_eq c n a.off m hle]
        · cases hk
      · cases hk
    · cases hk
  · cases hk
theorem stB_ok {T : Nat → Site} {p : Value} {new : List Value} {h : HTr} {K : List Value → HTr → RT} {n0 : Nat} (hk : stB p new h K = some w) :
    ∃ acts cs h', stP p new (getH T (toL h)) n0 = some (acts, cs) ∧ toL h' = actsOnH (toL h) acts ∧ K cs h' = some w := by
  unfold stB at hk
  split at hk
  · rename_i a
    split at hk
    · rename_i hs
      split at hk
      · rename_i m e c hat
        split at hk
        · rename_i hle
          rw [Nat.ble_eq, lenR_eq] at hle
          rw [insK_eq, putK_eq] at hk
          refine ⟨[.set a.block (.cells (cellsT (insT new a.off c) m) e true)], [], _, ?_, ?_, hk⟩
          · unfold stP
            simp only [hs, getH_at hat, HOT.ho, absO, splice]
            rw [if_pos (by rw [cellsT_len]; exact hle), cellsT_ins hle]
            rfl
          · rw [toL_put]; rfl
        · cases hk
      · cases hk
    · cases hk
  · cases hk
theorem tagB_iff {s : Option Nat} {esz : Nat} : tagB s esz = true ↔ s = tag esz := by
  unfold tagB tag
  cases s with
  | none => simp
  | some k => simp only [Nat.beq_eq, Option.some.injEq]; try rfl
theorem slB_ok {C : Cfg} {T : Nat → Site} {esz : Nat} {x : Value} {h : HTr} {K : List Value → Nat → RT} (hk : slB C T esz x h K = some w) :
    ∃ l n, slG C esz (getH T (toL h)) x = some (l, n) ∧ K l n = some w := by
  have gen : ∀ {x : Value}, (match slG C esz (getT T h) x with | some p => K p.1 p.2 | none => none) = some w → ∃ l n, slG C esz (getH T (toL h)) x = some (l, n) ∧ K l n = some w := by
    intro x hk
    split at hk
    · rename_i p e
      rw [getT_toL] at e
      exact ⟨p.1, p.2, e, hk⟩
    · cases hk
  unfold slB at hk
  split at hk
  · rename_i a len cx
    split at hk
    · rename_i ht
      have ht := tagB_iff.1 ht
      split at hk
      · rename_i m e rw' c hat
        split at hk
        · rename_i h1 h2
          have h1 := Nat.eq_of_beq_eq_true h1
          rw [Nat.ble_eq] at h2
          subst h1
          refine ⟨_, _, ?_, hk⟩
          unfold slG
          simp only [getH_at hat, HOT.ho, absO]
          rw [if_neg (by rw [ht]; simp [tag]), if_pos ht]
          first | rw [if_pos rfl] | rw [if_pos trivial]
          rw [cut, if_pos (by rw [cellsT_len]; exact h2), readT_eq c _ a.off m h2]
          rfl
        · cases hk
      · cases hk
    · exact gen hk
  · exact gen hk
theorem growB_ok {c : Tr Value} {m off wd esz : Nat} {new : List Value} {k : HOT → RT} (hle : off + wd ≤ m) (hk : growB c m off wd esz new k = some w) :
    ∃ x : HOT, x.ho = .o (.cells (((cellsT c m).drop off).take wd ++ new) esz true) ∧ k x = some w := by
  unfold growB at hk
  split at hk
  · rename_i h1 h2
    have h1 := Nat.eq_of_beq_eq_true h1
    have h2 := Nat.eq_of_beq_eq_true h2
    subst h1 h2
    rw [insK_eq, fN_eq, lenR_eq] at hk
    refine ⟨_, ?_, hk⟩
    show HO.o (.cells (cellsT (insT new wd c) (wd + new.length)) esz true) = _
    rw [cellsT_more, List.drop_zero, List.take_of_length_le (by rw [cellsT_len]; exact Nat.le_refl _)]
  · rw [readT_eq c wd off m hle] at hk
    obtain ⟨x, e1, e2⟩ := keepO_ok (o := .cells (((cellsT c m).drop off).take wd ++ new) esz true) (k := k)
    rw [e2] at hk
    exact ⟨x, e1, hk⟩
theorem apB_ok {C : Cfg} {T : Nat → Site} {esz bytes : Nat} {s x : Value} {h : HTr} {K : List Value → HTr → RT} (hk : apB T C esz bytes s x h K = some w) :
    ∃ acts cs h', apG C esz bytes s x (getH T (toL h)) (toL h).length = some (acts, cs) ∧ toL h' = actsOnH (toL h) acts ∧ K cs h' = some w := by
  obtain ⟨new, n, hsl, hk⟩ := slB_ok hk
  unfold apG
  rw [hsl, toL_len]
  simp only at hk ⊢
  split at hk
  · cases n with
    | zero => exact ⟨_, _, h, rfl, rfl, hk⟩
    | succ n =>
      simp only at hk
      split at hk
      · rename_i hz
        obtain ⟨y, e1, e2⟩ := keepO_ok (o := .cells new esz true) (k := fun o => pushK h o fun h' => fN (n + 1) fun n => K [.slice (some ⟨h.n, 0, tag esz⟩) n 0] h')
        rw [e2, pushK_eq, fN_eq] at hk
        refine ⟨[.push (.cells new esz true)], _, _, ?_, ?_, hk⟩
        · show (if n + 1 = 0 then some ([], [Value.slice none 0 0]) else if sizeOk (n + 1) bytes then _ else none) = _
          rw [if_neg (by omega), if_pos hz]
        · rw [toL_push, e1]; rfl
      · cases hk
  · rename_i a len cx _
    split at hk
    · cases hk
    · rename_i ht
      have ht := tagB_iff.1 ht
      split at hk
      · rename_i m e rw' c hat
        split at hk
        · rename_i h1 h2
          have h1 := Nat.eq_of_beq_eq_true h1
          rw [Nat.ble_eq] at h2
          subst h1
          have hb : a.off + len * e ≤ m := h2
          have hcut : cut (cellsT c m) a.off (len * e) = some (((cellsT c m).drop a.off).take (len * e)) := by rw [cut, if_pos (by rw [cellsT_len]; exact hb)]
          simp only [ht, ne_eq, not_true_eq_false, if_false, getH_at hat, HOT.ho, absO, hcut]
          cases cx with
          | zero =>
            simp only at hk ⊢
            cases n with
            | zero => exact ⟨[], _, h, by first | rw [if_pos rfl] | rw [if_pos trivial], rfl, hk⟩
            | succ n =>
              simp only at hk
              split at hk
              · rename_i q1 q2
                obtain ⟨y, e1, hk⟩ := growB_ok hb hk
                rw [putK_eq, pushK_eq, fN_eq] at hk
                refine ⟨[.set a.block .dead, .push (.cells (((cellsT c m).drop a.off).take (len * e) ++ new) e true)], _, _, by rw [if_neg (by omega), if_pos (by rw [q2]; rfl)], ?_, hk⟩
                rw [toL_push, toL_put, e1]; rfl
              · cases hk
          | succ cap =>
            simp only at hk ⊢
            split at hk
            · rename_i q0
              rw [Nat.ble_eq] at q0
              split at hk
              · rename_i q1 q2
                rw [Nat.ble_eq, lenR_eq] at q2
                have q2 : a.off + len * e + new.length ≤ m := q2
                rw [insK_eq, putK_eq, fN_eq] at hk
                refine ⟨[.set a.block (.cells ((cellsT c m).take (a.off + len * e) ++ new ++ (cellsT c m).drop (a.off + len * e + new.length)) e true)], _, _, by rw [if_pos q0, if_pos rfl, splice, if_pos (by rw [cellsT_len]; exact q2)]; rfl, ?_, hk⟩
                rw [toL_put]
                show (toL h).set a.block (.o (.cells (cellsT (insT new (a.off + len * e) c) m) e true)) = _
                rw [cellsT_ins q2]; rfl
              · cases hk
            · rename_i q0
              have q0 : ¬ len + n ≤ cap := fun h => by rw [← Nat.ble_eq, q0] at h; cases h
              split at hk
              · rename_i q1
                obtain ⟨y, e1, hk⟩ := growB_ok hb hk
                rw [pushK_eq, fN_eq] at hk
                refine ⟨[.push (.cells (((cellsT c m).drop a.off).take (len * e) ++ new) e true)], _, _, by rw [if_neg q0, if_pos q1], ?_, hk⟩
                rw [toL_push, e1]; rfl
              · cases hk
        · cases hk
      · cases hk
  · cases hk

theorem heapB_ok {T : Nat → Site} {f : Hp} {h : HTr} {K : List Value → HTr → RT} (hk : heapB T f h K = some w) :
    ∃ acts cs h', f.run (getH T (toL h)) (toL h).length = some (acts, cs) ∧ toL h' = actsOnH (toL h) acts ∧ K cs h' = some w := by
  unfold heapB at hk
  cases f with
  | st p new => exact stB_ok (n0 := (toL h).length) hk
  | ap C esz bytes s x => exact apB_ok hk
  | fn f =>
    simp only at hk
    rw [getT_toL] at hk
    split at hk
    · rename_i p e
      rw [plainL_eq] at hk
      obtain ⟨h', e2, hk⟩ := actsK_ok hk
      exact ⟨p.1, p.2, h', by rw [toL_len]; exact e, e2, hk⟩
    · cases hk
theorem toSL_ok {k : LK} {v : Value} {l : SL} (h : toSL k v = some l) : l.is k = true ∧ l.val = v ∧ l.good := by
  cases k with
  | i k =>
    cases v <;> simp only [toSL] at h <;> first | cases h | skip
    split at h
    · rename_i e; cases h; exact ⟨e, rfl, trivial⟩
    · cases h
  | b =>
    cases v <;> simp only [toSL] at h <;> cases h
    exact ⟨rfl, rfl, trivial⟩
  | v =>
    simp only [toSL] at h
    split at h
    · rename_i e; cases h; exact ⟨rfl, rfl, e⟩
    · cases h
theorem toSLs_ok : ∀ {ks : List LK} {vs : List Value} {xs : List SL}, toSLs ks vs = some xs → allIs xs ks = true ∧ xs.map SL.val = vs ∧ ∀ x ∈ xs, x.good
  | [], [], xs, h => by cases h; exact ⟨rfl, rfl, fun _ h => by cases h⟩
  | k :: ks, v :: vs, xs, h => by
    simp only [toSLs] at h
    split at h
    · rename_i x e
      split at h
      · rename_i ys e2
        cases h
        obtain ⟨a1, a2, a3⟩ := toSL_ok e
        obtain ⟨b1, b2, b3⟩ := toSLs_ok e2
        refine ⟨by simp [allIs, a1, b1], by simp [a2, b2], fun y hy => ?_⟩
        rcases List.mem_cons.1 hy with rfl | hy
        · exact a3
        · exact b3 y hy
      · cases h
    · cases h
  | [], _ :: _, _, h => by cases h
  | _ :: _, [], _, h => by cases h
theorem toS0_ok {sk : SK} {v : Value} {x : S0} (h : toS0 sk v = some x) : x.is sk = true ∧ x.val = v ∧ x.good := by
  cases sk with
  | leaf k =>
    obtain ⟨l, e, rfl⟩ := Option.map_eq_some_iff.1 h
    obtain ⟨a1, a2, a3⟩ := toSL_ok e
    refine ⟨a1, a2, fun y hy => ?_⟩
    simp only [S0.cells, List.mem_singleton] at hy
    subst hy; exact a3
  | agg ks =>
    cases v <;> simp only [toS0] at h <;> first | cases h | skip
    obtain ⟨l, e, rfl⟩ := Option.map_eq_some_iff.1 h
    obtain ⟨a1, a2, a3⟩ := toSLs_ok e
    exact ⟨a1, by simp [S0.val, a2], a3⟩
theorem toS0s_ok : ∀ {sks : List SK} {vs : List Value} {xs : List S0}, toS0s sks vs = some xs → areIs xs sks = true ∧ valsOf xs = vs ∧ ∀ x ∈ xs, x.good
  | [], [], xs, h => by cases h; exact ⟨rfl, rfl, fun _ h => by cases h⟩
  | k :: ks, v :: vs, xs, h => by
    simp only [toS0s] at h
    split at h
    · rename_i x e
      split at h
      · rename_i ys e2
        cases h
        obtain ⟨a1, a2, a3⟩ := toS0_ok e
        obtain ⟨b1, b2, b3⟩ := toS0s_ok e2
        refine ⟨by simp [areIs, a1, b1], by simp only [valsOf, List.map_cons, a2] at b2 ⊢; rw [b2], fun y hy => ?_⟩
        rcases List.mem_cons.1 hy with rfl | hy
        · exact a3
        · exact b3 y hy
      · cases h
    · cases h
  | [], _ :: _, _, h => by cases h
  | _ :: _, [], _, h => by cases h

theorem eqLK_ok {a b : LK} (h : eqLK a b = true) : a = b := by
  cases a <;> cases b <;> simp only [eqLK] at h <;> first | rfl | cases h | skip
  rw [kNo_inj h]
theorem eqLKs_ok : ∀ {a b : List LK}, eqLKs a b = true → a = b
  | [], [], _ => rfl
  | a :: l, b :: m, h => by
    simp only [eqLKs, Bool.and_eq_true] at h
    rw [eqLK_ok h.1, eqLKs_ok h.2]
  | [], _ :: _, h => by cases h
  | _ :: _, [], h => by cases h
theorem eqSK_ok {a b : SK} (h : eqSK a b = true) : a = b := by
  cases a <;> cases b <;> simp only [eqSK] at h <;> first | cases h | skip
  · rw [eqLK_ok h]
  · rw [eqLKs_ok h]
theorem eqSKs_ok : ∀ {a b : List SK}, eqSKs a b = true → a = b
  | [], [], _ => rfl
  | a :: l, b :: m, h => by
    simp only [eqSKs, Bool.and_eq_true] at h
    rw [eqSK_ok h.1, eqSKs_ok h.2]
  | [], _ :: _, h => by cases h
  | _ :: _, [], h => by cases h

theorem goodLs_ok : ∀ {ls : List Lf}, goodLs ls = true → GoodLs ls
  | [], _ => fun _ h => by cases h
  | .i n :: ls, h => fun l hl => by
    rcases List.mem_cons.1 hl with rfl | hl
    · trivial
    · exact goodLs_ok (ls := ls) h l hl
  | .b n :: ls, h => fun l hl => by
    rcases List.mem_cons.1 hl with rfl | hl
    · trivial
    · exact goodLs_ok (ls := ls) h l hl
  | .v n :: ls, h => fun l hl => by
    have h : (match goodF n with | true => goodLs ls | false => false) = true := h
    split at h
    · rename_i e
      rw [goodF_eq] at e
      rcases List.mem_cons.1 hl with rfl | hl
      · exact e
      · exact goodLs_ok (ls := ls) h l hl
    · cases h

theorem callB_ok {C : Cfg} {Sg : FuncId → Option Sig} {T : Nat → Site} {call : CallB} (hc : CallBOk C Sg T call) {g : FuncId} {ls : List Lf} {h : HTr} {K : List Lf → HTr → RT} (hk : callB call g ls h K = some w) :
    ∃ rs h', CallL C Sg g ls (absH T (toL h)) rs (absH T (toL h')) ∧ K rs h' = some w := by
  unfold callB at hk
  split at hk
  · rename_i e; exact hc.f g ls h K w (goodLs_ok e) hk
  · cases hk

theorem callVals_ok {C : Cfg} {Sg : FuncId → Option Sig} {T : Nat → Site} {call : CallB} (hc : CallBOk C Sg T call) {g : FuncId} {hs : Option (List SK)} {vals : List Value} {h : HTr} {K : List Lf → HTr → RT} (hk : callVals Sg call g hs vals h K = some w) :
    ∃ sg rs ys h', Sg g = some sg ∧ (∀ x, hs = some x → sg.rs = x) ∧ Told sg.rs rs ys ∧ uCall C g vals (absH T (toL h)) (packA (valsOf ys)) (absH T (toL h')) ∧ K rs h' = some w := by
  unfold callVals at hk
  split at hk
  · cases hk
  · rename_i sg e
    split at hk
    · cases hk
    · rename_i e2
      split at hk
      · cases hk
      · rename_i xs e3
        obtain ⟨rs, h', ⟨sg', xs', ys, c1, c2, c3, c4⟩, hk⟩ := callB_ok hc hk
        rw [e] at c1
        cases c1
        obtain ⟨d1, d2, d3⟩ := toS0s_ok e3
        obtain ⟨w1, _⟩ := areIs_val c2.1 d1 c2.2.1
        rw [w1, d2] at c4
        refine ⟨sg, rs, ys, h', e, fun x hx => ?_, c3, c4, hk⟩
        subst hx
        exact eqSKs_ok e2

theorem hloop_at {T : Nat → Site} {h : HTr} {l κ : Nat} {st : LoopState} {pd : Option Code} {vs : List Value} (e : h.at l = some (.lp κ st pd vs)) : hloop (absH T (toL h)) l = some { lpOf (T κ) κ vs with state := st, pending := pd } := by
  unfold hloop absH
  rw [List.getElem?_map, toL_get, e]
  rfl

theorem callvB_ok {C : Cfg} {Sg : FuncId → Option Sig} {T : Nat → Site} {call : CallB} (hc : CallBOk C Sg T call) {v : Value} {args : List Value} {hs : List SK} {h : HTr} {K : List Lf → HTr → RT} (hk : callvB Sg T call v args hs h K = some w) :
    ∃ rs h', CallV C v args hs (absH T (toL h)) rs (absH T (toL h')) ∧ K rs h' = some w := by
  unfold callvB at hk
  split at hk
  · rename_i fn first cap
    split at hk
    · rename_i g
      obtain ⟨sg, rs, ys, h', c1, c2, c3, c4, c5⟩ := callVals_ok hc hk
      rw [c2 _ rfl] at c3
      exact ⟨rs, h', ⟨ys, c3, .inl ⟨g, first, cap, rfl, c4⟩⟩, c5⟩
    · rename_i l
      split at hk
      · rename_i e1 e2
        have e1 : first = #[] := Array.toList_inj.1 e1
        have e2 : cap = #[] := Array.toList_inj.1 e2
        subst e1 e2
        split at hk
        · rename_i κ st pd vs e
          split at hk
          · cases hk
          · rename_i e3
            have e3 := eqSKs_ok e3
            subst e3
            split at hk
            · cases hk
            · rename_i xs e4
              split at hk
              · rename_i e5
                obtain ⟨d1, d2, d3⟩ := toS0s_ok e4
                obtain ⟨b, h', y1, y2⟩ := hc.y κ vs l _ h K w st pd xs e ⟨d1, rfl, d3⟩ hk
                rw [d2] at y1
                refine ⟨[.b b], h', ⟨[.leaf (.b b)], ⟨rfl, rfl, fun x hx => ?_⟩, .inr ⟨l, rfl, y1⟩⟩, y2⟩
                simp only [List.mem_singleton] at hx
                subst hx
                intro y hy
                simp only [S0.cells, List.mem_singleton] at hy
                subst hy; trivial
              · cases hk
        · cases hk
      · cases hk
    · cases hk
  · cases hk

theorem rfunB_ok {C : Cfg} {Sg : FuncId → Option Sig} {T : Nat → Site} {call : CallB} (hc : CallBOk C Sg T call) {κ : Nat} {v : Value} {vals : List Value} {h : HTr} {K : Option Code → HTr → RT} (hk : rfunB Sg call κ v vals h K = some w) :
    ∃ g first cap r H1 lp h2, v = .func (.func g) first cap ∧ uCall C g (first.toList ++ [.func (.yield (absH T (toL h)).length) #[] #[]] ++ cap.toList) (absH T (toL h) ++ [.loop (lpOf (T κ) κ vals)]) r H1 ∧
      hloop H1 (absH T (toL h)).length = some lp ∧ lp.state ≠ .busy ∧ absH T (toL h2) = H1.set (absH T (toL h)).length (.loop { lp with state := .exhausted }) ∧ K lp.pending h2 = some w := by
  unfold rfunB at hk
  split at hk
  · rename_i fn first cap
    split at hk
    · rename_i g
      rw [pushK_eq] at hk
      obtain ⟨sg, rs, ys, h', _, _, c3, c4, c5⟩ := callVals_ok hc hk
      have hlen : (absH T (toL h)).length = h.n := by rw [absH_len, toL_len]
      split at c5
      · rename_i κ' st pd vs e
        have hl := hloop_at (T := T) e
        rw [toL_push, absH_push] at c4
        have fin : ∀ (hst : st ≠ .busy), (putK h' h.n (.lp κ' .exhausted pd vs) fun h2 => K pd h2) = some w → ∃ g' first' cap' r H1 lp h2, (Value.func (.func g) first cap) = .func (.func g') first' cap' ∧ uCall C g' (first'.toList ++ [.func (.yield (absH T (toL h)).length) #[] #[]] ++ cap'.toList) (absH T (toL h) ++ [.loop (lpOf (T κ) κ vals)]) r H1 ∧
            hloop H1 (absH T (toL h)).length = some lp ∧ lp.state ≠ .busy ∧ absH T (toL h2) = H1.set (absH T (toL h)).length (.loop { lp with state := .exhausted }) ∧ K lp.pending h2 = some w := by
          intro hst hk
          rw [putK_eq] at hk
          refine ⟨g, first, cap, packA (valsOf ys), absH T (toL h'), { lpOf (T κ') κ' vs with state := st, pending := pd }, h'.put h.n (.lp κ' .exhausted pd vs), rfl, ?_, ?_, hst, ?_, hk⟩
          · rw [hlen]; exact c4
          · rw [hlen]; exact hl
          · rw [toL_put, absH_set, hlen]; rfl
        cases st with
        | busy => cases c5
        | _ => exact fin (by simp) c5
      · cases c5
    · cases hk
  · cases hk

theorem pend_exit {id : Nat} : ∀ {ks : List (Nat × RT)}, (List.rec none (fun p _ ih => match Nat.beq p.1 id with | true => p.2 | false => ih) ks : RT) = some w →
    ∃ id' x, some (Code.exit id) = some (Code.exit id') ∧ (id', x) ∈ ks ∧ x = some w
  | [], h => by cases h
  | p :: ks, h => by
    have h : (match Nat.beq p.1 id with | true => p.2 | false => (List.rec none (fun p _ ih => match Nat.beq p.1 id with | true => p.2 | false => ih) ks : RT)) = some w := h
    split at h
    · rename_i e
      exact ⟨id, p.2, rfl, by rw [← Nat.eq_of_beq_eq_true e]; exact List.mem_cons_self, h⟩
    · obtain ⟨id', x, a, b, c⟩ := pend_exit h
      exact ⟨id', x, a, List.mem_cons_of_mem _ b, c⟩

theorem BA_ok {C : Cfg} {Sg : FuncId → Option Sig} {T : Nat → Site} {call : CallB} (hc : CallBOk C Sg T call) : AlgOk (BA Sg T call) C Sg T (fun b => b = some w) (fun h => absH T (toL h)) where
  fail := by intro h; cases h
  cond := by
    intro b x y h
    cases b
    · exact .inr ⟨rfl, h⟩
    · exact .inl ⟨rfl, h⟩
  ari := fun op k a b K h => ariB_ok h
  shf := fun op k a k' b K h => by cases h
  cmp := fun op a b K h => cmpB_ok h
  eqs := fun l K h => eqsB_ok h
  conv := fun k a K h => fitsK h
  sel := by intro t a b K h; cases t <;> exact h
  opt := by
    intro α o K h
    cases o with
    | none => cases h
    | some x => exact ⟨x, rfl, h⟩
  chk := by
    intro v K h
    have h : chkB v K = some w := h
    unfold chkB at h
    split at h
    · rename_i e; rw [goodF_eq] at e; exact ⟨e, h⟩
    · cases h
  unI := by
    intro ls K h
    match ls, h with
    | .i n :: r, h => exact ⟨n, r, rfl, h⟩
  unB := by
    intro ls K h
    match ls, h with
    | .b n :: r, h => exact ⟨n, r, rfl, h⟩
  unV := by
    intro ls K h
    match ls, h with
    | .v n :: r, h => exact ⟨n, r, rfl, h⟩
  un0 := by
    intro ls K h
    match ls, h with
    | [], h => exact ⟨rfl, h⟩
  ucI := by
    intro k ls K h
    match ls, h with
    | .int k' n :: r, h =>
      have h : (match kSame k k' with | true => K n r | false => none) = some w := h
      split at h
      · rename_i e; rw [kNo_inj e]; exact ⟨n, r, rfl, h⟩
      · cases h
  ucB := by
    intro ls K h
    match ls, h with
    | .bool n :: r, h => exact ⟨n, r, rfl, h⟩
  ucV := by
    intro ls K h
    match ls, h with
    | n :: r, h => exact ⟨n, r, rfl, h⟩
  uc0 := by
    intro ls K h
    match ls, h with
    | [], h => exact ⟨rfl, h⟩
  peek := by
    intro f h K hk
    have hk : peekB T f h K = some w := hk
    unfold peekB at hk
    rw [← getH_eq]
    cases f with
    | ld n p => exact ldB_ok hk
    | fn f =>
      simp only at hk
      rw [getT_toL] at hk
      split at hk
      · rename_i x e; exact ⟨x, e, hk⟩
      · cases hk
  heap := by
    intro f h K hk
    have hk : heapB T f h K = some w := hk
    obtain ⟨acts, cs, h', a1, a2, a3⟩ := heapB_ok hk
    exact ⟨acts, cs, h', by rw [← getH_eq, absH_len]; exact a1, by rw [a2]; exact actsOnH_ok T acts (toL h), a3⟩
  new := by
    intro o h K hk
    have hk : newB o h K = some w := hk
    unfold newB at hk
    obtain ⟨x, e1, e2⟩ := keepO_ok (o := o) (k := fun o => pushK h o fun h' => K h.n h')
    rw [e2, pushK_eq] at hk
    exact ⟨h.push x, by rw [toL_push, e1]; exact absH_push T (toL h) _, by rw [absH_len, toL_len]; exact hk⟩
  call := fun g ls h K hk => callB_ok hc hk
  callv := fun v args hs h K hk => callvB_ok hc hk
  join := fun b m h => h
  loop := by
    intro F ls h hk
    refine ⟨fun n => Nat.rec (motive := fun _ => List Lf → HTr → RT) (fun _ _ => none) (fun _ ih ls h => F ih ls h) n, fun ls h => (by simp), fun n ls h => rfl, 1000000, hk⟩
  rfun := fun κ v vals h K hk => rfunB_ok hc hk
  pend := by
    intro pd kn kr ks h
    cases pd with
    | none => exact .inl ⟨rfl, h⟩
    | some c =>
      cases c <;> first | exact .inr (.inl ⟨rfl, h⟩) | skip
      case exit id =>
        exact .inr (.inr (pend_exit h))
      all_goals cases h
  lp1 := by
    intro l h K hk
    have hk : lp1B l h K = some w := hk
    unfold lp1B at hk
    split at hk
    · rename_i κ st pd vs e
      split at hk
      · rw [putK_eq] at hk
        exact ⟨_, _, hloop_at e, rfl, by rw [toL_put]; exact absH_set T (toL h) l _, hk⟩
      · cases hk
    · cases hk
  lp2 := by
    intro l j h K hk
    have hk : lp2B l j h K = some w := hk
    unfold lp2B at hk
    split at hk
    · rename_i κ st pd vs e
      cases j with
      | none =>
        have hk : putK h l (.lp κ .ready none vs) K = some w := hk
        rw [putK_eq] at hk
        exact ⟨_, h.put l (.lp κ .ready none vs), hloop_at e, (congrArg (absH T) (toL_put h l (.lp κ .ready none vs))).trans (absH_set T (toL h) l (.lp κ .ready none vs)), hk⟩
      | some c =>
        have hk : putK h l (.lp κ .done (some c) vs) K = some w := hk
        rw [putK_eq] at hk
        exact ⟨_, h.put l (.lp κ .done (some c) vs), hloop_at e, (congrArg (absH T) (toL_put h l (.lp κ .done (some c) vs))).trans (absH_set T (toL h) l (.lp κ .done (some c) vs)), hk⟩
    · cases hk

/-- Runs to a depth. -/
noncomputable def runT (Sg : FuncId → Option Sig) (T : Nat → Site) (tab : Alg RT HTr → CK → List Lf → HTr → (List Lf → HTr → RT) → RT) (n : Nat) : CallB :=
  Nat.rec (motive := fun _ => CallB) (fun _ _ _ _ => none) (fun _ ih f ls h K => tab (BA Sg T ih) f ls h K) n

/-- How a table of runs may answer for a function: by what the function does; by what is known of it; by what a run of it over an empty heap answers. -/
inductive TabOk (C : Cfg) (Sg : FuncId → Option Sig) (X : Ctxt) (dr : List Nat → Array Oper → Bool) (A : Alg RT HTr) (f : FuncId) (ls : List Lf) (h : HTr) (K : List Lf → HTr → RT) (w : List Lf) : Prop
  | run (fn : Fn1) (hi : FnIs X Sg f fn) (he : execF A X Sg dr fn ls h K = some w)
  | known (rs : List Lf) (hc : ∀ H, CallL C Sg f ls H rs H) (hk : K rs h = some w)
  | alone (fn : Fn1) (rs : List Lf) (sg : Sig) (hi : FnIs X Sg f fn) (hs : Sg f = some sg) (hp : sg.plain = true) (he : execF A X Sg dr fn ls .empty (fun rs _ => some rs) = some rs) (hk : K rs h = some w)
theorem absH_empty (T : Nat → Site) : absH T (toL .empty) = [] := rfl
theorem runT_ok {C : Cfg} {Sg : FuncId → Option Sig} {T : Nat → Site} {X : FuncId → Ctxt} {dr : List Nat → Array Oper → Bool}
    (hdr : ∀ pts ops, dr pts ops = true → ∀ (n : Nat) (σ σ' : St), opsRel C (sm C n).toBelow pts ops (List.range ops.size) σ σ' → anyRel C (sm C n).toBelow pts ops σ σ')
    (hX : ∀ f, (X f).C = C ∧ (X f).T = T) {tab : Alg RT HTr → CK → List Lf → HTr → (List Lf → HTr → RT) → RT}
    (hpl : ∀ f sg ls rs H', Sg f = some sg → sg.plain = true → CallL C Sg f ls [] rs H' → ∀ H, CallL C Sg f ls H rs H)
    (htab : ∀ A f ls h K w, tab A (.f f) ls h K = some w → TabOk C Sg (X f) dr A f ls h K w)
    (htabY : ∀ A κ vs l ls h K w, tab A (.y κ vs l) ls h K = some w → ∃ f, execY A (X f) Sg dr (T κ) vs l ls h K = some w) : ∀ n, CallBOk C Sg T (runT Sg T tab n)
  | 0 => ⟨fun _ _ _ _ _ _ h => by (cases h), fun _ _ _ _ _ _ _ _ _ _ _ _ h => by (cases h)⟩
  | n + 1 => by
    have hA := fun w => BA_ok (w := w) (runT_ok hdr hX hpl htab htabY n)
    refine ⟨fun f ls h K w hls hk => ?_, fun κ vs l ls h K w st pd xs e hy hk => ?_⟩
    · obtain ⟨x1, x2⟩ := hX f
      have hA' : ∀ w, AlgOk (BA Sg T (runT Sg T tab n)) (X f).C Sg (X f).T (fun b => b = some w) (fun h => absH T (toL h)) := by rw [x1, x2]; exact hA
      cases htab _ _ _ _ _ _ hk with
      | known rs h1 h2 => exact ⟨rs, h, h1 _, h2⟩
      | run fn h1 h2 =>
        obtain ⟨rs, h', a1, _, a3⟩ := execF_ok (hA' w) (by rw [x1]; exact hdr) h1 hls h2
        rw [x1] at a1
        exact ⟨rs, h', a1, a3⟩
      | alone fn rs sg h1 hs hp h2 h3 =>
        obtain ⟨rs', h', a1, _, a3⟩ := execF_ok (hA' rs) (by rw [x1]; exact hdr) h1 hls h2
        rw [x1] at a1
        cases a3
        exact ⟨rs, h, hpl f sg ls rs _ hs hp a1 _, h3⟩
    · obtain ⟨f, h2⟩ := htabY _ _ _ _ _ _ _ _ hk
      obtain ⟨x1, x2⟩ := hX f
      have hA' : AlgOk (BA Sg T (runT Sg T tab n)) (X f).C Sg (X f).T (fun b => b = some w) (fun h => absH T (toL h)) := by rw [x1, x2]; exact hA w
      obtain ⟨b, h', a1, a3⟩ := execY_ok hA' (by rw [x1]; exact hdr) (hloop_at e) rfl rfl rfl rfl hy h2
      rw [x1] at a1
      exact ⟨b, h', a1, a3⟩

end
end Sx
end Go.Am

/-
  CALLS THAT LEAVE NOTHING BEHIND: a run that begins with an empty heap is a run over any heap.
-/
namespace Go.Am
namespace Sx

section
variable [Val]

theorem objR_keep {mu : HMap} {p : Pl} {x y : Option Obj} {o : HObj} (hxy : ∀ a, x = some a → y = some a) (h : objR mu p x o) : objR mu p y o := by
  cases o with
  | cells vs esz rw =>
    obtain ⟨h1, h2, h3, c, e, fr, h4, h5⟩ := h
    exact ⟨h1, h2, h3, c, e, fr, hxy _ h4, h5⟩
  | map es clock =>
    obtain ⟨es', h1, h2⟩ := h
    exact ⟨es', hxy _ h1, h2⟩
  | loop r =>
    obtain ⟨L, h1, h2⟩ := h
    exact ⟨L, hxy _ h1, h2⟩
  | siter s pos => exact hxy _ h
  | dead => trivial

theorem flatVRs {la : LMap} {mu mu' : HMap} {vs cs : List Value} (hf : vs.all flat = true) (h : VRs la mu vs cs) : VRs la mu' vs cs := by
  refine ⟨h.1, fun i x y hx hy => ?_⟩
  have h1 := h.2 i x y hx hy
  have h2 : flat x = true := List.all_eq_true.1 hf x (List.mem_of_getElem? hx)
  rw [flat_eq h2 h1]
  exact .of_flat h2

theorem no_own {mu : HMap} {b : Nat} : ¬ Own mu [] b := by
  rintro ⟨id, o, p, h, _⟩
  simp at h

/-- THE FRAME. -/
theorem frame_ok {C : Cfg} (hG : ∀ g vs, C.G g = some vs → vs.all flat = true) {f : FuncId} {args : List Value} {r : Value} {H' : List HObj} (h : CallOk C f args [] r H') (ha : args.all flat = true) (hr : flat r = true) (H : List HObj) : CallOk C f args H r H := by
  intro base mu w args' hb hargs hW
  have hW0 : WR C w.heap.size (fun _ => none) [] w := by
    refine ⟨fun id o h => by simp at h, fun i j oi oj pi pj h => by simp at h, fun i o p h => by simp at h, fun i o p h => by simp at h, fun _ _ => rfl, fun g vs hg => ?_⟩
    obtain ⟨h1, h2, c, e, fr, h3, h4⟩ := hW.glob g vs hg
    exact ⟨by omega, h2, c, e, fr, h3, flatVRs (hG g vs hg) h4⟩
  obtain ⟨v, mu', w', a1, a2, a3, a4, a5⟩ := h w.heap.size (fun _ => none) w args' (Nat.le_refl _) (flatVRs ha hargs) hW0
  have hkeep : ∀ (b : Nat) x, w.heap[b]? = some x → w'.heap[b]? = some x := by
    intro b x hx
    have hlt : b < w.heap.size := by
      rcases Nat.lt_or_ge b w.heap.size with h | h
      · exact h
      · rw [Array.getElem?_eq_none h] at hx; cases hx
    rw [a3.keep b hlt no_own]; exact hx
  refine ⟨v, mu, w', ?_, ?_, ?_, a4, a5⟩
  · rw [flat_eq hr a1]; exact .of_flat hr
  · refine ⟨fun id o h1 h2 => ?_, hW.inj, hW.own, hW.ro, hW.dom, fun g vs hg => ?_⟩
    · obtain ⟨p, h3, h4⟩ := hW.obj id o h1 h2
      exact ⟨p, h3, objR_keep (hkeep p.b) h4⟩
    · obtain ⟨h1, h2, c, e, fr, h3, h4⟩ := hW.glob g vs hg
      exact ⟨h1, h2, c, e, fr, hkeep _ _ h3, h4⟩
  · exact ⟨Nat.le_refl _, fun _ _ => rfl, a3.size, fun b hb _ => a3.keep b hb no_own, fun b h => .inr h, a3.os, a3.tape, a3.output⟩

/-- THE FRAME of calls that only read blocks of plain cells: what a run over these blocks alone answers, holds whatever else there is. -/
theorem frame_ro {C : Cfg} (hG : ∀ g vs, C.G g = some vs → vs.all flat = true) {f : FuncId} {args0 args : List Value} {r : Value} {H0 H' H : List HObj} (σ : Nat → Nat) (h : CallOk C f args0 H0 r H') (hr : flat r = true)
    (h0 : ∀ (j : Nat) (o : HObj), H0[j]? = some o → ∃ vs e rw, o = .cells vs e false ∧ vs.all flat = true ∧ H[σ j]? = some (.cells vs e rw))
    (ha : ∀ (mu mu0 : HMap) (cs : List Value), (∀ j, j < H0.length → mu0 j = mu (σ j)) → VRs noL mu args cs → VRs noL mu0 args0 cs) : CallOk C f args H r H := by
  intro base mu w args' hb hargs hW
  let mu0 : HMap := fun j => if j < H0.length then mu (σ j) else none
  have hno : ∀ b, ¬ Own mu0 H0 b := by
    rintro b ⟨id, o, p, h1, h2, _⟩
    obtain ⟨vs, e, rw', rfl, _⟩ := h0 id o h1
    cases h2
  have hmu : ∀ (id : Nat) (o : HObj), H0[id]? = some o → mu0 id = mu (σ id) := by
    intro id o h1
    have : id < H0.length := by
      rcases Nat.lt_or_ge id H0.length with h | h
      · exact h
      · rw [List.getElem?_eq_none h] at h1; cases h1
    simp only [mu0, if_pos this]
  have hobj : ∀ (id : Nat) (o : HObj), H0[id]? = some o → ∃ p, mu0 id = some p ∧ objR mu0 p w.heap[p.b]? o := by
    intro id o h1
    obtain ⟨vs, e, rw', rfl, hf, hH⟩ := h0 id o h1
    obtain ⟨p, h3, h4⟩ := hW.obj (σ id) _ hH rfl
    obtain ⟨g1, g2, g3, c, e', fr, g4, g5, g6, g7⟩ := h4
    refine ⟨p, by rw [hmu id _ h1]; exact h3, g1, g2, g3, c, e', fr, g4, g5, fun e => by (cases e), fun i v hv => ?_⟩
    obtain ⟨v', q1, q2⟩ := g7 i v hv
    have h2 : flat v = true := List.all_eq_true.1 hf v (List.mem_of_getElem? hv)
    refine ⟨v', q1, ?_⟩
    rw [flat_eq h2 q2]
    exact .of_flat h2
  have hW0 : WR C w.heap.size mu0 H0 w := by
    refine ⟨fun id o h1 _ => hobj id o h1, fun i j oi oj pi pj h1 h2 h3 => ?_, fun i o p h1 h2 => ?_, fun i o p h1 _ _ h2 => ?_, fun id h1 => ?_, fun g vs hg => ?_⟩
    · obtain ⟨vs, e, rw', rfl, _⟩ := h0 i oi h1
      cases h3
    · obtain ⟨vs, e, rw', rfl, _⟩ := h0 i o h1
      cases h2
    · obtain ⟨p', h3, h4⟩ := hobj i o h1
      rw [h2] at h3
      cases h3
      obtain ⟨vs, e, rw', rfl, _⟩ := h0 i o h1
      obtain ⟨_, _, _, c, e', fr, g4, _⟩ := h4
      rcases Nat.lt_or_ge p.b w.heap.size with h | h
      · exact h
      · rw [Array.getElem?_eq_none h] at g4; cases g4
    · simp only [mu0, if_neg (Nat.not_lt.2 h1)]
    · obtain ⟨h1, h2, c, e, fr, h3, h4⟩ := hW.glob g vs hg
      exact ⟨by omega, h2, c, e, fr, h3, flatVRs (hG g vs hg) h4⟩
  have hargs0 : VRs noL mu0 args0 args'.toList := ha mu mu0 _ (fun j hj => by simp only [mu0, if_pos hj]) hargs
  obtain ⟨v, mu', w', a1, a2, a3, a4, a5⟩ := h w.heap.size mu0 w args' (Nat.le_refl _) hargs0 hW0
  have hkeep : ∀ (b : Nat) x, w.heap[b]? = some x → w'.heap[b]? = some x := by
    intro b x hx
    have hlt : b < w.heap.size := by
      rcases Nat.lt_or_ge b w.heap.size with h | h
      · exact h
      · rw [Array.getElem?_eq_none h] at hx; cases hx
    rw [a3.keep b hlt (hno b)]; exact hx
  refine ⟨v, mu, w', ?_, ?_, ?_, a4, a5⟩
  · rw [flat_eq hr a1]; exact .of_flat hr
  · refine ⟨fun id o h1 h2 => ?_, hW.inj, hW.own, hW.ro, hW.dom, fun g vs hg => ?_⟩
    · obtain ⟨p, h3, h4⟩ := hW.obj id o h1 h2
      exact ⟨p, h3, objR_keep (hkeep p.b) h4⟩
    · obtain ⟨h1, h2, c, e, fr, h3, h4⟩ := hW.glob g vs hg
      exact ⟨h1, h2, c, e, fr, hkeep _ _ h3, h4⟩
  · exact ⟨Nat.le_refl _, fun _ _ => rfl, a3.size, fun b hb _ => a3.keep b hb (hno b), fun b h => .inr h, a3.os, a3.tape, a3.output⟩

end

section
variable [Val] [Kno]

/-- What is known is a call. -/
theorem call_known {C : Cfg} {f : FuncId} {args : List Value} {r : Value} (h : Kno.kn f args r) (H : List HObj) : uCall C f args H r H := ⟨0, .inl ⟨h, rfl⟩⟩
theorem call_kh {C : Cfg} {f : FuncId} {args : List Value} {H : List HObj} {r : Value} {H' : List HObj} (h : Kno.kh f args H r H') : uCall C f args H r H' := ⟨0, .inr h⟩

end
end Sx
end Go.Am

/-
  THE FUNCTIONS OF THE PROGRAM ARE WHAT IS TOLD OF THEM, BY PROGRAM.
-/
set_option maxRecDepth 100000
namespace Go.Am
open Sx Go.Proofs

def neuT : List (Nat × Nat) := [(22, 2)]
def lookN (l : List (Nat × Nat)) (f : Nat) : Option Nat := match l with
  | [] => none
  | p :: l => match Nat.beq p.1 f with
    | true => some p.2
    | false => lookN l f
def neuN (f : FuncId) : Option Nat := lookN neuT f
theorem lookN_mem {f n : Nat} : ∀ {l : List (Nat × Nat)}, lookN l f = some n → (f, n) ∈ l
  | p :: l, h => by
    unfold lookN at h
    split at h
    · rename_i e
      cases h
      have := Nat.eq_of_beq_eq_true e
      subst this
      exact List.mem_cons_self
    · exact List.mem_cons_of_mem _ (lookN_mem h)
theorem neuT_ok : (neuT.all fun p => neuF neuN cc p.1 p.2) = true := by kernel_rfl
theorem neuN_ok (f n : Nat) (h : neuN f = some n) : neuF neuN cc f n = true := List.all_eq_true.1 neuT_ok (f, n) (lookN_mem h)
noncomputable def drN (pts : List Nat) (ops : Array Oper) : Bool := regOk neuN pts ops

noncomputable def n3 : Fn1 := fn1 cc.P 3 ((sgTab 3).getD ⟨[], []⟩) an3
noncomputable def n4 : Fn1 := fn1 cc.P 4 ((sgTab 4).getD ⟨[], []⟩) an4
noncomputable def n5 : Fn1 := fn1 cc.P 5 ((sgTab 5).getD ⟨[], []⟩) an5
noncomputable def n6 : Fn1 := fn1 cc.P 6 ((sgTab 6).getD ⟨[], []⟩) an6
noncomputable def n7 : Fn1 := fn1 cc.P 7 ((sgTab 7).getD ⟨[], []⟩) an7
noncomputable def n8 : Fn1 := fn1 cc.P 8 ((sgTab 8).getD ⟨[], []⟩) an8
noncomputable def n17 : Fn1 := fn1 cc.P 17 ((sgTab 17).getD ⟨[], []⟩) an17
noncomputable def n18 : Fn1 := fn1 cc.P 18 ((sgTab 18).getD ⟨[], []⟩) an18
noncomputable def n19 : Fn1 := fn1 cc.P 19 ((sgTab 19).getD ⟨[], []⟩) an19
noncomputable def n20 : Fn1 := fn1 cc.P 20 ((sgTab 20).getD ⟨[], []⟩) an20
noncomputable def n21 : Fn1 := fn1 cc.P 21 ((sgTab 21).getD ⟨[], []⟩) an21
noncomputable def n22 : Fn1 := fn1 cc.P 22 ((sgTab 22).getD ⟨[], []⟩) an22
noncomputable def n23 : Fn1 := fn1 cc.P 23 ((sgTab 23).getD ⟨[], []⟩) an23
noncomputable def n24 : Fn1 := fn1 cc.P 24 ((sgTab 24).getD ⟨[], []⟩) an24
noncomputable def n25 : Fn1 := fn1 cc.P 25 ((sgTab 25).getD ⟨[], []⟩) an25
noncomputable def n26 : Fn1 := fn1 cc.P 26 ((sgTab 26).getD ⟨[], []⟩) an26
noncomputable def n27 : Fn1 := fn1 cc.P 27 ((sgTab 27).getD ⟨[], []⟩) an27
noncomputable def n28 : Fn1 := fn1 cc.P 28 ((sgTab 28).getD ⟨[], []⟩) an28
noncomputable def n29 : Fn1 := fn1 cc.P 29 ((sgTab 29).getD ⟨[], []⟩) an29
noncomputable def n30 : Fn1 := fn1 cc.P 30 ((sgTab 30).getD ⟨[], []⟩) an30
noncomputable def n31 : Fn1 := fn1 cc.P 31 ((sgTab 31).getD ⟨[], []⟩) an31
noncomputable def n32 : Fn1 := fn1 cc.P 32 ((sgTab 32).getD ⟨[], []⟩) an32
noncomputable def n33 : Fn1 := fn1 cc.P 33 ((sgTab 33).getD ⟨[], []⟩) an33
noncomputable def n34 : Fn1 := fn1 cc.P 34 ((sgTab 34).getD ⟨[], []⟩) an34
noncomputable def n35 : Fn1 := fn1 cc.P 35 ((sgTab 35).getD ⟨[], []⟩) an35
noncomputable def n36 : Fn1 := fn1 cc.P 36 ((sgTab 36).getD ⟨[], []⟩) an36
noncomputable def n37 : Fn1 := fn1 cc.P 37 ((sgTab 37).getD ⟨[], []⟩) an37
noncomputable def n38 : Fn1 := fn1 cc.P 38 ((sgTab 38).getD ⟨[], []⟩) an38
noncomputable def n39 : Fn1 := fn1 cc.P 39 ((sgTab 39).getD ⟨[], []⟩) an39
noncomputable def n40 : Fn1 := fn1 cc.P 40 ((sgTab 40).getD ⟨[], []⟩) an40
noncomputable def n41 : Fn1 := fn1 cc.P 41 ((sgTab 41).getD ⟨[], []⟩) an41
noncomputable def n43 : Fn1 := fn1 cc.P 43 ((sgTab 43).getD ⟨[], []⟩) an43
noncomputable def n45 : Fn1 := fn1 cc.P 45 ((sgTab 45).getD ⟨[], []⟩) an45
noncomputable def n47 : Fn1 := fn1 cc.P 47 ((sgTab 47).getD ⟨[], []⟩) an47
noncomputable def n49 : Fn1 := fn1 cc.P 49 ((sgTab 49).getD ⟨[], []⟩) an49
noncomputable def n67 : Fn1 := fn1 cc.P 67 ((sgTab 67).getD ⟨[], []⟩) an67
noncomputable def n68 : Fn1 := fn1 cc.P 68 ((sgTab 68).getD ⟨[], []⟩) an68
noncomputable def n69 : Fn1 := fn1 cc.P 69 ((sgTab 69).getD ⟨[], []⟩) an69
noncomputable def n70 : Fn1 := fn1 cc.P 70 ((sgTab 70).getD ⟨[], []⟩) an70
noncomputable def n71 : Fn1 := fn1 cc.P 71 ((sgTab 71).getD ⟨[], []⟩) an71
noncomputable def n72 : Fn1 := fn1 cc.P 72 ((sgTab 72).getD ⟨[], []⟩) an72
noncomputable def n73 : Fn1 := fn1 cc.P 73 ((sgTab 73).getD ⟨[], []⟩) an73
noncomputable def n74 : Fn1 := fn1 cc.P 74 ((sgTab 74).getD ⟨[], []⟩) an74
noncomputable def n76 : Fn1 := fn1 cc.P 76 ((sgTab 76).getD ⟨[], []⟩) an76
noncomputable def n77 : Fn1 := fn1 cc.P 77 ((sgTab 77).getD ⟨[], []⟩) an77
noncomputable def n89 : Fn1 := fn1 cc.P 89 ((sgTab 89).getD ⟨[], []⟩) an89
theorem i3 : FnIs (xc 3) sgTab 3 n3 := ⟨⟨Tryd.f3, Tryd.func3, by kernel_rfl, by kernel_rfl, by kernel_rfl, by kernel_rfl⟩, rfl, by kernel_rfl⟩
theorem e3 : @f3 = fun R HT A ls h K => execF A (xc 3) sgTab drN n3 ls h K := by kernel_rfl
theorem i4 : FnIs (xc 4) sgTab 4 n4 := ⟨⟨Tryd.f4, Tryd.func4, by kernel_rfl, by kernel_rfl, by kernel_rfl, by kernel_rfl⟩, rfl, by kernel_rfl⟩
theorem e4 : @f4 = fun R HT A ls h K => execF A (xc 4) sgTab drN n4 ls h K := by kernel_rfl
theorem i5 : FnIs (xc 5) sgTab 5 n5 := ⟨⟨Tryd.f5, Tryd.func5, by kernel_rfl, by kernel_rfl, by kernel_rfl, by kernel_rfl⟩, rfl, by kernel_rfl⟩
theorem e5 : @f5 = fun R HT A ls h K => execF A (xc 5) sgTab drN n5 ls h K := by kernel_rfl
theorem i6 : FnIs (xc 6) sgTab 6 n6 := ⟨⟨Tryd.f6, Tryd.func6, by kernel_rfl, by kernel_rfl, by kernel_rfl, by kernel_rfl⟩, rfl, by kernel_rfl⟩
theorem e6 : @f6 = fun R HT A ls h K => execF A (xc 6) sgTab drN n6 ls h K := by kernel_rfl
theorem i7 : FnIs (xc 7) sgTab 7 n7 := ⟨⟨Tryd.f7, Tryd.func7, by kernel_rfl, by kernel_rfl, by kernel_rfl, by kernel_rfl⟩, rfl, by kernel_rfl⟩
theorem e7 : @f7 = fun R HT A ls h K => execF A (xc 7) sgTab drN n7 ls h K := by kernel_rfl
theorem i8 : FnIs (xc 8) sgTab 8 n8 := ⟨⟨Tryd.f8, Tryd.func8, by kernel_rfl, by kernel_rfl, by kernel_rfl, by kernel_rfl⟩, rfl, by kernel_rfl⟩
theorem e8 : @f8 = fun R HT A ls h K => execF A (xc 8) sgTab drN n8 ls h K := by kernel_rfl
theorem i17 : FnIs (xc 17) sgTab 17 n17 := ⟨⟨Tryd.f17, Tryd.func17, by kernel_rfl, by kernel_rfl, by kernel_rfl, by kernel_rfl⟩, rfl, by kernel_rfl⟩
theorem e17 : @f17 = fun R HT A ls h K => execF A (xc 17) sgTab drN n17 ls h K := by kernel_rfl
theorem i18 : FnIs (xc 18) sgTab 18 n18 := ⟨⟨Tryd.f18, Tryd.func18, by kernel_rfl, by kernel_rfl, by kernel_rfl, by kernel_rfl⟩, rfl, by kernel_rfl⟩
theorem e18 : @f18 = fun R HT A ls h K => execF A (xc 18) sgTab drN n18 ls h K := by kernel_rfl
theorem i19 : FnIs (xc 19) sgTab 19 n19 := ⟨⟨Tryd.f19, Tryd.func19, by kernel_rfl, by kernel_rfl, by kernel_rfl, by kernel_rfl⟩, rfl, by kernel_rfl⟩
theorem e19 : @f19 = fun R HT A ls h K => execF A (xc 19) sgTab drN n19 ls h K := by kernel_rfl
theorem i20 : FnIs (xc 20) sgTab 20 n20 := ⟨⟨Tryd.f20, Tryd.func20, by kernel_rfl, by kernel_rfl, by kernel_rfl, by kernel_rfl⟩, rfl, by kernel_rfl⟩
theorem e20 : @f20 = fun R HT A ls h K => execF A (xc 20) sgTab drN n20 ls h K := by kernel_rfl
theorem i21 : FnIs (xc 21) sgTab 21 n21 := ⟨⟨Tryd.f21, Tryd.func21, by kernel_rfl, by kernel_rfl, by kernel_rfl, by kernel_rfl⟩, rfl, by kernel_rfl⟩
theorem e21 : @f21 = fun R HT A ls h K => execF A (xc 21) sgTab drN n21 ls h K := by kernel_rfl
theorem i22 : FnIs (xc 22) sgTab 22 n22 := ⟨⟨Tryd.f22, Tryd.func22, by kernel_rfl, by kernel_rfl, by kernel_rfl, by kernel_rfl⟩, rfl, by kernel_rfl⟩
theorem e22 : @f22 = fun R HT A ls h K => execF A (xc 22) sgTab drN n22 ls h K := by kernel_rfl
theorem i23 : FnIs (xc 23) sgTab 23 n23 := ⟨⟨Tryd.f23, Tryd.func23, by kernel_rfl, by kernel_rfl, by kernel_rfl, by kernel_rfl⟩, rfl, by kernel_rfl⟩
theorem e23 : @f23 = fun R HT A ls h K => execF A (xc 23) sgTab drN n23 ls h K := by kernel_rfl
theorem i24 : FnIs (xc 24) sgTab 24 n24 := ⟨⟨Tryd.f24, Tryd.func24, by kernel_rfl, by kernel_rfl, by kernel_rfl, by kernel_rfl⟩, rfl, by kernel_rfl⟩
theorem e24 : @f24 = fun R HT A ls h K => execF A (xc 24) sgTab drN n24 ls h K := by kernel_rfl
theorem i25 : FnIs (xc 25) sgTab 25 n25 := ⟨⟨Tryd.f25, Tryd.func25, by kernel_rfl, by kernel_rfl, by kernel_rfl, by kernel_rfl⟩, rfl, by kernel_rfl⟩
theorem e25 : @f25 = fun R HT A ls h K => execF A (xc 25) sgTab drN n25 ls h K := by kernel_rfl
theorem i26 : FnIs (xc 26) sgTab 26 n26 := ⟨⟨Tryd.f26, Tryd.func26, by kernel_rfl, by kernel_rfl, by kernel_rfl, by kernel_rfl⟩, rfl, by kernel_rfl⟩
theorem e26 : @f26 = fun R HT A ls h K => execF A (xc 26) sgTab drN n26 ls h K := by kernel_rfl
theorem i27 : FnIs (xc 27) sgTab 27 n27 := ⟨⟨Tryd.f27, Tryd.func27, by kernel_rfl, by kernel_rfl, by kernel_rfl, by kernel_rfl⟩, rfl, by kernel_rfl⟩
theorem e27 : @f27 = fun R HT A ls h K => execF A (xc 27) sgTab drN n27 ls h K := by kernel_rfl
theorem i28 : FnIs (xc 28) sgTab 28 n28 := ⟨⟨Tryd.f28, Tryd.func28, by kernel_rfl, by kernel_rfl, by kernel_rfl, by kernel_rfl⟩, rfl, by kernel_rfl⟩
theorem e28 : @f28 = fun R HT A ls h K => execF A (xc 28) sgTab drN n28 ls h K := by kernel_rfl
theorem i29 : FnIs (xc 29) sgTab 29 n29 := ⟨⟨Tryd.f29, Tryd.func29, by kernel_rfl, by kernel_rfl, by kernel_rfl, by kernel_rfl⟩, rfl, by kernel_rfl⟩
theorem e29 : @f29 = fun R HT A ls h K => execF A (xc 29) sgTab drN n29 ls h K := by kernel_rfl
theorem i30 : FnIs (xc 30) sgTab 30 n30 := ⟨⟨Tryd.f30, Tryd.func30, by kernel_rfl, by kernel_rfl, by kernel_rfl, by kernel_rfl⟩, rfl, by kernel_rfl⟩
theorem e30 : @f30 = fun R HT A ls h K => execF A (xc 30) sgTab drN n30 ls h K := by kernel_rfl
theorem i31 : FnIs (xc 31) sgTab 31 n31 := ⟨⟨Tryd.f31, Tryd.func31, by kernel_rfl, by kernel_rfl, by kernel_rfl, by kernel_rfl⟩, rfl, by kernel_rfl⟩
theorem e31 : @f31 = fun R HT A ls h K => execF A (xc 31) sgTab drN n31 ls h K := by kernel_rfl
theorem i32 : FnIs (xc 32) sgTab 32 n32 := ⟨⟨Tryd.f32, Tryd.func32, by kernel_rfl, by kernel_rfl, by kernel_rfl, by kernel_rfl⟩, rfl, by kernel_rfl⟩
theorem e32 : @f32 = fun R HT A ls h K => execF A (xc 32) sgTab drN n32 ls h K := by kernel_rfl
theorem i33 : FnIs (xc 33) sgTab 33 n33 := ⟨⟨Tryd.f33, Tryd.func33, by kernel_rfl, by kernel_rfl, by kernel_rfl, by kernel_rfl⟩, rfl, by kernel_rfl⟩
theorem e33 : @f33 = fun R HT A ls h K => execF A (xc 33) sgTab drN n33 ls h K := by kernel_rfl
theorem i34 : FnIs (xc 34) sgTab 34 n34 := ⟨⟨Tryd.f34, Tryd.func34, by kernel_rfl, by kernel_rfl, by kernel_rfl, by kernel_rfl⟩, rfl, by kernel_rfl⟩
theorem e34 : @f34 = fun R HT A ls h K => execF A (xc 34) sgTab drN n34 ls h K := by kernel_rfl
theorem i35 : FnIs (xc 35) sgTab 35 n35 := ⟨⟨Tryd.f35, Tryd.func35, by kernel_rfl, by kernel_rfl, by kernel_rfl, by kernel_rfl⟩, rfl, by kernel_rfl⟩
theorem e35 : @f35 = fun R HT A ls h K => execF A (xc 35) sgTab drN n35 ls h K := by kernel_rfl
theorem i36 : FnIs (xc 36) sgTab 36 n36 := ⟨⟨Tryd.f36, Tryd.func36, by kernel_rfl, by kernel_rfl, by kernel_rfl, by kernel_rfl⟩, rfl, by kernel_rfl⟩
theorem e36 : @f36 = fun R HT A ls h K => execF A (xc 36) sgTab drN n36 ls h K := by kernel_rfl
theorem i37 : FnIs (xc 37) sgTab 37 n37 := ⟨⟨Tryd.f37, Tryd.func37, by kernel_rfl, by kernel_rfl, by kernel_rfl, by kernel_rfl⟩, rfl, by kernel_rfl⟩
theorem e37 : @f37 = fun R HT A ls h K => execF A (xc 37) sgTab drN n37 ls h K := by kernel_rfl
theorem i38 : FnIs (xc 38) sgTab 38 n38 := ⟨⟨Tryd.f38, Tryd.func38, by kernel_rfl, by kernel_rfl, by kernel_rfl, by kernel_rfl⟩, rfl, by kernel_rfl⟩
theorem e38 : @f38 = fun R HT A ls h K => execF A (xc 38) sgTab drN n38 ls h K := by kernel_rfl
theorem i39 : FnIs (xc 39) sgTab 39 n39 := ⟨⟨Tryd.f39, Tryd.func39, by kernel_rfl, by kernel_rfl, by kernel_rfl, by kernel_rfl⟩, rfl, by kernel_rfl⟩
theorem e39 : @f39 = fun R HT A ls h K => execF A (xc 39) sgTab drN n39 ls h K := by kernel_rfl
theorem i40 : FnIs (xc 40) sgTab 40 n40 := ⟨⟨Tryd.f40, Tryd.func40, by kernel_rfl, by kernel_rfl, by kernel_rfl, by kernel_rfl⟩, rfl, by kernel_rfl⟩
theorem e40 : @f40 = fun R HT A ls h K => execF A (xc 40) sgTab drN n40 ls h K := by kernel_rfl
theorem i41 : FnIs (xc 41) sgTab 41 n41 := ⟨⟨Tryd.f41, Tryd.func41, by kernel_rfl, by kernel_rfl, by kernel_rfl, by kernel_rfl⟩, rfl, by kernel_rfl⟩
theorem e41 : @f41 = fun R HT A ls h K => execF A (xc 41) sgTab drN n41 ls h K := by kernel_rfl
theorem i43 : FnIs (xc 43) sgTab 43 n43 := ⟨⟨Tryd.f43, Tryd.func43, by kernel_rfl, by kernel_rfl, by kernel_rfl, by kernel_rfl⟩, rfl, by kernel_rfl⟩
theorem e43 : @f43 = fun R HT A ls h K => execF A (xc 43) sgTab drN n43 ls h K := by kernel_rfl
theorem i45 : FnIs (xc 45) sgTab 45 n45 := ⟨⟨Tryd.f45, Tryd.func45, by kernel_rfl, by kernel_rfl, by kernel_rfl, by kernel_rfl⟩, rfl, by kernel_rfl⟩
theorem e45 : @f45 = fun R HT A ls h K => execF A (xc 45) sgTab drN n45 ls h K := by kernel_rfl
theorem i47 : FnIs (xc 47) sgTab 47 n47 := ⟨⟨Tryd.f47, Tryd.func47, by kernel_rfl, by kernel_rfl, by kernel_rfl, by kernel_rfl⟩, rfl, by kernel_rfl⟩
theorem e47 : @f47 = fun R HT A ls h K => execF A (xc 47) sgTab drN n47 ls h K := by kernel_rfl
theorem i49 : FnIs (xc 49) sgTab 49 n49 := ⟨⟨Tryd.f49, Tryd.func49, by kernel_rfl, by kernel_rfl, by kernel_rfl, by kernel_rfl⟩, rfl, by kernel_rfl⟩
theorem e49 : @f49 = fun R HT A ls h K => execF A (xc 49) sgTab drN n49 ls h K := by kernel_rfl
theorem i67 : FnIs (xc 67) sgTab 67 n67 := ⟨⟨Tryd.f67, Tryd.func67, by kernel_rfl, by kernel_rfl, by kernel_rfl, by kernel_rfl⟩, rfl, by kernel_rfl⟩
theorem e67 : @f67 = fun R HT A ls h K => execF A (xc 67) sgTab drN n67 ls h K := by kernel_rfl
theorem i68 : FnIs (xc 68) sgTab 68 n68 := ⟨⟨Tryd.f68, Tryd.func68, by kernel_rfl, by kernel_rfl, by kernel_rfl, by kernel_rfl⟩, rfl, by kernel_rfl⟩
theorem e68 : @f68 = fun R HT A ls h K => execF A (xc 68) sgTab drN n68 ls h K := by kernel_rfl
theorem i69 : FnIs (xc 69) sgTab 69 n69 := ⟨⟨Tryd.f69, Tryd.func69, by kernel_rfl, by kernel_rfl, by kernel_rfl, by kernel_rfl⟩, rfl, by kernel_rfl⟩
theorem e69 : @f69 = fun R HT A ls h K => execF A (xc 69) sgTab drN n69 ls h K := by kernel_rfl
theorem i70 : FnIs (xc 70) sgTab 70 n70 := ⟨⟨Tryd.f70, Tryd.func70, by kernel_rfl, by kernel_rfl, by kernel_rfl, by kernel_rfl⟩, rfl, by kernel_rfl⟩
theorem e70 : @f70 = fun R HT A ls h K => execF A (xc 70) sgTab drN n70 ls h K := by kernel_rfl
theorem i71 : FnIs (xc 71) sgTab 71 n71 := ⟨⟨Tryd.f71, Tryd.func71, by kernel_rfl, by kernel_rfl, by kernel_rfl, by kernel_rfl⟩, rfl, by kernel_rfl⟩
theorem e71 : @f71 = fun R HT A ls h K => execF A (xc 71) sgTab drN n71 ls h K := by kernel_rfl
theorem i72 : FnIs (xc 72) sgTab 72 n72 := ⟨⟨Tryd.f72, Tryd.func72, by kernel_rfl, by kernel_rfl, by kernel_rfl, by kernel_rfl⟩, rfl, by kernel_rfl⟩
theorem e72 : @f72 = fun R HT A ls h K => execF A (xc 72) sgTab drN n72 ls h K := by kernel_rfl
theorem i73 : FnIs (xc 73) sgTab 73 n73 := ⟨⟨Tryd.f73, Tryd.func73, by kernel_rfl, by kernel_rfl, by kernel_rfl, by kernel_rfl⟩, rfl, by kernel_rfl⟩
theorem e73 : @f73 = fun R HT A ls h K => execF A (xc 73) sgTab drN n73 ls h K := by kernel_rfl
theorem i74 : FnIs (xc 74) sgTab 74 n74 := ⟨⟨Tryd.f74, Tryd.func74, by kernel_rfl, by kernel_rfl, by kernel_rfl, by kernel_rfl⟩, rfl, by kernel_rfl⟩
theorem e74 : @f74 = fun R HT A ls h K => execF A (xc 74) sgTab drN n74 ls h K := by kernel_rfl
theorem i76 : FnIs (xc 76) sgTab 76 n76 := ⟨⟨Tryd.f76, Tryd.func76, by kernel_rfl, by kernel_rfl, by kernel_rfl, by kernel_rfl⟩, rfl, by kernel_rfl⟩
theorem e76 : @f76 = fun R HT A ls h K => execF A (xc 76) sgTab drN n76 ls h K := by kernel_rfl
theorem i77 : FnIs (xc 77) sgTab 77 n77 := ⟨⟨Tryd.f77, Tryd.func77, by kernel_rfl, by kernel_rfl, by kernel_rfl, by kernel_rfl⟩, rfl, by kernel_rfl⟩
theorem e77 : @f77 = fun R HT A ls h K => execF A (xc 77) sgTab drN n77 ls h K := by kernel_rfl
theorem i89 : FnIs (xc 89) sgTab 89 n89 := ⟨⟨Tryd.f89, Tryd.func89, by kernel_rfl, by kernel_rfl, by kernel_rfl, by kernel_rfl⟩, rfl, by kernel_rfl⟩
theorem e89 : @f89 = fun R HT A ls h K => execF A (xc 89) sgTab drN n89 ls h K := by kernel_rfl

end Go.Am

/-
  WHAT THE PACKAGE-LEVEL VARIABLES HOLD, read off the row's list; a call as the row sees it.
-/
namespace Go.Am
namespace Sx

/-- The cells of a datum of numbers, truth values, structs and arrays. -/
noncomputable def unL (P : Program) (un : TypeId → DataW Unit → Option (List Value)) : List (Nat × TypeId) → List (DataW Unit) → Nat → Option (List Value)
  | [], [], _ => some []
  | (o, t) :: l, d :: ds, off => match Nat.beq o off, un t d with
    | true, some v => match Nat.beq v.length (P.cellsOf t), unL P un l ds (off + v.length) with
      | true, some vs => some (v ++ vs)
      | _, _ => none
    | _, _ => none
  | _, _, _ => none
noncomputable def unD (P : Program) : Nat → TypeId → DataW Unit → Option (List Value)
  | 0, _, _ => none
  | fu + 1, t, d => match P.underlying t, d with
    | some .bool, .lit (.bool b) => some [.bool b]
    | some (.int k), .lit (.int _ n) => some [.int k n]
    | some (.struct fs), .agg ds => match unL P (unD P fu) (fs.toList.map fun f => (f.offset, f.type)) ds 0 with
      | some vs => if vs.length = P.cellsOf t then some vs else none
      | none => none
    | some (.array n e), .agg ds => match unL P (unD P fu) ((List.range n).map fun i => (i * P.cellsOf e, e)) ds 0 with
      | some vs => if vs.length = P.cellsOf t then some vs else none
      | none => none
    | _, _ => none

section
variable {P : Program} {w : World} {base : Nat} {spare : Nat → Bool} {held : Bool} {enc : TypeId × Value → Unit}

theorem seg_ok {un : TypeId → DataW Unit → Option (List Value)} {fuel : Nat} (hun : ∀ t d vs, un t d = some vs → ∀ cs p, DataW.trod enc P w base spare held fuel t cs = some (d, p) → cs = vs) {α : Type} (o : α → Nat) (ty : α → TypeId) (cs : List Value) :
    ∀ (l : List α) (xs : List (DataW Unit × List MemPlace)) (off : Nat) (vs : List Value), l.mapM (fun a => DataW.trod enc P w base spare held fuel (ty a) ((cs.drop (o a)).take (P.cellsOf (ty a)))) = some xs →
      unL P un (l.map fun a => (o a, ty a)) (xs.map (·.1)) off = some vs → (cs.drop off).take vs.length = vs
  | [], xs, off, vs, h1, h2 => by
    simp only [List.mapM_nil, Option.pure_def, Option.some.injEq] at h1
    subst h1
    simp only [List.map_nil, unL, Option.some.injEq] at h2
    subst h2
    simp
  | a :: l, xs, off, vs, h1, h2 => by
    rw [List.mapM_cons] at h1
    obtain ⟨x, h3, h1⟩ := Option.bind_eq_some_iff.1 h1
    obtain ⟨ys, h4, h1⟩ := Option.bind_eq_some_iff.1 h1
    cases h1
    simp only [List.map_cons, unL] at h2
    split at h2
    · rename_i v e1 e2
      split at h2
      · rename_i ws e3 e4
        cases h2
        have e1 := Nat.eq_of_beq_eq_true e1
        have e3 := Nat.eq_of_beq_eq_true e3
        have hv := hun _ _ _ e2 _ _ h3
        have ih := seg_ok hun o ty cs l ys _ _ h4 e4
        rw [e1, ← e3] at hv
        rw [List.length_append, List.take_add, hv, List.drop_drop]
        rw [ih]
      · cases h2
    · cases h2

theorem unD_ok : ∀ (fu : Nat) (t : TypeId) (d : DataW Unit) (vs : List Value), unD P fu t d = some vs → ∀ (fuel : Nat) (cs : List Value) (p : List MemPlace), DataW.trod enc P w base spare held fuel t cs = some (d, p) → cs = vs
  | 0, _, _, _, h => by cases h
  | fu + 1, t, d, vs, h => by
    intro fuel cs p hp
    cases fuel with
    | zero => simp [DataW.trod] at hp
    | succ fuel =>
      have hun : ∀ t d vs, unD P fu t d = some vs → ∀ cs p, DataW.trod enc P w base spare held fuel t cs = some (d, p) → cs = vs := fun t d vs h cs p => unD_ok fu t d vs h fuel cs p
      simp only [unD] at h
      split at h
      · rename_i b e
        cases h
        simp only [DataW.trod, e] at hp
        split at hp <;> simp_all
      · rename_i k k' n e
        cases h
        simp only [DataW.trod, e] at hp
        split at hp <;> first | cases hp | skip
        all_goals first
          | (split at hp
             · rename_i hh; simp at hp; obtain ⟨⟨rfl, rfl⟩, _⟩ := hp; rw [hh.1]
             · cases hp)
          | simp_all
      · rename_i fs ds e
        split at h
        · rename_i ws e2
          split at h
          · rename_i e3
            cases h
            simp only [DataW.trod, e] at hp
            split at hp
            · rename_i e4
              obtain ⟨xs, h5, h6⟩ := Option.map_eq_some_iff.1 hp
              simp only [Prod.mk.injEq, DataW.agg.injEq] at h6
              rw [← h6.1] at e2
              have := seg_ok hun (fun f : Field => f.offset) (fun f : Field => f.type) cs _ xs 0 _ h5 e2
              rw [List.drop_zero, List.take_of_length_le (by omega)] at this
              exact this
            · cases hp
          · cases h
        · cases h
      · rename_i n el ds e
        split at h
        · rename_i ws e2
          split at h
          · rename_i e3
            cases h
            simp only [DataW.trod, e] at hp
            split at hp
            · rename_i e4
              obtain ⟨xs, h5, h6⟩ := Option.map_eq_some_iff.1 hp
              simp only [Prod.mk.injEq, DataW.agg.injEq] at h6
              rw [← h6.1] at e2
              have := seg_ok hun (fun i => i * P.cellsOf el) (fun _ => el) cs _ xs 0 _ h5 e2
              rw [List.drop_zero, List.take_of_length_le (by omega)] at this
              exact this
            · cases hp
          · cases h
        · cases h
      · cases h

end

section
variable [Val]

/-- A call, as the row sees it. -/
theorem calls_of_ok {C : Cfg} {f : FuncId} {args : List Value} {r : Value} {H' : List HObj} (h : CallOk C f args [] r H') {args' : Array Value} {W : World} (ha : args.all flat = true) (hargs : args'.toList = args) (hr : flat r = true)
    (hG : ∀ g vs, C.G g = some vs → g < W.heap.size ∧ vs.all cellOk = true ∧ vs.all flat = true ∧ ∃ c e fr, W.heap[g]? = some (.cells c e fr) ∧ c.toList = vs) :
    Calls C.P f args' W fun e W' => e = .returned r ∧ W'.os = W.os ∧ W'.output = W.output ∧ W'.tape = W.tape ∧ ∀ b, b < W.heap.size → W'.heap[b]? = W.heap[b]? := by
  have hW0 : WR C W.heap.size (fun _ => none) [] W := by
    refine ⟨fun id o h => by simp at h, fun i j oi oj pi pj h => by simp at h, fun i o p h => by simp at h, fun i o p h => by simp at h, fun _ _ => rfl, fun g vs hg => ?_⟩
    obtain ⟨h1, h2, h3, c, e, fr, h4, h5⟩ := hG g vs hg
    refine ⟨h1, h2, c, e, fr, h4, ?_⟩
    rw [h5]
    exact ⟨rfl, fun i x y hx hy => by rw [hx] at hy; cases hy; exact .of_flat (List.all_eq_true.1 h3 x (List.mem_of_getElem? hx))⟩
  have hV : VRs noL (fun _ => none) args args'.toList := by
    rw [hargs]
    exact ⟨rfl, fun i x y hx hy => by rw [hx] at hy; cases hy; exact .of_flat (List.all_eq_true.1 ha x (List.mem_of_getElem? hx))⟩
  obtain ⟨v, mu', w', a1, a2, a3, _, a5⟩ := h W.heap.size (fun _ => none) W args' (Nat.le_refl _) hV hW0
  rw [flat_eq hr a1] at a5
  intro cs
  obtain ⟨fr, b1, b2, b3⟩ := a5 cs
  exact ⟨.returned r, w', fr, ⟨rfl, a3.os, a3.output, a3.tape, fun b hb => a3.keep b hb no_own⟩, b1, b2, b3⟩

end
end Sx
end Go.Am

/-
  FROM A CALL TO THE ROW: arguments without addresses.
-/
namespace Go.Am
namespace Sx
open Go.ChangeShapes Go.WideShapes Go.ChangeAt Go.WideMaps Go.WideElems Go.RowKit

theorem kept_of {W W' : World} (h1 : W'.os = W.os) (h2 : W'.output = W.output) (h3 : ∀ b, b < W.heap.size → W'.heap[b]? = W.heap[b]?) (may : MemPlace → Prop) : W.keptBut W' may := by
  refine ⟨h1, h2, fun i hi => ?_⟩
  rw [h3 i hi]
  exact (World.keptBut_refl W may).2.2 i hi

theorem post_flat {H : Type} {enc : TypeId × Value → H} {P : Program} {f : Func} {s : ChangeSpec} {apart fresh handsOn again : Bool} {W W' : World} {args : Array Value} {v : Value} {ds gs : List (DataW H)}
    (hW : DataW.Whole enc P f.params.toList s.vars apart W args.toList ds gs [])
    (hres : ∀ (b : Nat) (sp : Nat → Bool) (hd : Bool), DataW.TrodAll enc P W' b sp hd f.resultTypes.toList (v.resultList f.resultTypes.size) (s.fn H (ds ++ gs)).results [])
    (hargs : ∀ sp : Nat → Bool, DataW.TrodAll enc P W' 0 sp true f.params.toList args.toList (s.fn H (ds ++ gs)).args [])
    (hvars : ∀ sp : Nat → Bool, DataW.TrodVars enc P W' sp s.vars (s.fn H (ds ++ gs)).vars [])
    (h1 : W'.os = W.os) (h2 : W'.output = W.output) (h3 : ∀ b, b < W.heap.size → W'.heap[b]? = W.heap[b]?)
    (hok : ∀ (j : Nat) (t : TypeId) (r : Value), f.resultTypes[j]? = some t → (v.resultList f.resultTypes.size)[j]? = some r → Value.okWide P W' .any 0 t r) :
    s.post enc P f apart fresh handsOn again W args v W' := by
  refine ⟨ds, gs, [], [], [], [], hW, hres _ _ _, hargs _, hvars _, kept_of h1 h2 h3 _, fun _ => ?_⟩
  refine ⟨hok, _, _, [], ⟨[], [], trodAll_append (hargs _) (hres _ _ _), hvars _, rfl, ?_, ?_⟩, ?_⟩
  · intro b off hp; cases hp
  · intro _; exact List.nodup_nil
  · intro p hp; cases hp

/-- A variable that is listed. -/
theorem laid_cells {P : Program} {w : World} {laid : List (String × DataW Unit)} {ps : List MemPlace} (h : DataW.LaidVars P w laid ps) : ∀ n d, (n, d) ∈ laid → ∀ g t fu vs, P.globalNamed n = some g → (P.globals[g]?).map (·.type) = some t → unD P fu t d = some vs →
    ∃ c e fr, w.heap[g]? = some (.cells c e fr) ∧ c.toList = vs := by
  induction laid generalizing ps with
  | nil => intro n d h; cases h
  | cons x l ih =>
    obtain ⟨n0, d0⟩ := x
    obtain ⟨g0, t0, cs, fuel, p, q, a1, a2, a3, a4, a5, a6⟩ := h
    intro n d hm g t fu vs b1 b2 b3
    rcases List.mem_cons.1 hm with e | hm
    · cases e
      rw [a1] at b1; cases b1
      rw [a2] at b2; cases b2
      have hc := unD_ok fu _ _ vs b3 _ _ _ a4
      unfold World.var? at a3
      rw [a1] at a3
      simp only [Option.bind_some] at a3
      split at a3
      · rename_i c ty fr e
        cases a3
        exact ⟨_, _, _, e, hc⟩
      · cases a3
    · exact ih a5 n d hm g t fu vs b1 b2 b3

section
variable [Val] [Kno]
theorem ans_yes {t : Bool} (h : ans t = yes) : t = true := by cases t; cases h; rfl
/-- A closed function that says true. -/
theorem closed_true {C : Cfg} {Sg : FuncId → Option Sig} {T : Nat → Site} {call : CallB} (hc : CallBOk C Sg T call) {g : FuncId} (hs : Sg g = some ⟨[], [.leaf .b]⟩) (h : call (.f g) [] .empty (fun l _ => match l with | [.b t] => ans t | _ => none) = yes) :
    ∃ H', uCall C g [] [] (.bool true) H' := by
  obtain ⟨rs, h', ⟨sg, xs, ys, c1, c2, c3, c4⟩, hk⟩ := hc.f g [] .empty _ _ (fun _ h => by cases h) h
  rw [hs] at c1
  cases c1
  have hx : xs = [] := by
    have := c2.1
    cases xs with
    | nil => rfl
    | cons x l => cases this
  subst hx
  obtain ⟨d1, d2, _⟩ := c3
  obtain ⟨y, rfl⟩ : ∃ y, ys = [y] := List.length_eq_one_iff.1 (areIs_length d1)
  · simp only [areIs, Bool.and_true] at d1
    cases y with
    | agg _ => cases d1
    | leaf l =>
      cases l with
      | b t =>
        simp only [lfsOf, S0.cells, List.map_cons, SL.lf, List.map_nil, List.append_nil] at d2
        subst d2
        have hk : t = true := ans_yes hk
        subst hk
        exact ⟨_, c4⟩
      | l t =>
        simp only [lfsOf, S0.cells, List.map_cons, SL.lf, List.map_nil, List.append_nil] at d2
        subst d2
        have hk : t = true := ans_yes hk
        subst hk
        exact ⟨_, c4⟩
      | i _ _ => cases d1
      | v _ => cases d1
end
end Sx
end Go.Am

/-
  THE ALGEBRA OF PROPOSITIONS: what must hold, that code does as it is told to do.
-/
namespace Go.Am
namespace Sx

section
variable [Val] [Kno]

abbrev HO' := List HObj
def condP (b : Bool) (x y : Prop) : Prop := (b = true → x) ∧ (b = false → y)
def ariP (op : BinOp) (k : IntKind) (a b : Int) (K : Int → Prop) : Prop :=
  match op with
  | .add => K (k.wrap (a + b))
  | .sub => K (k.wrap (a - b))
  | .mul => K (k.wrap (a * b))
  | .quo => b ≠ 0 ∧ K (k.wrap (a.tdiv b))
  | .rem => b ≠ 0 ∧ K (a.tmod b)
  | .and => (b = 1 ∧ K (a % 2)) ∨ (b ≠ 1 ∧ ∃ n, ArRun .and k a b n ∧ K n)
  | op => ∃ n, ArRun op k a b n ∧ K n
def cmpP (op : BinOp) (a b : Int) (K : Bool → Prop) : Prop :=
  match op with
  | .eql => K (a == b)
  | .neq => K (a != b)
  | .lss => K (decide (a < b))
  | .leq => K (decide (a ≤ b))
  | .gtr => K (decide (a > b))
  | .geq => K (decide (a ≥ b))
  | _ => False
def optP {α : Type} (o : Option α) (K : α → Prop) : Prop := ∃ x, o = some x ∧ K x
def unIP (ls : List Lf) (K : Int → List Lf → Prop) : Prop := match ls with | .i n :: r => K n r | _ => False
def unBP (ls : List Lf) (K : Bool → List Lf → Prop) : Prop := match ls with | .b n :: r => K n r | _ => False
def unVP (ls : List Lf) (K : Value → List Lf → Prop) : Prop := match ls with | .v n :: r => K n r | _ => False
def un0P (ls : List Lf) (K : Prop) : Prop := match ls with | [] => K | _ => False
def ucIP (k : IntKind) (ls : List Value) (K : Int → List Value → Prop) : Prop := match ls with | .int k' n :: r => k = k' ∧ K n r | _ => False
def ucBP (ls : List Value) (K : Bool → List Value → Prop) : Prop := match ls with | .bool n :: r => K n r | _ => False
def ucVP (ls : List Value) (K : Value → List Value → Prop) : Prop := match ls with | n :: r => K n r | _ => False
def uc0P (ls : List Value) (K : Prop) : Prop := match ls with | [] => K | _ => False
noncomputable def getL (h : List HObj) : Getter := fun i => h[i]?
def peekP (f : Pk) (h : List HObj) (K : List Value → Prop) : Prop := ∃ cs, f.run (getL h) = some cs ∧ K cs
def heapP (f : Hp) (h : List HObj) (K : List Value → List HObj → Prop) : Prop := ∃ acts cs, f.run (getL h) h.length = some (acts, cs) ∧ K cs (actsOn h acts)
def callP (C : Cfg) (Sg : FuncId → Option Sig) (g : FuncId) (ls : List Lf) (h : List HObj) (K : List Lf → List HObj → Prop) : Prop := ∃ rs h', CallL C Sg g ls h rs h' ∧ K rs h'
def callvP (C : Cfg) (v : Value) (args : List Value) (hs : List SK) (h : List HObj) (K : List Lf → List HObj → Prop) : Prop := ∃ rs h', CallV C v args hs h rs h' ∧ K rs h'
noncomputable def itP (F : (List Lf → List HObj → Prop) → List Lf → List HObj → Prop) (n : Nat) : List Lf → List HObj → Prop :=
  match n with
  | 0 => fun _ _ => False
  | n + 1 => F (itP F n)
def loopP (F : (List Lf → List HObj → Prop) → List Lf → List HObj → Prop) (ls : List Lf) (h : List HObj) : Prop := ∃ n, itP F n ls h
def rfunP (C : Cfg) (T : Nat → Site) (κ : Nat) (v : Value) (vals : List Value) (h : List HObj) (K : Option Code → List HObj → Prop) : Prop :=
  ∃ g first cap r H1 lp, v = .func (.func g) first cap ∧
    uCall C g (first.toList ++ [.func (.yield h.length) #[] #[]] ++ cap.toList) (h ++ [.loop (lpOf (T κ) κ vals)]) r H1 ∧
    hloop H1 h.length = some lp ∧ lp.state ≠ .busy ∧ K lp.pending (H1.set h.length (.loop { lp with state := .exhausted }))
def pendP (pd : Option Code) (kn kr : Prop) (ks : List (Nat × Prop)) : Prop :=
  match pd with
  | none => kn
  | some .ret => kr
  | some (.exit id) => ∃ x, (id, x) ∈ ks ∧ x
  | _ => False
def lp1P (l : Nat) (h : List HObj) (K : List HObj → Prop) : Prop := ∃ lp, hloop h l = some lp ∧ lp.state = .ready ∧ K (h.set l (.loop { lp with state := .busy }))
def lp2P (l : Nat) (j : Option Code) (h : List HObj) (K : List HObj → Prop) : Prop := ∃ lp, hloop h l = some lp ∧ K (h.set l (.loop { lp with state := if j.isNone then .ready else .done, pending := j }))

noncomputable def PA (C : Cfg) (Sg : FuncId → Option Sig) (T : Nat → Site) : Alg Prop (List HObj) where
  fail := False
  cond := condP
  ari := ariP
  shf := fun op k a k' b K => ∃ n, ShRun op k a k' b n ∧ K n
  cmp := cmpP
  eqs := fun l K => K (eqAll l)
  conv := fun k a K => K (k.wrap a)
  sel := fun t a b K => K (if t then a else b)
  opt := optP
  chk := fun v K => goodV v = true ∧ K
  unI := unIP
  unB := unBP
  unV := unVP
  un0 := un0P
  ucI := ucIP
  ucB := ucBP
  ucV := ucVP
  uc0 := uc0P
  peek := peekP
  heap := heapP
  new := fun o h K => K h.length (h ++ [o])
  call := callP C Sg
  callv := callvP C
  join := fun b m => m b
  loop := loopP
  rfun := rfunP C T
  pend := pendP
  lp1 := lp1P
  lp2 := lp2P

theorem PA_ok (C : Cfg) (Sg : FuncId → Option Sig) (T : Nat → Site) : AlgOk (PA C Sg T) C Sg T id id where
  fail := fun h => h
  cond := by
    intro b x y h
    cases b
    · exact .inr ⟨rfl, h.2 rfl⟩
    · exact .inl ⟨rfl, h.1 rfl⟩
  ari := by
    intro op k a b K h
    have h : ariP op k a b K := h
    cases op <;> simp only [ariP] at h
    · exact ⟨_, fun P t w => by simp [binOp, Op.intArith], h⟩
    · exact ⟨_, fun P t w => by simp [binOp, Op.intArith], h⟩
    · exact ⟨_, fun P t w => by simp [binOp, Op.intArith], h⟩
    · obtain ⟨hb, h⟩ := h
      exact ⟨_, fun P t w => by simp [binOp, Op.intDiv, hb], h⟩
    · obtain ⟨hb, h⟩ := h
      exact ⟨_, fun P t w => by simp [binOp, Op.intDiv, hb], h⟩
    · rcases h with ⟨rfl, h'⟩ | ⟨_, n, h1, h2⟩
      · exact ⟨_, run_and_one rfl, h'⟩
      · exact ⟨n, h1, h2⟩
    all_goals exact h
  shf := fun op k a k' b K h => h
  cmp := by
    intro op a b K h
    have h : cmpP op a b K := h
    cases op <;> simp only [cmpP] at h <;> exact ⟨_, rfl, h⟩
  eqs := fun l K h => h
  conv := fun k a K h => h
  sel := fun t a b K h => h
  opt := fun o K h => h
  chk := fun v K h => h
  unI := by
    intro ls K h
    match ls, h with
    | .i n :: r, h => exact ⟨n, r, rfl, h⟩
  unB := by
    intro ls K h
    match ls, h with
    | .b n :: r, h => exact ⟨n, r, rfl, h⟩
  unV := by
    intro ls K h
    match ls, h with
    | .v n :: r, h => exact ⟨n, r, rfl, h⟩
  un0 := by
    intro ls K h
    match ls, h with
    | [], h => exact ⟨rfl, h⟩
  ucI := by
    intro k ls K h
    match ls, h with
    | .int k' n :: r, h =>
      obtain ⟨rfl, h⟩ : k = k' ∧ K n r := h
      exact ⟨n, r, rfl, h⟩
  ucB := by
    intro ls K h
    match ls, h with
    | .bool n :: r, h => exact ⟨n, r, rfl, h⟩
  ucV := by
    intro ls K h
    match ls, h with
    | n :: r, h => exact ⟨n, r, rfl, h⟩
  uc0 := by
    intro ls K h
    match ls, h with
    | [], h => exact ⟨rfl, h⟩
  peek := fun f h K hk => hk
  heap := by
    intro f h K hk
    obtain ⟨acts, cs, h1, h2⟩ := hk
    exact ⟨acts, cs, _, h1, rfl, h2⟩
  new := fun o h K hk => ⟨_, rfl, hk⟩
  call := fun g ls h K hk => hk
  callv := fun v args hs h K hk => hk
  join := fun b m h => h
  loop := by
    intro F ls h hk
    obtain ⟨n, hk⟩ := hk
    exact ⟨itP F, fun ls h => (id : False → False), fun n ls h => rfl, n, hk⟩
  rfun := by
    intro κ v vals h K hk
    obtain ⟨g, first, cap, r, H1, lp, h1, h2, h3, h4, h5⟩ := hk
    exact ⟨g, first, cap, r, H1, lp, _, h1, h2, h3, h4, rfl, h5⟩
  pend := by
    intro pd kn kr ks h
    have h : pendP pd kn kr ks := h
    unfold pendP at h
    split at h
    · exact .inl ⟨rfl, h⟩
    · exact .inr (.inl ⟨rfl, h⟩)
    · obtain ⟨x, h1, h2⟩ := h
      exact .inr (.inr ⟨_, x, rfl, h1, h2⟩)
    · exact h.elim
  lp1 := by
    intro l h K hk
    obtain ⟨lp, h1, h2, h3⟩ := hk
    exact ⟨lp, _, h1, h2, rfl, h3⟩
  lp2 := by
    intro l j h K hk
    obtain ⟨lp, h1, h2⟩ := hk
    exact ⟨lp, _, h1, rfl, h2⟩

/-! ### Calls that leave nothing behind -/


theorem SL.plain_scalar {l : SL} {k : LK} (h : l.is k = true) (hk : k.plain = true) : scalar l.val = true := by
  cases l <;> cases k <;> first | (cases hk; done) | (cases h; done) | rfl
theorem allIs_scalar : ∀ {cs : List SL} {ks : List LK}, allIs cs ks = true → ks.all LK.plain = true → (cs.map SL.val).all scalar = true
  | [], [], _, _ => rfl
  | c :: cs, k :: ks, h, hk => by
    simp only [allIs, Bool.and_eq_true] at h
    simp only [List.all_cons, Bool.and_eq_true] at hk
    simp only [List.map_cons, List.all_cons, Bool.and_eq_true]
    exact ⟨SL.plain_scalar h.1 hk.1, allIs_scalar h.2 hk.2⟩
  | [], _ :: _, h, _ => by cases h
  | _ :: _, [], h, _ => by cases h
theorem S0.plain_flat1 {x : S0} {k : SK} (h : x.is k = true) (hk : k.plain = true) : flat1 x.val = true := by
  cases x with
  | leaf l =>
    cases k with
    | leaf k =>
      have := SL.plain_scalar h hk
      show flat1 l.val = true
      cases hv : l.val <;> rw [hv] at this <;> first | exact this | cases this
    | agg _ => cases h
  | agg cs =>
    cases k with
    | leaf k => cases h
    | agg ks => exact allIs_scalar h hk
theorem flat_of_flat1 {v : Value} (h : flat1 v = true) : flat v = true := by
  cases v <;> first | exact h | cases h
theorem areIs_flat1 : ∀ {xs : List S0} {sks : List SK}, areIs xs sks = true → sks.all SK.plain = true → (valsOf xs).all flat1 = true
  | [], [], _, _ => rfl
  | x :: xs, k :: ks, h, hk => by
    simp only [areIs, Bool.and_eq_true] at h
    simp only [List.all_cons, Bool.and_eq_true] at hk
    simp only [valsOf, List.map_cons, List.all_cons, Bool.and_eq_true]
    exact ⟨S0.plain_flat1 h.1 hk.1, areIs_flat1 h.2 hk.2⟩
  | [], _ :: _, h, _ => by cases h
  | _ :: _, [], h, _ => by cases h
theorem areIs_flat {xs : List S0} {sks : List SK} (h : areIs xs sks = true) (hk : sks.all SK.plain = true) : (valsOf xs).all flat = true := by
  have := areIs_flat1 h hk
  rw [List.all_eq_true] at this ⊢
  exact fun v hv => flat_of_flat1 (this v hv)
theorem packA_flat {vs : List Value} (h : vs.all flat1 = true) : flat (packA vs) = true := by
  match vs, h with
  | [], _ => rfl
  | [v], h =>
    simp only [List.all_cons, List.all_nil, Bool.and_true] at h
    exact flat_of_flat1 h
  | a :: b :: l, h =>
    show flat (.tuple (a :: b :: l).toArray) = true
    simp only [flat, Bool.and_eq_true]
    exact ⟨by simp, h⟩

end

/-- What is known: whatever has been shown of calls that leave nothing behind. -/
@[reducible] def KnoC (C : Cfg) (N : FuncId → Option Nat) [Val] : Kno := ⟨fun f args r => ∀ H, CallOk C f args H r H, fun f args H r H' => N f = none ∧ CallOk C f args H r H'⟩

section
variable [Val]
/-- THE CONTRACT: the function answers so, and leaves nothing behind. -/
def Ct (C : Cfg) (N : FuncId → Option Nat) (Sg : FuncId → Option Sig) (g : FuncId) (ls rs : List Lf) : Prop := let _ : Kno := KnoC C N; ∀ H, CallL C Sg g ls H rs H

theorem uCallC_ok {C : Cfg} {N : FuncId → Option Nat} (hm : C.P.follows .mixedOrders = true) {f : FuncId} {args : List Value} {H : List HObj} {r : Value} {H' : List HObj} (h : let _ : Kno := KnoC C N; uCall C f args H r H') : CallOk C f args H r H' :=
  @uCall_ok _ _ (KnoC C N) hm (fun _ _ _ h => h) (fun _ _ _ _ _ h => h.2) _ _ _ _ _ h

theorem ct_of {C : Cfg} {N : FuncId → Option Nat} {Sg : FuncId → Option Sig} (hm : C.P.follows .mixedOrders = true) (hG : ∀ g vs, C.G g = some vs → vs.all flat = true) {g : FuncId} {sg : Sig} (hs : Sg g = some sg) (hp : sg.plain = true) {ls rs : List Lf} {H' : List HObj}
    (h : let _ : Kno := KnoC C N; CallL C Sg g ls [] rs H') : Ct C N Sg g ls rs := by
  let _ : Kno := KnoC C N
  obtain ⟨sg', xs, ys, c1, c2, c3, c4⟩ := h
  rw [hs] at c1
  cases c1
  simp only [Sig.plain, Bool.and_eq_true] at hp
  have ha := areIs_flat c2.1 hp.1
  have hr := packA_flat (areIs_flat1 c3.1 hp.2)
  intro H
  exact ⟨sg, xs, ys, hs, c2, c3, ⟨0, .inl ⟨fun H => frame_ok hG (uCallC_ok hm c4) ha hr H, rfl⟩⟩⟩

theorem call_ct {C : Cfg} {N : FuncId → Option Nat} {Sg : FuncId → Option Sig} {g : FuncId} {ls rs : List Lf} {h : List HObj} {K : List Lf → List HObj → Prop} (hc : Ct C N Sg g ls rs) (hk : K rs h) : let _ : Kno := KnoC C N; callP C Sg g ls h K :=
  ⟨rs, h, hc h, hk⟩
end

section
variable [Val] [Kno]
theorem it_rule {F : (List Lf → List HObj → Prop) → List Lf → List HObj → Prop} (Inv : Nat → List Lf → List HObj → Prop)
    (step : ∀ m ls h, Inv m ls h → ∀ self : List Lf → List HObj → Prop, (∀ m' ls h, m' < m → Inv m' ls h → self ls h) → F self ls h) : ∀ n m ls h, m < n → Inv m ls h → itP F n ls h
  | 0, _, _, _, hm, _ => absurd hm (Nat.not_lt_zero _)
  | n + 1, m, ls, h, hm, hi => step m ls h hi (itP F n) fun m' ls h h' hi' => it_rule Inv step n m' ls h (by omega) hi'
/-- A loop: a measure and what holds. -/
theorem loop_rule {F : (List Lf → List HObj → Prop) → List Lf → List HObj → Prop} (Inv : Nat → List Lf → List HObj → Prop) {m : Nat} {ls : List Lf} {h : List HObj} (hi : Inv m ls h)
    (step : ∀ m ls h, Inv m ls h → ∀ self : List Lf → List HObj → Prop, (∀ m' ls h, m' < m → Inv m' ls h → self ls h) → F self ls h) : loopP F ls h :=
  ⟨m + 1, it_rule Inv step (m + 1) m ls h (Nat.lt_succ_self m) hi⟩

/-- Numbers that fit are as they are. -/
theorem wrap_i64 {n : Int} (h1 : -9223372036854775808 ≤ n) (h2 : n ≤ 9223372036854775807) : IntKind.wrap .i64 n = n := by
  simp only [IntKind.wrap, IntKind.bits, IntKind.signed, Bool.true_and, ge_iff_le, decide_eq_true_eq]
  split <;> omega
theorem wrap_u8 {n : Int} (h1 : 0 ≤ n) (h2 : n ≤ 255) : IntKind.wrap .u8 n = n := by
  simp only [IntKind.wrap, IntKind.bits, IntKind.signed, Bool.false_and, Bool.false_eq_true, if_false]
  omega
end
end Sx
end Go.Am

/-
  CALLS THAT ONLY READ: slices under other names of their blocks; what a run over these blocks alone answers.
-/
namespace Go.Am
namespace Sx

section
variable [Val]

/-- A value with its block under another name. -/
noncomputable def renV (σ : Nat → Nat) (v : Value) : Value := match v with
  | .slice (some a) len cx => .slice (some ⟨σ a.block, a.off, a.spot⟩) len cx
  | v => v
noncomputable def renSL (σ : Nat → Nat) : SL → SL
  | .v x => .v (renV σ x)
  | s => s
noncomputable def renS (σ : Nat → Nat) : S0 → S0
  | .leaf l => .leaf (renSL σ l)
  | .agg cs => .agg (cs.map (renSL σ))
noncomputable def renL (σ : Nat → Nat) : Lf → Lf
  | .v x => .v (renV σ x)
  | l => l
def OkV (n : Nat) (v : Value) : Prop := (flat v = true ∧ ∀ σ, renV σ v = v) ∨ ∃ j off len cx e, j < n ∧ v = .slice (some ⟨j, off, tag e⟩) len cx
def OkL (n : Nat) : Lf → Prop
  | .v x => OkV n x
  | _ => True

theorem vr_ren {n : Nat} {σ : Nat → Nat} {mu mu0 : HMap} (hmu : ∀ j, j < n → mu0 j = mu (σ j)) {v c : Value} (hv : OkV n v) (h : VR noL mu (renV σ v) c) : VR noL mu0 v c := by
  rcases hv with ⟨h1, h2⟩ | ⟨j, off, len, cx, e, hj, rfl⟩
  · rw [h2] at h
    rw [flat_eq h1 h]
    exact .of_flat h1
  · have h : VR noL mu (.slice (some ⟨σ j, off, tag e⟩) len cx) c := h
    generalize ht : tag e = t at h ⊢
    cases h with
    | hslice q1 q2 q3 q4 => exact .hslice ((hmu j hj).trans q1) q2 q3 q4
    | hslice0 q1 => exact .hslice0 q1
    | gslice _ => simp [tag] at ht
    | gslice0 => simp [tag] at ht
    | scalar q => simp [scalar] at q
theorem sl_is_ren {σ : Nat → Nat} (l : SL) (k : LK) : (renSL σ l).is k = l.is k := by cases l <;> cases k <;> rfl
theorem allIs_ren {σ : Nat → Nat} : ∀ (cs : List SL) (ks : List LK), allIs (cs.map (renSL σ)) ks = allIs cs ks
  | [], [] => rfl
  | [], _ :: _ => rfl
  | _ :: _, [] => rfl
  | c :: cs, k :: ks => by simp only [List.map_cons, allIs, sl_is_ren, allIs_ren cs ks]
theorem is_ren {σ : Nat → Nat} (x : S0) (k : SK) : (renS σ x).is k = x.is k := by
  cases x <;> cases k <;> first | rfl | exact sl_is_ren _ _ | exact allIs_ren _ _
theorem areIs_ren {σ : Nat → Nat} : ∀ (xs : List S0) (ks : List SK), areIs (xs.map (renS σ)) ks = areIs xs ks
  | [], [] => rfl
  | [], _ :: _ => rfl
  | _ :: _, [] => rfl
  | x :: xs, k :: ks => by simp only [List.map_cons, areIs, is_ren, areIs_ren xs ks]
theorem lf_ren {σ : Nat → Nat} (l : SL) : (renSL σ l).lf = renL σ l.lf := by cases l <;> rfl
theorem cells_ren {σ : Nat → Nat} (x : S0) : (renS σ x).cells = x.cells.map (renSL σ) := by cases x <;> rfl
theorem lfsOf_ren {σ : Nat → Nat} : ∀ (xs : List S0), lfsOf (xs.map (renS σ)) = (lfsOf xs).map (renL σ)
  | [] => rfl
  | x :: xs => by
    simp only [List.map_cons, lfsOf, List.map_append, lfsOf_ren xs, cells_ren, List.map_map]
    congr 1
    exact List.map_congr_left fun l _ => lf_ren l
theorem goodV_ren {σ : Nat → Nat} (x : Value) : goodV (renV σ x) = goodV x := by
  unfold renV
  split
  · simp [goodV, noLoc, noLoc3, noLoc2, noLoc1, oneCell, isTuple]
  · rfl
theorem good_ren {σ : Nat → Nat} {l : SL} (h : l.good) : (renSL σ l).good := by
  cases l with
  | v x =>
    show goodV (renV σ x) = true
    have h : goodV x = true := h
    unfold renV
    split
    · simpa [goodV, noLoc, noLoc3, noLoc2, noLoc1, oneCell, isTuple] using h
    · exact h
  | _ => exact h
theorem vr_sl {n : Nat} {σ : Nat → Nat} {mu mu0 : HMap} (hmu : ∀ j, j < n → mu0 j = mu (σ j)) {l : SL} {c : Value} (hl : OkL n l.lf) (h : VR noL mu (renSL σ l).val c) : VR noL mu0 l.val c := by
  cases l with
  | v x => exact vr_ren hmu hl h
  | i k m =>
    have hf : flat (Value.int k m) = true := rfl
    have h : VR noL mu (.int k m) c := h
    rw [flat_eq hf h]; exact .of_flat hf
  | b t =>
    have hf : flat (Value.bool t) = true := rfl
    have h : VR noL mu (.bool t) c := h
    rw [flat_eq hf h]; exact .of_flat hf
  | l t =>
    have hf : flat (Value.bool t) = true := rfl
    have h : VR noL mu (.bool t) c := h
    rw [flat_eq hf h]; exact .of_flat hf
theorem vr_s0 {n : Nat} {σ : Nat → Nat} {mu mu0 : HMap} (hmu : ∀ j, j < n → mu0 j = mu (σ j)) {x : S0} {c : Value} (hx : ∀ l ∈ x.cells, OkL n l.lf) (h : VR noL mu (renS σ x).val c) : VR noL mu0 x.val c := by
  cases x with
  | leaf l => exact vr_sl hmu (hx l (by simp [S0.cells])) h
  | agg cs =>
    have h : VR noL mu (.agg ⟨(cs.map (renSL σ)).map SL.val⟩) c := h
    generalize ha : (⟨(cs.map (renSL σ)).map SL.val⟩ : Array Value) = a at h
    cases h with
    | scalar q => simp [scalar] at q
    | agg hs h =>
      subst ha
      refine .agg (by simpa using hs) fun i x y hx' hy => ?_
      have hi : (cs.map SL.val)[i]? = some x := by simpa using hx'
      rw [List.getElem?_map] at hi
      cases e : cs[i]? with
      | none => rw [e] at hi; cases hi
      | some l =>
        rw [e] at hi
        cases hi
        exact vr_sl hmu (hx l (List.mem_of_getElem? e)) (h i _ y (by simp [e]) hy)
theorem vrs_ren {n : Nat} {σ : Nat → Nat} {mu mu0 : HMap} (hmu : ∀ j, j < n → mu0 j = mu (σ j)) {xs : List S0} {cs : List Value} (hx : ∀ x ∈ xs, ∀ l ∈ x.cells, OkL n l.lf) (h : VRs noL mu (valsOf (xs.map (renS σ))) cs) : VRs noL mu0 (valsOf xs) cs := by
  refine ⟨by simpa [valsOf] using h.1, fun i x y hi hy => ?_⟩
  unfold valsOf at hi
  rw [List.getElem?_map] at hi
  cases e : xs[i]? with
  | none => rw [e] at hi; cases hi
  | some s =>
    rw [e] at hi
    cases hi
    exact vr_s0 hmu (hx s (List.mem_of_getElem? e)) (h.2 i _ y (by simp [valsOf, e]) hy)
theorem lfsOf_mem {xs : List S0} {x : S0} {l : SL} (hx : x ∈ xs) (hl : l ∈ x.cells) : l.lf ∈ lfsOf xs := by
  induction xs with
  | nil => cases hx
  | cons y ys ih =>
    show l.lf ∈ y.cells.map SL.lf ++ lfsOf ys
    rcases List.mem_cons.1 hx with rfl | hx
    · exact List.mem_append_left _ (List.mem_map_of_mem hl)
    · exact List.mem_append_right _ (ih hx)
/-- A call that only reads some blocks, with whatever else there is. -/
theorem call_ro {C : Cfg} {N : FuncId → Option Nat} {Sg : FuncId → Option Sig} (hm : C.P.follows .mixedOrders = true) (hG : ∀ g vs, C.G g = some vs → vs.all flat = true) {g : FuncId} {sg : Sig} (hs : Sg g = some sg) (hp : sg.rs.all SK.plain = true) (hn : N g = none) {ls0 rs : List Lf} {H0 H' H : List HObj} (σ : Nat → Nat)
    (h : let _ : Kno := KnoC C N; CallL C Sg g ls0 H0 rs H')
    (h0 : ∀ (j : Nat) (o : HObj), H0[j]? = some o → ∃ vs e rw, o = .cells vs e false ∧ vs.all flat = true ∧ H[σ j]? = some (.cells vs e rw))
    (hl : ∀ l ∈ ls0, OkL H0.length l) : let _ : Kno := KnoC C N; CallL C Sg g (ls0.map (renL σ)) H rs H := by
  let _ : Kno := KnoC C N
  obtain ⟨sg', xs, ys, c1, c2, c3, c4⟩ := h
  rw [hs] at c1
  cases c1
  have hr := packA_flat (areIs_flat1 c3.1 hp)
  have hx : ∀ x ∈ xs, ∀ l ∈ x.cells, OkL H0.length l.lf := fun x hx l hl' => hl _ (by rw [← c2.2.1]; exact lfsOf_mem hx hl')
  refine ⟨sg, xs.map (renS σ), ys, hs, ⟨by rw [areIs_ren]; exact c2.1, by rw [lfsOf_ren, c2.2.1], fun x hx' => ?_⟩, c3, ⟨0, ?_⟩⟩
  · obtain ⟨y, hy, rfl⟩ := List.mem_map.1 hx'
    intro l hl'
    rw [cells_ren] at hl'
    obtain ⟨l', hl'', rfl⟩ := List.mem_map.1 hl'
    exact good_ren (c2.2.2 y hy l' hl'')
  · exact .inr ⟨hn, frame_ro hG σ (uCallC_ok hm c4) hr h0 fun mu mu0 cs hmu h => vrs_ren hmu hx h⟩
end
end Sx
end Go.Am

/-
  RUNS IN THE DIRECT STYLE: what the texts by program use, and what makes a table of runs true.
-/
set_option maxRecDepth 100000
namespace Go.Am
open Sx
abbrev FB := List Lf → HTr → (List Lf → HTr → RT) → RT
noncomputable def nf : FB := fun _ _ _ => none
noncomputable def tell (rs : List Lf) (_ : HTr) : RT := plainLs rs fun rs => some rs
/-- A function of numbers: what it answers is taken from a run over an empty heap (so the same call is run once). -/
noncomputable def memo (g : FB) : FB := fun ls h K => plainLs ls fun ls => @Option.rec _ (fun _ => RT) none (fun rs => K rs h) (g ls .empty tell)
noncomputable def fB {R : Type} (b : Bool) (k : Bool → R) : R := Bool.rec (k false) (k true) b
noncomputable def flatI (v : Value) : Bool := match v with
  | .int _ _ => true
  | .bool _ => true
  | _ => false
noncomputable def allR (c : Tr Value) (n : Nat) : Bool := @Nat.rec (fun _ => Bool) true (fun i ih => @Bool.rec (fun _ => Bool) false ih (flatI ((pathOf i).get nilV c))) n
/-- The arguments, with the blocks that they lie in as a heap of its own. -/
noncomputable def ext (h : HTr) (d : RT) (ls : List Lf) : HTr → (List Lf → HTr → RT) → RT :=
  @List.rec Lf (fun _ => HTr → (List Lf → HTr → RT) → RT) (fun h0 k => k [] h0) (fun x _ ih h0 k => match x with
    | .i n => fI n fun n => ih h0 fun l h1 => k (.i n :: l) h1
    | .b t => fB t fun t => ih h0 fun l h1 => k (.b t :: l) h1
    | .v v => match v with
      | .slice (some a) len cx => match h.at a.block with
        | some (.t n e _ c) => match tagB a.spot e, allR c n with
          | true, true => pushK h0 (.t n e false c) fun h1 => fN a.off fun o => fN len fun len => fN cx fun cx => ih h1 fun l h2 => k (.v (.slice (some ⟨h0.n, o, tag e⟩) len cx) :: l) h2
          | _, _ => d
        | _ => d
      | v => match flat v with
        | true => ih h0 fun l h1 => k (.v v :: l) h1
        | false => d) ls
/-- A function that only reads slices of numbers: what it answers is taken from a run over their blocks alone. -/
noncomputable def memoR (g : FB) : FB := fun ls h K => ext h (g ls h K) ls .empty fun ls0 h0 => @Option.rec _ (fun _ => RT) (g ls h K) (fun rs => K rs h) (g ls0 h0 tell)
noncomputable def callG (ls : List Lf) (X : RT) : RT := @Bool.rec (fun _ => RT) none X (goodLs ls)
/-- A table of functions, and what is asked where it has none. -/
noncomputable def lookF (l : List (Nat × FB)) (g : Nat) (d : FB) : FB := @List.rec _ (fun _ => FB) d (fun p _ ih => @Bool.rec (fun _ => FB) ih p.2 (Nat.beq p.1 g)) l
noncomputable def tblF (l : List (Nat × FB)) (c : CallB) : CallB := fun ck => match ck with
  | .f g => lookF l g (c (.f g))
  | .y κ vs i => c (.y κ vs i)
/-! ### From the algebra of runs to the direct style -/
section
variable {Sg : FuncId → Option Sig} {T : Nat → Site} {call : CallB}
theorem q_cond {t : Bool} {X Y X' Y' : RT} (h1 : X = X') (h2 : Y = Y') : (BA Sg T call).cond t X Y = @Bool.rec (fun _ => RT) Y' X' t := by subst h1 h2; rfl
theorem q_add64 {a b : Int} {K K' : Int → RT} (h : ∀ n, K n = K' n) : (BA Sg T call).ari .add .i64 a b K = addK a b (fun c => out64 c K') := by obtain rfl : K = K' := funext h; rfl
theorem q_addU8 {a b : Int} {K K' : Int → RT} (h : ∀ n, K n = K' n) : (BA Sg T call).ari .add .u8 a b K = addK a b (fun c => outU8 c K') := by obtain rfl : K = K' := funext h; rfl
theorem q_addG {k : IntKind} {a b : Int} {K K' : Int → RT} (h : ∀ n, K n = K' n) : (BA Sg T call).ari .add k a b K = addK a b (fun c => outK k c K') := by obtain rfl : K = K' := funext h; rfl
theorem q_sub64 {a b : Int} {K K' : Int → RT} (h : ∀ n, K n = K' n) : (BA Sg T call).ari .sub .i64 a b K = subK a b (fun c => out64 c K') := by obtain rfl : K = K' := funext h; rfl
theorem q_subU8 {a b : Int} {K K' : Int → RT} (h : ∀ n, K n = K' n) : (BA Sg T call).ari .sub .u8 a b K = subK a b (fun c => outU8 c K') := by obtain rfl : K = K' := funext h; rfl
theorem q_subG {k : IntKind} {a b : Int} {K K' : Int → RT} (h : ∀ n, K n = K' n) : (BA Sg T call).ari .sub k a b K = subK a b (fun c => outK k c K') := by obtain rfl : K = K' := funext h; rfl
theorem q_mul64 {a b : Int} {K K' : Int → RT} (h : ∀ n, K n = K' n) : (BA Sg T call).ari .mul .i64 a b K = mulK a b (fun c => out64 c K') := by obtain rfl : K = K' := funext h; rfl
theorem q_mulU8 {a b : Int} {K K' : Int → RT} (h : ∀ n, K n = K' n) : (BA Sg T call).ari .mul .u8 a b K = mulK a b (fun c => outU8 c K') := by obtain rfl : K = K' := funext h; rfl
theorem q_mulG {k : IntKind} {a b : Int} {K K' : Int → RT} (h : ∀ n, K n = K' n) : (BA Sg T call).ari .mul k a b K = mulK a b (fun c => outK k c K') := by obtain rfl : K = K' := funext h; rfl
theorem q_quo64 {a b : Int} {K K' : Int → RT} (h : ∀ n, K n = K' n) : (BA Sg T call).ari .quo .i64 a b K = @Bool.rec (fun _ => RT) (quoK a b (fun c => out64 c K')) none (isZ b) := by obtain rfl : K = K' := funext h; rfl
theorem q_quoU8 {a b : Int} {K K' : Int → RT} (h : ∀ n, K n = K' n) : (BA Sg T call).ari .quo .u8 a b K = @Bool.rec (fun _ => RT) (quoK a b (fun c => outU8 c K')) none (isZ b) := by obtain rfl : K = K' := funext h; rfl
theorem q_quoG {k : IntKind} {a b : Int} {K K' : Int → RT} (h : ∀ n, K n = K' n) : (BA Sg T call).ari .quo k a b K = @Bool.rec (fun _ => RT) (quoK a b (fun c => outK k c K')) none (isZ b) := by obtain rfl : K = K' := funext h; rfl
theorem q_rem {k : IntKind} {a b : Int} {K K' : Int → RT} (h : ∀ n, K n = K' n) : (BA Sg T call).ari .rem k a b K = @Bool.rec (fun _ => RT) (remK a b K') none (isZ b) := by obtain rfl : K = K' := funext h; rfl
theorem q_ariG {op : BinOp} {k : IntKind} {a b : Int} {K K' : Int → RT} (h : ∀ n, K n = K' n) : (BA Sg T call).ari op k a b K = ariB op k a b K' := by obtain rfl : K = K' := funext h; rfl
theorem q_eql {a b : Int} {K : Bool → RT} {X : RT} (h : K (eqZK a b) = X) : (BA Sg T call).cmp .eql a b K = X := h
theorem q_neq {a b : Int} {K : Bool → RT} {X : RT} (h : K (notK (eqZK a b)) = X) : (BA Sg T call).cmp .neq a b K = X := h
theorem q_lss {a b : Int} {K : Bool → RT} {X : RT} (h : K (notK (leZ b a)) = X) : (BA Sg T call).cmp .lss a b K = X := h
theorem q_leq {a b : Int} {K : Bool → RT} {X : RT} (h : K (leZ a b) = X) : (BA Sg T call).cmp .leq a b K = X := h
theorem q_gtr {a b : Int} {K : Bool → RT} {X : RT} (h : K (notK (leZ a b)) = X) : (BA Sg T call).cmp .gtr a b K = X := h
theorem q_geq {a b : Int} {K : Bool → RT} {X : RT} (h : K (leZ b a) = X) : (BA Sg T call).cmp .geq a b K = X := h
theorem q_eqs {l : List (Lf × Lf)} {K : Bool → RT} {X : RT} (h : K (eqsV l) = X) : (BA Sg T call).eqs l K = X := h
theorem q_bind {K K' : Bool → RT} {t : Bool} (h : ∀ t, K t = K' t) : K t = K' t := h t
theorem q_conv64 {a : Int} {K K' : Int → RT} (h : ∀ n, K n = K' n) : (BA Sg T call).conv .i64 a K = out64 a K' := by obtain rfl : K = K' := funext h; rfl
theorem q_convU8 {a : Int} {K K' : Int → RT} (h : ∀ n, K n = K' n) : (BA Sg T call).conv .u8 a K = outU8 a K' := by obtain rfl : K = K' := funext h; rfl
theorem q_convG {k : IntKind} {a : Int} {K K' : Int → RT} (h : ∀ n, K n = K' n) : (BA Sg T call).conv k a K = outK k a K' := by obtain rfl : K = K' := funext h; rfl
theorem q_sel {t : Bool} {a b : Int} {K K' : Int → RT} (h : ∀ n, K n = K' n) : (BA Sg T call).sel t a b K = selB t a b K' := by obtain rfl : K = K' := funext h; rfl
theorem q_opt {α : Type} {o : Option α} {K K' : α → RT} (h : ∀ n, K n = K' n) : (BA Sg T call).opt o K = optB o K' := by obtain rfl : K = K' := funext h; rfl
theorem q_chk {v : Value} {K K' : RT} (h : K = K') : (BA Sg T call).chk v K = chkB v K' := by subst h; rfl
theorem q_unI {ls : List Lf} {K K' : Int → List Lf → RT} (h : ∀ n r, K n r = K' n r) : (BA Sg T call).unI ls K = unIB ls K' := by obtain rfl : K = K' := funext fun n => funext fun r => h n r; rfl
theorem q_unB {ls : List Lf} {K K' : Bool → List Lf → RT} (h : ∀ n r, K n r = K' n r) : (BA Sg T call).unB ls K = unBB ls K' := by obtain rfl : K = K' := funext fun n => funext fun r => h n r; rfl
theorem q_unV {ls : List Lf} {K K' : Value → List Lf → RT} (h : ∀ n r, K n r = K' n r) : (BA Sg T call).unV ls K = unVB ls K' := by obtain rfl : K = K' := funext fun n => funext fun r => h n r; rfl
theorem q_un0 {ls : List Lf} {K K' : RT} (h : K = K') : (BA Sg T call).un0 ls K = un0B ls K' := by subst h; rfl
theorem q_unIs {a : Int} {r : List Lf} {K : Int → List Lf → RT} {X : RT} (h : K a r = X) : (BA Sg T call).unI (.i a :: r) K = X := h
theorem q_unBs {a : Bool} {r : List Lf} {K : Bool → List Lf → RT} {X : RT} (h : K a r = X) : (BA Sg T call).unB (.b a :: r) K = X := h
theorem q_unVs {a : Value} {r : List Lf} {K : Value → List Lf → RT} {X : RT} (h : K a r = X) : (BA Sg T call).unV (.v a :: r) K = X := h
theorem q_un0s {K X : RT} (h : K = X) : (BA Sg T call).un0 [] K = X := h
theorem q_ucI {k : IntKind} {ls : List Value} {K K' : Int → List Value → RT} (h : ∀ n r, K n r = K' n r) : (BA Sg T call).ucI k ls K = ucIB k ls K' := by obtain rfl : K = K' := funext fun n => funext fun r => h n r; rfl
theorem q_ucB {ls : List Value} {K K' : Bool → List Value → RT} (h : ∀ n r, K n r = K' n r) : (BA Sg T call).ucB ls K = ucBB ls K' := by obtain rfl : K = K' := funext fun n => funext fun r => h n r; rfl
theorem q_ucV {ls : List Value} {K K' : Value → List Value → RT} (h : ∀ n r, K n r = K' n r) : (BA Sg T call).ucV ls K = ucVB ls K' := by obtain rfl : K = K' := funext fun n => funext fun r => h n r; rfl
theorem q_uc0 {ls : List Value} {K K' : RT} (h : K = K') : (BA Sg T call).uc0 ls K = uc0B ls K' := by subst h; rfl
theorem q_ld {n : Nat} {p : Value} {h : HTr} {K K' : List Value → RT} (hK : ∀ l, K l = K' l) : (BA Sg T call).peek (.ld n p) h K = ldB n p h K' := by obtain rfl : K = K' := funext hK; rfl
theorem q_peek {f : Getter → Option (List Value)} {h : HTr} {K K' : List Value → RT} (hK : ∀ l, K l = K' l) : (BA Sg T call).peek (.fn f) h K = peekB T (.fn f) h K' := by obtain rfl : K = K' := funext hK; rfl
theorem q_st {p : Value} {new : List Value} {h : HTr} {K K' : List Value → HTr → RT} (hK : ∀ l h, K l h = K' l h) : (BA Sg T call).heap (.st p new) h K = stB p new h K' := by obtain rfl : K = K' := funext fun l => funext fun h => hK l h; rfl
theorem q_ap {C : Cfg} {esz bytes : Nat} {s x : Value} {h : HTr} {K K' : List Value → HTr → RT} (hK : ∀ l h, K l h = K' l h) : (BA Sg T call).heap (.ap C esz bytes s x) h K = apB T C esz bytes s x h K' := by obtain rfl : K = K' := funext fun l => funext fun h => hK l h; rfl
theorem q_heap {f : Getter → Nat → Option (List Act1 × List Value)} {h : HTr} {K K' : List Value → HTr → RT} (hK : ∀ l h, K l h = K' l h) : (BA Sg T call).heap (.fn f) h K = heapB T (.fn f) h K' := by obtain rfl : K = K' := funext fun l => funext fun h => hK l h; rfl
theorem q_new {o : HObj} {h : HTr} {K K' : Nat → HTr → RT} (hK : ∀ l h, K l h = K' l h) : (BA Sg T call).new o h K = newB o h K' := by obtain rfl : K = K' := funext fun l => funext fun h => hK l h; rfl
theorem q_callD {g : FuncId} {ls : List Lf} {h : HTr} {K K' : List Lf → HTr → RT} (hK : ∀ l h, K l h = K' l h) : (BA Sg T call).call g ls h K = callB call g ls h K' := by obtain rfl : K = K' := funext fun l => funext fun h => hK l h; rfl
theorem q_callv {v : Value} {args : List Value} {hs : List SK} {h : HTr} {K K' : List Lf → HTr → RT} (hK : ∀ l h, K l h = K' l h) : (BA Sg T call).callv v args hs h K = callvB Sg T call v args hs h K' := by obtain rfl : K = K' := funext fun l => funext fun h => hK l h; rfl
theorem q_rfun {κ : Nat} {v : Value} {args : List Value} {h : HTr} {K K' : Option Code → HTr → RT} (hK : ∀ l h, K l h = K' l h) : (BA Sg T call).rfun κ v args h K = rfunB Sg call κ v args h K' := by obtain rfl : K = K' := funext fun l => funext fun h => hK l h; rfl
theorem q_pend {p : Option Code} {X X' Y Y' : RT} {l l' : List (Nat × RT)} (h1 : X = X') (h2 : Y = Y') (h3 : l = l') : (BA Sg T call).pend p X Y l = pendB p X' Y' l' := by subst h1 h2 h3; rfl
theorem q_cons {i : Nat} {x x' : RT} {l l' : List (Nat × RT)} (h1 : x = x') (h2 : l = l') : (i, x) :: l = (i, x') :: l' := by subst h1 h2; rfl
theorem q_lp1 {l : Nat} {h : HTr} {K K' : HTr → RT} (hK : ∀ h, K h = K' h) : (BA Sg T call).lp1 l h K = lp1B l h K' := by obtain rfl : K = K' := funext hK; rfl
theorem q_lp2 {l : Nat} {j : Option Code} {h : HTr} {K K' : HTr → RT} (hK : ∀ h, K h = K' h) : (BA Sg T call).lp2 l j h K = lp2B l j h K' := by obtain rfl : K = K' := funext hK; rfl
theorem q_join {B B' : List Lf → HTr → RT} {M M' : (List Lf → HTr → RT) → RT} (h1 : ∀ l h, B l h = B' l h) (h2 : ∀ j, M j = M' j) : (BA Sg T call).join B M = joinB B' M' := by
  obtain rfl : B = B' := funext fun l => funext fun h => h1 l h
  obtain rfl : M = M' := funext h2
  rfl
theorem q_loop {F F' : (List Lf → HTr → RT) → List Lf → HTr → RT} {ls : List Lf} {h : HTr} (hF : ∀ s l h, F s l h = F' s l h) : (BA Sg T call).loop F ls h = loopB F' ls h := by
  obtain rfl : F = F' := funext fun s => funext fun l => funext fun h => hF s l h
  rfl
/-- A call as the table answers it. -/
theorem q_tab {g : FuncId} {ls vs : List Lf} {h : HTr} {K : List Lf → HTr → RT} {X : RT} (hg : goodLs ls = goodLs vs) (hX : call (.f g) ls h K = X) : (BA Sg T call).call g ls h K = callG vs X := by
  show callB call g ls h K = _
  unfold callB callG
  rw [hg, hX]
  cases goodLs vs <;> rfl
theorem q_tab0 {g : FuncId} {ls : List Lf} {h : HTr} {K : List Lf → HTr → RT} {X : RT} (hg : goodLs ls = true) (hX : call (.f g) ls h K = X) : (BA Sg T call).call g ls h K = X := by
  show callB call g ls h K = _
  unfold callB
  rw [hg]; exact hX
end
section
variable [Val] [Kno]
/-! ### Answers that are known -/
noncomputable def eqLs (a : List Lf) : List Lf → Bool := @List.rec _ (fun _ => List Lf → Bool) (fun b => @List.rec _ (fun _ => Bool) true (fun _ _ _ => false) b) (fun x _ ih b => @List.rec _ (fun _ => Bool) false (fun y m _ => @Bool.rec (fun _ => Bool) false (ih m) (eqLf x y)) b) a
theorem eqLf_sound {x y : Lf} (h : eqLf x y = true) : x = y := by
  cases x <;> cases y <;> first | (cases h; done) | skip
  · have h : eqZK _ _ = true := h
    rw [eqZK_eq, beq_iff_eq] at h; rw [h]
  · rename_i a b; cases a <;> cases b <;> first | rfl | cases h
theorem eqLs_sound : ∀ {a b : List Lf}, eqLs a b = true → a = b
  | [], [], _ => rfl
  | x :: a, y :: b, h => by
    have h : @Bool.rec (fun _ => Bool) false (eqLs a b) (eqLf x y) = true := h
    cases e : eqLf x y with
    | true => rw [e] at h; rw [eqLf_sound e, eqLs_sound h]
    | false => rw [e] at h; cases h
  | [], _ :: _, h => by cases h
  | _ :: _, [], h => by cases h
abbrev KN1 := Nat × List Lf × List Lf
noncomputable def lookK (l : List KN1) (f : Nat) (ls : List Lf) : Option (List Lf) := @List.rec _ (fun _ => Option (List Lf)) none (fun p _ ih => @Bool.rec (fun _ => Option (List Lf)) ih (@Bool.rec (fun _ => Option (List Lf)) ih (some p.2.2) (eqLs p.2.1 ls)) (Nat.beq p.1 f)) l
theorem lookK_mem {f : Nat} {ls rs : List Lf} : ∀ {l : List KN1}, lookK l f ls = some rs → (f, ls, rs) ∈ l
  | [], h => by cases h
  | p :: l, h => by
    have h : @Bool.rec (fun _ => Option (List Lf)) (lookK l f ls) (@Bool.rec (fun _ => Option (List Lf)) (lookK l f ls) (some p.2.2) (eqLs p.2.1 ls)) (Nat.beq p.1 f) = some rs := h
    cases e : Nat.beq p.1 f with
    | false => rw [e] at h; exact List.mem_cons_of_mem _ (lookK_mem h)
    | true =>
      rw [e] at h
      have e := Nat.eq_of_beq_eq_true e
      cases e2 : eqLs p.2.1 ls with
      | false => rw [e2] at h; exact List.mem_cons_of_mem _ (lookK_mem h)
      | true =>
        rw [e2] at h
        cases h
        rw [← e, ← eqLs_sound e2]
        exact List.mem_cons_self
noncomputable def runKn (l : List KN1) (c : CallB) : CallB := fun ck => match ck with
  | .f f => fun ls h K => @Option.rec _ (fun _ => RT) (c (.f f) ls h K) (fun rs => K rs h) (lookK l f ls)
  | .y κ vs i => c (.y κ vs i)
def EntOk (C : Cfg) (Sg : FuncId → Option Sig) (T : Nat → Site) (k : Nat) (g : FB) : Prop := ∀ ls h K w, GoodLs ls → g ls h K = some w → ∃ rs h', CallL C Sg k ls (absH T (toL h)) rs (absH T (toL h')) ∧ K rs h' = some w
/-- Known: whatever the heap, and nothing is left behind. -/
def AllK (C : Cfg) (Sg : FuncId → Option Sig) (l : List KN1) : Prop := ∀ p ∈ l, ∀ H, CallL C Sg p.1 p.2.1 H p.2.2 H
theorem AllK.nil {C : Cfg} {Sg : FuncId → Option Sig} : AllK C Sg [] := fun _ h => by cases h
theorem AllK.cons {C : Cfg} {Sg : FuncId → Option Sig} {f : Nat} {ls rs : List Lf} {l : List KN1} (h : ∀ H, CallL C Sg f ls H rs H) (hl : AllK C Sg l) : AllK C Sg ((f, ls, rs) :: l) := by
  intro p hp
  rcases List.mem_cons.1 hp with rfl | hp
  · exact h
  · exact hl p hp
theorem AllK.app {C : Cfg} {Sg : FuncId → Option Sig} {l m : List KN1} (h : AllK C Sg l) (hm : AllK C Sg m) : AllK C Sg (l ++ m) := by
  intro p hp
  rcases List.mem_append.1 hp with hp | hp
  · exact h p hp
  · exact hm p hp
theorem runKn_ok {C : Cfg} {Sg : FuncId → Option Sig} {T : Nat → Site} {c : CallB} (hc : CallBOk C Sg T c) {l : List KN1} (hl : AllK C Sg l) : CallBOk C Sg T (runKn l c) := by
  refine ⟨fun f ls h K w hls hk => ?_, fun κ vs i ls h K w st pd xs e hy hk => hc.y κ vs i ls h K w st pd xs e hy hk⟩
  have hk : @Option.rec _ (fun _ => RT) (c (.f f) ls h K) (fun rs => K rs h) (lookK l f ls) = some w := hk
  cases e : lookK l f ls with
  | none => rw [e] at hk; exact hc.f f ls h K w hls hk
  | some rs => rw [e] at hk; exact ⟨rs, h, hl _ (lookK_mem e) _, hk⟩
theorem lookF_ok {C : Cfg} {Sg : FuncId → Option Sig} {T : Nat → Site} {g : Nat} {d : FB} (hd : EntOk C Sg T g d) : ∀ {l : List (Nat × FB)}, (∀ p ∈ l, EntOk C Sg T p.1 p.2) → EntOk C Sg T g (lookF l g d)
  | [], _ => hd
  | p :: l, h => by
    have e : lookF (p :: l) g d = @Bool.rec (fun _ => FB) (lookF l g d) p.2 (Nat.beq p.1 g) := rfl
    rw [e]
    cases hb : Nat.beq p.1 g with
    | true =>
      have := Nat.eq_of_beq_eq_true hb
      subst this
      exact h p List.mem_cons_self
    | false => exact lookF_ok hd (fun q hq => h q (List.mem_cons_of_mem _ hq))
theorem tblF_ok {C : Cfg} {Sg : FuncId → Option Sig} {T : Nat → Site} {c : CallB} (hc : CallBOk C Sg T c) {l : List (Nat × FB)} (h : ∀ p ∈ l, EntOk C Sg T p.1 p.2) : CallBOk C Sg T (tblF l c) :=
  ⟨fun g ls hh K w hls hk => lookF_ok (fun ls h K w => hc.f g ls h K w) h ls hh K w hls hk, fun κ vs l ls h K w st pd xs e hy hk => hc.y κ vs l ls h K w st pd xs e hy hk⟩
/-- A round, told truly. -/
def YOk (C : Cfg) (Sg : FuncId → Option Sig) (T : Nat → Site) (κ : Nat) (g : List Value → Nat → FB) : Prop := ∀ vs l ls h K w st pd xs, h.at l = some (.lp κ st pd vs) → Told ((T κ).params.map (·.2)) ls xs → g vs l ls h K = some w →
    ∃ b h', uYield C l (valsOf xs) (absH T (toL h)) (.bool b) (absH T (toL h')) ∧ K [.b b] h' = some w
noncomputable def lookY (l : List (Nat × (List Value → Nat → FB))) (κ : Nat) (d : List Value → Nat → FB) : List Value → Nat → FB := @List.rec _ (fun _ => List Value → Nat → FB) d (fun p _ ih => @Bool.rec (fun _ => List Value → Nat → FB) ih p.2 (Nat.beq p.1 κ)) l
theorem lookY_ok {C : Cfg} {Sg : FuncId → Option Sig} {T : Nat → Site} {g : Nat} {d : List Value → Nat → FB} (hd : YOk C Sg T g d) : ∀ {l : List (Nat × (List Value → Nat → FB))}, (∀ p ∈ l, YOk C Sg T p.1 p.2) → YOk C Sg T g (lookY l g d)
  | [], _ => hd
  | p :: l, h => by
    have e : lookY (p :: l) g d = @Bool.rec (fun _ => List Value → Nat → FB) (lookY l g d) p.2 (Nat.beq p.1 g) := rfl
    rw [e]
    cases hb : Nat.beq p.1 g with
    | true =>
      have := Nat.eq_of_beq_eq_true hb
      subst this
      exact h p List.mem_cons_self
    | false => exact lookY_ok hd (fun q hq => h q (List.mem_cons_of_mem _ hq))
theorem tell_eq : tell = fun rs _ => some rs := by
  funext rs h
  exact plainLs_eq rs _
theorem memo_ok {C : Cfg} {Sg : FuncId → Option Sig} {T : Nat → Site} (hpl : ∀ f sg ls rs H', Sg f = some sg → sg.plain = true → CallL C Sg f ls [] rs H' → ∀ H, CallL C Sg f ls H rs H)
    {k : Nat} {g : FB} {sg : Sig} (hg : EntOk C Sg T k g) (hs : Sg k = some sg) (hp : sg.plain = true) : EntOk C Sg T k (memo g) := by
  intro ls h K w hls hk
  unfold memo at hk
  rw [plainLs_eq, tell_eq] at hk
  cases e : g ls .empty (fun rs _ => some rs) with
  | none => rw [e] at hk; cases hk
  | some rs =>
    rw [e] at hk
    obtain ⟨rs', h', a1, a2⟩ := hg ls .empty _ rs hls e
    cases a2
    exact ⟨rs, h, hpl k sg ls rs _ hs hp a1 _, hk⟩
theorem fB_eq {R : Type} (b : Bool) (k : Bool → R) : fB b k = k b := by cases b <;> rfl
theorem flatI_ok {v : Value} (h : flatI v = true) : flat v = true := by
  cases v <;> first | rfl | cases h
theorem allR_ok {c : Tr Value} : ∀ {n : Nat}, allR c n = true → (cellsT c n).all flat = true := by
  intro n h
  have main : ∀ n, allR c n = true → ∀ i, i < n → flatI ((pathOf i).get nilV c) = true := by
    intro n
    induction n with
    | zero => intro _ i hi; cases hi
    | succ n ih =>
      intro h i hi
      have h : @Bool.rec (fun _ => Bool) false (allR c n) (flatI ((pathOf n).get nilV c)) = true := h
      cases e : flatI ((pathOf n).get nilV c) with
      | false => rw [e] at h; cases h
      | true =>
        rw [e] at h
        rcases Nat.lt_or_ge i n with h1 | h1
        · exact ih h i h1
        · obtain rfl : i = n := by omega
          exact e
  rw [List.all_eq_true]
  intro v hv
  obtain ⟨i, hi, rfl⟩ := List.mem_map.1 hv
  exact flatI_ok (main n h i (List.mem_range.1 hi))
/-- Blocks that lie elsewhere too. -/
def Blk (T : Nat → Site) (h h0 : HTr) (σ : Nat → Nat) : Prop := ∀ (j : Nat) (o : HObj), (absH T (toL h0))[j]? = some o → ∃ vs e rw, o = .cells vs e false ∧ vs.all flat = true ∧ (absH T (toL h))[σ j]? = some (.cells vs e rw)
theorem ext_ok {T : Nat → Site} {h : HTr} {d : RT} {w : List Lf} : ∀ (ls : List Lf) (h0 : HTr) (k : List Lf → HTr → RT) (σ : Nat → Nat), Blk T h h0 σ → ext h d ls h0 k = some w →
    d = some w ∨ ∃ ls0 h1 σ', k ls0 h1 = some w ∧ h0.n ≤ h1.n ∧ (∀ j, j < h0.n → σ' j = σ j) ∧ Blk T h h1 σ' ∧ ls0.map (renL σ') = ls ∧ ∀ l ∈ ls0, OkL h1.n l
  | [], h0, k, σ, hb, hk => .inr ⟨[], h0, σ, hk, Nat.le_refl _, fun _ _ => rfl, hb, rfl, fun _ h => by cases h⟩
  | .i n :: ls, h0, k, σ, hb, hk => by
    have hk : (fI n fun n => ext h d ls h0 fun l h1 => k (.i n :: l) h1) = some w := hk
    rw [fI_eq] at hk
    rcases ext_ok ls h0 _ σ hb hk with h1 | ⟨l, h1, σ', a1, a2, a3, a4, a5, a6⟩
    · exact .inl h1
    · refine .inr ⟨.i n :: l, h1, σ', a1, a2, a3, a4, by rw [List.map_cons, a5]; rfl, fun x hx => ?_⟩
      rcases List.mem_cons.1 hx with rfl | hx
      · trivial
      · exact a6 x hx
  | .b t :: ls, h0, k, σ, hb, hk => by
    have hk : (fB t fun t => ext h d ls h0 fun l h1 => k (.b t :: l) h1) = some w := hk
    rw [fB_eq] at hk
    rcases ext_ok ls h0 _ σ hb hk with h1 | ⟨l, h1, σ', a1, a2, a3, a4, a5, a6⟩
    · exact .inl h1
    · refine .inr ⟨.b t :: l, h1, σ', a1, a2, a3, a4, by rw [List.map_cons, a5]; rfl, fun x hx => ?_⟩
      rcases List.mem_cons.1 hx with rfl | hx
      · trivial
      · exact a6 x hx
  | .v v :: ls, h0, k, σ, hb, hk => by
    have hk : (match (motive := Value → RT) v with
      | .slice (some a) len cx => match h.at a.block with
        | some (.t n e _ c) => match tagB a.spot e, allR c n with
          | true, true => pushK h0 (.t n e false c) fun h1 => fN a.off fun o => fN len fun len => fN cx fun cx => ext h d ls h1 fun l h2 => k (.v (.slice (some ⟨h0.n, o, tag e⟩) len cx) :: l) h2
          | _, _ => d
        | _ => d
      | v => match flat v with
        | true => ext h d ls h0 fun l h1 => k (.v v :: l) h1
        | false => d) = some w := hk
    split at hk
    · rename_i a len cx _
      split at hk
      · rename_i n e rw' c hat
        split at hk
        · rename_i q1 q2
          have q1 := tagB_iff.1 q1
          rw [pushK_eq, fN_eq, fN_eq, fN_eq] at hk
          have hb1 : Blk T h (h0.push (.t n e false c)) (fun j => if j = h0.n then a.block else σ j) := by
            intro j o hj
            rw [toL_push, absH_push] at hj
            by_cases h1 : j < h0.n
            · rw [List.getElem?_append_left (by rw [absH_len, toL_len]; exact h1)] at hj
              simp only [if_neg (Nat.ne_of_lt h1)]
              exact hb j o hj
            · rw [List.getElem?_append_right (by rw [absH_len, toL_len]; omega), absH_len, toL_len] at hj
              by_cases h2 : j = h0.n
              · subst h2
                rw [Nat.sub_self] at hj
                cases hj
                refine ⟨cellsT c n, e, rw', rfl, allR_ok q2, ?_⟩
                simp only [if_true]
                have := getH_at (T := T) hat
                rw [getH_eq] at this
                exact this
              · rw [List.getElem?_eq_none (by simp; omega)] at hj; cases hj
          rcases ext_ok ls _ _ _ hb1 hk with h1 | ⟨l, h1, σ', a1, a2, a3, a4, a5, a6⟩
          · exact .inl h1
          · have hn : (h0.push (.t n e false c)).n = h0.n + 1 := rfl
            rw [hn] at a2 a3
            refine .inr ⟨_, h1, σ', a1, by omega, fun j hj => ?_, a4, ?_, fun x hx => ?_⟩
            · rw [a3 j (by omega)]; simp only [if_neg (Nat.ne_of_lt hj)]
            · have hs : σ' h0.n = a.block := by rw [a3 h0.n (by omega)]; simp
              rw [List.map_cons, a5]
              show Lf.v (.slice (some ⟨σ' h0.n, a.off, tag e⟩) len cx) :: ls = _
              rw [hs, ← q1]
            · rcases List.mem_cons.1 hx with rfl | hx
              · exact .inr ⟨h0.n, a.off, len, cx, e, by omega, rfl⟩
              · exact a6 x hx
        · exact .inl hk
      · exact .inl hk
    · rename_i hne
      split at hk
      · rename_i hf
        have hr : ∀ σ, renV σ v = v := by
          intro σ
          unfold renV
          split
          · rename_i a len cx _; exact absurd rfl (hne a len cx)
          · rfl
        rcases ext_ok ls h0 _ σ hb hk with h1 | ⟨l, h1, σ', a1, a2, a3, a4, a5, a6⟩
        · exact .inl h1
        · refine .inr ⟨.v v :: l, h1, σ', a1, a2, a3, a4, by rw [List.map_cons, a5]; show Lf.v (renV σ' v) :: ls = _; rw [hr], fun x hx => ?_⟩
          rcases List.mem_cons.1 hx with rfl | hx
          · exact .inl ⟨hf, hr⟩
          · exact a6 x hx
      · exact .inl hk
theorem memoR_ok {C : Cfg} {Sg : FuncId → Option Sig} {T : Nat → Site} {k : Nat} {g : FB}
    (hro : ∀ (ls0 rs : List Lf) (H0 H' H : List HObj) (σ : Nat → Nat), CallL C Sg k ls0 H0 rs H' → (∀ (j : Nat) (o : HObj), H0[j]? = some o → ∃ vs e rw, o = .cells vs e false ∧ vs.all flat = true ∧ H[σ j]? = some (.cells vs e rw)) → (∀ l ∈ ls0, OkL H0.length l) → CallL C Sg k (ls0.map (renL σ)) H rs H)
    (hg : EntOk C Sg T k g) : EntOk C Sg T k (memoR g) := by
  intro ls h K w hls hk
  unfold memoR at hk
  rcases ext_ok (T := T) ls .empty _ id (fun j o hj => by cases hj) hk with h1 | ⟨ls0, h1, σ, a1, _, _, a4, a5, a6⟩
  · exact hg ls h K w hls h1
  · cases e : g ls0 h1 tell with
    | none => rw [e] at a1; exact hg ls h K w hls a1
    | some rs =>
      rw [e] at a1
      rw [tell_eq] at e
      have hgood : GoodLs ls0 := by
        intro l hl
        cases l with
        | v x =>
          have h2 := hls (.v (renV σ x)) (by rw [← a5]; exact List.mem_map_of_mem (f := renL σ) hl)
          have h2 : goodV (renV σ x) = true := h2
          rw [goodV_ren] at h2
          exact h2
        | _ => trivial
      obtain ⟨rs', h', b1, b2⟩ := hg ls0 h1 _ rs hgood e
      cases b2
      have := hro ls0 rs _ _ (absH T (toL h)) σ b1 a4 (fun l hl => by rw [absH_len, toL_len]; exact a6 l hl)
      rw [a5] at this
      exact ⟨rs, h, this, a1⟩
end
end Go.Am

/-
  WHAT A ROUND OF EACH LOOP OVER AN ITERATOR DOES, BY PROGRAM.
-/
set_option maxRecDepth 100000
namespace Go.Am
open Sx Go.Proofs
section
variable {R HT : Type} (A : Alg R HT)

noncomputable def y368 (vs : List Value) (lp : Nat) (ls : List Lf) (h : HT) (K : List Lf → HT → R) : R := A.ucV vs (fun x8 l9 => A.chk x8 ( A.uc0 l9 ( A.unI ls (fun n10 l11 => A.unI l11 (fun n12 l13 => A.un0 l13 ( A.new (.cells [(.int .i64 (.ofNat 0)), (.int .u8 (.ofNat 0))] 2 true) h (fun m14 h15 => A.heap (.st (.pointer (some ⟨m14, 0, none⟩)) [(.int .i64 n10), (.int .u8 n12)]) h15 (fun l16 h17 => A.lp1 lp h17 (fun h18 => A.peek (.ld 1 x8) h18 (fun l19 => A.ucV l19 (fun x20 l21 => A.chk x20 ( A.uc0 l21 ( A.peek (.ld 2 (.pointer (some ⟨m14, 0, none⟩))) h18 (fun l22 => A.ucI .i64 l22 (fun n23 l24 => A.ucI .u8 l24 (fun n25 l26 => A.uc0 l26 ( A.new (.cells [(.int .i64 n23), (.int .u8 n25)] 2 true) h18 (fun m27 h28 => A.heap (.ap cc 2 16 x20 (.slice (some ⟨m27, 0, (some 12)⟩) 1 2)) h28 (fun l29 h30 => A.ucV l29 (fun x31 l32 => A.chk x31 ( A.uc0 l32 ( A.heap (.st x8 [x31]) h30 (fun l33 h34 => A.lp2 lp none h34 (fun h35 => K [(.b true)] h35))))))))))))))))))))))))

end
theorem ey368 : @y368 = fun R HT A vs lp ls h K => execY A (xc 0) sgTab drN (siteTab 368) vs lp ls h K := by kernel_rfl
end Go.Am


/-
  THE OPERATIONS, ONE BY ONE: those that meet no memory.
-/
import Derived.Test.YtdngmncaohgacaaDoorAm4
import Derived.Laws.AppendOwn
import Derived.Laws.Tables
import Derived.Laws.MakeOwn
set_option linter.unusedSectionVars false
set_option linter.unusedSimpArgs false
set_option linter.unusedVariables false
set_option linter.constructorNameAsVariable false
namespace Go.Am

section
variable [Val]

theorem underlying_info {P : Program} {t : TypeId} {d : TypeDesc} (h : P.underlying t = some d) : ∃ i, P.info? t = some i := by
  unfold Program.underlying at h
  cases hi : P.info? t with
  | none => rw [hi] at h; cases h
  | some i => exact ⟨i, rfl⟩

theorem cellsOf_info {P : Program} {t : TypeId} (h : P.cellsOf t ≠ 0) : ∃ i, P.info? t = some i := by
  unfold Program.cellsOf at h
  cases hi : P.info? t with
  | none => rw [hi] at h; simp at h
  | some i => exact ⟨i, rfl⟩

theorem run_sizeOf {P : Program} {t : TypeId} {i : TypeInfo} (h : P.info? t = some i) (w : World) : (sizeOf t).run P w = .ok (P.cellsOf t) w := by
  simp [sizeOf, typeInfo, h, Program.cellsOf]

def isAggD : TypeDesc → Bool
  | .struct _ => true
  | .array _ _ => true
  | _ => false

theorem run_isAgg {P : Program} {t : TypeId} {d : TypeDesc} (h : P.underlying t = some d) (w : World) : (isAgg t).run P w = .ok (isAggD d) w := by
  cases d <;> simp [isAgg, run_underlying h, isAggD]

theorem add_none {b o n : Nat} : (⟨b, o, none⟩ : Addr).add n = ⟨b, o + n, none⟩ := by
  unfold Addr.add; split <;> simp_all

/-- The value of an operand. -/
theorem eval_ok {C : Cfg} {base : Nat} {la : LMap} {mu : HMap} {σ : St} {a : Act} {w : World} (h : SR C base la mu σ a.tmps w) (x : Operand) : VR la mu (oval σ.tmps x) (a.eval x) := by
  cases x with
  | tmp t =>
    simp only [oval, Act.eval]
    have hl : σ.tmps.length = a.tmps.size := by simpa using h.vals.1
    rcases Nat.lt_or_ge t σ.tmps.length with ht | ht
    · have h2 : t < a.tmps.size := by rw [← hl]; exact ht
      have := h.vals.2 t σ.tmps[t] a.tmps[t] (by simp [ht]) (by simp [h2])
      simpa [List.getD, Array.getD, ht, h2] using this
    · have h2 : a.tmps.size ≤ t := by rw [← hl]; exact ht
      simp only [List.getD, List.getElem?_eq_none ht, Option.getD_none]
      rw [show a.tmps.getD t undef = undef by simp [Array.getD, Nat.not_lt.2 h2]]
      exact .undef
  | const v =>
    simp only [oval, Act.eval]
    split
    · rename_i h; exact .of_flat h
    · exact .poison _
  | global g => exact .gptr
  | func f => exact .func (by simp) rfl rfl (fun i x y h => by simp at h) (fun i x y h => by simp at h)

theorem evals_ok {C : Cfg} {base : Nat} {la : LMap} {mu : HMap} {σ : St} {a : Act} {w : World} (h : SR C base la mu σ a.tmps w) (xs : Array Operand) :
    VRs la mu (xs.toList.map (oval σ.tmps)) (xs.map a.eval).toList := by
  rw [Array.toList_map]
  exact VRs.map _ fun x _ => eval_ok h x

theorem flat_eval {C : Cfg} {base : Nat} {la : LMap} {mu : HMap} {σ : St} {a : Act} {w : World} (h : SR C base la mu σ a.tmps w) {x : Operand} (hf : flat (oval σ.tmps x) = true) :
    a.eval x = oval σ.tmps x := flat_eq hf (eval_ok h x)

/-- What a pure step comes to: a value, the world as it was. -/
def ValOk (P : Program) (la : LMap) (mu : HMap) (s : Sem Next) (w : World) (v : Value) : Prop := ∃ v', s.run P w = .ok (.value v') w ∧ VR la mu v v'

theorem valOk_of {P : Program} {la : LMap} {mu : HMap} {s : Sem Value} {w : World} {v v' : Value} (h : s.run P w = .ok v' w) (hv : VR la mu v v') :
    ValOk P la mu (do pure (.value (← s))) w v := ⟨v', by simp [h], hv⟩

theorem pureEff_ok {C : Cfg} {base : Nat} {la : LMap} {mu : HMap} {σ : St} {a : Act} {w : World} (h : SR C base la mu σ a.tmps w) {o : Oper} {e : Eff}
    (hs : ∀ cs b, o.op ≠ .select cs b) (he : pureEff C (oval σ.tmps) o = some e) : ∃ v, e = .val v ∧ ValOk C.P la mu (execOp a.eval o) w v := by
  unfold pureEff at he
  split at he
  · rename_i hf
    have hc : execOp a.eval o = execOp (oval σ.tmps) o := execOp_congr o hs fun x hx => flat_eval h (all_get' hf hx)
    split at he
    · rename_i v hv
      split at he
      · rename_i hfl
        cases he
        exact ⟨v, rfl, v, by rw [hc]; exact pev_run hv w, .of_flat hfl⟩
      · cases he
    · cases he
  · cases he where
  all_get' {tmps : List Value} {xs : Array Operand} (h : xs.toList.all (fun x => flat (oval tmps x)) = true) {x : Operand} (hx : x ∈ xs) : flat (oval tmps x) = true :=
    List.all_eq_true.1 h x (by simpa using hx)

theorem sym_inv {v : Value} (h : isSym v = true) : ∃ cs k, v = .tuple #[.agg cs] ∧ symKind cs = some k := by
  unfold isSym at h
  split at h
  · rename_i vs
    split at h
    · rename_i cs e
      obtain ⟨k, hk⟩ := Option.isSome_iff_exists.1 h
      refine ⟨cs, k, ?_, hk⟩
      congr 1
      exact Array.toList_inj.1 (by simpa using e)
    · cases h
  · cases h

theorem plain1_eq {la : LMap} {mu : HMap} {v c : Value} (hp : plain1 v = true) (h : VR la mu v c) : c = den1 v := by
  simp only [plain1, Bool.or_eq_true] at hp
  rcases hp with hp | hp
  · rw [scalar_eq hp h]
    unfold Am.scalar at hp
    split at hp <;> first | rfl | cases hp
  · obtain ⟨cs, k, rfl, hk⟩ := sym_inv hp
    cases h with
    | scalar h => simp [Am.scalar] at h
    | tuple hn _ _ => simp at hn
    | sym hk' => simp [den1, hk']

theorem plain1_den {la : LMap} {mu : HMap} {v : Value} (hp : plain1 v = true) : VR la mu v (den1 v) := by
  simp only [plain1, Bool.or_eq_true] at hp
  rcases hp with hp | hp
  · have : den1 v = v := by
      unfold Am.scalar at hp
      split at hp <;> first | rfl | cases hp
    rw [this]
    exact .scalar hp
  · obtain ⟨cs, k, rfl, hk⟩ := sym_inv hp
    simp only [den1, hk]
    exact .sym hk

theorem plain_eq {la : LMap} {mu : HMap} {v c : Value} (hp : plain v = true) (h : VR la mu v c) : c = den v := by
  cases v with
  | agg cs =>
    obtain ⟨ds, rfl, hsz, h⟩ := h.unagg
    simp only [den]
    congr 1
    apply Array.ext (by simpa using hsz.symm)
    intro i h1 h2
    have hi : i < cs.size := by simpa using h2
    have := plain1_eq (all_get (f := plain1) (i := i) (x := cs[i]) hp (by simp [hi])) (h i cs[i] ds[i] (by simp [hi]) (by simp [h1]))
    simpa using this
  | _ => exact plain1_eq hp h

theorem plain_den {la : LMap} {mu : HMap} {v : Value} (hp : plain v = true) : VR la mu v (den v) := by
  cases v with
  | agg cs =>
    simp only [den]
    refine .agg (by simp) fun i x y hx hy => ?_
    have hxp := all_get (f := plain1) (i := i) (x := x) hp (by simpa using hx)
    rw [Array.getElem?_map, hx] at hy
    cases hy
    exact plain1_den hxp
  | _ => exact plain1_den hp

theorem symRel_ok {C : Cfg} {base : Nat} {la : LMap} {mu : HMap} {σ : St} {a : Act} {w : World} (h : SR C base la mu σ a.tmps w) {o : Oper} {v : Value}
    (hs : symRel C σ.tmps o v) : ValOk C.P la mu (execOp a.eval o) w v := by
  obtain ⟨h1, h2, h3, h4⟩ := hs
  have hc : execOp a.eval o = execOp (fun x => den (oval σ.tmps x)) o := execOp_congr o (fun cs b e => by rw [e] at h1; cases h1) fun x hx =>
    plain_eq (List.all_eq_true.1 h2 x (by simpa using hx)) (eval_ok h x)
  exact ⟨den v, by rw [hc]; exact h4 w, plain_den h3⟩

section
variable {C : Cfg} {la : LMap} {mu : HMap} {w : World}

theorem VR.bool {b : Bool} {c : Value} (h : VR la mu (.bool b) c) : c = .bool b := scalar_eq rfl h
theorem VR.int {k : IntKind} {n : Int} {c : Value} (h : VR la mu (.int k n) c) : c = .int k n := scalar_eq rfl h

theorem intOf_ok {v c : Value} {n : Int} (hi : intOf v = some n) (h : VR la mu v c) : ∃ k, c = .int k n := by
  cases v <;> simp [intOf] at hi
  subst hi
  exact ⟨_, h.int⟩

/-- A part of related cells. -/
theorem partA_ok {t : TypeId} {cs ds : Array Value} {off : Nat} {v : Value} (hp : partA C t cs off = some v) (h : VRs la mu cs.toList ds.toList) :
    ∃ v', (part t ds off).run C.P w = .ok v' w ∧ VR la mu v v' := by
  unfold partA at hp
  cases hd : C.P.underlying t with
  | none => rw [hd] at hp; cases hp
  | some d =>
    obtain ⟨i, hi⟩ := underlying_info hd
    have hag := run_isAgg hd w
    have hsz := run_sizeOf hi w
    rw [hd] at hp
    have hsize : cs.size = ds.size := by simpa using h.1
    have main : isAggD d = true → some (Value.agg (cs.extract off (off + C.P.cellsOf t))) = some v →
        ∃ v', (part t ds off).run C.P w = .ok v' w ∧ VR la mu v v' := by
      intro hdd hv
      cases hv
      refine ⟨.agg (ds.extract off (off + C.P.cellsOf t)), by simp [part, hag, hdd, hsz], VRs.agg ?_⟩
      simp only [Array.toList_extract, List.extract]
      exact (h.drop _).take _
    have main2 : isAggD d = false → cs[off]? = some v →
        ∃ v', (part t ds off).run C.P w = .ok v' w ∧ VR la mu v v' := by
      intro hdd hv
      obtain ⟨v', h1, h2⟩ := h.get (i := off) (by simpa using hv)
      exact ⟨v', by simp [part, hag, hdd, (by simpa using h1 : ds[off]? = some v')], h2⟩
    cases d <;> first | exact main rfl hp | exact main2 rfl hp

theorem fieldA_ok {t : TypeId} {x y v : Value} {f : Nat} (hf : fieldA C t x f = some v) (h : VR la mu x y) : ∃ v', (Instr.field t y f).run C.P w = .ok v' w ∧ VR la mu v v' := by
  unfold fieldA at hf
  split at hf
  · rename_i fs cs hu
    obtain ⟨ds, rfl, hds⟩ := h.unagg
    cases hg : fs[f]? with
    | none => rw [hg] at hf; cases hf
    | some fd =>
      rw [hg] at hf
      obtain ⟨v', h1, h2⟩ := partA_ok (w := w) hf hds
      exact ⟨v', by simp [Instr.field, run_underlying hu, hg, asAgg, h1], h2⟩
  · cases hf

theorem indexA_ok {t : TypeId} {x y i j v : Value} (hf : indexA C t x i = some v) (h : VR la mu x y) (hij : VR la mu i j) : ∃ v', (Instr.index t y j).run C.P w = .ok v' w ∧ VR la mu v v' := by
  unfold indexA at hf
  split at hf
  · cases hf
  · rename_i n hn
    obtain ⟨k, rfl⟩ := intOf_ok hn hij
    split at hf
    · rename_i len elem cs hu
      obtain ⟨ds, rfl, hds⟩ := h.unagg
      split at hf
      · rename_i hb
        have hel : ∃ i, C.P.info? elem = some i := by
          unfold partA at hf
          cases hd : C.P.underlying elem with
          | none => rw [hd] at hf; cases hf
          | some d => exact underlying_info hd
        obtain ⟨i, hi⟩ := hel
        obtain ⟨v', h1, h2⟩ := partA_ok (w := w) hf hds
        exact ⟨v', by simp [Instr.index, asIntOf, run_underlying hu, hb.1, hb.2, run_sizeOf hi, h1], h2⟩
      · cases hf
    · rename_i s hu
      have hy := scalar_eq (a := .string s) rfl h
      subst hy
      split at hf
      · rename_i hb
        cases hg : s[n.toNat]? with
        | none => rw [hg] at hf; cases hf
        | some b =>
          rw [hg] at hf
          cases hf
          exact ⟨_, by simp [Instr.index, asIntOf, run_underlying hu, hb, hg], .scalar rfl⟩
      · cases hf
    · cases hf

/-- What an address stands for moves on with it. -/
theorem VR.ptr_add {a : Addr} {c : Value} (h : VR la mu (.pointer (some a)) c) (n : Nat) : ∃ d : Addr, c = .pointer (some d) ∧ d.spot = none ∧ VR la mu (.pointer (some { a with off := a.off + n })) (.pointer (some (d.add n))) := by
  cases h with
  | scalar h => simp [Am.scalar] at h
  | lptr h => exact ⟨_, rfl, rfl, by rw [add_none]; exact .lptr h⟩
  | hptr h => exact ⟨_, rfl, rfl, by rw [add_none, Nat.add_assoc]; exact .hptr h⟩
  | gptr => exact ⟨_, rfl, rfl, by rw [add_none]; exact .gptr⟩

theorem fieldAddrA_ok {t : TypeId} {x y v : Value} {f : Nat} (hf : fieldAddrA C t x f = some v) (h : VR la mu x y) : ∃ v', (Instr.fieldAt t y f).run C.P w = .ok v' w ∧ VR la mu v v' := by
  unfold fieldAddrA at hf
  split at hf
  · rename_i fs a hu
    split at hf
    · rename_i fd hg
      split at hf
      · cases hf
      · rename_i hz
        cases hf
        obtain ⟨i, hi⟩ := cellsOf_info hz
        obtain ⟨d, rfl, hsp, hv⟩ := h.ptr_add fd.offset
        refine ⟨.pointer (some (d.add fd.offset)), ?_, hv⟩
        simp [Instr.fieldAt, run_underlying hu, hg, Instr.sureAddr, fieldPlace, run_sizeOf hi, hz]
    · cases hf
  · cases hf

theorem indexAddrA_ok {t : TypeId} {x y i j v : Value} (hf : indexAddrA C t x i = some v) (h : VR la mu x y) (hij : VR la mu i j) : ∃ v', (Instr.indexAt t y j).run C.P w = .ok v' w ∧ VR la mu v v' := by
  unfold indexAddrA at hf
  split at hf
  · cases hf
  · rename_i n hn
    obtain ⟨k, rfl⟩ := intOf_ok hn hij
    split at hf
    · rename_i len elem a hu
      split at hf
      · cases hf
      · rename_i hz
        obtain ⟨i, hi⟩ := cellsOf_info hz
        split at hf
        · rename_i hb
          cases hf
          obtain ⟨d, rfl, hsp, hv⟩ := h.ptr_add (n.toNat * C.P.cellsOf elem)
          exact ⟨_, by simp [Instr.indexAt, asIntOf, run_underlying hu, Instr.sureAddr, hb.1, hb.2, run_sizeOf hi], hv⟩
        · cases hf
    · rename_i elem a len cx hu
      split at hf
      · cases hf
      · rename_i hz
        obtain ⟨i, hi⟩ := cellsOf_info hz
        split at hf
        · rename_i hb
          cases hf
          cases h with
          | scalar h => simp [Am.scalar] at h
          | hslice h hr hl hx =>
            rename_i id off cap p
            refine ⟨.pointer (some ⟨p.b, p.o + (off + n.toNat * C.P.cellsOf elem), none⟩), ?_, by rw [if_neg (by simp [tag])]; exact .hptr h⟩
            simp [Instr.indexAt, asIntOf, run_underlying hu, hb.1, hb.2, run_sizeOf hi, add_none, Nat.add_assoc]
          | hslice0 hx => simp at hb; omega
          | gslice hl =>
            rename_i g off cap
            refine ⟨.pointer (some ⟨g, off + n.toNat * C.P.cellsOf elem, none⟩), ?_, by rw [if_pos rfl]; exact .gptr⟩
            simp [Instr.indexAt, asIntOf, run_underlying hu, hb.1, hb.2, run_sizeOf hi, add_none]
          | gslice0 => simp at hb; omega
        · cases hf
    · cases hf

end

end
end Go.Am

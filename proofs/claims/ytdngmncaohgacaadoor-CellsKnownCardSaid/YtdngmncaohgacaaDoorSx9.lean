/-
  REGIONS THAT DRAW THEIR ORDER, first part: what an operation looks at.
-/
import Derived.Test.YtdngmncaohgacaaDoorSx8
set_option linter.unusedSectionVars false
set_option linter.unusedSimpArgs false
set_option linter.unusedVariables false
set_option linter.constructorNameAsVariable false
namespace Go.Am
namespace Sx

/-- What an operation does with memory. -/
inductive MC where
  | no
  | row (s : Nat) (w : Bool)
  | hr
  | hw
  | neu (f : FuncId)

def memOf (N : FuncId → Option Nat) (pts : List Nat) (o : Oper) : Option MC :=
  match o.op with
  | .move _ | .assign _ | .pick _ _ _ | .build _ _ | .nilCheck _ | .unOp _ _ _ | .convert _ _ _ | .fieldAddr _ _ _ | .field _ _ _ | .indexAddr _ _ _ | .index _ _ _ | .extract _ _ => some .no
  | .binOp _ _ _ _ _ => some .no
  | .makeFunc _ _ _ => some .no
  | .load _ a => match keyOf pts a with
    | 0 => some .hr
    | 1 => some .no
    | s + 2 => some (.row s false)
  | .store _ a _ => match keyOf pts a with
    | 0 => some .hw
    | 1 => none
    | s + 2 => some (.row s true)
  | .alloc _ | .box _ _ => match o.dst with
    | some d => if pts.getD d 0 = d + 2 then some (.row d true) else some .hw
    | none => none
  | .buildSlice _ _ _ | .makeMap _ _ | .makeSlice _ _ _ | .mapUpdate _ _ _ _ | .mapEntry _ _ _ | .entryStore _ _ _ _ | .insert _ _ _ _ => some .hw
  | .lookup _ _ _ _ | .slice _ _ _ _ _ => some .hr
  | .call c => match c.callee with
    | .builtin b => match b with
      | .append | .copy | .delete => some .hw
      | .len => some .hr
      | .cap | .min | .max => some .no
      | _ => none
    | .value f => match f with
      | .func g => some (if N g = some c.args.size then .neu g else .hw)
      | _ => some .hw
    | _ => none
  | _ => none

def readsOf (ops : Array Oper) (o : Oper) : List Nat :=
  (o.op.operands.toList.filterMap fun x => match x with
    | .tmp t => some t
    | _ => none) ++
  match o.guard with
  | some (j, _) => ((ops[j]?).bind (·.dst)).toList
  | none => []

section
variable [Val]

/-- The same operands, the same operation. -/
theorem execOp_congr {ρ ρ' : Operand → Value} {o : Oper} (N : FuncId → Option Nat) (pts : List Nat) (hm : memOf N pts o ≠ none) (h : ∀ x ∈ o.op.operands.toList, ρ x = ρ' x) : execOp ρ o = execOp ρ' o := by
  obtain ⟨dst, op, ty, pos, after, guard⟩ := o
  have arr : ∀ {xs : Array Operand}, (∀ x ∈ xs.toList, ρ x = ρ' x) → xs.map ρ = xs.map ρ' := by
    intro xs hx
    apply Array.toList_inj.1
    rw [Array.toList_map, Array.toList_map]
    exact List.map_congr_left hx
  have prt : ∀ {xs : Array (Nat × Operand)}, (∀ x ∈ xs.toList.map (·.2), ρ x = ρ' x) → (xs.map fun (i, x) => (i, ρ x)) = (xs.map fun (i, x) => (i, ρ' x)) := by
    intro xs hx
    apply Array.toList_inj.1
    rw [Array.toList_map, Array.toList_map]
    refine List.map_congr_left fun p hp => ?_
    show (p.1, ρ p.2) = (p.1, ρ' p.2)
    rw [hx p.2 (List.mem_map.2 ⟨p, hp, rfl⟩)]
  have opt : ∀ {r : Option Operand}, (∀ x ∈ r.toArray.toList, ρ x = ρ' x) → r.map ρ = r.map ρ' := by
    intro r hx
    cases r with
    | none => rfl
    | some y => simp [hx y (by simp)]
  cases op <;> simp only [memOf, ne_eq, not_true_eq_false, not_false_eq_true, reduceCtorEq] at hm <;> simp only [Op.operands] at h
  case move x => simp only [execOp, h x (by simp)]
  case assign x => simp only [execOp, h x (by simp)]
  case pick c a b => simp only [execOp, h c (by simp), h a (by simp), h b (by simp)]
  case alloc t => rfl
  case box t x => simp only [execOp, h x (by simp)]
  case build t ps => simp only [execOp, prt (by simpa using h)]
  case buildSlice t n ps => simp only [execOp, prt (by simpa using h)]
  case load t a => simp only [execOp, h a (by simp)]
  case store t a x => simp only [execOp, h a (by simp), h x (by simp)]
  case nilCheck x => simp only [execOp, h x (by simp)]
  case binOp op t x y yt => simp only [execOp, h x (by simp), h y (by simp)]
  case unOp op t x => simp only [execOp, h x (by simp)]
  case convert s d x => simp only [execOp, h x (by simp)]
  case makeFunc fn a b => simp only [execOp, arr (fun x hx => h x (by simp; exact .inl (by simpa using hx))), arr (fun x hx => h x (by simp; exact .inr (by simpa using hx)))]
  case makeMap t r => simp only [execOp, opt h]
  case makeSlice t a b => simp only [execOp, h a (by simp), h b (by simp)]
  case slice t x a b c =>
    simp only [Array.toList_append, List.mem_append] at h
    simp only [execOp, h x (by simp), opt (fun y hy => h y (.inl (.inl (.inr hy)))), opt (fun y hy => h y (.inl (.inr hy))), opt (fun y hy => h y (.inr hy))]
  case fieldAddr t x f => simp only [execOp, h x (by simp)]
  case field t x f => simp only [execOp, h x (by simp)]
  case indexAddr t x i => simp only [execOp, h x (by simp), h i (by simp)]
  case index t x i => simp only [execOp, h x (by simp), h i (by simp)]
  case lookup t x i ok => simp only [execOp, h x (by simp), h i (by simp)]
  case mapUpdate t m k v => simp only [execOp, h m (by simp), h k (by simp), h v (by simp)]
  case insert t m k v => simp only [execOp, h m (by simp), h k (by simp), h v (by simp)]
  case mapEntry t m k => simp only [execOp, h m (by simp), h k (by simp)]
  case entryStore t m s v => simp only [execOp, h m (by simp), h s (by simp), h v (by simp)]
  case extract t i => simp only [execOp, h t (by simp)]
  case call c =>
    have hres : resolve ρ c ty = resolve ρ' c ty := by
      unfold resolve
      simp only [Call.operands, Array.toList_append, List.mem_append] at h
      rw [arr (fun x hx => h x (.inr hx))]
      cases hc : c.callee with
      | builtin b => rfl
      | value f => simp only [hc] at h ⊢; rw [h f (.inl (by simp))]
      | invoke r m => simp only [hc] at h ⊢; rw [h r (.inl (by simp))]
    simp only [execOp, hres]

theorem effOf_congr {C : Cfg} {ρ ρ' : Operand → Value} {o : Oper} (N : FuncId → Option Nat) (pts : List Nat) (hm : memOf N pts o ≠ none) (h : ∀ x ∈ o.op.operands.toList, ρ x = ρ' x) : effOf C pts ρ o = effOf C pts ρ' o := by
  have hx := execOp_congr N pts hm h
  have hall : ∀ (f : Value → Bool), (o.op.operands.toList.all fun x => f (ρ x)) = (o.op.operands.toList.all fun x => f (ρ' x)) := by
    intro f
    rw [Bool.eq_iff_iff, List.all_eq_true, List.all_eq_true]
    exact ⟨fun g x hx => by rw [← h x hx]; exact g x hx, fun g x hx => by rw [h x hx]; exact g x hx⟩
  have hp : pureEff C ρ o = pureEff C ρ' o := by
    unfold pureEff
    rw [hall flat, hx]
  have opt : ∀ {r : Option Operand}, (∀ x ∈ r.toArray.toList, ρ x = ρ' x) → r.map ρ = r.map ρ' := by
    intro r hx
    cases r with
    | none => rfl
    | some y => simp [hx y (by simp)]
  have prt : ∀ {xs : Array (Nat × Operand)}, (∀ x ∈ xs.toList.map (·.2), ρ x = ρ' x) → (xs.toList.map fun p => (p.1, ρ p.2)) = (xs.toList.map fun p => (p.1, ρ' p.2)) := by
    intro xs hx
    refine List.map_congr_left fun p hp => ?_
    rw [hx p.2 (List.mem_map.2 ⟨p, hp, rfl⟩)]
  have pal : ∀ (f : Value → Bool) {xs : Array (Nat × Operand)}, (∀ x ∈ xs.toList.map (·.2), ρ x = ρ' x) → (xs.toList.all fun p => f (ρ p.2)) = (xs.toList.all fun p => f (ρ' p.2)) := by
    intro f xs hx
    rw [Bool.eq_iff_iff, List.all_eq_true, List.all_eq_true]
    have hh : ∀ p ∈ xs.toList, ρ p.2 = ρ' p.2 := fun p hp => hx p.2 (List.mem_map.2 ⟨p, hp, rfl⟩)
    exact ⟨fun g p hp => by rw [← hh p hp]; exact g p hp, fun g p hp => by rw [hh p hp]; exact g p hp⟩
  obtain ⟨dst, op, ty, pos, after, guard⟩ := o
  cases op <;> simp only [memOf, ne_eq, not_true_eq_false, not_false_eq_true, reduceCtorEq] at hm <;> simp only [Op.operands] at h
  case move x => simp only [effOf, h x (by simp)]
  case assign x => simp only [effOf, h x (by simp)]
  case pick c a b => simp only [effOf, h c (by simp), h a (by simp), h b (by simp)]
  case alloc t => rfl
  case box t x => simp only [effOf, h x (by simp)]
  case build t ps => simp only [effOf, prt (by simpa using h), pal (fun v => !isTuple v) (by simpa using h)]
  case buildSlice t n ps => simp only [effOf, prt (by simpa using h), pal (fun v => v.cells.toList.all cellOk) (by simpa using h)]
  case load t a => simp only [effOf, h a (by simp)]
  case store t a x => simp only [effOf, h a (by simp), h x (by simp)]
  case nilCheck x => simp only [effOf, h x (by simp)]
  case binOp op t x y yt => simp only [effOf, h x (by simp), h y (by simp), hp]
  case unOp op t x => simp only [effOf, hp]
  case convert s d x => simp only [effOf, hp]
  case makeFunc fn a b =>
    have e1 : a.map ρ = a.map ρ' := Array.toList_inj.1 (by rw [Array.toList_map, Array.toList_map]; exact List.map_congr_left fun x hx => h x (by simp; exact .inl (by simpa using hx)))
    have e2 : b.map ρ = b.map ρ' := Array.toList_inj.1 (by rw [Array.toList_map, Array.toList_map]; exact List.map_congr_left fun x hx => h x (by simp; exact .inr (by simpa using hx)))
    simp only [effOf, e1, e2]
  case makeMap t r => simp only [effOf, opt h]
  case makeSlice t a b => simp only [effOf, h a (by simp), h b (by simp)]
  case slice t x a b c =>
    simp only [Array.toList_append, List.mem_append] at h
    simp only [effOf, h x (by simp), opt (fun y hy => h y (.inl (.inl (.inr hy)))), opt (fun y hy => h y (.inl (.inr hy))), opt (fun y hy => h y (.inr hy)), hp]
  case fieldAddr t x f => simp only [effOf, h x (by simp)]
  case field t x f => simp only [effOf, h x (by simp)]
  case indexAddr t x i => simp only [effOf, h x (by simp), h i (by simp)]
  case index t x i => simp only [effOf, h x (by simp), h i (by simp)]
  case lookup t x i ok => simp only [effOf, h x (by simp), h i (by simp)]
  case mapUpdate t m k v => simp only [effOf, h m (by simp), h k (by simp), h v (by simp)]
  case insert t m k v => simp only [effOf, h m (by simp), h k (by simp), h v (by simp)]
  case mapEntry t m k => simp only [effOf, h m (by simp), h k (by simp)]
  case entryStore t m s v => simp only [effOf, h m (by simp), h s (by simp), h v (by simp)]
  case extract t i => simp only [effOf, h t (by simp)]
  case call c =>
    simp only [Call.operands, Array.toList_append, List.mem_append] at h
    have e1 : c.args.toList.map ρ = c.args.toList.map ρ' := List.map_congr_left fun x hx => h x (.inr hx)
    have e2 : ∀ b, builtinEff C ρ b (c.args.toList.map ρ) c.argTypes ⟨dst, .call c, ty, pos, after, guard⟩ = builtinEff C ρ' b (c.args.toList.map ρ') c.argTypes ⟨dst, .call c, ty, pos, after, guard⟩ := by
      intro b
      unfold builtinEff
      rw [e1, hp]
    simp only [effOf, callEff]
    cases hc : c.callee with
    | builtin b => exact e2 b
    | value f => simp only [hc] at h ⊢; rw [e1, h f (.inl (by simp))]
    | invoke r m => rfl

/-! ### What an operation does, wherever it stands -/

/-- A value, a row, a heap. -/
structure Ef where
  v : Value
  rw : Option (Nat × Option (List Value))
  hp : Option (List HObj)
def Ef.on (e : Ef) (dst : Option Tmp) (σ : St) : St :=
  ({ tmps := σ.tmps, loc := (match e.rw with | some p => σ.loc.set p.1 p.2 | none => σ.loc), heap := e.hp.getD σ.heap } : St).put dst e.v

/-- What is looked at is the same. -/
def Sees (N : FuncId → Option Nat) (pts : List Nat) (ops : Array Oper) (o : Oper) (σ τ : St) : Prop :=
  (∀ t ∈ readsOf ops o, τ.tmps[t]? = σ.tmps[t]?) ∧ match memOf N pts o with
  | some (.row s _) => τ.loc[s]? = σ.loc[s]?
  | some .hr => τ.heap = σ.heap
  | some .hw => τ.heap = σ.heap
  | _ => True

/-- Calls that have nothing to do with the heap. -/
def NeuB (N : FuncId → Option Nat) (B : Below) : Prop := ∀ f args H r H', N f = some args.length → B.call f args H r H' → H' = H ∧ ∀ H2, B.call f args H2 r H2

/-- What an operation of a class may touch. -/
def Touch (m : Option MC) (e : Ef) : Prop :=
  (∀ p, e.rw = some p → m = some (.row p.1 true)) ∧ (e.hp ≠ none → m = some .hw)

theorem oval_congr {σ τ : St} {x : Operand} (h : ∀ t, x = .tmp t → τ.tmps[t]? = σ.tmps[t]?) : oval τ.tmps x = oval σ.tmps x := by
  cases x with
  | tmp t => simp [oval, List.getD_eq_getElem?_getD, h t rfl]
  | _ => rfl

theorem sees_ops {N : FuncId → Option Nat} {pts : List Nat} {ops : Array Oper} {o : Oper} {σ τ : St} (h : Sees N pts ops o σ τ) : ∀ x ∈ o.op.operands.toList, oval τ.tmps x = oval σ.tmps x := by
  intro x hx
  refine oval_congr fun t ht => h.1 t ?_
  subst ht
  simp only [readsOf, List.mem_append, List.mem_filterMap]
  exact .inl ⟨.tmp t, hx, rfl⟩

theorem wanted_congr {N : FuncId → Option Nat} {pts : List Nat} {ops : Array Oper} {o : Oper} {σ τ : St} (h : Sees N pts ops o σ τ) : wantedA ops τ.tmps o = wantedA ops σ.tmps o := by
  unfold wantedA
  split
  · rfl
  · rename_i j want hg
    cases hd : (ops[j]?).bind (·.dst) with
    | none => rfl
    | some d =>
      simp only [Option.bind_some]
      rw [h.1 d (by simp [readsOf, hg, hd])]

/-- What an effect is, its operation's class tells. -/
def Fits (N : FuncId → Option Nat) (m : Option MC) : Eff → Prop
  | .val _ => True
  | .lnew s _ => m = some (.row s true)
  | .lget s _ => m = some (.row s false)
  | .lset s _ => m = some (.row s true)
  | .hget _ => m = some .hr
  | .hop _ => m = some .hw
  | .call f args => (m = some (.neu f) ∧ N f = some args.length) ∨ m = some .hw
  | .yield _ _ => m = some .hw

theorem fits_map {N : FuncId → Option Nat} {m : Option MC} {x : Option Value} {e : Eff} (h : x.map Eff.val = some e) : Fits N m e := by
  obtain ⟨v, _, rfl⟩ := Option.map_eq_some_iff.1 h
  trivial
theorem fits_pure {C : Cfg} {ρ : Operand → Value} {o : Oper} {N : FuncId → Option Nat} {m : Option MC} {e : Eff} (h : pureEff C ρ o = some e) : Fits N m e := by
  unfold pureEff at h
  split at h
  · split at h
    · split at h
      · cases h; trivial
      · cases h
    · cases h
  · cases h
theorem fits_or {N : FuncId → Option Nat} {m : Option MC} {a : Option Value} {b : Option Eff} {e : Eff} (hb : b = some e → Fits N m e) (h : orElse a b = some e) : Fits N m e := by
  unfold orElse at h
  split at h
  · cases h; trivial
  · exact hb h

theorem fits_newVar {C : Cfg} {N : FuncId → Option Nat} {pts : List Nat} {o : Oper} {t : TypeId} {v : Value} {e : Eff} (ho : (∃ y, o.op = .box t y) ∨ o.op = .alloc t) (h : newVarEff C pts o.dst t v = some e) : Fits N (memOf N pts o) e := by
  unfold newVarEff at h
  split at h
  · cases h
  · split at h
    · cases h
    · rename_i d hd
      split at h
      · cases h
      · split at h
        · rename_i hp
          cases h
          rcases ho with ⟨y, ho⟩ | ho <;> (simp only [Fits, memOf, ho, hd]; rw [if_pos hp])
        · rename_i hp
          cases h
          rcases ho with ⟨y, ho⟩ | ho <;> (simp only [Fits, memOf, ho, hd]; rw [if_neg hp])

theorem fits_ok {C : Cfg} {N : FuncId → Option Nat} {pts : List Nat} {ρ : Operand → Value} {o : Oper} {e : Eff} (hρ : ∀ g, ρ (.func g) = .func (.func g) #[] #[]) (hm : memOf N pts o ≠ none) (he : effOf C pts ρ o = some e) : Fits N (memOf N pts o) e := by
  unfold effOf at he
  split at he
  · cases he; trivial
  · cases he; trivial
  · split at he
    · cases he; trivial
    · cases he
  · rename_i t ho
    obtain ⟨z, _, he⟩ := Option.bind_eq_some_iff.1 he
    exact fits_newVar (.inr ho) he
  · rename_i t x ho
    exact fits_newVar (.inl ⟨x, ho⟩) he
  · split at he
    · exact fits_map he
    · cases he
  · rename_i t n ps ho
    split at he
    · obtain ⟨r, _, rfl⟩ := Option.map_eq_some_iff.1 he
      simp only [Fits, memOf, ho]
    · cases he
  · rename_i t a ho
    unfold loadEff at he
    split at he
    · rename_i hk
      obtain ⟨p, _, rfl⟩ := Option.map_eq_some_iff.1 he
      simp only [Fits, memOf, ho, hk]
    · obtain ⟨p, _, he⟩ := Option.bind_eq_some_iff.1 he
      exact fits_map he
    · rename_i s hk
      obtain ⟨p, _, rfl⟩ := Option.map_eq_some_iff.1 he
      simp only [Fits, memOf, ho, hk]
  · rename_i t a x ho
    unfold storeEff at he
    split at he
    · cases he
    · split at he
      · rename_i hk
        obtain ⟨p, _, rfl⟩ := Option.map_eq_some_iff.1 he
        simp only [Fits, memOf, ho, hk]
      · cases he
      · rename_i s hk
        obtain ⟨p, _, rfl⟩ := Option.map_eq_some_iff.1 he
        simp only [Fits, memOf, ho, hk]
  · split at he <;> cases he <;> trivial
  · split at he
    · split at he
      · split at he
        · cases he; trivial
        · cases he
      · exact fits_pure he
    · split at he
      · split at he
        · cases he; trivial
        · cases he
      · exact fits_pure he
    · exact fits_pure he
  · split at he
    · cases he
    · cases he; trivial
  · rename_i t r ho
    split at he
    · cases he; simp only [Fits, memOf, ho]
    · cases he
  · rename_i t l c ho
    cases he; simp only [Fits, memOf, ho]
  · rename_i t x lo hi mx ho
    split at he
    · split at he
      · exact fits_map he
      · cases he; simp only [Fits, memOf, ho]
    · exact fits_or fits_pure he
  · exact fits_map he
  · exact fits_map he
  · exact fits_map he
  · exact fits_map he
  · rename_i t m k ok ho
    split at he
    · exact fits_map he
    · cases he; simp only [Fits, memOf, ho]
  · rename_i t m k v ho
    cases he; simp only [Fits, memOf, ho]
  · rename_i t m k v ho
    cases he; simp only [Fits, memOf, ho]
  · rename_i t m k ho
    cases he; simp only [Fits, memOf, ho]
  · rename_i t m s v ho
    cases he; simp only [Fits, memOf, ho]
  · split at he
    · split at he
      · cases he
      · exact fits_map he
    · cases he
  · rename_i c ho
    unfold callEff at he
    simp only at he
    cases hc : c.callee with
    | invoke r m => simp only [hc] at he; cases he
    | builtin b =>
      simp only [hc] at he
      unfold builtinEff at he
      split at he
      · split at he
        · cases he
        · cases he; simp only [Fits, memOf, ho, hc]
      · split at he
        · cases he; trivial
        · cases he; simp only [Fits, memOf, ho, hc]
        · cases he; trivial
        · exact fits_pure he
      · split at he
        · cases he; trivial
        · cases he; trivial
        · cases he; trivial
        · cases he
      · cases he; simp only [Fits, memOf, ho, hc]
      · cases he; simp only [Fits, memOf, ho, hc]
      · exact fits_pure he
    | value f =>
      simp only [hc] at he
      split at he
      · cases he
      · split at he
        · rename_i g first cap hf
          split at he
          · cases he
            cases f with
            | func g' =>
              rw [hρ] at hf
              cases hf
              simp only [memOf, ho, hc, Fits]
              by_cases hN : N g = some c.args.size
              · rw [if_pos hN]; exact .inl ⟨rfl, by rw [hN]; simp⟩
              · rw [if_neg hN]; exact .inr rfl
            | _ => simp only [Fits, memOf, ho, hc, or_true]
          · cases he
        · rename_i l first cap hf
          split at he
          · cases he
            cases f with
            | func g' => rw [hρ] at hf; cases hf
            | _ => simp only [Fits, memOf, ho, hc]
          · cases he
        · cases he
  · exact fits_pure he
  · exact fits_pure he
  · cases he

/-- LOCALITY. -/
theorem local_ok {C : Cfg} {B : Below} {N : FuncId → Option Nat} (hN : NeuB N B) {pts : List Nat} {ops : Array Oper} {i : Nat} {o : Oper} (hi : ops[i]? = some o) (hm : memOf N pts o ≠ none) {σ σ' : St} (hs : stepRel C B pts ops i σ σ') :
    ∃ e : Ef, σ' = e.on o.dst σ ∧ Touch (memOf N pts o) e ∧ ∀ τ, Sees N pts ops o σ τ → stepRel C B pts ops i τ (e.on o.dst τ) := by
  unfold stepRel at hs
  simp only [hi] at hs
  have val : ∀ v : Value, σ' = σ.put o.dst v → (∀ τ, Sees N pts ops o σ τ → stepRel C B pts ops i τ (τ.put o.dst v)) →
      ∃ e : Ef, σ' = e.on o.dst σ ∧ Touch (memOf N pts o) e ∧ ∀ τ, Sees N pts ops o σ τ → stepRel C B pts ops i τ (e.on o.dst τ) := by
    intro v hv h
    exact ⟨⟨v, none, none⟩, hv, ⟨fun p hp => (by cases hp), fun h => absurd rfl h⟩, h⟩
  split at hs
  · exact hs.elim
  · rename_i hw
    refine val undef hs fun τ hτ => ?_
    unfold stepRel
    simp only [hi, wanted_congr hτ, hw]
  · rename_i hw
    have step : ∀ {τ τ' : St}, Sees N pts ops o σ τ → ((∃ e, effOf C pts (oval τ.tmps) o = some e ∧ effRel B e o.dst τ τ') ∨ (∃ v, symRel C τ.tmps o v ∧ τ' = τ.put o.dst v)) → stepRel C B pts ops i τ τ' := by
      intro τ τ' hτ h
      unfold stepRel
      simp only [hi, wanted_congr hτ, hw]
      exact h
    rcases hs with ⟨e, he, hr⟩ | ⟨v, hv, rfl⟩
    · have heτ : ∀ τ, Sees N pts ops o σ τ → effOf C pts (oval τ.tmps) o = some e := fun τ hτ => by
        rw [effOf_congr N pts hm (sees_ops hτ)]; exact he
      cases e with
      | val v =>
        obtain ⟨p, hp, rfl⟩ := hr
        cases hp
        exact val v rfl fun τ hτ => step hτ (.inl ⟨_, heτ τ hτ, _, rfl, rfl⟩)
      | lnew s vs =>
        obtain ⟨p, hp, rfl⟩ := hr
        simp only [applyEff] at hp
        split at hp
        · rename_i hloc
          cases hp
          have hclass : memOf N pts o = some (.row s true) := fits_ok (fun _ => rfl) hm he
          refine ⟨⟨.pointer (some ⟨s, 0, some 0⟩), some (s, some vs), none⟩, rfl, ⟨fun p hp => by cases hp; exact hclass, fun h => absurd rfl h⟩, fun τ hτ => step hτ (.inl ⟨_, heτ τ hτ, ({ τ with loc := τ.loc.set s (some vs) }, .pointer (some ⟨s, 0, some 0⟩)), ?_, rfl⟩)⟩
          have := hτ.2
          rw [hclass] at this
          simp only [applyEff, this, hloc]
        · cases hp
      | lget s f =>
        obtain ⟨p, hp, rfl⟩ := hr
        simp only [applyEff] at hp
        split at hp
        · rename_i vs hloc
          obtain ⟨v, hv, rfl⟩ := Option.map_eq_some_iff.1 hp
          have hclass : memOf N pts o = some (.row s false) := fits_ok (fun _ => rfl) hm he
          refine val v rfl fun τ hτ => step hτ (.inl ⟨_, heτ τ hτ, (τ, v), ?_, rfl⟩)
          have := hτ.2
          rw [hclass] at this
          simp only [applyEff, this, hloc, hv, Option.map_some]
        · cases hp
      | lset s f =>
        obtain ⟨p, hp, rfl⟩ := hr
        simp only [applyEff] at hp
        split at hp
        · rename_i vs hloc
          obtain ⟨vs', hv, rfl⟩ := Option.map_eq_some_iff.1 hp
          have hclass : memOf N pts o = some (.row s true) := fits_ok (fun _ => rfl) hm he
          refine ⟨⟨undef, some (s, some vs'), none⟩, rfl, ⟨fun p hp => by cases hp; exact hclass, fun h => absurd rfl h⟩, fun τ hτ => step hτ (.inl ⟨_, heτ τ hτ, ({ τ with loc := τ.loc.set s (some vs') }, undef), ?_, rfl⟩)⟩
          have := hτ.2
          rw [hclass] at this
          simp only [applyEff, this, hloc, hv, Option.map_some]
        · cases hp
      | hget f =>
        obtain ⟨p, hp, rfl⟩ := hr
        simp only [applyEff] at hp
        obtain ⟨v, hv, rfl⟩ := Option.map_eq_some_iff.1 hp
        have hclass : memOf N pts o = some .hr := fits_ok (fun _ => rfl) hm he
        refine val v rfl fun τ hτ => step hτ (.inl ⟨_, heτ τ hτ, (τ, v), ?_, rfl⟩)
        have := hτ.2
        rw [hclass] at this
        simp only [applyEff, this, hv, Option.map_some]
      | hop f =>
        obtain ⟨p, hp, rfl⟩ := hr
        simp only [applyEff] at hp
        obtain ⟨q, hv, rfl⟩ := Option.map_eq_some_iff.1 hp
        have hclass : memOf N pts o = some .hw := fits_ok (fun _ => rfl) hm he
        refine ⟨⟨q.2, none, some q.1⟩, rfl, ⟨fun p hp => (by cases hp), fun _ => hclass⟩, fun τ hτ => step hτ (.inl ⟨_, heτ τ hτ, ({ τ with heap := q.1 }, q.2), ?_, rfl⟩)⟩
        have := hτ.2
        rw [hclass] at this
        simp only [applyEff, this, hv, Option.map_some]
      | call f args =>
        obtain ⟨r, H, hc, rfl⟩ := hr
        have hclass : (memOf N pts o = some (.neu f) ∧ N f = some args.length) ∨ memOf N pts o = some .hw := fits_ok (fun _ => rfl) hm he
        rcases hclass with ⟨hclass, hf⟩ | hclass
        · obtain ⟨rfl, h2⟩ := hN f args _ r H hf hc
          exact val r rfl fun τ hτ => step hτ (.inl ⟨_, heτ τ hτ, r, τ.heap, h2 τ.heap, rfl⟩)
        · refine ⟨⟨r, none, some H⟩, rfl, ⟨fun p hp => (by cases hp), fun _ => hclass⟩, fun τ hτ => step hτ (.inl ⟨_, heτ τ hτ, r, H, ?_, rfl⟩)⟩
          have := hτ.2
          rw [hclass] at this
          rw [this]; exact hc
      | yield l args =>
        obtain ⟨r, H, hc, rfl⟩ := hr
        have hclass : memOf N pts o = some .hw := fits_ok (fun _ => rfl) hm he
        refine ⟨⟨r, none, some H⟩, rfl, ⟨fun p hp => (by cases hp), fun _ => hclass⟩, fun τ hτ => step hτ (.inl ⟨_, heτ τ hτ, r, H, ?_, rfl⟩)⟩
        have := hτ.2
        rw [hclass] at this
        rw [this]; exact hc
    · refine val v rfl fun τ hτ => step hτ (.inr ⟨v, ?_, rfl⟩)
      obtain ⟨h1, h2, h3, h4⟩ := hv
      have hops := sees_ops hτ
      refine ⟨h1, ?_, h3, fun w => ?_⟩
      · rw [List.all_eq_true] at h2 ⊢
        intro x hx
        rw [hops x hx]; exact h2 x hx
      · rw [execOp_congr N pts hm (ρ' := fun x => den (oval σ.tmps x)) fun x hx => by rw [hops x hx]]
        exact h4 w

/-! ### Two operations -/

def MC.ok2 : MC → MC → Bool
  | .no, _ => true
  | _, .no => true
  | .row s w, .row s' w' => !Nat.beq s s' || (!w && !w')
  | .row _ _, _ => true
  | _, .row _ _ => true
  | .neu _, _ => true
  | _, .neu _ => true
  | .hr, .hr => true
  | _, _ => false
def dstFree (d : Option Tmp) (l : List Nat) : Bool := match d with
  | some d => !l.contains d
  | none => true
def dstsDiffer (a b : Option Tmp) : Bool := match a, b with
  | some a, some b => !Nat.beq a b
  | _, _ => true
/-- May two operations change places? -/
def comm2 (N : FuncId → Option Nat) (pts : List Nat) (ops : Array Oper) (a b : Oper) : Bool :=
  match memOf N pts a, memOf N pts b with
  | some m, some n => m.ok2 n && dstFree a.dst (readsOf ops b) && dstFree b.dst (readsOf ops a) && dstsDiffer a.dst b.dst
  | _, _ => false

theorem put_get {σ : St} {d : Option Tmp} {v : Value} {t : Nat} (h : ∀ x, d = some x → x ≠ t) : (σ.put d v).tmps[t]? = σ.tmps[t]? := by
  cases d with
  | none => rfl
  | some x => simp only [St.put]; rw [List.getElem?_set_ne (h x rfl)]
theorem put_loc {σ : St} {d : Option Tmp} {v : Value} : (σ.put d v).loc = σ.loc := by cases d <;> rfl
theorem put_heap {σ : St} {d : Option Tmp} {v : Value} : (σ.put d v).heap = σ.heap := by cases d <;> rfl
theorem put_tmps {σ : St} {d : Option Tmp} {v : Value} : (σ.put d v).tmps = (match d with | some d => σ.tmps.set d v | none => σ.tmps) := by cases d <;> rfl

theorem on_tmps {e : Ef} {d : Option Tmp} {σ : St} : (e.on d σ).tmps = (match d with | some d => σ.tmps.set d e.v | none => σ.tmps) := by unfold Ef.on; rw [put_tmps]
theorem on_loc {e : Ef} {d : Option Tmp} {σ : St} : (e.on d σ).loc = (match e.rw with | some p => σ.loc.set p.1 p.2 | none => σ.loc) := by unfold Ef.on; rw [put_loc]
theorem on_heap {e : Ef} {d : Option Tmp} {σ : St} : (e.on d σ).heap = e.hp.getD σ.heap := by unfold Ef.on; rw [put_heap]

/-- What one operation does, the other one does not see. -/
theorem unseen {N : FuncId → Option Nat} {pts : List Nat} {ops : Array Oper} {a b : Oper} {m n : MC} (ha : memOf N pts a = some m) (hb : memOf N pts b = some n) (hok : m.ok2 n = true ∨ n.ok2 m = true)
    (hd : dstFree a.dst (readsOf ops b) = true) {e : Ef} (ht : Touch (memOf N pts a) e) (σ : St) : Sees N pts ops b σ (e.on a.dst σ) := by
  refine ⟨fun t hr => ?_, ?_⟩
  · unfold Ef.on
    refine put_get fun x hx he => ?_
    subst he
    rw [hx] at hd
    simp only [dstFree, Bool.not_eq_true', List.contains_eq_mem, decide_eq_false_iff_not] at hd
    exact hd hr
  · rw [ha] at ht
    rw [hb]
    cases n with
    | no => trivial
    | neu f => trivial
    | row s w =>
      show (e.on a.dst σ).loc[s]? = _
      rw [on_loc]
      cases hrw : e.rw with
      | none => rfl
      | some p =>
        have hm := ht.1 p hrw
        cases hm
        have : p.1 ≠ s := by
          intro he
          subst he
          rcases hok with h | h <;> simp [MC.ok2] at h
        show (σ.loc.set p.1 p.2)[s]? = _
        rw [List.getElem?_set_ne this]
    | hr =>
      show (e.on a.dst σ).heap = _
      rw [on_heap]
      cases hh : e.hp with
      | none => rfl
      | some H =>
        have hm := ht.2 (by rw [hh]; simp)
        cases hm
        rcases hok with h | h <;> cases h
    | hw =>
      show (e.on a.dst σ).heap = _
      rw [on_heap]
      cases hh : e.hp with
      | none => rfl
      | some H =>
        have hm := ht.2 (by rw [hh]; simp)
        cases hm
        rcases hok with h | h <;> cases h

theorem set_comm {α : Type} (l : List α) {i j : Nat} (a b : α) (h : i ≠ j) : (l.set i a).set j b = (l.set j b).set i a := List.set_comm _ _ h

theorem on_comm {N : FuncId → Option Nat} {pts : List Nat} {a b : Oper} {m n : MC} (ha : memOf N pts a = some m) (hb : memOf N pts b = some n) (hok : m.ok2 n = true) (hd : dstsDiffer a.dst b.dst = true) {e f : Ef}
    (ht : Touch (memOf N pts a) e) (hu : Touch (memOf N pts b) f) (σ : St) : f.on b.dst (e.on a.dst σ) = e.on a.dst (f.on b.dst σ) := by
  have h1 : (f.on b.dst (e.on a.dst σ)).tmps = (e.on a.dst (f.on b.dst σ)).tmps := by
    simp only [on_tmps]
    cases hx : a.dst with
    | none => rfl
    | some x =>
      cases hy : b.dst with
      | none => rfl
      | some y =>
        rw [hx, hy] at hd
        have : x ≠ y := by
          intro he; subst he; simp [dstsDiffer] at hd
        exact set_comm _ _ _ this
  have h2 : (f.on b.dst (e.on a.dst σ)).loc = (e.on a.dst (f.on b.dst σ)).loc := by
    simp only [on_loc]
    cases hx : e.rw with
    | none => rfl
    | some p =>
      cases hy : f.rw with
      | none => rfl
      | some q =>
        have e1 := ht.1 p hx
        have e2 := hu.1 q hy
        rw [ha] at e1
        rw [hb] at e2
        cases e1; cases e2
        have : p.1 ≠ q.1 := by
          intro he
          rw [he] at hok
          simp [MC.ok2] at hok
        exact set_comm _ _ _ this
  have h3 : (f.on b.dst (e.on a.dst σ)).heap = (e.on a.dst (f.on b.dst σ)).heap := by
    simp only [on_heap]
    cases hx : e.hp with
    | none => rfl
    | some p =>
      cases hy : f.hp with
      | none => rfl
      | some q =>
        have e1 := ht.2 (by rw [hx]; simp)
        have e2 := hu.2 (by rw [hy]; simp)
        rw [ha] at e1
        rw [hb] at e2
        cases e1; cases e2
        cases hok
  generalize f.on b.dst (e.on a.dst σ) = x at *
  generalize e.on a.dst (f.on b.dst σ) = y at *
  cases x; cases y
  simp only at h1 h2 h3
  subst h1; subst h2; subst h3
  rfl

/-- TWO OPERATIONS CHANGE PLACES. -/
theorem swap_ok {C : Cfg} {B : Below} {N : FuncId → Option Nat} (hN : NeuB N B) {pts : List Nat} {ops : Array Oper} {i j : Nat} {a b : Oper} (hi : ops[i]? = some a) (hj : ops[j]? = some b) (hc : comm2 N pts ops a b = true) {σ σ₁ σ' : St}
    (h1 : stepRel C B pts ops i σ σ₁) (h2 : stepRel C B pts ops j σ₁ σ') : ∃ τ, stepRel C B pts ops j σ τ ∧ stepRel C B pts ops i τ σ' := by
  unfold comm2 at hc
  split at hc
  · rename_i m n hm hn
    simp only [Bool.and_eq_true] at hc
    obtain ⟨⟨⟨c1, c2⟩, c3⟩, c4⟩ := hc
    obtain ⟨e, rfl, te, le⟩ := local_ok hN hi (by rw [hm]; simp) h1
    obtain ⟨f, rfl, tf, lf⟩ := local_ok hN hj (by rw [hn]; simp) h2
    -- j at σ: σ is seen by j as σ₁ is
    have s1 : Sees N pts ops b (e.on a.dst σ) σ := by
      have := unseen hm hn (.inl c1) c2 te σ
      refine ⟨fun t ht => (this.1 t ht).symm, ?_⟩
      have h := this.2
      rw [hn] at h ⊢
      cases n <;> first | trivial | exact h.symm
    have s2 : Sees N pts ops a σ (f.on b.dst σ) := unseen hn hm (.inr c1) c3 tf σ
    refine ⟨f.on b.dst σ, lf σ s1, ?_⟩
    rw [on_comm hm hn c1 c4 te tf σ]
    exact le _ s2
  · cases hc

end
end Sx
end Go.Am

/-
  WHEN AN ALGEBRA TELLS THE TRUTH; what an environment says of a state.
-/
import Derived.Test.YtdngmncaohgacaaDoorSx3
import Derived.Test.YtdngmncaohgacaaDoorAm8c
set_option linter.unusedSectionVars false
set_option linter.unusedSimpArgs false
set_option linter.unusedVariables false
set_option linter.constructorNameAsVariable false
namespace Go.Am

/-! ### Lists -/
section
variable {R : Type}
theorem setK_eq {α : Type} (x : α) : ∀ (l : List α) (i : Nat) (k : List α → R), setK x l i k = k (l.set i x)
  | [], _, _ => rfl
  | _ :: _, 0, _ => rfl
  | a :: l, i + 1, k => setK_eq x l i fun l => k (a :: l)
theorem forceLen_eq (n : Nat) (K : Nat → R) : forceLen n K = K n := by cases n <;> rfl
end

/-! ### Values -/

def SL.good : SL → Prop
  | .v x => goodV x = true
  | _ => True
def S0.good (x : S0) : Prop := ∀ l ∈ x.cells, l.good
/-- What a temporary may hold. -/
def SV.gd : SV → Prop
  | .st x => x.good
  | .tup xs => (∀ x ∈ xs, x.good) ∧ 2 ≤ xs.length
  | .no => False
  | _ => True

theorem goodV_iff {x : Value} : goodV x = true ↔ noLoc x = true ∧ noLoc3 x = true ∧ oneCell x = true ∧ isTuple x = false := by
  unfold goodV
  cases noLoc x <;> cases noLoc3 x <;> cases oneCell x <;> cases isTuple x <;> simp

theorem good_not_agg {x : Value} (h : goodV x = true) : ∀ cs, x ≠ .agg cs := by
  rintro cs rfl
  have := (goodV_iff.1 h).2.2.1
  simp [oneCell] at this
theorem goodV_cell {x : Value} (h : goodV x = true) : cellOk x = true := by
  obtain ⟨h1, _, h2, _⟩ := goodV_iff.1 h
  simp [cellOk, h1, h2]
theorem goodV_cells {x : Value} (h : goodV x = true) : x.cells = #[x] := cells_of_oneCell (goodV_iff.1 h).2.2.1

theorem SL.val_good {l : SL} (h : l.good) : goodV l.val = true := by
  cases l with
  | v x => exact h
  | _ => rfl
theorem S0.cells_val {x : S0} (h : x.good) : x.val.cells = ⟨x.cells.map SL.val⟩ := by
  cases x with
  | leaf l => exact goodV_cells (SL.val_good (h l (by simp [S0.cells])))
  | agg cs => rfl
theorem S0.noLoc {x : S0} (h : x.good) : noLoc x.val = true := by
  cases x with
  | leaf l => exact (goodV_iff.1 (SL.val_good (h l (by simp [S0.cells])))).1
  | agg cs =>
    simp only [S0.val, Am.noLoc, List.all_eq_true, List.mem_map]
    rintro _ ⟨l, hl, rfl⟩
    exact (goodV_iff.1 (SL.val_good (h l hl))).2.1
theorem S0.not_tuple {x : S0} (h : x.good) : isTuple x.val = false := by
  cases x with
  | leaf l => exact (goodV_iff.1 (SL.val_good (h l (by simp [S0.cells])))).2.2.2
  | agg cs => rfl
theorem S0.cells_ok {x : S0} (h : x.good) : x.val.cells.toList.all cellOk = true := by
  rw [S0.cells_val h]
  simp only [List.all_eq_true, List.mem_map]
  rintro _ ⟨l, hl, rfl⟩
  exact goodV_cell (SL.val_good (h l hl))
theorem cells_ok' {cs : List SL} (h : ∀ l ∈ cs, l.good) : (cs.map SL.val).all cellOk = true := by
  simp only [List.all_eq_true, List.mem_map]
  rintro _ ⟨l, hl, rfl⟩
  exact goodV_cell (SL.val_good (h l hl))

theorem scalar_good {v : Value} (h : scalar v = true) : goodV v = true := by
  cases v <;> first | rfl | (simp [scalar] at h; done) | skip
  case pointer a => cases a <;> first | rfl | simp [scalar] at h
  case slice a l c =>
    cases a with
    | none => rfl
    | some a => cases l <;> cases c <;> simp [scalar] at h
theorem slOf_val (v : Value) : (slOf v).val = v := by cases v <;> rfl
theorem slOf_good {v : Value} (h : scalar v = true) : (slOf v).good := by
  cases v <;> first | trivial | exact scalar_good h
theorem s0Of_ok {v : Value} {x : S0} (h : s0Of v = some x) : x.val = v ∧ x.good ∧ flat1 v = true := by
  unfold s0Of at h
  split at h
  · rename_i cs
    split at h
    · rename_i ha
      cases h
      refine ⟨?_, ?_, ha⟩
      · simp only [S0.val, List.map_map, Value.agg.injEq]
        have : (SL.val ∘ slOf) = id := funext slOf_val
        rw [this, List.map_id]
      · intro l hl
        simp only [S0.cells, List.mem_map] at hl
        obtain ⟨v, hv, rfl⟩ := hl
        exact slOf_good (List.all_eq_true.1 ha v hv)
    · cases h
  · rename_i hne
    split at h
    · rename_i hs
      cases h
      refine ⟨slOf_val v, ?_, ?_⟩
      · intro l hl
        simp only [S0.cells, List.mem_singleton] at hl
        subst hl
        exact slOf_good hs
      · cases v <;> first | exact hs | exact absurd rfl (hne _)
    · cases h

theorem kNo_inj {a b : IntKind} (h : kSame a b = true) : a = b := by
  cases a <;> cases b <;> first | rfl | cases h
theorem kSame_self (a : IntKind) : kSame a a = true := by cases a <;> rfl

/-! ### Calls, told by leaves -/

section
variable [Val] [Kno]

/-- The arguments or results have the shapes that are told, and the leaves. -/
def Told (sks : List SK) (ls : List Lf) (xs : List S0) : Prop := areIs xs sks = true ∧ lfsOf xs = ls ∧ ∀ x ∈ xs, x.good

def CallL (C : Cfg) (Sg : FuncId → Option Sig) (g : FuncId) (ls : List Lf) (H : List HObj) (rs : List Lf) (H' : List HObj) : Prop :=
  ∃ sg xs ys, Sg g = some sg ∧ Told sg.ps ls xs ∧ Told sg.rs rs ys ∧ uCall C g (valsOf xs) H (packA (valsOf ys)) H'

def CallV (C : Cfg) (v : Value) (args : List Value) (hs : List SK) (H : List HObj) (rs : List Lf) (H' : List HObj) : Prop :=
  ∃ ys, Told hs rs ys ∧ ((∃ g first cap, v = .func (.func g) first cap ∧ uCall C g (first.toList ++ args ++ cap.toList) H (packA (valsOf ys)) H') ∨
    (∃ l, v = .func (.yield l) #[] #[] ∧ uYield C l args H (packA (valsOf ys)) H'))

/-- A loop over an iterator, as it begins. -/
def capTm (nt : Nat) : List (Nat × SK) → List Value → List Value → List Value
  | (t, _) :: l, v :: vs, tm => capTm nt l vs (tm.set t v)
  | _, _, tm => tm
def lpOf (s : Site) (κ : Nat) (vals : List Value) : ALoop :=
  { state := .ready, pending := none, fn := κ, tmps := capTm s.nt s.caps vals (List.replicate s.nt poison), params := s.params.map (·.1), assign := s.assign.erase noSite, body := s.body.erase noSite }

def eqLfD : Lf → Lf → Bool
  | .i a, .i b => a == b
  | .b a, .b b => a == b
  | _, _ => false
def eqAll (l : List (Lf × Lf)) : Bool := l.all fun p => eqLfD p.1 p.2
def ShRun (op : BinOp) (k : IntKind) (x : Int) (k' : IntKind) (y n : Int) : Prop := ∀ (P : Program) (t : TypeId) (w : World), (binOp op t (.int k x) (.int k' y)).run P w = .ok (.int k n) w

structure AlgOk {R HT : Type} (A : Alg R HT) (C : Cfg) (Sg : FuncId → Option Sig) (T : Nat → Site) (holds : R → Prop) (abs : HT → List HObj) : Prop where
  fail : ¬ holds A.fail
  cond : ∀ b x y, holds (A.cond b x y) → (b = true ∧ holds x) ∨ (b = false ∧ holds y)
  ari : ∀ op k a b K, holds (A.ari op k a b K) → ∃ n, ArRun op k a b n ∧ holds (K n)
  shf : ∀ op k a k' b K, holds (A.shf op k a k' b K) → ∃ n, ShRun op k a k' b n ∧ holds (K n)
  cmp : ∀ op a b K, holds (A.cmp op a b K) → ∃ t, cmpRes op a b = some t ∧ holds (K t)
  eqs : ∀ l K, holds (A.eqs l K) → holds (K (eqAll l))
  conv : ∀ k a K, holds (A.conv k a K) → holds (K (k.wrap a))
  sel : ∀ t a b K, holds (A.sel t a b K) → holds (K (if t then a else b))
  opt : ∀ {α : Type} (o : Option α) K, holds (A.opt o K) → ∃ x, o = some x ∧ holds (K x)
  chk : ∀ v K, holds (A.chk v K) → goodV v = true ∧ holds K
  unI : ∀ ls K, holds (A.unI ls K) → ∃ n r, ls = .i n :: r ∧ holds (K n r)
  unB : ∀ ls K, holds (A.unB ls K) → ∃ t r, ls = .b t :: r ∧ holds (K t r)
  unV : ∀ ls K, holds (A.unV ls K) → ∃ x r, ls = .v x :: r ∧ holds (K x r)
  un0 : ∀ ls K, holds (A.un0 ls K) → ls = [] ∧ holds K
  ucI : ∀ k ls K, holds (A.ucI k ls K) → ∃ n r, ls = .int k n :: r ∧ holds (K n r)
  ucB : ∀ ls K, holds (A.ucB ls K) → ∃ t r, ls = .bool t :: r ∧ holds (K t r)
  ucV : ∀ ls K, holds (A.ucV ls K) → ∃ x r, ls = x :: r ∧ holds (K x r)
  uc0 : ∀ ls K, holds (A.uc0 ls K) → ls = [] ∧ holds K
  peek : ∀ f h K, holds (A.peek f h K) → ∃ cs, f (fun i => (abs h)[i]?) = some cs ∧ holds (K cs)
  heap : ∀ f h K, holds (A.heap f h K) → ∃ acts cs h', f (fun i => (abs h)[i]?) (abs h).length = some (acts, cs) ∧ abs h' = actsOn (abs h) acts ∧ holds (K cs h')
  new : ∀ o h K, holds (A.new o h K) → ∃ h', abs h' = abs h ++ [o] ∧ holds (K (abs h).length h')
  call : ∀ g ls h K, holds (A.call g ls h K) → ∃ rs h', CallL C Sg g ls (abs h) rs (abs h') ∧ holds (K rs h')
  callv : ∀ v args hs h K, holds (A.callv v args hs h K) → ∃ rs h', CallV C v args hs (abs h) rs (abs h') ∧ holds (K rs h')
  join : ∀ b m, holds (A.join b m) → holds (m b)
  loop : ∀ F ls h, holds (A.loop F ls h) → ∃ it : Nat → List Lf → HT → R, (∀ ls h, ¬ holds (it 0 ls h)) ∧ (∀ n ls h, it (n + 1) ls h = F (it n) ls h) ∧ ∃ n, holds (it n ls h)
  rfun : ∀ κ v vals h K, holds (A.rfun κ v vals h K) → ∃ g first cap r H1 lp h2, v = .func (.func g) first cap ∧
    uCall C g (first.toList ++ [.func (.yield (abs h).length) #[] #[]] ++ cap.toList) (abs h ++ [.loop (lpOf (T κ) κ vals)]) r H1 ∧
    hloop H1 (abs h).length = some lp ∧ lp.state ≠ .busy ∧ abs h2 = H1.set (abs h).length (.loop { lp with state := .exhausted }) ∧ holds (K lp.pending h2)
  pend : ∀ pd kn kr ks, holds (A.pend pd kn kr ks) → (pd = none ∧ holds kn) ∨ (pd = some .ret ∧ holds kr) ∨ ∃ id x, pd = some (.exit id) ∧ (id, x) ∈ ks ∧ holds x
  lp1 : ∀ l h K, holds (A.lp1 l h K) → ∃ lp h', hloop (abs h) l = some lp ∧ lp.state = .ready ∧ abs h' = (abs h).set l (.loop { lp with state := .busy }) ∧ holds (K h')
  lp2 : ∀ l j h K, holds (A.lp2 l j h K) → ∃ lp h', hloop (abs h) l = some lp ∧ abs h' = (abs h).set l (.loop { lp with state := if j.isNone then .ready else .done, pending := j }) ∧ holds (K h')

/-! ### Environments and states -/

def SV.ok (tmps : List Value) (i : Nat) (s : SV) : Prop :=
  match s with
  | .no => True
  | s => tmps[i]? = some s.val ∧ s.gd
def LR.ok (loc : List (Option (List Value))) (i : Nat) : LR → Prop
  | .unk => True
  | .nil => loc[i]? = some none
  | .any n => ∃ vs, loc[i]? = some (some vs) ∧ vs.length = n
  | .row cs => loc[i]? = some (some (cs.map SL.val)) ∧ ∀ c ∈ cs, c.good

structure Rp (ev : Env) (σ : St) : Prop where
  len : ev.tm.length = σ.tmps.length
  val : ∀ (i : Nat) s, ev.tm[i]? = some s → s.ok σ.tmps i
  llen : ev.lc.length = σ.loc.length
  row : ∀ (i : Nat) r, ev.lc[i]? = some r → r.ok σ.loc i

theorem SV.ok_gd {tmps : List Value} {i : Nat} {s : SV} (h : s.gd) (hv : tmps[i]? = some s.val) : s.ok tmps i := by
  cases s <;> first | trivial | exact ⟨hv, h⟩

theorem Rp.at {ev : Env} {σ : St} (h : Rp ev σ) {t : Nat} {s : SV} (hs : ev.tm.getD t .no = s) (hn : s ≠ .no) : σ.tmps[t]? = some s.val ∧ s.gd := by
  rw [List.getD_eq_getElem?_getD] at hs
  cases he : ev.tm[t]? with
  | none => rw [he] at hs; exact absurd hs.symm hn
  | some x =>
    rw [he] at hs
    simp only [Option.getD_some] at hs
    subst hs
    have := h.val t x he
    cases x <;> first | exact this | exact absurd rfl hn

theorem Rp.sval {ev : Env} {σ : St} (h : Rp ev σ) {x : Operand} {s : SV} (hs : sval ev x = s) (hn : s ≠ .no) : oval σ.tmps x = s.val ∧ s.gd := by
  cases x with
  | tmp t =>
    obtain ⟨h1, h2⟩ := h.at (t := t) hs hn
    exact ⟨by simp [oval, List.getD_eq_getElem?_getD, h1], h2⟩
  | const v =>
    simp only [Am.sval] at hs
    cases hv : s0Of v with
    | none => rw [hv] at hs; exact absurd hs.symm hn
    | some x =>
      rw [hv] at hs
      subst hs
      obtain ⟨h1, h2, h3⟩ := s0Of_ok hv
      refine ⟨?_, h2⟩
      have : flat v = true := by cases v <;> first | exact h3 | (simp [flat1, scalar] at h3)
      simp [oval, this, SV.val, h1]
  | global g => subst hs; exact ⟨rfl, trivial⟩
  | func f =>
    subst hs
    refine ⟨rfl, fun l hl => ?_⟩
    simp only [S0.cells, List.mem_singleton] at hl
    subst hl
    rfl

theorem Rp.sval0 {ev : Env} {σ : St} (h : Rp ev σ) {x : Operand} {s : S0} (hs : sval0 ev x = some s) : oval σ.tmps x = s.val ∧ s.good := by
  unfold Am.sval0 at hs
  split at hs
  · rename_i y e
    cases hs
    exact h.sval e (by simp)
  · cases hs

theorem Rp.svals {ev : Env} {σ : St} (h : Rp ev σ) : ∀ {l : List Operand} {xs : List S0}, svals ev l = some xs → l.map (oval σ.tmps) = valsOf xs ∧ ∀ x ∈ xs, x.good
  | [], xs, hs => by cases hs; exact ⟨rfl, by simp⟩
  | o :: l, xs, hs => by
    simp only [Am.svals] at hs
    split at hs
    · rename_i x ys e1 e2
      cases hs
      obtain ⟨h1, h2⟩ := h.sval0 e1
      obtain ⟨h3, h4⟩ := h.svals e2
      refine ⟨by simp [valsOf, h1]; exact h3, fun y hy => ?_⟩
      rcases List.mem_cons.1 hy with rfl | hy
      · exact h2
      · exact h4 y hy
    · cases hs

theorem Rp.put {ev : Env} {σ : St} (h : Rp ev σ) (d : Nat) {s : SV} (hs : s.gd) : Rp ⟨ev.tm.set d s, ev.lc⟩ (σ.put (some d) s.val) := by
  refine ⟨by simp [St.put, h.len], fun i x hx => ?_, h.llen, h.row⟩
  simp only [List.getElem?_set] at hx
  split at hx
  · rename_i hi
    subst hi
    split at hx
    · rename_i hlt
      cases hx
      refine SV.ok_gd hs ?_
      simp only [St.put, List.getElem?_set_self']
      rw [List.getElem?_eq_getElem (by rw [← h.len]; exact hlt)]
      rfl
    · cases hx
  · rename_i hi
    have := h.val i x hx
    cases x <;> first | trivial | exact ⟨by simp only [St.put]; rw [List.getElem?_set_ne hi]; exact this.1, this.2⟩

theorem Rp.heap {ev : Env} {σ : St} (h : Rp ev σ) (H : List HObj) : Rp ev { σ with heap := H } := ⟨h.len, h.val, h.llen, h.row⟩

/-- What a piece of code leaves alone. -/
structure Fr (ws ks rs : List Nat) (σ σ' : St) : Prop where
  tlen : σ'.tmps.length = σ.tmps.length
  llen : σ'.loc.length = σ.loc.length
  tm : ∀ (i : Nat) v, σ.tmps[i]? = some v → i ∉ ws → noLoc v = true → σ'.tmps[i]? = some v
  tp : ∀ (i s off : Nat), σ.tmps[i]? = some (.pointer (some ⟨s, off, some 0⟩)) → i ∉ ws → s ∉ ks → σ'.tmps[i]? = some (.pointer (some ⟨s, off, some 0⟩))
  row : ∀ (s : Nat) x, σ.loc[s]? = some x → s ∉ rs → σ'.loc[s]? = some x
  rlen : ∀ (s : Nat) vs, σ.loc[s]? = some (some vs) → s ∉ ks → ∃ vs', σ'.loc[s]? = some (some vs') ∧ vs'.length = vs.length

theorem Fr.refl (ws ks rs : List Nat) (σ : St) : Fr ws ks rs σ σ := ⟨rfl, rfl, fun _ _ h _ _ => h, fun _ _ _ h _ _ => h, fun _ _ h _ => h, fun _ vs h _ => ⟨vs, h, rfl⟩⟩
theorem Fr.trans {ws ks rs : List Nat} {σ σ₁ σ' : St} (h : Fr ws ks rs σ σ₁) (h' : Fr ws ks rs σ₁ σ') : Fr ws ks rs σ σ' :=
  ⟨h'.tlen.trans h.tlen, h'.llen.trans h.llen, fun i v a b c => h'.tm i v (h.tm i v a b c) b c, fun i s off a b c => h'.tp i s off (h.tp i s off a b c) b c,
    fun s x a b => h'.row s x (h.row s x a b) b, fun s vs a b => let ⟨v1, c1, d1⟩ := h.rlen s vs a b; let ⟨v2, c2, d2⟩ := h'.rlen s v1 c1 b; ⟨v2, c2, d2.trans d1⟩⟩
theorem Fr.mono {ws ks rs ws' ks' rs' : List Nat} {σ σ' : St} (h : Fr ws ks rs σ σ') (h1 : ∀ i ∈ ws, i ∈ ws') (h2 : ∀ i ∈ ks, i ∈ ks') (h3 : ∀ i ∈ rs, i ∈ rs') : Fr ws' ks' rs' σ σ' :=
  ⟨h.tlen, h.llen, fun i v a b c => h.tm i v a (fun hi => b (h1 i hi)) c, fun i s off a b c => h.tp i s off a (fun hi => b (h1 i hi)) (fun hi => c (h2 s hi)),
    fun s x a b => h.row s x a (fun hi => b (h3 s hi)), fun s vs a b => h.rlen s vs a (fun hi => b (h2 s hi))⟩
theorem Fr.heap {ws ks rs : List Nat} {σ σ' : St} (h : Fr ws ks rs σ σ') (H : List HObj) : Fr ws ks rs σ { σ' with heap := H } := ⟨h.tlen, h.llen, h.tm, h.tp, h.row, h.rlen⟩
theorem Fr.put {σ : St} (dst : Option Tmp) (v : Value) (ks rs : List Nat) : Fr dst.toList ks rs σ (σ.put dst v) := by
  cases dst with
  | none => exact .refl _ _ _ _
  | some d =>
    refine ⟨by simp [St.put], rfl, fun i x h hi _ => ?_, fun i s off h hi _ => ?_, fun _ _ h _ => h, fun _ vs h _ => ⟨vs, h, rfl⟩⟩ <;>
    · simp only [Option.toList_some, List.mem_singleton] at hi
      simp only [St.put]
      rw [List.getElem?_set_ne (fun e => hi e.symm)]
      exact h

end
end Go.Am

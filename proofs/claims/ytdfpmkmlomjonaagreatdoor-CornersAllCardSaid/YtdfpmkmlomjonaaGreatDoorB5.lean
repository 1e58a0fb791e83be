/-
  PART 5 OF THE PROOF: Sx10 Sx11 Ge0 Ge1 Ge2 Ge3 Ge4 Ge5 Ge6 Gq Sx12 Sx13 Px1 Sx14 Bx1 Gy (no conditions).
-/
import Derived.Test.YtdfpmkmlomjonaaGreatDoorB4
import Derived.Calls
import Derived.LaidMore
import Derived.MakeChecks
import Derived.OpenShut
import Derived.ProofKit
import Derived.Stop.Joined
import Derived.Test.YtdfpmkmlomjonaaGreatDoorRows
import GoSem.ClaimJoined
set_option linter.unusedSectionVars false
set_option linter.unusedSimpArgs false
set_option linter.unusedVariables false
set_option linter.constructorNameAsVariable false
set_option linter.defProp false
/-
 THE ALGEBRA OF RUNS TELLS THE TRUTH; whole runs.
-/
namespace Go.Am
noncomputable def LK.plain : LK → Bool
 | .v => false
 | _ => true
noncomputable def SK.plain : SK → Bool
 | .leaf k => k.plain
 | .agg ks => ks.all LK.plain
noncomputable def Sig.plain (s : Sig) : Bool := s.ps.all SK.plain && s.rs.all SK.plain
namespace Sx
section
variable [Val] [Kno]
variable {w : List Lf}
theorem oI (k : IntKind) (c : Int) (K : Int → RT) : outG k c K = K (k.wrap c) := by
 unfold outG
 cases e : fits k c with
 | true => rw [nk e]
 | false => exact gF _ _
theorem out64_eq (c : Int) (K : Int → RT) : ai c K = K (IntKind.wrap .i64 c) := by
 refine Eq.trans ?_ (oI .i64 c K)
 cases c <;> rfl
theorem outU8_eq (c : Int) (K : Int → RT) : dR c K = K (IntKind.wrap .u8 c) := by
 refine Eq.trans ?_ (oI .u8 c K)
 cases c <;> rfl
theorem ej (k : IntKind) (c : Int) (K : Int → RT) : outK k c K = K (k.wrap c) := by
 cases k <;> first | exact oI _ _ _ | exact out64_eq _ _ | exact outU8_eq _ _
theorem addK_eq (a b : Int) (K : Int → RT) : addK a b K = K (a + b) := by
 unfold addK
 cases a with
 | ofNat m =>
  cases b with
  | ofNat n => exact congrArg K rfl
  | negSucc n =>
   simp only [fW]
   cases e : Nat.blt n m with
   | true => rw [Nat.blt_eq] at e; exact congrArg K (show Int.ofNat (m - (n + 1)) = Int.ofNat m + Int.negSucc n by simp only [Int.ofNat_eq_natCast, Int.negSucc_eq]; omega)
   | false =>
    have e : ¬ n < m := fun h => by rw [← Nat.blt_eq, e] at h; cases h
    exact congrArg K (show Int.negSucc (n - m) = Int.ofNat m + Int.negSucc n by simp only [Int.ofNat_eq_natCast, Int.negSucc_eq]; omega)
 | negSucc m =>
  cases b with
  | ofNat n =>
   simp only [fW]
   cases e : Nat.blt m n with
   | true => rw [Nat.blt_eq] at e; exact congrArg K (show Int.ofNat (n - (m + 1)) = Int.negSucc m + Int.ofNat n by simp only [Int.ofNat_eq_natCast, Int.negSucc_eq]; omega)
   | false =>
    have e : ¬ m < n := fun h => by rw [← Nat.blt_eq, e] at h; cases h
    exact congrArg K (show Int.negSucc (m - n) = Int.negSucc m + Int.ofNat n by simp only [Int.ofNat_eq_natCast, Int.negSucc_eq]; omega)
  | negSucc n => exact congrArg K (show Int.negSucc (m + n + 1) = Int.negSucc m + Int.negSucc n by simp only [Int.negSucc_eq]; omega)
theorem subK_eq (a b : Int) (K : Int → RT) : subK a b K = K (a - b) := by
 unfold subK
 cases a with
 | ofNat m =>
  cases b with
  | ofNat n =>
   simp only [fW]
   cases e : Nat.ble n m with
   | true => rw [Nat.ble_eq] at e; exact congrArg K (show Int.ofNat (m - n) = Int.ofNat m - Int.ofNat n by simp only [Int.ofNat_eq_natCast]; omega)
   | false =>
    have e : ¬ n ≤ m := fun h => by rw [← Nat.ble_eq, e] at h; cases h
    exact congrArg K (show Int.negSucc (n - (m + 1)) = Int.ofNat m - Int.ofNat n by simp only [Int.ofNat_eq_natCast, Int.negSucc_eq]; omega)
  | negSucc n => exact congrArg K (show Int.ofNat (m + n + 1) = Int.ofNat m - Int.negSucc n by simp only [Int.ofNat_eq_natCast, Int.negSucc_eq]; omega)
 | negSucc m =>
  cases b with
  | ofNat n => exact congrArg K (show Int.negSucc (m + n) = Int.negSucc m - Int.ofNat n by simp only [Int.ofNat_eq_natCast, Int.negSucc_eq]; omega)
  | negSucc n =>
   simp only [fW]
   cases e : Nat.ble m n with
   | true => rw [Nat.ble_eq] at e; exact congrArg K (show Int.ofNat (n - m) = Int.negSucc m - Int.negSucc n by simp only [Int.ofNat_eq_natCast, Int.negSucc_eq]; omega)
   | false =>
    have e : ¬ m ≤ n := fun h => by rw [← Nat.ble_eq, e] at h; cases h
    exact congrArg K (show Int.negSucc (m - (n + 1)) = Int.negSucc m - Int.negSucc n by simp only [Int.negSucc_eq]; omega)
theorem mulK_eq (a b : Int) (K : Int → RT) : mulK a b K = K (a * b) := by
 unfold mulK
 cases a with
 | ofNat m =>
  cases b with
  | ofNat n => exact congrArg K rfl
  | negSucc n =>
   cases m with
   | zero => exact congrArg K (show Int.ofNat 0 = Int.ofNat 0 * Int.negSucc n by simp)
   | succ m =>
    refine congrArg K (show Int.negSucc ((m + 1) * n + m) = Int.ofNat (m + 1) * Int.negSucc n from ?_)
    simp only [Int.ofNat_eq_natCast, Int.negSucc_eq, Int.natCast_add, Int.natCast_mul]
    simp only [Int.natCast_one, Int.mul_neg, Int.mul_add, Int.add_mul]
    omega
 | negSucc m =>
  cases b with
  | ofNat n =>
   cases n with
   | zero => exact congrArg K (show Int.ofNat 0 = Int.negSucc m * Int.ofNat 0 by simp)
   | succ n =>
    refine congrArg K (show Int.negSucc (m * (n + 1) + n) = Int.negSucc m * Int.ofNat (n + 1) from ?_)
    simp only [Int.ofNat_eq_natCast, Int.negSucc_eq, Int.natCast_add, Int.natCast_mul]
    simp only [Int.natCast_one, Int.neg_mul, Int.mul_add, Int.add_mul]
    omega
  | negSucc n =>
   refine congrArg K (show Int.ofNat ((m + 1) * (n + 1)) = Int.negSucc m * Int.negSucc n from ?_)
   simp only [Int.ofNat_eq_natCast, Int.negSucc_eq, Int.natCast_add, Int.natCast_mul]
   simp only [Int.natCast_one, Int.neg_mul_neg]
theorem quoK_eq (a b : Int) (K : Int → RT) : quoK a b K = K (Int.tdiv a b) := by
 unfold quoK
 cases a with
 | ofNat m =>
  cases b with
  | ofNat n => exact congrArg K rfl
  | negSucc n => exact gF _ _
 | negSucc m => exact gF _ _
theorem remK_eq (a b : Int) (K : Int → RT) : remK a b K = K (Int.tmod a b) := by
 unfold remK
 cases a with
 | ofNat m =>
  cases b with
  | ofNat n => exact congrArg K rfl
  | negSucc n => exact gF _ _
 | negSucc m => exact gF _ _
theorem gf {b : Int} (h : isZ b = false) : b ≠ 0 := by
 intro e; subst e; cases h
theorem fitsK {k : IntKind} {c : Int} {K : Int → RT} (h : outK k c K = some w) : K (k.wrap c) = some w := (ej k c K).symm.trans h
theorem ariB_ok {op : BinOp} {k : IntKind} {a b : Int} {K : Int → RT} (h : ariB op k a b K = some w) : ∃ n, oa op k a b n ∧ K n = some w := by
 cases op <;> simp only [ariB, reduceCtorEq] at h
 ·rw [addK_eq, ej] at h
  exact ⟨_, fun P t w => by simp [binOp, Op.intArith], h⟩
 ·rw [subK_eq, ej] at h
  exact ⟨_, fun P t w => by simp [binOp, Op.intArith], h⟩
 ·rw [mulK_eq, ej] at h
  exact ⟨_, fun P t w => by simp [binOp, Op.intArith], h⟩
 ·cases hb : isZ b with
  | true => rw [hb] at h; cases h
  | false =>
   rw [hb] at h
   simp only [quoK_eq, ej] at h
   have hb := gf hb
   exact ⟨_, fun P t w => by simp [binOp, Op.intDiv, hb], h⟩
 ·cases hb : isZ b with
  | true => rw [hb] at h; cases h
  | false =>
   rw [hb] at h
   simp only [remK_eq] at h
   have hb := gf hb
   exact ⟨_, fun P t w => by simp [binOp, Op.intDiv, hb], h⟩
 ·split at h
  ·rename_i hb
   have hb := lL.1 hb
   subst hb
   rw [gF] at h
   exact ⟨_, jG rfl, h⟩
  ·split at h
   ·rw [gF] at h
    exact ⟨_, jF _ _, fitsK h⟩
   ·cases h
theorem eqI_eq (x y : Int) : eqI x y = (x == y) := by rw [Bool.eq_iff_iff, lL, beq_iff_eq]
theorem fz (x y : Int) : eqZK x y = (x == y) := by
 rw [← eqI_eq]
 cases x <;> cases y <;> rfl
theorem leZ_eq (x y : Int) : leZ x y = decide (x ≤ y) := by rw [Bool.eq_iff_iff, leZ_iff, decide_eq_true_iff]
theorem notK_eq (b : Bool) : notK b = !b := by cases b <;> rfl
theorem cmpB_ok {op : BinOp} {a b : Int} {K : Bool → RT} (h : cmpB op a b K = some w) : ∃ t, iW op a b = some t ∧ K t = some w := by
 cases op <;> simp only [cmpB, reduceCtorEq, fz, leZ_eq, notK_eq] at h
 ·exact ⟨_, rfl, h⟩
 ·exact ⟨_, rfl, h⟩
 ·exact ⟨_, rfl, by rw [show decide (a < b) = !decide (b ≤ a) by rw [Bool.eq_iff_iff]; simp]; exact h⟩
 ·exact ⟨_, rfl, h⟩
 ·exact ⟨_, rfl, by rw [show decide (a > b) = !decide (a ≤ b) by rw [Bool.eq_iff_iff]; simp]; exact h⟩
 ·exact ⟨_, rfl, h⟩
theorem eqLf_eq (a b : Lf) : eqLf a b = fV a b := by
 cases a <;> cases b <;> try rfl
 ·exact fz _ _
 ·rename_i x y; cases x <;> cases y <;> rfl
theorem eqsV_eq (l : List (Lf × Lf)) : eqsV l = cu l := by
 unfold cu
 induction l with
 | nil => rfl
 | cons p l ih =>
  show (Bool.rec false (eqsV l) (eqLf p.1 p.2) : Bool) = _
  rw [eqLf_eq, List.all_cons, ih]
  cases fV p.1 p.2 <;> rfl
theorem eqsB_ok {l : List (Lf × Lf)} {K : Bool → RT} (h : eqsB l K = some w) : K (cu l) = some w := by
 rw [← eqsV_eq]; exact h
structure CallBOk (C : Cfg) (Sg : FuncId → Option Sig) (T : Nat → Site) (call : aa) : Prop where
 f : ∀ g ls h K w, cr ls → call (.f g) ls h K = some w → ∃ rs h', aQ C Sg g ls (absH T (toL h)) rs (absH T (toL h')) ∧ K rs h' = some w
 y : ∀ κ vs l ls h K w st pd xs, h.at l = some (.lp κ st pd vs) → Told ((T κ).params.map (·.2)) ls xs → call (.y κ vs l) ls h K = some w →
  ∃ b h', gt C l (am xs) (absH T (toL h)) (.bool b) (absH T (toL h')) ∧ K [.b b] h' = some w
theorem gI (T : Nat → Site) (h : HL) : getH T h = fun i => (absH T h)[i]? := by
 funext i
 simp only [getH, absH, List.getElem?_map]
 cases h[i]? <;> rfl
theorem getT_eq (T : Nat → Site) (h : HTr) : getT T h = fun i => (absH T (toL h))[i]? := by
 funext i
 simp only [getT, absH, List.getElem?_map, hC, Option.map_map]
 cases h.at i <;> rfl
theorem iE (T : Nat → Site) (h : HTr) : getT T h = getH T (toL h) := (getT_eq T h).trans (gI T (toL h)).symm
theorem ji {T : Nat → Site} {h : HTr} {i : Nat} {x : HOT} (e : h.at i = some x) : getH T (toL h) i = some (absO T x.ho) := by
 rw [← iE]; unfold getT; rw [e]
theorem eV (T : Nat → Site) (h : HL) : (absH T h).length = h.length := by simp [absH]
theorem fM (T : Nat → Site) (h : HL) (i : Nat) (o : HO) : absH T (h.set i o) = (absH T h).set i (absO T o) := by simp [absH, List.map_set]
theorem fL (T : Nat → Site) (h : HL) (o : HO) : absH T (h ++ [o]) = absH T h ++ [absO T o] := by simp [absH]
theorem gz (T : Nat → Site) : ∀ (l : List Act1) (h : HL), absH T (fv h l) = eB (absH T h) l
 | [], h => rfl
 | a :: l, h => by
  have ih := gz T l (a.onH h)
  show absH T (fv (a.onH h) l) = eB (a.on (absH T h)) l
  rw [ih]
  congr 1
  cases a with
  | set i o => exact fM T h i _
  | push o => exact fL T h _
theorem ly : ∀ {l : List Act1} {h : HTr} {k : HTr → RT}, ql l h k = some w → ∃ h', toL h' = fv (toL h) l ∧ k h' = some w
 | [], h, k, hk => ⟨h, rfl, hk⟩
 | .set i o :: l, h, k, hk => by
  have hk : (ns o fun o => putK h i o fun h => ql l h k) = some w := hk
  obtain ⟨x, e1, e2⟩ := gg (o := o) (k := fun o => putK h i o fun h => ql l h k)
  rw [e2, eO] at hk
  obtain ⟨h', e, hk⟩ := ly hk
  exact ⟨h', by rw [e, eU, e1]; rfl, hk⟩
 | .push o :: l, h, k, hk => by
  have hk : (ns o fun o => gS h o fun h => ql l h k) = some w := hk
  obtain ⟨x, e1, e2⟩ := gg (o := o) (k := fun o => gS h o fun h => ql l h k)
  rw [e2, fc] at hk
  obtain ⟨h', e, hk⟩ := ly hk
  exact ⟨h', by rw [e, ff, e1]; rfl, hk⟩
theorem qd (s : Option Nat) : spot0 s = (s != some 0) := by
 cases s with
 | none => rfl
 | some k => cases k <;> rfl
theorem py (v : Value) : goodF v = ca v := by
 unfold goodF
 split
 ·rename_i a
  rw [qd]
  simp [ca, noLoc, bv, cG, bW, bo, aL]
 ·rename_i a _ _
  rw [qd]
  simp [ca, noLoc, bv, cG, bW, bo, aL]
 ·rfl
theorem oA {α : Type} (l : List α) : lenR l = l.length := by
 induction l with
 | nil => rfl
 | cons a l ih => exact congrArg Nat.succ ih
theorem ldB_ok {T : Nat → Site} {n : Nat} {p : Value} {h : HTr} {K : List Value → RT} (hk : ldB n p h K = some w) : ∃ cs, ldP n p (getH T (toL h)) = some cs ∧ K cs = some w := by
 unfold ldB at hk
 split at hk
 ·rename_i a
  split at hk
  ·rename_i hs
   split at hk
   ·rename_i m e rw' c hat
    split at hk
    ·rename_i hle
     rw [Nat.ble_eq] at hle
     refine ⟨_, ?_, hk⟩
     unfold ldP
     simp only [hs, eH, ji hat, HOT.ho, absO, Option.bind_some, cut]
     rw [if_pos (by rw [bb]; exact hle), gm c n a.off m hle]
    ·cases hk
   ·cases hk
  ·cases hk
 ·cases hk
theorem lgB_ok {T : Nat → Site} {C : Cfg} {n : Nat} {p : Value} {h : HTr} {K : List Value → RT} (hk : lgB C n p h K = some w) : ∃ cs, lgP C n p (getH T (toL h)) = some cs ∧ K cs = some w := by
 unfold lgB at hk
 split at hk
 ·rename_i a
  split at hk
  ·rename_i hs
   split at hk
   ·rename_i m e rw' c hat
    split at hk
    ·rename_i hle
     rw [Nat.ble_eq] at hle
     refine ⟨_, ?_, hk⟩
     unfold lgP
     simp only [hs, eH, ji hat, HOT.ho, absO, Option.bind_some, cut]
     rw [if_pos (by rw [bb]; exact hle), gm c n a.off m hle]
    ·cases hk
   ·cases hk
  ·rename_i k hs
   split at hk
   ·rename_i hb
    split at hk
    ·rename_i vs hg
     split at hk
     ·rename_i cs hc
      refine ⟨cs, ?_, hk⟩
      unfold lgP
      simp only [hs, hb, hg, Option.bind_some]
      rw [iX] at hc
      exact hc
     ·cases hk
    ·cases hk
   ·cases hk
 ·cases hk
theorem stB_ok {T : Nat → Site} {p : Value} {new : List Value} {h : HTr} {K : List Value → HTr → RT} {n0 : Nat} (hk : stB p new h K = some w) :
  ∃ acts cs h', stP p new (getH T (toL h)) n0 = some (acts, cs) ∧ toL h' = fv (toL h) acts ∧ K cs h' = some w := by
 unfold stB at hk
 split at hk
 ·rename_i a
  split at hk
  ·rename_i hs
   split at hk
   ·rename_i m e c hat
    split at hk
    ·rename_i hle
     rw [Nat.ble_eq, oA] at hle
     rw [jl, eO] at hk
     refine ⟨[.set a.block (.cells (bM (insT new a.off c) m) e true)], [], _, ?_, ?_, hk⟩
     ·unfold stP
      simp only [hs, ji hat, HOT.ho, absO, splice]
      rw [if_pos (by rw [bb]; exact hle), kj hle]
      rfl
     ·rw [eU]; rfl
    ·cases hk
   ·cases hk
  ·cases hk
 ·cases hk
theorem mE {s : Option Nat} {esz : Nat} : tagB s esz = true ↔ s = tag esz := by
 unfold tagB tag
 cases s with
 | none => simp
 | some k => simp only [Nat.beq_eq, Option.some.injEq]; try rfl
theorem slB_ok {C : Cfg} {T : Nat → Site} {esz : Nat} {x : Value} {h : HTr} {K : List Value → Nat → RT} (hk : slB C T esz x h K = some w) :
  ∃ l n, slG C esz (getH T (toL h)) x = some (l, n) ∧ K l n = some w := by
 have gen : ∀ {x : Value}, (match slG C esz (getT T h) x with | some p => K p.1 p.2 | none => none) = some w → ∃ l n, slG C esz (getH T (toL h)) x = some (l, n) ∧ K l n = some w := by
  intro x hk
  split at hk
  ·rename_i p e
   rw [iE] at e
   exact ⟨p.1, p.2, e, hk⟩
  ·cases hk
 unfold slB at hk
 split at hk
 ·rename_i a len cx
  split at hk
  ·rename_i ht
   have ht := mE.1 ht
   split at hk
   ·rename_i m e rw' c hat
    split at hk
    ·rename_i h1 h2
     have h1 := Nat.eq_of_beq_eq_true h1
     rw [Nat.ble_eq] at h2
     subst h1
     refine ⟨_, _, ?_, hk⟩
     unfold slG
     simp only [ji hat, HOT.ho, absO]
     rw [if_neg (by rw [ht]; simp [tag]), if_pos ht]
     first | rw [if_pos rfl] | rw [if_pos trivial]
     rw [cut, if_pos (by rw [bb]; exact h2), gm c _ a.off m h2]
     rfl
    ·cases hk
   ·cases hk
  ·exact gen hk
 ·exact gen hk
theorem pz {c : Tr Value} {m off wd esz : Nat} {new : List Value} {k : HOT → RT} (hle : off + wd ≤ m) (hk : growB c m off wd esz new k = some w) :
  ∃ x : HOT, x.ho = .o (.cells (((bM c m).drop off).take wd ++ new) esz true) ∧ k x = some w := by
 unfold growB at hk
 split at hk
 ·rename_i h1 h2
  have h1 := Nat.eq_of_beq_eq_true h1
  have h2 := Nat.eq_of_beq_eq_true h2
  subst h1 h2
  rw [jl, fW, oA] at hk
  refine ⟨_, ?_, hk⟩
  show HO.o (.cells (bM (insT new wd c) (wd + new.length)) esz true) = _
  rw [iU, List.drop_zero, List.take_of_length_le (by rw [bb]; exact Nat.le_refl _)]
 ·rw [gm c wd off m hle] at hk
  obtain ⟨x, e1, e2⟩ := gg (o := .cells (((bM c m).drop off).take wd ++ new) esz true) (k := k)
  rw [e2] at hk
  exact ⟨x, e1, hk⟩
theorem apB_ok {C : Cfg} {T : Nat → Site} {esz bytes : Nat} {s x : Value} {h : HTr} {K : List Value → HTr → RT} (hk : apB T C esz bytes s x h K = some w) :
  ∃ acts cs h', apG C esz bytes s x (getH T (toL h)) (toL h).length = some (acts, cs) ∧ toL h' = fv (toL h) acts ∧ K cs h' = some w := by
 obtain ⟨new, n, hsl, hk⟩ := slB_ok hk
 unfold apG
 rw [hsl, dS]
 simp only at hk ⊢
 split at hk
 ·cases n with
  | zero => exact ⟨_, _, h, rfl, rfl, hk⟩
  | succ n =>
   simp only at hk
   split at hk
   ·rename_i hz
    obtain ⟨y, e1, e2⟩ := gg (o := .cells new esz true) (k := fun o => gS h o fun h' => fN (n + 1) fun n => K [.slice (some ⟨h.n, 0, tag esz⟩) n 0] h')
    rw [e2, fc, fW] at hk
    refine ⟨[.push (.cells new esz true)], _, _, ?_, ?_, hk⟩
    ·show (if n + 1 = 0 then some ([], [Value.slice none 0 0]) else if dM (n + 1) bytes then _ else none) = _
     rw [if_neg (by omega), if_pos hz]
    ·rw [ff, e1]; rfl
   ·cases hk
 ·rename_i a len cx _
  split at hk
  ·cases hk
  ·rename_i ht
   have ht := mE.1 ht
   split at hk
   ·rename_i m e rw' c hat
    split at hk
    ·rename_i h1 h2
     have h1 := Nat.eq_of_beq_eq_true h1
     rw [Nat.ble_eq] at h2
     subst h1
     have hb : a.off + len * e ≤ m := h2
     have hcut : cut (bM c m) a.off (len * e) = some (((bM c m).drop a.off).take (len * e)) := by rw [cut, if_pos (by rw [bb]; exact hb)]
     simp only [ht, ne_eq, not_true_eq_false, if_false, ji hat, HOT.ho, absO, hcut]
     cases cx with
     | zero =>
      simp only at hk ⊢
      cases n with
      | zero => exact ⟨[], _, h, by first | rw [if_pos rfl] | rw [if_pos trivial], rfl, hk⟩
      | succ n =>
       simp only at hk
       split at hk
       ·rename_i q1 q2
        obtain ⟨y, e1, hk⟩ := pz hb hk
        rw [eO, fc, fW] at hk
        refine ⟨[.set a.block .dead, .push (.cells (((bM c m).drop a.off).take (len * e) ++ new) e true)], _, _, by rw [if_neg (by omega), if_pos (by rw [q2]; rfl)], ?_, hk⟩
        rw [ff, eU, e1]; rfl
       ·cases hk
     | succ cap =>
      simp only at hk ⊢
      split at hk
      ·rename_i q0
       rw [Nat.ble_eq] at q0
       split at hk
       ·rename_i q1 q2
        rw [Nat.ble_eq, oA] at q2
        have q2 : a.off + len * e + new.length ≤ m := q2
        rw [jl, eO, fW] at hk
        refine ⟨[.set a.block (.cells ((bM c m).take (a.off + len * e) ++ new ++ (bM c m).drop (a.off + len * e + new.length)) e true)], _, _, by rw [if_pos q0, if_pos rfl, splice, if_pos (by rw [bb]; exact q2)]; rfl, ?_, hk⟩
        rw [eU]
        show (toL h).set a.block (.o (.cells (bM (insT new (a.off + len * e) c) m) e true)) = _
        rw [kj q2]; rfl
       ·cases hk
      ·rename_i q0
       have q0 : ¬ len + n ≤ cap := fun h => by rw [← Nat.ble_eq, q0] at h; cases h
       split at hk
       ·rename_i q1
        obtain ⟨y, e1, hk⟩ := pz hb hk
        rw [fc, fW] at hk
        refine ⟨[.push (.cells (((bM c m).drop a.off).take (len * e) ++ new) e true)], _, _, by rw [if_neg q0, if_pos q1], ?_, hk⟩
        rw [ff, e1]; rfl
       ·cases hk
    ·cases hk
   ·cases hk
 ·cases hk
theorem heapB_ok {T : Nat → Site} {f : Hp} {h : HTr} {K : List Value → HTr → RT} (hk : ow T f h K = some w) :
  ∃ acts cs h', f.run (getH T (toL h)) (toL h).length = some (acts, cs) ∧ toL h' = fv (toL h) acts ∧ K cs h' = some w := by
 unfold ow at hk
 cases f with
 | st p new => exact stB_ok (n0 := (toL h).length) hk
 | ap C esz bytes s x => exact apB_ok hk
 | fn f =>
  simp only at hk
  rw [iE] at hk
  split at hk
  ·rename_i p e
   rw [jz] at hk
   obtain ⟨h', e2, hk⟩ := ly hk
   exact ⟨p.1, p.2, h', by rw [dS]; exact e, e2, hk⟩
  ·cases hk
theorem toSL_ok {k : LK} {v : Value} {l : SL} (h : toSL k v = some l) : l.is k = true ∧ l.val = v ∧ l.good := by
 cases k with
 | i k =>
  cases v <;> simp only [toSL] at h <;> first | cases h | skip
  split at h
  ·rename_i e; cases h; exact ⟨e, rfl, trivial⟩
  ·cases h
 | b =>
  cases v <;> simp only [toSL] at h <;> cases h
  exact ⟨rfl, rfl, trivial⟩
 | v =>
  simp only [toSL] at h
  split at h
  ·rename_i e; cases h; exact ⟨rfl, rfl, e⟩
  ·cases h
theorem qh : ∀ {ks : List LK} {vs : List Value} {xs : List SL}, toSLs ks vs = some xs → aI xs ks = true ∧ xs.map SL.val = vs ∧ ∀ x ∈ xs, x.good
 | [], [], xs, h => by cases h; exact ⟨rfl, rfl, fun _ h => by cases h⟩
 | k :: ks, v :: vs, xs, h => by
  simp only [toSLs] at h
  split at h
  ·rename_i x e
   split at h
   ·rename_i ys e2
    cases h
    obtain ⟨a1, a2, a3⟩ := toSL_ok e
    obtain ⟨b1, b2, b3⟩ := qh e2
    refine ⟨by simp [aI, a1, b1], by simp [a2, b2], fun y hy => ?_⟩
    rcases List.mem_cons.1 hy with rfl | hy
    ·exact a3
    ·exact b3 y hy
   ·cases h
  ·cases h
 | [], _ :: _, _, h => by cases h
 | _ :: _, [], _, h => by cases h
theorem toS0_ok {sk : SK} {v : Value} {x : S0} (h : toS0 sk v = some x) : x.is sk = true ∧ x.val = v ∧ x.good := by
 cases sk with
 | leaf k =>
  obtain ⟨l, e, rfl⟩ := Option.map_eq_some_iff.1 h
  obtain ⟨a1, a2, a3⟩ := toSL_ok e
  refine ⟨a1, a2, fun y hy => ?_⟩
  simp only [S0.cells, List.mem_singleton] at hy
  subst hy; exact a3
 | agg ks =>
  cases v <;> simp only [toS0] at h <;> first | cases h | skip
  obtain ⟨l, e, rfl⟩ := Option.map_eq_some_iff.1 h
  obtain ⟨a1, a2, a3⟩ := qh e
  exact ⟨a1, by simp [S0.val, a2], a3⟩
theorem mF : ∀ {sks : List SK} {vs : List Value} {xs : List S0}, toS0s sks vs = some xs → bF xs sks = true ∧ am xs = vs ∧ ∀ x ∈ xs, x.good
 | [], [], xs, h => by cases h; exact ⟨rfl, rfl, fun _ h => by cases h⟩
 | k :: ks, v :: vs, xs, h => by
  simp only [toS0s] at h
  split at h
  ·rename_i x e
   split at h
   ·rename_i ys e2
    cases h
    obtain ⟨a1, a2, a3⟩ := toS0_ok e
    obtain ⟨b1, b2, b3⟩ := mF e2
    refine ⟨by simp [bF, a1, b1], by simp only [am, List.map_cons, a2] at b2 ⊢; rw [b2], fun y hy => ?_⟩
    rcases List.mem_cons.1 hy with rfl | hy
    ·exact a3
    ·exact b3 y hy
   ·cases h
  ·cases h
 | [], _ :: _, _, h => by cases h
 | _ :: _, [], _, h => by cases h
theorem eqLK_ok {a b : LK} (h : eqLK a b = true) : a = b := by
 cases a <;> cases b <;> simp only [eqLK] at h <;> first | rfl | cases h | skip
 rw [dx h]
theorem pq : ∀ {a b : List LK}, eqLKs a b = true → a = b
 | [], [], _ => rfl
 | a :: l, b :: m, h => by
  simp only [eqLKs, Bool.and_eq_true] at h
  rw [eqLK_ok h.1, pq h.2]
 | [], _ :: _, h => by cases h
 | _ :: _, [], h => by cases h
theorem eqSK_ok {a b : SK} (h : eqSK a b = true) : a = b := by
 cases a <;> cases b <;> simp only [eqSK] at h <;> first | cases h | skip
 ·rw [eqLK_ok h]
 ·rw [pq h]
theorem lM : ∀ {a b : List SK}, eqSKs a b = true → a = b
 | [], [], _ => rfl
 | a :: l, b :: m, h => by
  simp only [eqSKs, Bool.and_eq_true] at h
  rw [eqSK_ok h.1, lM h.2]
 | [], _ :: _, h => by cases h
 | _ :: _, [], h => by cases h
theorem dw : ∀ {ls : List Lf}, aP ls = true → cr ls
 | [], _ => fun _ h => by cases h
 | .i n :: ls, h => fun l hl => by
  rcases List.mem_cons.1 hl with rfl | hl
  ·trivial
  ·exact dw (ls := ls) h l hl
 | .b n :: ls, h => fun l hl => by
  rcases List.mem_cons.1 hl with rfl | hl
  ·trivial
  ·exact dw (ls := ls) h l hl
 | .v n :: ls, h => fun l hl => by
  have h : (match goodF n with | true => aP ls | false => false) = true := h
  split at h
  ·rename_i e
   rw [py] at e
   rcases List.mem_cons.1 hl with rfl | hl
   ·exact e
   ·exact dw (ls := ls) h l hl
  ·cases h
theorem lF {C : Cfg} {Sg : FuncId → Option Sig} {T : Nat → Site} {call : aa} (hc : CallBOk C Sg T call) {g : FuncId} {ls : List Lf} {h : HTr} {K : List Lf → HTr → RT} (hk : bf call g ls h K = some w) :
  ∃ rs h', aQ C Sg g ls (absH T (toL h)) rs (absH T (toL h')) ∧ K rs h' = some w := by
 unfold bf at hk
 split at hk
 ·rename_i e; exact hc.f g ls h K w (dw e) hk
 ·cases hk
theorem iQ {C : Cfg} {Sg : FuncId → Option Sig} {T : Nat → Site} {call : aa} (hc : CallBOk C Sg T call) {g : FuncId} {hs : Option (List SK)} {vals : List Value} {h : HTr} {K : List Lf → HTr → RT} (hk : iA Sg call g hs vals h K = some w) :
  ∃ sg rs ys h', Sg g = some sg ∧ (∀ x, hs = some x → sg.rs = x) ∧ Told sg.rs rs ys ∧ fk C g vals (absH T (toL h)) (dH (am ys)) (absH T (toL h')) ∧ K rs h' = some w := by
 unfold iA at hk
 split at hk
 ·cases hk
 ·rename_i sg e
  split at hk
  ·cases hk
  ·rename_i e2
   split at hk
   ·cases hk
   ·rename_i xs e3
    obtain ⟨rs, h', ⟨sg', xs', ys, c1, c2, c3, c4⟩, hk⟩ := lF hc hk
    rw [e] at c1
    cases c1
    obtain ⟨d1, d2, d3⟩ := mF e3
    obtain ⟨w1, _⟩ := cC c2.1 d1 c2.2.1
    rw [w1, d2] at c4
    refine ⟨sg, rs, ys, h', e, fun x hx => ?_, c3, c4, hk⟩
    subst hx
    exact lM e2
theorem ge {T : Nat → Site} {h : HTr} {l κ : Nat} {st : LoopState} {pd : Option Code} {vs : List Value} (e : h.at l = some (.lp κ st pd vs)) : dh (absH T (toL h)) l = some { lpOf (T κ) κ vs with state := st, pending := pd } := by
 unfold dh absH
 rw [List.getElem?_map, hC, e]
 rfl
theorem callvB_ok {C : Cfg} {Sg : FuncId → Option Sig} {T : Nat → Site} {call : aa} (hc : CallBOk C Sg T call) {v : Value} {args : List Value} {hs : List SK} {h : HTr} {K : List Lf → HTr → RT} (hk : cJ Sg T call v args hs h K = some w) :
  ∃ rs h', qk C v args hs (absH T (toL h)) rs (absH T (toL h')) ∧ K rs h' = some w := by
 unfold cJ at hk
 split at hk
 ·rename_i fn first cap
  split at hk
  ·rename_i g
   obtain ⟨sg, rs, ys, h', c1, c2, c3, c4, c5⟩ := iQ hc hk
   rw [c2 _ rfl] at c3
   exact ⟨rs, h', ⟨ys, c3, .inl ⟨g, first, cap, rfl, c4⟩⟩, c5⟩
  ·rename_i l
   split at hk
   ·rename_i e1 e2
    have e1 : first = #[] := Array.toList_inj.1 e1
    have e2 : cap = #[] := Array.toList_inj.1 e2
    subst e1 e2
    split at hk
    ·rename_i κ st pd vs e
     split at hk
     ·cases hk
     ·rename_i e3
      have e3 := lM e3
      subst e3
      split at hk
      ·cases hk
      ·rename_i xs e4
       split at hk
       ·rename_i e5
        obtain ⟨d1, d2, d3⟩ := mF e4
        obtain ⟨b, h', y1, y2⟩ := hc.y κ vs l _ h K w st pd xs e ⟨d1, rfl, d3⟩ hk
        rw [d2] at y1
        refine ⟨[.b b], h', ⟨[.leaf (.b b)], ⟨rfl, rfl, fun x hx => ?_⟩, .inr ⟨l, rfl, y1⟩⟩, y2⟩
        simp only [List.mem_singleton] at hx
        subst hx
        intro y hy
        simp only [S0.cells, List.mem_singleton] at hy
        subst hy; trivial
       ·cases hk
    ·cases hk
   ·cases hk
  ·cases hk
 ·cases hk
theorem rfunB_ok {C : Cfg} {Sg : FuncId → Option Sig} {T : Nat → Site} {call : aa} (hc : CallBOk C Sg T call) {κ : Nat} {v : Value} {vals : List Value} {h : HTr} {K : Option Code → HTr → RT} (hk : oP Sg call κ v vals h K = some w) :
  ∃ g first cap r H1 lp h2, v = .func (.func g) first cap ∧ fk C g (first.toList ++ [.func (.yield (absH T (toL h)).length) #[] #[]] ++ cap.toList) (absH T (toL h) ++ [.loop (lpOf (T κ) κ vals)]) r H1 ∧
   dh H1 (absH T (toL h)).length = some lp ∧ lp.state ≠ .busy ∧ absH T (toL h2) = H1.set (absH T (toL h)).length (.loop { lp with state := .exhausted }) ∧ K lp.pending h2 = some w := by
 unfold oP at hk
 split at hk
 ·rename_i fn first cap
  split at hk
  ·rename_i g
   rw [fc] at hk
   obtain ⟨sg, rs, ys, h', _, _, c3, c4, c5⟩ := iQ hc hk
   have hlen : (absH T (toL h)).length = h.n := by rw [eV, dS]
   split at c5
   ·rename_i κ' st pd vs e
    have hl := ge (T := T) e
    rw [ff, fL] at c4
    have fin : ∀ (hst : st ≠ .busy), (putK h' h.n (.lp κ' .exhausted pd vs) fun h2 => K pd h2) = some w → ∃ g' first' cap' r H1 lp h2, (Value.func (.func g) first cap) = .func (.func g') first' cap' ∧ fk C g' (first'.toList ++ [.func (.yield (absH T (toL h)).length) #[] #[]] ++ cap'.toList) (absH T (toL h) ++ [.loop (lpOf (T κ) κ vals)]) r H1 ∧
      dh H1 (absH T (toL h)).length = some lp ∧ lp.state ≠ .busy ∧ absH T (toL h2) = H1.set (absH T (toL h)).length (.loop { lp with state := .exhausted }) ∧ K lp.pending h2 = some w := by
     intro hst hk
     rw [eO] at hk
     refine ⟨g, first, cap, dH (am ys), absH T (toL h'), { lpOf (T κ') κ' vs with state := st, pending := pd }, h'.put h.n (.lp κ' .exhausted pd vs), rfl, ?_, ?_, hst, ?_, hk⟩
     ·rw [hlen]; exact c4
     ·rw [hlen]; exact hl
     ·rw [eU, fM, hlen]; rfl
    cases st with
    | busy => cases c5
    | _ => exact fin (by simp) c5
   ·cases c5
  ·cases hk
 ·cases hk
theorem nJ {id : Nat} : ∀ {ks : List (Nat × RT)}, (List.rec none (fun p _ ih => match Nat.beq p.1 id with | true => p.2 | false => ih) ks : RT) = some w →
  ∃ id' x, some (Code.exit id) = some (Code.exit id') ∧ (id', x) ∈ ks ∧ x = some w
 | [], h => by cases h
 | p :: ks, h => by
  have h : (match Nat.beq p.1 id with | true => p.2 | false => (List.rec none (fun p _ ih => match Nat.beq p.1 id with | true => p.2 | false => ih) ks : RT)) = some w := h
  split at h
  ·rename_i e
   exact ⟨id, p.2, rfl, by rw [← Nat.eq_of_beq_eq_true e]; exact List.mem_cons_self, h⟩
  ·obtain ⟨id', x, a, b, c⟩ := nJ h
   exact ⟨id', x, a, List.mem_cons_of_mem _ b, c⟩
theorem shfB_ok {op : BinOp} {k k' : IntKind} {a b : Int} {K : Int → RT} (h : shfB op k a k' b K = some w) : ∃ n, ShRun op k a k' b n ∧ K n = some w := by
 unfold shfB at h
 split at h
 ·rename_i hb
  have hb : ¬ b < 0 := by have := leZ_iff.1 hb; omega
  split at h
  ·rw [gF] at h
   exact ⟨_, fun P t w => by simp [binOp, Op.shift, hb], h⟩
  ·rw [gF] at h
   exact ⟨_, fun P t w => by simp [binOp, Op.shift, hb], h⟩
  ·cases h
 ·cases h
theorem iM {C : Cfg} {Sg : FuncId → Option Sig} {T : Nat → Site} {call : aa} (hc : CallBOk C Sg T call) : AlgOk (BA Sg T call) C Sg T (fun b => b = some w) (fun h => absH T (toL h)) where
 fail := by intro h; cases h
 cond := by
  intro b x y h
  cases b
  ·exact .inr ⟨rfl, h⟩
  ·exact .inl ⟨rfl, h⟩
 ari := fun op k a b K h => ariB_ok h
 shf := fun op k a k' b K h => shfB_ok h
 cmp := fun op a b K h => cmpB_ok h
 eqs := fun l K h => eqsB_ok h
 conv := fun k a K h => fitsK h
 sel := by intro t a b K h; cases t <;> exact h
 opt := by
  intro α o K h
  cases o with
  | none => cases h
  | some x => exact ⟨x, rfl, h⟩
 chk := by
  intro v K h
  have h : chkB v K = some w := h
  unfold chkB at h
  split at h
  ·rename_i e; rw [py] at e; exact ⟨e, h⟩
  ·cases h
 unI := by
  intro ls K h
  match ls, h with
  | .i n :: r, h => exact ⟨n, r, rfl, h⟩
 unB := by
  intro ls K h
  match ls, h with
  | .b n :: r, h => exact ⟨n, r, rfl, h⟩
 unV := by
  intro ls K h
  match ls, h with
  | .v n :: r, h => exact ⟨n, r, rfl, h⟩
 un0 := by
  intro ls K h
  match ls, h with
  | [], h => exact ⟨rfl, h⟩
 ucI := by
  intro k ls K h
  match ls, h with
  | .int k' n :: r, h =>
   have h : (match eh k k' with | true => K n r | false => none) = some w := h
   split at h
   ·rename_i e; rw [dx e]; exact ⟨n, r, rfl, h⟩
   ·cases h
 ucB := by
  intro ls K h
  match ls, h with
  | .bool n :: r, h => exact ⟨n, r, rfl, h⟩
 ucV := by
  intro ls K h
  match ls, h with
  | n :: r, h => exact ⟨n, r, rfl, h⟩
 uc0 := by
  intro ls K h
  match ls, h with
  | [], h => exact ⟨rfl, h⟩
 peek := by
  intro f h K hk
  have hk : qL T f h K = some w := hk
  unfold qL at hk
  rw [← gI]
  cases f with
  | ld n p => exact ldB_ok hk
  | lg C n p => exact lgB_ok hk
  | fn f =>
   simp only at hk
   rw [iE] at hk
   split at hk
   ·rename_i x e; exact ⟨x, e, hk⟩
   ·cases hk
 heap := by
  intro f h K hk
  have hk : ow T f h K = some w := hk
  obtain ⟨acts, cs, h', a1, a2, a3⟩ := heapB_ok hk
  exact ⟨acts, cs, h', by rw [← gI, eV]; exact a1, by rw [a2]; exact gz T acts (toL h), a3⟩
 new := by
  intro o h K hk
  have hk : newB o h K = some w := hk
  unfold newB at hk
  obtain ⟨x, e1, e2⟩ := gg (o := o) (k := fun o => gS h o fun h' => K h.n h')
  rw [e2, fc] at hk
  exact ⟨h.push x, by rw [ff, e1]; exact fL T (toL h) _, by rw [eV, dS]; exact hk⟩
 call := fun g ls h K hk => lF hc hk
 callv := fun v args hs h K hk => callvB_ok hc hk
 join := fun b m h => h
 loop := by
  intro F ls h hk
  refine ⟨fun n => Nat.rec (motive := fun _ => List Lf → HTr → RT) (fun _ _ => none) (fun _ ih ls h => F ih ls h) n, fun ls h => (by simp), fun n ls h => rfl, 1000000, hk⟩
 rfun := fun κ v vals h K hk => rfunB_ok hc hk
 pend := by
  intro pd kn kr ks h
  cases pd with
  | none => exact .inl ⟨rfl, h⟩
  | some c =>
   cases c <;> first | exact .inr (.inl ⟨rfl, h⟩) | skip
   case exit id =>
    exact .inr (.inr (nJ h))
   all_goals cases h
 lp1 := by
  intro l h K hk
  have hk : lp1B l h K = some w := hk
  unfold lp1B at hk
  split at hk
  ·rename_i κ st pd vs e
   split at hk
   ·rw [eO] at hk
    exact ⟨_, _, ge e, rfl, by rw [eU]; exact fM T (toL h) l _, hk⟩
   ·cases hk
  ·cases hk
 lp2 := by
  intro l j h K hk
  have hk : lp2B l j h K = some w := hk
  unfold lp2B at hk
  split at hk
  ·rename_i κ st pd vs e
   cases j with
   | none =>
    have hk : putK h l (.lp κ .ready none vs) K = some w := hk
    rw [eO] at hk
    exact ⟨_, h.put l (.lp κ .ready none vs), ge e, (congrArg (absH T) (eU h l (.lp κ .ready none vs))).trans (fM T (toL h) l (.lp κ .ready none vs)), hk⟩
   | some c =>
    have hk : putK h l (.lp κ .done (some c) vs) K = some w := hk
    rw [eO] at hk
    exact ⟨_, h.put l (.lp κ .done (some c) vs), ge e, (congrArg (absH T) (eU h l (.lp κ .done (some c) vs))).trans (fM T (toL h) l (.lp κ .done (some c) vs)), hk⟩
  ·cases hk
inductive TabOk (C : Cfg) (Sg : FuncId → Option Sig) (X : Ctxt) (dr : List Nat → Array Oper → Bool) (A : Alg RT HTr) (f : FuncId) (ls : List Lf) (h : HTr) (K : List Lf → HTr → RT) (w : List Lf) : Prop
 |run (fn : Fn1) (hi : FnIs X Sg f fn) (he : av A X Sg dr fn ls h K = some w)
 |known (rs : List Lf) (hc : ∀ H, aQ C Sg f ls H rs H) (hk : K rs h = some w)
 | alone (fn : Fn1) (rs : List Lf) (sg : Sig) (hi : FnIs X Sg f fn) (hs : Sg f = some sg) (hp : sg.plain = true) (he : av A X Sg dr fn ls .empty (fun rs _ => some rs) = some rs) (hk : K rs h = some w)
end
end Sx
end Go.Am

/-
 CALLS THAT LEAVE NOTHING BEHIND: a run that begins with an empty heap is a run over any heap.
-/
namespace Go.Am
namespace Sx
section
variable [Val]
theorem nG {mu : HMap} {p : Pl} {x y : Option Obj} {o : HObj} (hxy : ∀ a, x = some a → y = some a) (h : objR mu p x o) : objR mu p y o := by
 cases o with
 | cells vs esz rw =>
  obtain ⟨h1, h2, h3, c, e, fr, h4, h5⟩ := h
  exact ⟨h1, h2, h3, c, e, fr, hxy _ h4, h5⟩
 | map es clock =>
  obtain ⟨es', h1, h2⟩ := h
  exact ⟨es', hxy _ h1, h2⟩
 | loop r =>
  obtain ⟨L, h1, h2⟩ := h
  exact ⟨L, hxy _ h1, h2⟩
 | siter s pos => exact hxy _ h
 | dead => trivial
theorem lV {la : LMap} {mu mu' : HMap} {vs cs : List Value} (hf : vs.all flat = true) (h : VRs la mu vs cs) : VRs la mu' vs cs := by
 refine ⟨h.1, fun i x y hx hy => ?_⟩
 have h1 := h.2 i x y hx hy
 have h2 : flat x = true := List.all_eq_true.1 hf x (List.mem_of_getElem? hx)
 rw [cv h2 h1]
 exact .of_flat h2
theorem no_own {mu : HMap} {b : Nat} : ¬ Own mu [] b := by
 rintro ⟨id, o, p, h, _⟩
 simp at h
theorem frame_ok {C : Cfg} (hG : ∀ g vs, C.G g = some vs → vs.all flat = true) {f : FuncId} {args : List Value} {r : Value} {H' : List HObj} (h : dq C f args [] r H') (ha : args.all flat = true) (hr : flat r = true) (H : List HObj) : dq C f args H r H := by
 intro base mu w args' hb hargs hW
 have hW0 : WR C w.heap.size (fun _ => none) [] w := by
  refine ⟨fun id o h => by simp at h, fun i j oi oj pi pj h => by simp at h, fun i o p h => by simp at h, fun i o p h => by simp at h, fun _ _ => rfl, fun g vs hg => ?_⟩
  obtain ⟨h1, h2, c, e, fr, h3, h4⟩ := hW.glob g vs hg
  exact ⟨by omega, h2, c, e, fr, h3, lV (hG g vs hg) h4⟩
 obtain ⟨v, mu', w', a1, a2, a3, a4, a5⟩ := h w.heap.size (fun _ => none) w args' (Nat.le_refl _) (lV ha hargs) hW0
 have hkeep : ∀ (b : Nat) x, w.heap[b]? = some x → w'.heap[b]? = some x := by
  intro b x hx
  have hlt : b < w.heap.size := by
   rcases Nat.lt_or_ge b w.heap.size with h | h
   ·exact h
   ·rw [Array.getElem?_eq_none h] at hx; cases hx
  rw [a3.keep b hlt no_own]; exact hx
 refine ⟨v, mu, w', ?_, ?_, ?_, a4, a5⟩
 ·rw [cv hr a1]; exact .of_flat hr
 ·refine ⟨fun id o h1 h2 => ?_, hW.inj, hW.own, hW.ro, hW.dom, fun g vs hg => ?_⟩
  ·obtain ⟨p, h3, h4⟩ := hW.obj id o h1 h2
   exact ⟨p, h3, nG (hkeep p.b) h4⟩
  ·obtain ⟨h1, h2, c, e, fr, h3, h4⟩ := hW.glob g vs hg
   exact ⟨h1, h2, c, e, fr, hkeep _ _ h3, h4⟩
 ·exact ⟨Nat.le_refl _, fun _ _ => rfl, a3.size, fun b hb _ => a3.keep b hb no_own, fun b h => .inr h, a3.os, a3.tape, a3.output⟩
end
section
variable [Val] [Kno]
end
end Sx
end Go.Am

/-
 THE FUNCTIONS OF THE PROGRAM ARE WHAT IS TOLD OF THEM, BY PROGRAM.
-/
set_option maxRecDepth 100000
namespace Go.Am
open Sx Go.Proofs
def neuT : List (Nat × Nat) := [(15, 3), (37, 2), (38, 2), (46, 1), (63, 2), (64, 2), (65, 1), (86, 1), (87, 2), (18, 2), (26, 2), (30, 1), (55, 1)]
def lookN (l : List (Nat × Nat)) (f : Nat) : Option Nat := match l with
 | [] => none
 | p :: l => match Nat.beq p.1 f with
  | true => some p.2
  | false => lookN l f
def neuN (f : FuncId) : Option Nat := lookN neuT f
theorem nA {f n : Nat} : ∀ {l : List (Nat × Nat)}, lookN l f = some n → (f, n) ∈ l
 | p :: l, h => by
  unfold lookN at h
  split at h
  ·rename_i e
   cases h
   have := Nat.eq_of_beq_eq_true e
   subst this
   exact List.mem_cons_self
  ·exact List.mem_cons_of_mem _ (nA h)
theorem neuT_ok : (neuT.all fun p => neuF neuN cc p.1 p.2) = true := by kernel_rfl
theorem neuN_ok (f n : Nat) (h : neuN f = some n) : neuF neuN cc f n = true := List.all_eq_true.1 neuT_ok (f, n) (nA h)
noncomputable def drN (pts : List Nat) (ops : Array Oper) : Bool := nP neuN pts ops
noncomputable def n4 : Fn1 := fn1 cc.P 4 ((ac 4).getD ⟨[], []⟩) an4
noncomputable def n10 : Fn1 := fn1 cc.P 10 ((ac 10).getD ⟨[], []⟩) an10
noncomputable def n11 : Fn1 := fn1 cc.P 11 ((ac 11).getD ⟨[], []⟩) an11
noncomputable def n12 : Fn1 := fn1 cc.P 12 ((ac 12).getD ⟨[], []⟩) an12
noncomputable def n13 : Fn1 := fn1 cc.P 13 ((ac 13).getD ⟨[], []⟩) an13
noncomputable def n15 : Fn1 := fn1 cc.P 15 ((ac 15).getD ⟨[], []⟩) an15
noncomputable def n16 : Fn1 := fn1 cc.P 16 ((ac 16).getD ⟨[], []⟩) an16
noncomputable def n17 : Fn1 := fn1 cc.P 17 ((ac 17).getD ⟨[], []⟩) an17
noncomputable def n18 : Fn1 := fn1 cc.P 18 ((ac 18).getD ⟨[], []⟩) an18
noncomputable def n19 : Fn1 := fn1 cc.P 19 ((ac 19).getD ⟨[], []⟩) an19
noncomputable def n20 : Fn1 := fn1 cc.P 20 ((ac 20).getD ⟨[], []⟩) an20
noncomputable def n21 : Fn1 := fn1 cc.P 21 ((ac 21).getD ⟨[], []⟩) an21
noncomputable def n22 : Fn1 := fn1 cc.P 22 ((ac 22).getD ⟨[], []⟩) an22
noncomputable def n31 : Fn1 := fn1 cc.P 31 ((ac 31).getD ⟨[], []⟩) an31
noncomputable def n32 : Fn1 := fn1 cc.P 32 ((ac 32).getD ⟨[], []⟩) an32
noncomputable def n33 : Fn1 := fn1 cc.P 33 ((ac 33).getD ⟨[], []⟩) an33
noncomputable def n34 : Fn1 := fn1 cc.P 34 ((ac 34).getD ⟨[], []⟩) an34
noncomputable def n37 : Fn1 := fn1 cc.P 37 ((ac 37).getD ⟨[], []⟩) an37
noncomputable def n38 : Fn1 := fn1 cc.P 38 ((ac 38).getD ⟨[], []⟩) an38
noncomputable def n39 : Fn1 := fn1 cc.P 39 ((ac 39).getD ⟨[], []⟩) an39
noncomputable def n40 : Fn1 := fn1 cc.P 40 ((ac 40).getD ⟨[], []⟩) an40
noncomputable def n41 : Fn1 := fn1 cc.P 41 ((ac 41).getD ⟨[], []⟩) an41
noncomputable def n42 : Fn1 := fn1 cc.P 42 ((ac 42).getD ⟨[], []⟩) an42
noncomputable def n43 : Fn1 := fn1 cc.P 43 ((ac 43).getD ⟨[], []⟩) an43
noncomputable def n44 : Fn1 := fn1 cc.P 44 ((ac 44).getD ⟨[], []⟩) an44
noncomputable def n46 : Fn1 := fn1 cc.P 46 ((ac 46).getD ⟨[], []⟩) an46
noncomputable def n47 : Fn1 := fn1 cc.P 47 ((ac 47).getD ⟨[], []⟩) an47
noncomputable def n49 : Fn1 := fn1 cc.P 49 ((ac 49).getD ⟨[], []⟩) an49
noncomputable def n50 : Fn1 := fn1 cc.P 50 ((ac 50).getD ⟨[], []⟩) an50
noncomputable def n51 : Fn1 := fn1 cc.P 51 ((ac 51).getD ⟨[], []⟩) an51
noncomputable def n52 : Fn1 := fn1 cc.P 52 ((ac 52).getD ⟨[], []⟩) an52
noncomputable def n54 : Fn1 := fn1 cc.P 54 ((ac 54).getD ⟨[], []⟩) an54
noncomputable def n55 : Fn1 := fn1 cc.P 55 ((ac 55).getD ⟨[], []⟩) an55
noncomputable def n56 : Fn1 := fn1 cc.P 56 ((ac 56).getD ⟨[], []⟩) an56
noncomputable def n57 : Fn1 := fn1 cc.P 57 ((ac 57).getD ⟨[], []⟩) an57
noncomputable def n58 : Fn1 := fn1 cc.P 58 ((ac 58).getD ⟨[], []⟩) an58
noncomputable def n59 : Fn1 := fn1 cc.P 59 ((ac 59).getD ⟨[], []⟩) an59
noncomputable def n60 : Fn1 := fn1 cc.P 60 ((ac 60).getD ⟨[], []⟩) an60
noncomputable def n61 : Fn1 := fn1 cc.P 61 ((ac 61).getD ⟨[], []⟩) an61
noncomputable def n62 : Fn1 := fn1 cc.P 62 ((ac 62).getD ⟨[], []⟩) an62
noncomputable def n63 : Fn1 := fn1 cc.P 63 ((ac 63).getD ⟨[], []⟩) an63
noncomputable def n64 : Fn1 := fn1 cc.P 64 ((ac 64).getD ⟨[], []⟩) an64
noncomputable def n65 : Fn1 := fn1 cc.P 65 ((ac 65).getD ⟨[], []⟩) an65
noncomputable def n66 : Fn1 := fn1 cc.P 66 ((ac 66).getD ⟨[], []⟩) an66
noncomputable def n67 : Fn1 := fn1 cc.P 67 ((ac 67).getD ⟨[], []⟩) an67
noncomputable def n68 : Fn1 := fn1 cc.P 68 ((ac 68).getD ⟨[], []⟩) an68
noncomputable def n69 : Fn1 := fn1 cc.P 69 ((ac 69).getD ⟨[], []⟩) an69
noncomputable def n70 : Fn1 := fn1 cc.P 70 ((ac 70).getD ⟨[], []⟩) an70
noncomputable def n71 : Fn1 := fn1 cc.P 71 ((ac 71).getD ⟨[], []⟩) an71
noncomputable def n72 : Fn1 := fn1 cc.P 72 ((ac 72).getD ⟨[], []⟩) an72
noncomputable def n73 : Fn1 := fn1 cc.P 73 ((ac 73).getD ⟨[], []⟩) an73
noncomputable def n74 : Fn1 := fn1 cc.P 74 ((ac 74).getD ⟨[], []⟩) an74
noncomputable def n75 : Fn1 := fn1 cc.P 75 ((ac 75).getD ⟨[], []⟩) an75
noncomputable def n76 : Fn1 := fn1 cc.P 76 ((ac 76).getD ⟨[], []⟩) an76
noncomputable def n77 : Fn1 := fn1 cc.P 77 ((ac 77).getD ⟨[], []⟩) an77
noncomputable def n78 : Fn1 := fn1 cc.P 78 ((ac 78).getD ⟨[], []⟩) an78
noncomputable def n79 : Fn1 := fn1 cc.P 79 ((ac 79).getD ⟨[], []⟩) an79
noncomputable def n80 : Fn1 := fn1 cc.P 80 ((ac 80).getD ⟨[], []⟩) an80
noncomputable def n81 : Fn1 := fn1 cc.P 81 ((ac 81).getD ⟨[], []⟩) an81
noncomputable def n82 : Fn1 := fn1 cc.P 82 ((ac 82).getD ⟨[], []⟩) an82
noncomputable def n83 : Fn1 := fn1 cc.P 83 ((ac 83).getD ⟨[], []⟩) an83
noncomputable def n84 : Fn1 := fn1 cc.P 84 ((ac 84).getD ⟨[], []⟩) an84
noncomputable def n85 : Fn1 := fn1 cc.P 85 ((ac 85).getD ⟨[], []⟩) an85
noncomputable def n86 : Fn1 := fn1 cc.P 86 ((ac 86).getD ⟨[], []⟩) an86
noncomputable def n87 : Fn1 := fn1 cc.P 87 ((ac 87).getD ⟨[], []⟩) an87
noncomputable def n88 : Fn1 := fn1 cc.P 88 ((ac 88).getD ⟨[], []⟩) an88
noncomputable def n89 : Fn1 := fn1 cc.P 89 ((ac 89).getD ⟨[], []⟩) an89
noncomputable def n90 : Fn1 := fn1 cc.P 90 ((ac 90).getD ⟨[], []⟩) an90
noncomputable def n91 : Fn1 := fn1 cc.P 91 ((ac 91).getD ⟨[], []⟩) an91
noncomputable def n92 : Fn1 := fn1 cc.P 92 ((ac 92).getD ⟨[], []⟩) an92
noncomputable def n93 : Fn1 := fn1 cc.P 93 ((ac 93).getD ⟨[], []⟩) an93
noncomputable def n94 : Fn1 := fn1 cc.P 94 ((ac 94).getD ⟨[], []⟩) an94
noncomputable def n95 : Fn1 := fn1 cc.P 95 ((ac 95).getD ⟨[], []⟩) an95
noncomputable def n104 : Fn1 := fn1 cc.P 104 ((ac 104).getD ⟨[], []⟩) an104
noncomputable def n105 : Fn1 := fn1 cc.P 105 ((ac 105).getD ⟨[], []⟩) an105
noncomputable def n113 : Fn1 := fn1 cc.P 113 ((ac 113).getD ⟨[], []⟩) an113
noncomputable def n114 : Fn1 := fn1 cc.P 114 ((ac 114).getD ⟨[], []⟩) an114
noncomputable def n115 : Fn1 := fn1 cc.P 115 ((ac 115).getD ⟨[], []⟩) an115
noncomputable def n116 : Fn1 := fn1 cc.P 116 ((ac 116).getD ⟨[], []⟩) an116
noncomputable def n117 : Fn1 := fn1 cc.P 117 ((ac 117).getD ⟨[], []⟩) an117
noncomputable def n118 : Fn1 := fn1 cc.P 118 ((ac 118).getD ⟨[], []⟩) an118
noncomputable def n119 : Fn1 := fn1 cc.P 119 ((ac 119).getD ⟨[], []⟩) an119
noncomputable def n120 : Fn1 := fn1 cc.P 120 ((ac 120).getD ⟨[], []⟩) an120
noncomputable def n129 : Fn1 := fn1 cc.P 129 ((ac 129).getD ⟨[], []⟩) an129
noncomputable def n130 : Fn1 := fn1 cc.P 130 ((ac 130).getD ⟨[], []⟩) an130
noncomputable def n131 : Fn1 := fn1 cc.P 131 ((ac 131).getD ⟨[], []⟩) an131
theorem i4 : FnIs (xc 4) ac 4 n4 := ⟨⟨Tryz.f4, Tryz.func4, by kernel_rfl, by kernel_rfl, by kernel_rfl, by kernel_rfl⟩, rfl, by kernel_rfl⟩
theorem i10 : FnIs (xc 10) ac 10 n10 := ⟨⟨Tryz.f10, Tryz.func10, by kernel_rfl, by kernel_rfl, by kernel_rfl, by kernel_rfl⟩, rfl, by kernel_rfl⟩
theorem i11 : FnIs (xc 11) ac 11 n11 := ⟨⟨Tryz.f11, Tryz.func11, by kernel_rfl, by kernel_rfl, by kernel_rfl, by kernel_rfl⟩, rfl, by kernel_rfl⟩
theorem i12 : FnIs (xc 12) ac 12 n12 := ⟨⟨Tryz.f12, Tryz.func12, by kernel_rfl, by kernel_rfl, by kernel_rfl, by kernel_rfl⟩, rfl, by kernel_rfl⟩
theorem i13 : FnIs (xc 13) ac 13 n13 := ⟨⟨Tryz.f13, Tryz.func13, by kernel_rfl, by kernel_rfl, by kernel_rfl, by kernel_rfl⟩, rfl, by kernel_rfl⟩
theorem i15 : FnIs (xc 15) ac 15 n15 := ⟨⟨Tryz.f15, Tryz.func15, by kernel_rfl, by kernel_rfl, by kernel_rfl, by kernel_rfl⟩, rfl, by kernel_rfl⟩
theorem i16 : FnIs (xc 16) ac 16 n16 := ⟨⟨Tryz.f16, Tryz.func16, by kernel_rfl, by kernel_rfl, by kernel_rfl, by kernel_rfl⟩, rfl, by kernel_rfl⟩
theorem i17 : FnIs (xc 17) ac 17 n17 := ⟨⟨Tryz.f17, Tryz.func17, by kernel_rfl, by kernel_rfl, by kernel_rfl, by kernel_rfl⟩, rfl, by kernel_rfl⟩
theorem i18 : FnIs (xc 18) ac 18 n18 := ⟨⟨Tryz.f18, Tryz.func18, by kernel_rfl, by kernel_rfl, by kernel_rfl, by kernel_rfl⟩, rfl, by kernel_rfl⟩
theorem i19 : FnIs (xc 19) ac 19 n19 := ⟨⟨Tryz.f19, Tryz.func19, by kernel_rfl, by kernel_rfl, by kernel_rfl, by kernel_rfl⟩, rfl, by kernel_rfl⟩
theorem i20 : FnIs (xc 20) ac 20 n20 := ⟨⟨Tryz.f20, Tryz.func20, by kernel_rfl, by kernel_rfl, by kernel_rfl, by kernel_rfl⟩, rfl, by kernel_rfl⟩
theorem i21 : FnIs (xc 21) ac 21 n21 := ⟨⟨Tryz.f21, Tryz.func21, by kernel_rfl, by kernel_rfl, by kernel_rfl, by kernel_rfl⟩, rfl, by kernel_rfl⟩
theorem i22 : FnIs (xc 22) ac 22 n22 := ⟨⟨Tryz.f22, Tryz.func22, by kernel_rfl, by kernel_rfl, by kernel_rfl, by kernel_rfl⟩, rfl, by kernel_rfl⟩
theorem i31 : FnIs (xc 31) ac 31 n31 := ⟨⟨Tryz.f31, Tryz.func31, by kernel_rfl, by kernel_rfl, by kernel_rfl, by kernel_rfl⟩, rfl, by kernel_rfl⟩
theorem i32 : FnIs (xc 32) ac 32 n32 := ⟨⟨Tryz.f32, Tryz.func32, by kernel_rfl, by kernel_rfl, by kernel_rfl, by kernel_rfl⟩, rfl, by kernel_rfl⟩
theorem i33 : FnIs (xc 33) ac 33 n33 := ⟨⟨Tryz.f33, Tryz.func33, by kernel_rfl, by kernel_rfl, by kernel_rfl, by kernel_rfl⟩, rfl, by kernel_rfl⟩
theorem i34 : FnIs (xc 34) ac 34 n34 := ⟨⟨Tryz.f34, Tryz.func34, by kernel_rfl, by kernel_rfl, by kernel_rfl, by kernel_rfl⟩, rfl, by kernel_rfl⟩
theorem i37 : FnIs (xc 37) ac 37 n37 := ⟨⟨Tryz.f37, Tryz.func37, by kernel_rfl, by kernel_rfl, by kernel_rfl, by kernel_rfl⟩, rfl, by kernel_rfl⟩
theorem i38 : FnIs (xc 38) ac 38 n38 := ⟨⟨Tryz.f38, Tryz.func38, by kernel_rfl, by kernel_rfl, by kernel_rfl, by kernel_rfl⟩, rfl, by kernel_rfl⟩
theorem i39 : FnIs (xc 39) ac 39 n39 := ⟨⟨Tryz.f39, Tryz.func39, by kernel_rfl, by kernel_rfl, by kernel_rfl, by kernel_rfl⟩, rfl, by kernel_rfl⟩
theorem i40 : FnIs (xc 40) ac 40 n40 := ⟨⟨Tryz.f40, Tryz.func40, by kernel_rfl, by kernel_rfl, by kernel_rfl, by kernel_rfl⟩, rfl, by kernel_rfl⟩
theorem i41 : FnIs (xc 41) ac 41 n41 := ⟨⟨Tryz.f41, Tryz.func41, by kernel_rfl, by kernel_rfl, by kernel_rfl, by kernel_rfl⟩, rfl, by kernel_rfl⟩
theorem i42 : FnIs (xc 42) ac 42 n42 := ⟨⟨Tryz.f42, Tryz.func42, by kernel_rfl, by kernel_rfl, by kernel_rfl, by kernel_rfl⟩, rfl, by kernel_rfl⟩
theorem i43 : FnIs (xc 43) ac 43 n43 := ⟨⟨Tryz.f43, Tryz.func43, by kernel_rfl, by kernel_rfl, by kernel_rfl, by kernel_rfl⟩, rfl, by kernel_rfl⟩
theorem i44 : FnIs (xc 44) ac 44 n44 := ⟨⟨Tryz.f44, Tryz.func44, by kernel_rfl, by kernel_rfl, by kernel_rfl, by kernel_rfl⟩, rfl, by kernel_rfl⟩
theorem i46 : FnIs (xc 46) ac 46 n46 := ⟨⟨Tryz.f46, Tryz.func46, by kernel_rfl, by kernel_rfl, by kernel_rfl, by kernel_rfl⟩, rfl, by kernel_rfl⟩
theorem i47 : FnIs (xc 47) ac 47 n47 := ⟨⟨Tryz.f47, Tryz.func47, by kernel_rfl, by kernel_rfl, by kernel_rfl, by kernel_rfl⟩, rfl, by kernel_rfl⟩
theorem i49 : FnIs (xc 49) ac 49 n49 := ⟨⟨Tryz.f49, Tryz.func49, by kernel_rfl, by kernel_rfl, by kernel_rfl, by kernel_rfl⟩, rfl, by kernel_rfl⟩
theorem i50 : FnIs (xc 50) ac 50 n50 := ⟨⟨Tryz.f50, Tryz.func50, by kernel_rfl, by kernel_rfl, by kernel_rfl, by kernel_rfl⟩, rfl, by kernel_rfl⟩
theorem i51 : FnIs (xc 51) ac 51 n51 := ⟨⟨Tryz.f51, Tryz.func51, by kernel_rfl, by kernel_rfl, by kernel_rfl, by kernel_rfl⟩, rfl, by kernel_rfl⟩
theorem i52 : FnIs (xc 52) ac 52 n52 := ⟨⟨Tryz.f52, Tryz.func52, by kernel_rfl, by kernel_rfl, by kernel_rfl, by kernel_rfl⟩, rfl, by kernel_rfl⟩
theorem i54 : FnIs (xc 54) ac 54 n54 := ⟨⟨Tryz.f54, Tryz.func54, by kernel_rfl, by kernel_rfl, by kernel_rfl, by kernel_rfl⟩, rfl, by kernel_rfl⟩
theorem i55 : FnIs (xc 55) ac 55 n55 := ⟨⟨Tryz.f55, Tryz.func55, by kernel_rfl, by kernel_rfl, by kernel_rfl, by kernel_rfl⟩, rfl, by kernel_rfl⟩
theorem i56 : FnIs (xc 56) ac 56 n56 := ⟨⟨Tryz.f56, Tryz.func56, by kernel_rfl, by kernel_rfl, by kernel_rfl, by kernel_rfl⟩, rfl, by kernel_rfl⟩
theorem i57 : FnIs (xc 57) ac 57 n57 := ⟨⟨Tryz.f57, Tryz.func57, by kernel_rfl, by kernel_rfl, by kernel_rfl, by kernel_rfl⟩, rfl, by kernel_rfl⟩
theorem i58 : FnIs (xc 58) ac 58 n58 := ⟨⟨Tryz.f58, Tryz.func58, by kernel_rfl, by kernel_rfl, by kernel_rfl, by kernel_rfl⟩, rfl, by kernel_rfl⟩
theorem i59 : FnIs (xc 59) ac 59 n59 := ⟨⟨Tryz.f59, Tryz.func59, by kernel_rfl, by kernel_rfl, by kernel_rfl, by kernel_rfl⟩, rfl, by kernel_rfl⟩
theorem i60 : FnIs (xc 60) ac 60 n60 := ⟨⟨Tryz.f60, Tryz.func60, by kernel_rfl, by kernel_rfl, by kernel_rfl, by kernel_rfl⟩, rfl, by kernel_rfl⟩
theorem i61 : FnIs (xc 61) ac 61 n61 := ⟨⟨Tryz.f61, Tryz.func61, by kernel_rfl, by kernel_rfl, by kernel_rfl, by kernel_rfl⟩, rfl, by kernel_rfl⟩
theorem i62 : FnIs (xc 62) ac 62 n62 := ⟨⟨Tryz.f62, Tryz.func62, by kernel_rfl, by kernel_rfl, by kernel_rfl, by kernel_rfl⟩, rfl, by kernel_rfl⟩
theorem i63 : FnIs (xc 63) ac 63 n63 := ⟨⟨Tryz.f63, Tryz.func63, by kernel_rfl, by kernel_rfl, by kernel_rfl, by kernel_rfl⟩, rfl, by kernel_rfl⟩
theorem i64 : FnIs (xc 64) ac 64 n64 := ⟨⟨Tryz.f64, Tryz.func64, by kernel_rfl, by kernel_rfl, by kernel_rfl, by kernel_rfl⟩, rfl, by kernel_rfl⟩
theorem i65 : FnIs (xc 65) ac 65 n65 := ⟨⟨Tryz.f65, Tryz.func65, by kernel_rfl, by kernel_rfl, by kernel_rfl, by kernel_rfl⟩, rfl, by kernel_rfl⟩
theorem i66 : FnIs (xc 66) ac 66 n66 := ⟨⟨Tryz.f66, Tryz.func66, by kernel_rfl, by kernel_rfl, by kernel_rfl, by kernel_rfl⟩, rfl, by kernel_rfl⟩
theorem i67 : FnIs (xc 67) ac 67 n67 := ⟨⟨Tryz.f67, Tryz.func67, by kernel_rfl, by kernel_rfl, by kernel_rfl, by kernel_rfl⟩, rfl, by kernel_rfl⟩
theorem i68 : FnIs (xc 68) ac 68 n68 := ⟨⟨Tryz.f68, Tryz.func68, by kernel_rfl, by kernel_rfl, by kernel_rfl, by kernel_rfl⟩, rfl, by kernel_rfl⟩
theorem i69 : FnIs (xc 69) ac 69 n69 := ⟨⟨Tryz.f69, Tryz.func69, by kernel_rfl, by kernel_rfl, by kernel_rfl, by kernel_rfl⟩, rfl, by kernel_rfl⟩
theorem i70 : FnIs (xc 70) ac 70 n70 := ⟨⟨Tryz.f70, Tryz.func70, by kernel_rfl, by kernel_rfl, by kernel_rfl, by kernel_rfl⟩, rfl, by kernel_rfl⟩
theorem i71 : FnIs (xc 71) ac 71 n71 := ⟨⟨Tryz.f71, Tryz.func71, by kernel_rfl, by kernel_rfl, by kernel_rfl, by kernel_rfl⟩, rfl, by kernel_rfl⟩
theorem i72 : FnIs (xc 72) ac 72 n72 := ⟨⟨Tryz.f72, Tryz.func72, by kernel_rfl, by kernel_rfl, by kernel_rfl, by kernel_rfl⟩, rfl, by kernel_rfl⟩
theorem i73 : FnIs (xc 73) ac 73 n73 := ⟨⟨Tryz.f73, Tryz.func73, by kernel_rfl, by kernel_rfl, by kernel_rfl, by kernel_rfl⟩, rfl, by kernel_rfl⟩
theorem i74 : FnIs (xc 74) ac 74 n74 := ⟨⟨Tryz.f74, Tryz.func74, by kernel_rfl, by kernel_rfl, by kernel_rfl, by kernel_rfl⟩, rfl, by kernel_rfl⟩
theorem i75 : FnIs (xc 75) ac 75 n75 := ⟨⟨Tryz.f75, Tryz.func75, by kernel_rfl, by kernel_rfl, by kernel_rfl, by kernel_rfl⟩, rfl, by kernel_rfl⟩
theorem i76 : FnIs (xc 76) ac 76 n76 := ⟨⟨Tryz.f76, Tryz.func76, by kernel_rfl, by kernel_rfl, by kernel_rfl, by kernel_rfl⟩, rfl, by kernel_rfl⟩
theorem i77 : FnIs (xc 77) ac 77 n77 := ⟨⟨Tryz.f77, Tryz.func77, by kernel_rfl, by kernel_rfl, by kernel_rfl, by kernel_rfl⟩, rfl, by kernel_rfl⟩
theorem i78 : FnIs (xc 78) ac 78 n78 := ⟨⟨Tryz.f78, Tryz.func78, by kernel_rfl, by kernel_rfl, by kernel_rfl, by kernel_rfl⟩, rfl, by kernel_rfl⟩
theorem i79 : FnIs (xc 79) ac 79 n79 := ⟨⟨Tryz.f79, Tryz.func79, by kernel_rfl, by kernel_rfl, by kernel_rfl, by kernel_rfl⟩, rfl, by kernel_rfl⟩
theorem i80 : FnIs (xc 80) ac 80 n80 := ⟨⟨Tryz.f80, Tryz.func80, by kernel_rfl, by kernel_rfl, by kernel_rfl, by kernel_rfl⟩, rfl, by kernel_rfl⟩
theorem i81 : FnIs (xc 81) ac 81 n81 := ⟨⟨Tryz.f81, Tryz.func81, by kernel_rfl, by kernel_rfl, by kernel_rfl, by kernel_rfl⟩, rfl, by kernel_rfl⟩
theorem i82 : FnIs (xc 82) ac 82 n82 := ⟨⟨Tryz.f82, Tryz.func82, by kernel_rfl, by kernel_rfl, by kernel_rfl, by kernel_rfl⟩, rfl, by kernel_rfl⟩
theorem i83 : FnIs (xc 83) ac 83 n83 := ⟨⟨Tryz.f83, Tryz.func83, by kernel_rfl, by kernel_rfl, by kernel_rfl, by kernel_rfl⟩, rfl, by kernel_rfl⟩
theorem i84 : FnIs (xc 84) ac 84 n84 := ⟨⟨Tryz.f84, Tryz.func84, by kernel_rfl, by kernel_rfl, by kernel_rfl, by kernel_rfl⟩, rfl, by kernel_rfl⟩
theorem i85 : FnIs (xc 85) ac 85 n85 := ⟨⟨Tryz.f85, Tryz.func85, by kernel_rfl, by kernel_rfl, by kernel_rfl, by kernel_rfl⟩, rfl, by kernel_rfl⟩
theorem i86 : FnIs (xc 86) ac 86 n86 := ⟨⟨Tryz.f86, Tryz.func86, by kernel_rfl, by kernel_rfl, by kernel_rfl, by kernel_rfl⟩, rfl, by kernel_rfl⟩
theorem i87 : FnIs (xc 87) ac 87 n87 := ⟨⟨Tryz.f87, Tryz.func87, by kernel_rfl, by kernel_rfl, by kernel_rfl, by kernel_rfl⟩, rfl, by kernel_rfl⟩
theorem i88 : FnIs (xc 88) ac 88 n88 := ⟨⟨Tryz.f88, Tryz.func88, by kernel_rfl, by kernel_rfl, by kernel_rfl, by kernel_rfl⟩, rfl, by kernel_rfl⟩
theorem i89 : FnIs (xc 89) ac 89 n89 := ⟨⟨Tryz.f89, Tryz.func89, by kernel_rfl, by kernel_rfl, by kernel_rfl, by kernel_rfl⟩, rfl, by kernel_rfl⟩
theorem i90 : FnIs (xc 90) ac 90 n90 := ⟨⟨Tryz.f90, Tryz.func90, by kernel_rfl, by kernel_rfl, by kernel_rfl, by kernel_rfl⟩, rfl, by kernel_rfl⟩
theorem i91 : FnIs (xc 91) ac 91 n91 := ⟨⟨Tryz.f91, Tryz.func91, by kernel_rfl, by kernel_rfl, by kernel_rfl, by kernel_rfl⟩, rfl, by kernel_rfl⟩
theorem i92 : FnIs (xc 92) ac 92 n92 := ⟨⟨Tryz.f92, Tryz.func92, by kernel_rfl, by kernel_rfl, by kernel_rfl, by kernel_rfl⟩, rfl, by kernel_rfl⟩
theorem i93 : FnIs (xc 93) ac 93 n93 := ⟨⟨Tryz.f93, Tryz.func93, by kernel_rfl, by kernel_rfl, by kernel_rfl, by kernel_rfl⟩, rfl, by kernel_rfl⟩
theorem i94 : FnIs (xc 94) ac 94 n94 := ⟨⟨Tryz.f94, Tryz.func94, by kernel_rfl, by kernel_rfl, by kernel_rfl, by kernel_rfl⟩, rfl, by kernel_rfl⟩
theorem i95 : FnIs (xc 95) ac 95 n95 := ⟨⟨Tryz.f95, Tryz.func95, by kernel_rfl, by kernel_rfl, by kernel_rfl, by kernel_rfl⟩, rfl, by kernel_rfl⟩
theorem i104 : FnIs (xc 104) ac 104 n104 := ⟨⟨Tryz.f104, Tryz.func104, by kernel_rfl, by kernel_rfl, by kernel_rfl, by kernel_rfl⟩, rfl, by kernel_rfl⟩
theorem i105 : FnIs (xc 105) ac 105 n105 := ⟨⟨Tryz.f105, Tryz.func105, by kernel_rfl, by kernel_rfl, by kernel_rfl, by kernel_rfl⟩, rfl, by kernel_rfl⟩
theorem i113 : FnIs (xc 113) ac 113 n113 := ⟨⟨Tryz.f113, Tryz.func113, by kernel_rfl, by kernel_rfl, by kernel_rfl, by kernel_rfl⟩, rfl, by kernel_rfl⟩
theorem i114 : FnIs (xc 114) ac 114 n114 := ⟨⟨Tryz.f114, Tryz.func114, by kernel_rfl, by kernel_rfl, by kernel_rfl, by kernel_rfl⟩, rfl, by kernel_rfl⟩
theorem i115 : FnIs (xc 115) ac 115 n115 := ⟨⟨Tryz.f115, Tryz.func115, by kernel_rfl, by kernel_rfl, by kernel_rfl, by kernel_rfl⟩, rfl, by kernel_rfl⟩
theorem i116 : FnIs (xc 116) ac 116 n116 := ⟨⟨Tryz.f116, Tryz.func116, by kernel_rfl, by kernel_rfl, by kernel_rfl, by kernel_rfl⟩, rfl, by kernel_rfl⟩
theorem i117 : FnIs (xc 117) ac 117 n117 := ⟨⟨Tryz.f117, Tryz.func117, by kernel_rfl, by kernel_rfl, by kernel_rfl, by kernel_rfl⟩, rfl, by kernel_rfl⟩
theorem i118 : FnIs (xc 118) ac 118 n118 := ⟨⟨Tryz.f118, Tryz.func118, by kernel_rfl, by kernel_rfl, by kernel_rfl, by kernel_rfl⟩, rfl, by kernel_rfl⟩
theorem i119 : FnIs (xc 119) ac 119 n119 := ⟨⟨Tryz.f119, Tryz.func119, by kernel_rfl, by kernel_rfl, by kernel_rfl, by kernel_rfl⟩, rfl, by kernel_rfl⟩
theorem i120 : FnIs (xc 120) ac 120 n120 := ⟨⟨Tryz.f120, Tryz.func120, by kernel_rfl, by kernel_rfl, by kernel_rfl, by kernel_rfl⟩, rfl, by kernel_rfl⟩
theorem i129 : FnIs (xc 129) ac 129 n129 := ⟨⟨Tryz.f129, Tryz.func129, by kernel_rfl, by kernel_rfl, by kernel_rfl, by kernel_rfl⟩, rfl, by kernel_rfl⟩
theorem i130 : FnIs (xc 130) ac 130 n130 := ⟨⟨Tryz.f130, Tryz.func130, by kernel_rfl, by kernel_rfl, by kernel_rfl, by kernel_rfl⟩, rfl, by kernel_rfl⟩
theorem i131 : FnIs (xc 131) ac 131 n131 := ⟨⟨Tryz.f131, Tryz.func131, by kernel_rfl, by kernel_rfl, by kernel_rfl, by kernel_rfl⟩, rfl, by kernel_rfl⟩
end Go.Am

/-
 THE FUNCTIONS OF THE PROGRAM ARE WHAT IS TOLD OF THEM, BY PROGRAM, part 1.
-/
set_option maxRecDepth 100000
namespace Go.Am
open Sx Go.Proofs
theorem e12 : @f12 = fun R HT A ls h K => av A (xc 12) ac drN n12 ls h K := by kernel_rfl
theorem e15 : @f15 = fun R HT A ls h K => av A (xc 15) ac drN n15 ls h K := by kernel_rfl
theorem e18 : @f18 = fun R HT A ls h K => av A (xc 18) ac drN n18 ls h K := by kernel_rfl
theorem e20 : @f20 = fun R HT A ls h K => av A (xc 20) ac drN n20 ls h K := by kernel_rfl
theorem e37 : @f37 = fun R HT A ls h K => av A (xc 37) ac drN n37 ls h K := by kernel_rfl
theorem e40 : @f40 = fun R HT A ls h K => av A (xc 40) ac drN n40 ls h K := by kernel_rfl
theorem e46 : @f46 = fun R HT A ls h K => av A (xc 46) ac drN n46 ls h K := by kernel_rfl
theorem e52 : @f52 = fun R HT A ls h K => av A (xc 52) ac drN n52 ls h K := by kernel_rfl
theorem e70 : @f70 = fun R HT A ls h K => av A (xc 70) ac drN n70 ls h K := by kernel_rfl
theorem e77 : @f77 = fun R HT A ls h K => av A (xc 77) ac drN n77 ls h K := by kernel_rfl
theorem e83 : @f83 = fun R HT A ls h K => av A (xc 83) ac drN n83 ls h K := by kernel_rfl
theorem e84 : @f84 = fun R HT A ls h K => av A (xc 84) ac drN n84 ls h K := by kernel_rfl
theorem e90 : @f90 = fun R HT A ls h K => av A (xc 90) ac drN n90 ls h K := by kernel_rfl
end Go.Am

/-
 THE FUNCTIONS OF THE PROGRAM ARE WHAT IS TOLD OF THEM, BY PROGRAM, part 2.
-/
set_option maxRecDepth 100000
namespace Go.Am
open Sx Go.Proofs
theorem e22 : @f22 = fun R HT A ls h K => av A (xc 22) ac drN n22 ls h K := by kernel_rfl
theorem e49 : @f49 = fun R HT A ls h K => av A (xc 49) ac drN n49 ls h K := by kernel_rfl
theorem e51 : @f51 = fun R HT A ls h K => av A (xc 51) ac drN n51 ls h K := by kernel_rfl
theorem e54 : @f54 = fun R HT A ls h K => av A (xc 54) ac drN n54 ls h K := by kernel_rfl
theorem e67 : @f67 = fun R HT A ls h K => av A (xc 67) ac drN n67 ls h K := by kernel_rfl
theorem e72 : @f72 = fun R HT A ls h K => av A (xc 72) ac drN n72 ls h K := by kernel_rfl
theorem e73 : @f73 = fun R HT A ls h K => av A (xc 73) ac drN n73 ls h K := by kernel_rfl
theorem e80 : @f80 = fun R HT A ls h K => av A (xc 80) ac drN n80 ls h K := by kernel_rfl
theorem e86 : @f86 = fun R HT A ls h K => av A (xc 86) ac drN n86 ls h K := by kernel_rfl
theorem e92 : @f92 = fun R HT A ls h K => av A (xc 92) ac drN n92 ls h K := by kernel_rfl
theorem e113 : @f113 = fun R HT A ls h K => av A (xc 113) ac drN n113 ls h K := by kernel_rfl
theorem e116 : @f116 = fun R HT A ls h K => av A (xc 116) ac drN n116 ls h K := by kernel_rfl
end Go.Am

/-
 THE FUNCTIONS OF THE PROGRAM ARE WHAT IS TOLD OF THEM, BY PROGRAM, part 3.
-/
set_option maxRecDepth 100000
namespace Go.Am
open Sx Go.Proofs
theorem e34 : @f34 = fun R HT A ls h K => av A (xc 34) ac drN n34 ls h K := by kernel_rfl
theorem e43 : @f43 = fun R HT A ls h K => av A (xc 43) ac drN n43 ls h K := by kernel_rfl
theorem e47 : @f47 = fun R HT A ls h K => av A (xc 47) ac drN n47 ls h K := by kernel_rfl
theorem e56 : @f56 = fun R HT A ls h K => av A (xc 56) ac drN n56 ls h K := by kernel_rfl
theorem e60 : @f60 = fun R HT A ls h K => av A (xc 60) ac drN n60 ls h K := by kernel_rfl
theorem e66 : @f66 = fun R HT A ls h K => av A (xc 66) ac drN n66 ls h K := by kernel_rfl
theorem e71 : @f71 = fun R HT A ls h K => av A (xc 71) ac drN n71 ls h K := by kernel_rfl
theorem e74 : @f74 = fun R HT A ls h K => av A (xc 74) ac drN n74 ls h K := by kernel_rfl
theorem e85 : @f85 = fun R HT A ls h K => av A (xc 85) ac drN n85 ls h K := by kernel_rfl
theorem e89 : @f89 = fun R HT A ls h K => av A (xc 89) ac drN n89 ls h K := by kernel_rfl
theorem e93 : @f93 = fun R HT A ls h K => av A (xc 93) ac drN n93 ls h K := by kernel_rfl
theorem e104 : @f104 = fun R HT A ls h K => av A (xc 104) ac drN n104 ls h K := by kernel_rfl
theorem e105 : @f105 = fun R HT A ls h K => av A (xc 105) ac drN n105 ls h K := by kernel_rfl
theorem e114 : @f114 = fun R HT A ls h K => av A (xc 114) ac drN n114 ls h K := by kernel_rfl
theorem e119 : @f119 = fun R HT A ls h K => av A (xc 119) ac drN n119 ls h K := by kernel_rfl
end Go.Am

/-
 THE FUNCTIONS OF THE PROGRAM ARE WHAT IS TOLD OF THEM, BY PROGRAM, part 4.
-/
set_option maxRecDepth 100000
namespace Go.Am
open Sx Go.Proofs
theorem e16 : @f16 = fun R HT A ls h K => av A (xc 16) ac drN n16 ls h K := by kernel_rfl
theorem e21 : @f21 = fun R HT A ls h K => av A (xc 21) ac drN n21 ls h K := by kernel_rfl
theorem e32 : @f32 = fun R HT A ls h K => av A (xc 32) ac drN n32 ls h K := by kernel_rfl
theorem e33 : @f33 = fun R HT A ls h K => av A (xc 33) ac drN n33 ls h K := by kernel_rfl
theorem e39 : @f39 = fun R HT A ls h K => av A (xc 39) ac drN n39 ls h K := by kernel_rfl
theorem e41 : @f41 = fun R HT A ls h K => av A (xc 41) ac drN n41 ls h K := by kernel_rfl
theorem e44 : @f44 = fun R HT A ls h K => av A (xc 44) ac drN n44 ls h K := by kernel_rfl
theorem e76 : @f76 = fun R HT A ls h K => av A (xc 76) ac drN n76 ls h K := by kernel_rfl
theorem e78 : @f78 = fun R HT A ls h K => av A (xc 78) ac drN n78 ls h K := by kernel_rfl
theorem e94 : @f94 = fun R HT A ls h K => av A (xc 94) ac drN n94 ls h K := by kernel_rfl
theorem e115 : @f115 = fun R HT A ls h K => av A (xc 115) ac drN n115 ls h K := by kernel_rfl
theorem e120 : @f120 = fun R HT A ls h K => av A (xc 120) ac drN n120 ls h K := by kernel_rfl
theorem e129 : @f129 = fun R HT A ls h K => av A (xc 129) ac drN n129 ls h K := by kernel_rfl
end Go.Am

/-
 THE FUNCTIONS OF THE PROGRAM ARE WHAT IS TOLD OF THEM, BY PROGRAM, part 5.
-/
set_option maxRecDepth 100000
namespace Go.Am
open Sx Go.Proofs
theorem e10 : @f10 = fun R HT A ls h K => av A (xc 10) ac drN n10 ls h K := by kernel_rfl
theorem e13 : @f13 = fun R HT A ls h K => av A (xc 13) ac drN n13 ls h K := by kernel_rfl
theorem e50 : @f50 = fun R HT A ls h K => av A (xc 50) ac drN n50 ls h K := by kernel_rfl
theorem e58 : @f58 = fun R HT A ls h K => av A (xc 58) ac drN n58 ls h K := by kernel_rfl
theorem e62 : @f62 = fun R HT A ls h K => av A (xc 62) ac drN n62 ls h K := by kernel_rfl
theorem e63 : @f63 = fun R HT A ls h K => av A (xc 63) ac drN n63 ls h K := by kernel_rfl
theorem e64 : @f64 = fun R HT A ls h K => av A (xc 64) ac drN n64 ls h K := by kernel_rfl
theorem e79 : @f79 = fun R HT A ls h K => av A (xc 79) ac drN n79 ls h K := by kernel_rfl
theorem e81 : @f81 = fun R HT A ls h K => av A (xc 81) ac drN n81 ls h K := by kernel_rfl
theorem e82 : @f82 = fun R HT A ls h K => av A (xc 82) ac drN n82 ls h K := by kernel_rfl
theorem e88 : @f88 = fun R HT A ls h K => av A (xc 88) ac drN n88 ls h K := by kernel_rfl
theorem e91 : @f91 = fun R HT A ls h K => av A (xc 91) ac drN n91 ls h K := by kernel_rfl
theorem e95 : @f95 = fun R HT A ls h K => av A (xc 95) ac drN n95 ls h K := by kernel_rfl
theorem e117 : @f117 = fun R HT A ls h K => av A (xc 117) ac drN n117 ls h K := by kernel_rfl
theorem e118 : @f118 = fun R HT A ls h K => av A (xc 118) ac drN n118 ls h K := by kernel_rfl
theorem e131 : @f131 = fun R HT A ls h K => av A (xc 131) ac drN n131 ls h K := by kernel_rfl
end Go.Am

/-
 THE FUNCTIONS OF THE PROGRAM ARE WHAT IS TOLD OF THEM, BY PROGRAM, part 6.
-/
set_option maxRecDepth 100000
namespace Go.Am
open Sx Go.Proofs
theorem e4 : @f4 = fun R HT A ls h K => av A (xc 4) ac drN n4 ls h K := by kernel_rfl
theorem e11 : @f11 = fun R HT A ls h K => av A (xc 11) ac drN n11 ls h K := by kernel_rfl
theorem e17 : @f17 = fun R HT A ls h K => av A (xc 17) ac drN n17 ls h K := by kernel_rfl
theorem e19 : @f19 = fun R HT A ls h K => av A (xc 19) ac drN n19 ls h K := by kernel_rfl
theorem e31 : @f31 = fun R HT A ls h K => av A (xc 31) ac drN n31 ls h K := by kernel_rfl
theorem e38 : @f38 = fun R HT A ls h K => av A (xc 38) ac drN n38 ls h K := by kernel_rfl
theorem e42 : @f42 = fun R HT A ls h K => av A (xc 42) ac drN n42 ls h K := by kernel_rfl
theorem e55 : @f55 = fun R HT A ls h K => av A (xc 55) ac drN n55 ls h K := by kernel_rfl
theorem e57 : @f57 = fun R HT A ls h K => av A (xc 57) ac drN n57 ls h K := by kernel_rfl
theorem e59 : @f59 = fun R HT A ls h K => av A (xc 59) ac drN n59 ls h K := by kernel_rfl
theorem e61 : @f61 = fun R HT A ls h K => av A (xc 61) ac drN n61 ls h K := by kernel_rfl
theorem e65 : @f65 = fun R HT A ls h K => av A (xc 65) ac drN n65 ls h K := by kernel_rfl
theorem e68 : @f68 = fun R HT A ls h K => av A (xc 68) ac drN n68 ls h K := by kernel_rfl
theorem e69 : @f69 = fun R HT A ls h K => av A (xc 69) ac drN n69 ls h K := by kernel_rfl
theorem e75 : @f75 = fun R HT A ls h K => av A (xc 75) ac drN n75 ls h K := by kernel_rfl
theorem e87 : @f87 = fun R HT A ls h K => av A (xc 87) ac drN n87 ls h K := by kernel_rfl
theorem e130 : @f130 = fun R HT A ls h K => av A (xc 130) ac drN n130 ls h K := by kernel_rfl
end Go.Am

/-
 THE FUNCTIONS OF THE PROGRAM ARE WHAT IS TOLD OF THEM, BY PROGRAM.
-/
set_option maxRecDepth 100000
namespace Go.Am
end Go.Am

/-
  WHAT THE PACKAGE-LEVEL VARIABLES HOLD, read off the row's list; a call as the row sees it.
-/
namespace Go.Am
namespace Sx
noncomputable def unL (P : Program) (un : TypeId → DataW Unit → Option (List Value)) : List (Nat × TypeId) → List (DataW Unit) → Nat → Option (List Value)
  | [], [], _ => some []
  | (o, t) :: l, d :: ds, off => match Nat.beq o off, un t d with
    | true, some v => match Nat.beq v.length (P.cellsOf t), unL P un l ds (off + v.length) with
      | true, some vs => some (v ++ vs)
      | _, _ => none
    | _, _ => none
  | _, _, _ => none
noncomputable def unD (P : Program) : Nat → TypeId → DataW Unit → Option (List Value)
  | 0, _, _ => none
  | fu + 1, t, d => match P.underlying t, d with
    | some .bool, .lit (.bool b) => some [.bool b]
    | some (.int k), .lit (.int _ n) => some [.int k n]
    | some (.struct fs), .agg ds => match unL P (unD P fu) (fs.toList.map fun f => (f.offset, f.type)) ds 0 with
      | some vs => if vs.length = P.cellsOf t then some vs else none
      | none => none
    | some (.array n e), .agg ds => match unL P (unD P fu) ((List.range n).map fun i => (i * P.cellsOf e, e)) ds 0 with
      | some vs => if vs.length = P.cellsOf t then some vs else none
      | none => none
    | _, _ => none
section
variable {P : Program} {w : World} {base : Nat} {spare : Nat → Bool} {held : Bool} {enc : TypeId × Value → Unit}
theorem seg_ok {un : TypeId → DataW Unit → Option (List Value)} {fuel : Nat} (hun : ∀ t d vs, un t d = some vs → ∀ cs p, DataW.trod enc P w base spare held fuel t cs = some (d, p) → cs = vs) {α : Type} (o : α → Nat) (ty : α → TypeId) (cs : List Value) :
    ∀ (l : List α) (xs : List (DataW Unit × List MemPlace)) (off : Nat) (vs : List Value), l.mapM (fun a => DataW.trod enc P w base spare held fuel (ty a) ((cs.drop (o a)).take (P.cellsOf (ty a)))) = some xs →
      unL P un (l.map fun a => (o a, ty a)) (xs.map (·.1)) off = some vs → (cs.drop off).take vs.length = vs
  | [], xs, off, vs, h1, h2 => by
    simp only [List.mapM_nil, Option.pure_def, Option.some.injEq] at h1
    subst h1
    simp only [List.map_nil, unL, Option.some.injEq] at h2
    subst h2
    simp
  | a :: l, xs, off, vs, h1, h2 => by
    rw [List.mapM_cons] at h1
    obtain ⟨x, h3, h1⟩ := Option.bind_eq_some_iff.1 h1
    obtain ⟨ys, h4, h1⟩ := Option.bind_eq_some_iff.1 h1
    cases h1
    simp only [List.map_cons, unL] at h2
    split at h2
    · rename_i v e1 e2
      split at h2
      · rename_i ws e3 e4
        cases h2
        have e1 := Nat.eq_of_beq_eq_true e1
        have e3 := Nat.eq_of_beq_eq_true e3
        have hv := hun _ _ _ e2 _ _ h3
        have ih := seg_ok hun o ty cs l ys _ _ h4 e4
        rw [e1, ← e3] at hv
        rw [List.length_append, List.take_add, hv, List.drop_drop]
        rw [ih]
      · cases h2
    · cases h2
theorem unD_ok : ∀ (fu : Nat) (t : TypeId) (d : DataW Unit) (vs : List Value), unD P fu t d = some vs → ∀ (fuel : Nat) (cs : List Value) (p : List MemPlace), DataW.trod enc P w base spare held fuel t cs = some (d, p) → cs = vs
  | 0, _, _, _, h => by cases h
  | fu + 1, t, d, vs, h => by
    intro fuel cs p hp
    cases fuel with
    | zero => simp [DataW.trod] at hp
    | succ fuel =>
      have hun : ∀ t d vs, unD P fu t d = some vs → ∀ cs p, DataW.trod enc P w base spare held fuel t cs = some (d, p) → cs = vs := fun t d vs h cs p => unD_ok fu t d vs h fuel cs p
      simp only [unD] at h
      split at h
      · rename_i b e
        cases h
        simp only [DataW.trod, e] at hp
        split at hp <;> simp_all
      · rename_i k k' n e
        cases h
        simp only [DataW.trod, e] at hp
        split at hp <;> first | cases hp | skip
        all_goals first
          | (split at hp
             · rename_i hh; simp at hp; obtain ⟨⟨rfl, rfl⟩, _⟩ := hp; rw [hh.1]
             · cases hp)
          | simp_all
      · rename_i fs ds e
        split at h
        · rename_i ws e2
          split at h
          · rename_i e3
            cases h
            simp only [DataW.trod, e] at hp
            split at hp
            · rename_i e4
              obtain ⟨xs, h5, h6⟩ := Option.map_eq_some_iff.1 hp
              simp only [Prod.mk.injEq, DataW.agg.injEq] at h6
              rw [← h6.1] at e2
              have := seg_ok hun (fun f : Field => f.offset) (fun f : Field => f.type) cs _ xs 0 _ h5 e2
              rw [List.drop_zero, List.take_of_length_le (by omega)] at this
              exact this
            · cases hp
          · cases h
        · cases h
      · rename_i n el ds e
        split at h
        · rename_i ws e2
          split at h
          · rename_i e3
            cases h
            simp only [DataW.trod, e] at hp
            split at hp
            · rename_i e4
              obtain ⟨xs, h5, h6⟩ := Option.map_eq_some_iff.1 hp
              simp only [Prod.mk.injEq, DataW.agg.injEq] at h6
              rw [← h6.1] at e2
              have := seg_ok hun (fun i => i * P.cellsOf el) (fun _ => el) cs _ xs 0 _ h5 e2
              rw [List.drop_zero, List.take_of_length_le (by omega)] at this
              exact this
            · cases hp
          · cases h
        · cases h
      · cases h
end
section
variable [Val]
end
end Sx
end Go.Am

/-
 FROM A CALL TO THE ROW: arguments without addresses.
-/
namespace Go.Am
namespace Sx
open Go.ChangeShapes Go.WideShapes Go.ChangeAt Go.WideMaps Go.WideElems Go.RowKit
theorem kept_of {W W' : World} (h1 : W'.os = W.os) (h2 : W'.output = W.output) (h3 : ∀ b, b < W.heap.size → W'.heap[b]? = W.heap[b]?) (may : MemPlace → Prop) : W.keptBut W' may := by
 refine ⟨h1, h2, fun i hi => ?_⟩
 rw [h3 i hi]
 exact (World.keptBut_refl W may).2.2 i hi
theorem kG {P : Program} {w : World} {laid : List (String × DataW Unit)} {ps : List MemPlace} (h : DataW.LaidVars P w laid ps) : ∀ n d, (n, d) ∈ laid → ∀ g t fu vs, P.globalNamed n = some g → (P.globals[g]?).map (·.type) = some t → unD P fu t d = some vs →
  ∃ c e fr, w.heap[g]? = some (.cells c e fr) ∧ c.toList = vs := by
 induction laid generalizing ps with
 | nil => intro n d h; cases h
 | cons x l ih =>
  obtain ⟨n0, d0⟩ := x
  obtain ⟨g0, t0, cs, fuel, p, q, a1, a2, a3, a4, a5, a6⟩ := h
  intro n d hm g t fu vs b1 b2 b3
  rcases List.mem_cons.1 hm with e | hm
  ·cases e
   rw [a1] at b1; cases b1
   rw [a2] at b2; cases b2
   have hc := unD_ok fu _ _ vs b3 _ _ _ a4
   unfold World.var? at a3
   rw [a1] at a3
   simp only [Option.bind_some] at a3
   split at a3
   ·rename_i c ty fr e
    cases a3
    exact ⟨_, _, _, e, hc⟩
   ·cases a3
  ·exact ih a5 n d hm g t fu vs b1 b2 b3
section
variable [Val] [Kno]
theorem ans_yes {t : Bool} (h : ans t = yes) : t = true := by cases t; cases h; rfl
end
end Sx
end Go.Am

/-
 THE ALGEBRA OF PROPOSITIONS: what must hold, that code does as it is told to do.
-/
namespace Go.Am
namespace Sx
section
variable [Val] [Kno]
def condP (b : Bool) (x y : Prop) : Prop := (b = true → x) ∧ (b = false → y)
def ariP (op : BinOp) (k : IntKind) (a b : Int) (K : Int → Prop) : Prop :=
 match op with
 | .add => K (k.wrap (a + b))
 | .sub => K (k.wrap (a - b))
 | .mul => K (k.wrap (a * b))
 | .quo => b ≠ 0 ∧ K (k.wrap (a.tdiv b))
 | .rem => b ≠ 0 ∧ K (a.tmod b)
 | .and => (b = 1 ∧ K (a % 2)) ∨ (b ≠ 1 ∧ ∃ n, oa .and k a b n ∧ K n)
 | op => ∃ n, oa op k a b n ∧ K n
def cmpP (op : BinOp) (a b : Int) (K : Bool → Prop) : Prop :=
 match op with
 | .eql => K (a == b)
 | .neq => K (a != b)
 | .lss => K (decide (a < b))
 | .leq => K (decide (a ≤ b))
 | .gtr => K (decide (a > b))
 | .geq => K (decide (a ≥ b))
 | _ => False
def optP {α : Type} (o : Option α) (K : α → Prop) : Prop := ∃ x, o = some x ∧ K x
def unIP (ls : List Lf) (K : Int → List Lf → Prop) : Prop := match ls with | .i n :: r => K n r | _ => False
def unBP (ls : List Lf) (K : Bool → List Lf → Prop) : Prop := match ls with | .b n :: r => K n r | _ => False
def unVP (ls : List Lf) (K : Value → List Lf → Prop) : Prop := match ls with | .v n :: r => K n r | _ => False
def un0P (ls : List Lf) (K : Prop) : Prop := match ls with | [] => K | _ => False
def ucIP (k : IntKind) (ls : List Value) (K : Int → List Value → Prop) : Prop := match ls with | .int k' n :: r => k = k' ∧ K n r | _ => False
def ucBP (ls : List Value) (K : Bool → List Value → Prop) : Prop := match ls with | .bool n :: r => K n r | _ => False
def ucVP (ls : List Value) (K : Value → List Value → Prop) : Prop := match ls with | n :: r => K n r | _ => False
def uc0P (ls : List Value) (K : Prop) : Prop := match ls with | [] => K | _ => False
noncomputable def getL (h : List HObj) : bL := fun i => h[i]?
def peekP (f : Pk) (h : List HObj) (K : List Value → Prop) : Prop := ∃ cs, f.run (getL h) = some cs ∧ K cs
def heapP (f : Hp) (h : List HObj) (K : List Value → List HObj → Prop) : Prop := ∃ acts cs, f.run (getL h) h.length = some (acts, cs) ∧ K cs (eB h acts)
def callP (C : Cfg) (Sg : FuncId → Option Sig) (g : FuncId) (ls : List Lf) (h : List HObj) (K : List Lf → List HObj → Prop) : Prop := ∃ rs h', aQ C Sg g ls h rs h' ∧ K rs h'
def callvP (C : Cfg) (v : Value) (args : List Value) (hs : List SK) (h : List HObj) (K : List Lf → List HObj → Prop) : Prop := ∃ rs h', qk C v args hs h rs h' ∧ K rs h'
noncomputable def itP (F : (List Lf → List HObj → Prop) → List Lf → List HObj → Prop) (n : Nat) : List Lf → List HObj → Prop :=
 match n with
 | 0 => fun _ _ => False
 | n + 1 => F (itP F n)
def loopP (F : (List Lf → List HObj → Prop) → List Lf → List HObj → Prop) (ls : List Lf) (h : List HObj) : Prop := ∃ n, itP F n ls h
def rfunP (C : Cfg) (T : Nat → Site) (κ : Nat) (v : Value) (vals : List Value) (h : List HObj) (K : Option Code → List HObj → Prop) : Prop :=
 ∃ g first cap r H1 lp, v = .func (.func g) first cap ∧
  fk C g (first.toList ++ [.func (.yield h.length) #[] #[]] ++ cap.toList) (h ++ [.loop (lpOf (T κ) κ vals)]) r H1 ∧
  dh H1 h.length = some lp ∧ lp.state ≠ .busy ∧ K lp.pending (H1.set h.length (.loop { lp with state := .exhausted }))
def pendP (pd : Option Code) (kn kr : Prop) (ks : List (Nat × Prop)) : Prop :=
 match pd with
 | none => kn
 | some .ret => kr
 | some (.exit id) => ∃ x, (id, x) ∈ ks ∧ x
 | _ => False
def lp1P (l : Nat) (h : List HObj) (K : List HObj → Prop) : Prop := ∃ lp, dh h l = some lp ∧ lp.state = .ready ∧ K (h.set l (.loop { lp with state := .busy }))
def lp2P (l : Nat) (j : Option Code) (h : List HObj) (K : List HObj → Prop) : Prop := ∃ lp, dh h l = some lp ∧ K (h.set l (.loop { lp with state := if j.isNone then .ready else .done, pending := j }))
noncomputable def PA (C : Cfg) (Sg : FuncId → Option Sig) (T : Nat → Site) : Alg Prop (List HObj) where
 fail := False
 cond := condP
 ari := ariP
 shf := fun op k a k' b K => ∃ n, ShRun op k a k' b n ∧ K n
 cmp := cmpP
 eqs := fun l K => K (cu l)
 conv := fun k a K => K (k.wrap a)
 sel := fun t a b K => K (if t then a else b)
 opt := optP
 chk := fun v K => ca v = true ∧ K
 unI := unIP
 unB := unBP
 unV := unVP
 un0 := un0P
 ucI := ucIP
 ucB := ucBP
 ucV := ucVP
 uc0 := uc0P
 peek := peekP
 heap := heapP
 new := fun o h K => K h.length (h ++ [o])
 call := callP C Sg
 callv := callvP C
 join := fun b m => m b
 loop := loopP
 rfun := rfunP C T
 pend := pendP
 lp1 := lp1P
 lp2 := lp2P
theorem ea (C : Cfg) (Sg : FuncId → Option Sig) (T : Nat → Site) : AlgOk (PA C Sg T) C Sg T id id where
 fail := fun h => h
 cond := by
  intro b x y h
  cases b
  ·exact .inr ⟨rfl, h.2 rfl⟩
  ·exact .inl ⟨rfl, h.1 rfl⟩
 ari := by
  intro op k a b K h
  have h : ariP op k a b K := h
  cases op <;> simp only [ariP] at h
  ·exact ⟨_, fun P t w => by simp [binOp, Op.intArith], h⟩
  ·exact ⟨_, fun P t w => by simp [binOp, Op.intArith], h⟩
  ·exact ⟨_, fun P t w => by simp [binOp, Op.intArith], h⟩
  ·obtain ⟨hb, h⟩ := h
   exact ⟨_, fun P t w => by simp [binOp, Op.intDiv, hb], h⟩
  ·obtain ⟨hb, h⟩ := h
   exact ⟨_, fun P t w => by simp [binOp, Op.intDiv, hb], h⟩
  ·rcases h with ⟨rfl, h'⟩ | ⟨_, n, h1, h2⟩
   ·exact ⟨_, jG rfl, h'⟩
   ·exact ⟨n, h1, h2⟩
  all_goals exact h
 shf := fun op k a k' b K h => h
 cmp := by
  intro op a b K h
  have h : cmpP op a b K := h
  cases op <;> simp only [cmpP] at h <;> exact ⟨_, rfl, h⟩
 eqs := fun l K h => h
 conv := fun k a K h => h
 sel := fun t a b K h => h
 opt := fun o K h => h
 chk := fun v K h => h
 unI := by
  intro ls K h
  match ls, h with
  | .i n :: r, h => exact ⟨n, r, rfl, h⟩
 unB := by
  intro ls K h
  match ls, h with
  | .b n :: r, h => exact ⟨n, r, rfl, h⟩
 unV := by
  intro ls K h
  match ls, h with
  | .v n :: r, h => exact ⟨n, r, rfl, h⟩
 un0 := by
  intro ls K h
  match ls, h with
  | [], h => exact ⟨rfl, h⟩
 ucI := by
  intro k ls K h
  match ls, h with
  | .int k' n :: r, h =>
   obtain ⟨rfl, h⟩ : k = k' ∧ K n r := h
   exact ⟨n, r, rfl, h⟩
 ucB := by
  intro ls K h
  match ls, h with
  | .bool n :: r, h => exact ⟨n, r, rfl, h⟩
 ucV := by
  intro ls K h
  match ls, h with
  | n :: r, h => exact ⟨n, r, rfl, h⟩
 uc0 := by
  intro ls K h
  match ls, h with
  | [], h => exact ⟨rfl, h⟩
 peek := fun f h K hk => hk
 heap := by
  intro f h K hk
  obtain ⟨acts, cs, h1, h2⟩ := hk
  exact ⟨acts, cs, _, h1, rfl, h2⟩
 new := fun o h K hk => ⟨_, rfl, hk⟩
 call := fun g ls h K hk => hk
 callv := fun v args hs h K hk => hk
 join := fun b m h => h
 loop := by
  intro F ls h hk
  obtain ⟨n, hk⟩ := hk
  exact ⟨itP F, fun ls h => (id : False → False), fun n ls h => rfl, n, hk⟩
 rfun := by
  intro κ v vals h K hk
  obtain ⟨g, first, cap, r, H1, lp, h1, h2, h3, h4, h5⟩ := hk
  exact ⟨g, first, cap, r, H1, lp, _, h1, h2, h3, h4, rfl, h5⟩
 pend := by
  intro pd kn kr ks h
  have h : pendP pd kn kr ks := h
  unfold pendP at h
  split at h
  ·exact .inl ⟨rfl, h⟩
  ·exact .inr (.inl ⟨rfl, h⟩)
  ·obtain ⟨x, h1, h2⟩ := h
   exact .inr (.inr ⟨_, x, rfl, h1, h2⟩)
  ·exact h.elim
 lp1 := by
  intro l h K hk
  obtain ⟨lp, h1, h2, h3⟩ := hk
  exact ⟨lp, _, h1, h2, rfl, h3⟩
 lp2 := by
  intro l j h K hk
  obtain ⟨lp, h1, h2⟩ := hk
  exact ⟨lp, _, h1, rfl, h2⟩
theorem SL.plain_scalar {l : SL} {k : LK} (h : l.is k = true) (hk : k.plain = true) : scalar l.val = true := by
 cases l <;> cases k <;> first | (cases hk; done) | (cases h; done) | rfl
theorem hD : ∀ {cs : List SL} {ks : List LK}, aI cs ks = true → ks.all LK.plain = true → (cs.map SL.val).all scalar = true
 | [], [], _, _ => rfl
 | c :: cs, k :: ks, h, hk => by
  simp only [aI, Bool.and_eq_true] at h
  simp only [List.all_cons, Bool.and_eq_true] at hk
  simp only [List.map_cons, List.all_cons, Bool.and_eq_true]
  exact ⟨SL.plain_scalar h.1 hk.1, hD h.2 hk.2⟩
 | [], _ :: _, h, _ => by cases h
 | _ :: _, [], h, _ => by cases h
theorem S0.plain_flat1 {x : S0} {k : SK} (h : x.is k = true) (hk : k.plain = true) : dF x.val = true := by
 cases x with
 | leaf l =>
  cases k with
  | leaf k =>
   have := SL.plain_scalar h hk
   show dF l.val = true
   cases hv : l.val <;> rw [hv] at this <;> first | exact this | cases this
  | agg _ => cases h
 | agg cs =>
  cases k with
  | leaf k => cases h
  | agg ks => exact hD h hk
theorem gc {v : Value} (h : dF v = true) : flat v = true := by
 cases v <;> first | exact h | cases h
theorem fw : ∀ {xs : List S0} {sks : List SK}, bF xs sks = true → sks.all SK.plain = true → (am xs).all dF = true
 | [], [], _, _ => rfl
 | x :: xs, k :: ks, h, hk => by
  simp only [bF, Bool.and_eq_true] at h
  simp only [List.all_cons, Bool.and_eq_true] at hk
  simp only [am, List.map_cons, List.all_cons, Bool.and_eq_true]
  exact ⟨S0.plain_flat1 h.1 hk.1, fw h.2 hk.2⟩
 | [], _ :: _, h, _ => by cases h
 | _ :: _, [], h, _ => by cases h
theorem qo {xs : List S0} {sks : List SK} (h : bF xs sks = true) (hk : sks.all SK.plain = true) : (am xs).all flat = true := by
 have := fw h hk
 rw [List.all_eq_true] at this ⊢
 exact fun v hv => gc (this v hv)
theorem qK {vs : List Value} (h : vs.all dF = true) : flat (dH vs) = true := by
 match vs, h with
 | [], _ => rfl
 | [v], h =>
  simp only [List.all_cons, List.all_nil, Bool.and_true] at h
  exact gc h
 | a :: b :: l, h =>
  show flat (.tuple (a :: b :: l).toArray) = true
  simp only [flat, Bool.and_eq_true]
  exact ⟨by simp, h⟩
end
@[reducible] def KnoC (C : Cfg) (N : FuncId → Option Nat) [Val] : Kno := ⟨fun f args r => ∀ H, dq C f args H r H, fun f args H r H' => N f = none ∧ dq C f args H r H'⟩
section
variable [Val]
def Ct (C : Cfg) (N : FuncId → Option Nat) (Sg : FuncId → Option Sig) (g : FuncId) (ls rs : List Lf) : Prop := let _ : Kno := KnoC C N; ∀ H, aQ C Sg g ls H rs H
theorem jL {C : Cfg} {N : FuncId → Option Nat} (hm : C.P.follows .mixedOrders = true) {f : FuncId} {args : List Value} {H : List HObj} {r : Value} {H' : List HObj} (h : let _ : Kno := KnoC C N; fk C f args H r H') : dq C f args H r H' :=
 @uCall_ok _ _ (KnoC C N) hm (fun _ _ _ h => h) (fun _ _ _ _ _ h => h.2) _ _ _ _ _ h
theorem fh {C : Cfg} {N : FuncId → Option Nat} {Sg : FuncId → Option Sig} (hm : C.P.follows .mixedOrders = true) (hG : ∀ g vs, C.G g = some vs → vs.all flat = true) {g : FuncId} {sg : Sig} (hs : Sg g = some sg) (hp : sg.plain = true) {ls rs : List Lf} {H' : List HObj}
  (h : let _ : Kno := KnoC C N; aQ C Sg g ls [] rs H') : Ct C N Sg g ls rs := by
 let _ : Kno := KnoC C N
 obtain ⟨sg', xs, ys, c1, c2, c3, c4⟩ := h
 rw [hs] at c1
 cases c1
 simp only [Sig.plain, Bool.and_eq_true] at hp
 have ha := qo c2.1 hp.1
 have hr := qK (fw c3.1 hp.2)
 intro H
 exact ⟨sg, xs, ys, hs, c2, c3, ⟨0, .inl ⟨fun H => frame_ok hG (jL hm c4) ha hr H, rfl⟩⟩⟩
end
section
variable [Val] [Kno]
theorem cm {n : Int} (h1 : -9223372036854775808 ≤ n) (h2 : n ≤ 9223372036854775807) : IntKind.wrap .i64 n = n := by
 simp only [IntKind.wrap, IntKind.bits, IntKind.signed, Bool.true_and, ge_iff_le, decide_eq_true_eq]
 split <;> omega
theorem mH {n : Int} (h1 : 0 ≤ n) (h2 : n ≤ 255) : IntKind.wrap .u8 n = n := by
 simp only [IntKind.wrap, IntKind.bits, IntKind.signed, Bool.false_and, Bool.false_eq_true, if_false]
 omega
end
end Sx
end Go.Am

/-
 CALLS THAT ONLY READ: slices under other names of their blocks; what a run over these blocks alone answers.
-/
namespace Go.Am
namespace Sx
section
variable [Val]
noncomputable def renV (σ : Nat → Nat) (v : Value) : Value := match v with
 | .slice (some a) len cx => .slice (some ⟨σ a.block, a.off, a.spot⟩) len cx
 | v => v
noncomputable def iq (σ : Nat → Nat) : SL → SL
 | .v x => .v (renV σ x)
 | s => s
noncomputable def renS (σ : Nat → Nat) : S0 → S0
 | .leaf l => .leaf (iq σ l)
 | .agg cs => .agg (cs.map (iq σ))
noncomputable def renL (σ : Nat → Nat) : Lf → Lf
 | .v x => .v (renV σ x)
 | l => l
def OkV (n : Nat) (v : Value) : Prop := (flat v = true ∧ ∀ σ, renV σ v = v) ∨ ∃ j off len cx e, j < n ∧ v = .slice (some ⟨j, off, tag e⟩) len cx
def OkL (n : Nat) : Lf → Prop
 | .v x => OkV n x
 | _ => True
theorem vr_ren {n : Nat} {σ : Nat → Nat} {mu mu0 : HMap} (hmu : ∀ j, j < n → mu0 j = mu (σ j)) {v c : Value} (hv : OkV n v) (h : VR noL mu (renV σ v) c) : VR noL mu0 v c := by
 rcases hv with ⟨h1, h2⟩ | ⟨j, off, len, cx, e, hj, rfl⟩
 ·rw [h2] at h
  rw [cv h1 h]
  exact .of_flat h1
 ·have h : VR noL mu (.slice (some ⟨σ j, off, tag e⟩) len cx) c := h
  generalize ht : tag e = t at h ⊢
  cases h with
  | hslice q1 q2 q3 q4 => exact .hslice ((hmu j hj).trans q1) q2 q3 q4
  | hslice0 q1 => exact .hslice0 q1
  | gslice _ => simp [tag] at ht
  | gslice0 => simp [tag] at ht
  | scalar q => simp [scalar] at q
theorem nY {σ : Nat → Nat} (l : SL) (k : LK) : (iq σ l).is k = l.is k := by cases l <;> cases k <;> rfl
theorem mO {σ : Nat → Nat} : ∀ (cs : List SL) (ks : List LK), aI (cs.map (iq σ)) ks = aI cs ks
 | [], [] => rfl
 | [], _ :: _ => rfl
 | _ :: _, [] => rfl
 | c :: cs, k :: ks => by simp only [List.map_cons, aI, nY, mO cs ks]
theorem is_ren {σ : Nat → Nat} (x : S0) (k : SK) : (renS σ x).is k = x.is k := by
 cases x <;> cases k <;> first | rfl | exact nY _ _ | exact mO _ _
theorem iO {σ : Nat → Nat} : ∀ (xs : List S0) (ks : List SK), bF (xs.map (renS σ)) ks = bF xs ks
 | [], [] => rfl
 | [], _ :: _ => rfl
 | _ :: _, [] => rfl
 | x :: xs, k :: ks => by simp only [List.map_cons, bF, is_ren, iO xs ks]
theorem lf_ren {σ : Nat → Nat} (l : SL) : (iq σ l).lf = renL σ l.lf := by cases l <;> rfl
theorem mX {σ : Nat → Nat} (x : S0) : (renS σ x).cells = x.cells.map (iq σ) := by cases x <;> rfl
theorem jp {σ : Nat → Nat} : ∀ (xs : List S0), bG (xs.map (renS σ)) = (bG xs).map (renL σ)
 | [] => rfl
 | x :: xs => by
  simp only [List.map_cons, bG, List.map_append, jp xs, mX, List.map_map]
  congr 1
  exact List.map_congr_left fun l _ => lf_ren l
theorem good_ren {σ : Nat → Nat} {l : SL} (h : l.good) : (iq σ l).good := by
 cases l with
 | v x =>
  show ca (renV σ x) = true
  have h : ca x = true := h
  unfold renV
  split
  ·simpa [ca, noLoc, bv, cG, bW, bo, aL] using h
  ·exact h
 | _ => exact h
theorem vr_sl {n : Nat} {σ : Nat → Nat} {mu mu0 : HMap} (hmu : ∀ j, j < n → mu0 j = mu (σ j)) {l : SL} {c : Value} (hl : OkL n l.lf) (h : VR noL mu (iq σ l).val c) : VR noL mu0 l.val c := by
 cases l with
 | v x => exact vr_ren hmu hl h
 | i k m =>
  have hf : flat (Value.int k m) = true := rfl
  have h : VR noL mu (.int k m) c := h
  rw [cv hf h]; exact .of_flat hf
 | b t =>
  have hf : flat (Value.bool t) = true := rfl
  have h : VR noL mu (.bool t) c := h
  rw [cv hf h]; exact .of_flat hf
 | l t =>
  have hf : flat (Value.bool t) = true := rfl
  have h : VR noL mu (.bool t) c := h
  rw [cv hf h]; exact .of_flat hf
theorem vr_s0 {n : Nat} {σ : Nat → Nat} {mu mu0 : HMap} (hmu : ∀ j, j < n → mu0 j = mu (σ j)) {x : S0} {c : Value} (hx : ∀ l ∈ x.cells, OkL n l.lf) (h : VR noL mu (renS σ x).val c) : VR noL mu0 x.val c := by
 cases x with
 | leaf l => exact vr_sl hmu (hx l (by simp [S0.cells])) h
 | agg cs =>
  have h : VR noL mu (.agg ⟨(cs.map (iq σ)).map SL.val⟩) c := h
  generalize ha : (⟨(cs.map (iq σ)).map SL.val⟩ : Array Value) = a at h
  cases h with
  | scalar q => simp [scalar] at q
  | agg hs h =>
   subst ha
   refine .agg (by simpa using hs) fun i x y hx' hy => ?_
   have hi : (cs.map SL.val)[i]? = some x := by simpa using hx'
   rw [List.getElem?_map] at hi
   cases e : cs[i]? with
   | none => rw [e] at hi; cases hi
   | some l =>
    rw [e] at hi
    cases hi
    exact vr_sl hmu (hx l (List.mem_of_getElem? e)) (h i _ y (by simp [e]) hy)
theorem vrs_ren {n : Nat} {σ : Nat → Nat} {mu mu0 : HMap} (hmu : ∀ j, j < n → mu0 j = mu (σ j)) {xs : List S0} {cs : List Value} (hx : ∀ x ∈ xs, ∀ l ∈ x.cells, OkL n l.lf) (h : VRs noL mu (am (xs.map (renS σ))) cs) : VRs noL mu0 (am xs) cs := by
 refine ⟨by simpa [am] using h.1, fun i x y hi hy => ?_⟩
 unfold am at hi
 rw [List.getElem?_map] at hi
 cases e : xs[i]? with
 | none => rw [e] at hi; cases hi
 | some s =>
  rw [e] at hi
  cases hi
  exact vr_s0 hmu (hx s (List.mem_of_getElem? e)) (h.2 i _ y (by simp [am, e]) hy)
theorem ny {xs : List S0} {x : S0} {l : SL} (hx : x ∈ xs) (hl : l ∈ x.cells) : l.lf ∈ bG xs := by
 induction xs with
 | nil => cases hx
 | cons y ys ih =>
  show l.lf ∈ y.cells.map SL.lf ++ bG ys
  rcases List.mem_cons.1 hx with rfl | hx
  ·exact List.mem_append_left _ (List.mem_map_of_mem hl)
  ·exact List.mem_append_right _ (ih hx)
end
end Sx
end Go.Am

/-
 RUNS IN THE DIRECT STYLE: what the texts by program use, and what makes a table of runs true.
-/
set_option maxRecDepth 100000
namespace Go.Am
open Sx
abbrev FB := List Lf → HTr → (List Lf → HTr → RT) → RT
noncomputable def nf : FB := fun _ _ _ => none
noncomputable def tell (rs : List Lf) (_ : HTr) : RT := mo rs fun rs => some rs
noncomputable def memo (g : FB) : FB := fun ls h K => mo ls fun ls => @Option.rec _ (fun _ => RT) none (fun rs => K rs h) (g ls .empty tell)
noncomputable def fB {R : Type} (b : Bool) (k : Bool → R) : R := Bool.rec (k false) (k true) b
noncomputable def flatI (v : Value) : Bool := match v with
 | .int _ _ => true
 | .bool _ => true
 | _ => false
noncomputable def allR (c : Tr Value) (n : Nat) : Bool := @Nat.rec (fun _ => Bool) true (fun i ih => @Bool.rec (fun _ => Bool) false ih (flatI ((bw i).get nilV c))) n
noncomputable def ext (h : HTr) (d : RT) (ls : List Lf) : HTr → (List Lf → HTr → RT) → RT :=
 @List.rec Lf (fun _ => HTr → (List Lf → HTr → RT) → RT) (fun h0 k => k [] h0) (fun x _ ih h0 k => match x with
  | .i n => fI n fun n => ih h0 fun l h1 => k (.i n :: l) h1
  | .b t => fB t fun t => ih h0 fun l h1 => k (.b t :: l) h1
  | .v v => match v with
   | .slice (some a) len cx => match h.at a.block with
    | some (.t n e _ c) => match tagB a.spot e, allR c n with
     | true, true => gS h0 (.t n e false c) fun h1 => fN a.off fun o => fN len fun len => fN cx fun cx => ih h1 fun l h2 => k (.v (.slice (some ⟨h0.n, o, tag e⟩) len cx) :: l) h2
     | _, _ => d
    | _ => d
   | v => match flat v with
    | true => ih h0 fun l h1 => k (.v v :: l) h1
    | false => d) ls
noncomputable def ba (ls : List Lf) (X : RT) : RT := @Bool.rec (fun _ => RT) none X (aP ls)
theorem fx {K K' : List Lf → HTr → RT} (h : ∀ rs h, K rs h = K' rs h) : K = K' := funext fun rs => funext fun x => h rs x
noncomputable abbrev cB (x y : RT) (b : Bool) : RT := @Bool.rec (fun _ => RT) x y b
theorem c2 {A B Z : Sort _} {f g : A → B → Z} (h : f = g) (x0 : A) (x1 : B) : f x0 x1 = g x0 x1 := by rw [h]
theorem c3 {A B C Z : Sort _} {f g : A → B → C → Z} (h : f = g) (x0 : A) (x1 : B) (x2 : C) : f x0 x1 x2 = g x0 x1 x2 := by rw [h]
theorem c4 {A B C D Z : Sort _} {f g : A → B → C → D → Z} (h : f = g) (x0 : A) (x1 : B) (x2 : C) (x3 : D) : f x0 x1 x2 x3 = g x0 x1 x2 x3 := by rw [h]
theorem c5 {A B C D E Z : Sort _} {f g : A → B → C → D → E → Z} (h : f = g) (x0 : A) (x1 : B) (x2 : C) (x3 : D) (x4 : E) : f x0 x1 x2 x3 x4 = g x0 x1 x2 x3 x4 := by rw [h]
theorem c6 {A B C D E F Z : Sort _} {f g : A → B → C → D → E → F → Z} (h : f = g) (x0 : A) (x1 : B) (x2 : C) (x3 : D) (x4 : E) (x5 : F) : f x0 x1 x2 x3 x4 x5 = g x0 x1 x2 x3 x4 x5 := by rw [h]
theorem c7 {A B C D E F G Z : Sort _} {f g : A → B → C → D → E → F → G → Z} (h : f = g) (x0 : A) (x1 : B) (x2 : C) (x3 : D) (x4 : E) (x5 : F) (x6 : G) : f x0 x1 x2 x3 x4 x5 x6 = g x0 x1 x2 x3 x4 x5 x6 := by rw [h]
theorem c8 {A B C D E F G H Z : Sort _} {f g : A → B → C → D → E → F → G → H → Z} (h : f = g) (x0 : A) (x1 : B) (x2 : C) (x3 : D) (x4 : E) (x5 : F) (x6 : G) (x7 : H) : f x0 x1 x2 x3 x4 x5 x6 x7 = g x0 x1 x2 x3 x4 x5 x6 x7 := by rw [h]
theorem c9 {A B C D E F G H I Z : Sort _} {f g : A → B → C → D → E → F → G → H → I → Z} (h : f = g) (x0 : A) (x1 : B) (x2 : C) (x3 : D) (x4 : E) (x5 : F) (x6 : G) (x7 : H) (x8 : I) : f x0 x1 x2 x3 x4 x5 x6 x7 x8 = g x0 x1 x2 x3 x4 x5 x6 x7 x8 := by rw [h]
noncomputable abbrev rI (F : Int → List Lf → RT) (ls : List Lf) : RT := @List.rec Lf (fun _ => RT) none (fun x l _ => @Lf.rec (fun _ => RT) (fun a => F a l) (fun _ => none) (fun _ => none) x) ls
noncomputable abbrev rV (F : Value → List Lf → RT) (ls : List Lf) : RT := @List.rec Lf (fun _ => RT) none (fun x l _ => @Lf.rec (fun _ => RT) (fun _ => none) (fun _ => none) (fun a => F a l) x) ls
noncomputable abbrev r0 (X : RT) (ls : List Lf) : RT := @List.rec Lf (fun _ => RT) X (fun _ _ _ => none) ls
noncomputable def lookF (l : List (Nat × FB)) (g : Nat) (d : FB) : FB := @List.rec _ (fun _ => FB) d (fun p _ ih => @Bool.rec (fun _ => FB) ih p.2 (Nat.beq p.1 g)) l
noncomputable def tblF (l : List (Nat × FB)) (c : aa) : aa := fun ck => match ck with
 | .f g => lookF l g (c (.f g))
 | .y κ vs i => c (.y κ vs i)
section
variable {Sg : FuncId → Option Sig} {T : Nat → Site} {call : aa}
theorem af {t : Bool} {X Y X' Y' : RT} (h1 : X = X') (h2 : Y = Y') : (BA Sg T call).cond t X Y = @Bool.rec (fun _ => RT) Y' X' t := by subst h1 h2; rfl
theorem al {a b : Int} {K K' : Int → RT} (h : ∀ n, K n = K' n) : (BA Sg T call).ari .add .i64 a b K = addK a b (fun c => ai c K') := by obtain rfl : K = K' := funext h; rfl
theorem cR {a b : Int} {K K' : Int → RT} (h : ∀ n, K n = K' n) : (BA Sg T call).ari .add .u8 a b K = addK a b (fun c => dR c K') := by obtain rfl : K = K' := funext h; rfl
theorem au {a b : Int} {K K' : Int → RT} (h : ∀ n, K n = K' n) : (BA Sg T call).ari .sub .i64 a b K = subK a b (fun c => ai c K') := by obtain rfl : K = K' := funext h; rfl
theorem aJ {a b : Int} {K K' : Int → RT} (h : ∀ n, K n = K' n) : (BA Sg T call).ari .mul .i64 a b K = mulK a b (fun c => ai c K') := by obtain rfl : K = K' := funext h; rfl
theorem bt {a b : Int} {K K' : Int → RT} (h : ∀ n, K n = K' n) : (BA Sg T call).ari .quo .i64 a b K = @Bool.rec (fun _ => RT) (quoK a b (fun c => ai c K')) none (isZ b) := by obtain rfl : K = K' := funext h; rfl
theorem dC {k : IntKind} {a b : Int} {K K' : Int → RT} (h : ∀ n, K n = K' n) : (BA Sg T call).ari .rem k a b K = @Bool.rec (fun _ => RT) (remK a b K') none (isZ b) := by obtain rfl : K = K' := funext h; rfl
theorem q_shf {op : BinOp} {k k' : IntKind} {a b : Int} {K K' : Int → RT} (h : ∀ n, K n = K' n) : (BA Sg T call).shf op k a k' b K = shfB op k a k' b K' := by obtain rfl : K = K' := funext h; rfl
theorem cg {a b : Int} {K : Bool → RT} {X : RT} (h : K (eqZK a b) = X) : (BA Sg T call).cmp .eql a b K = X := h
theorem bp {a b : Int} {K : Bool → RT} {X : RT} (h : K (notK (eqZK a b)) = X) : (BA Sg T call).cmp .neq a b K = X := h
theorem aS {a b : Int} {K : Bool → RT} {X : RT} (h : K (notK (leZ b a)) = X) : (BA Sg T call).cmp .lss a b K = X := h
theorem oO {a b : Int} {K : Bool → RT} {X : RT} (h : K (leZ a b) = X) : (BA Sg T call).cmp .leq a b K = X := h
theorem de {a b : Int} {K : Bool → RT} {X : RT} (h : K (notK (leZ a b)) = X) : (BA Sg T call).cmp .gtr a b K = X := h
theorem bR {a b : Int} {K : Bool → RT} {X : RT} (h : K (leZ b a) = X) : (BA Sg T call).cmp .geq a b K = X := h
theorem ez {l : List (Lf × Lf)} {K : Bool → RT} {X : RT} (h : K (eqsV l) = X) : (BA Sg T call).eqs l K = X := h
theorem cU {a : Int} {K K' : Int → RT} (h : ∀ n, K n = K' n) : (BA Sg T call).conv .i64 a K = ai a K' := by obtain rfl : K = K' := funext h; rfl
theorem iK {a : Int} {K K' : Int → RT} (h : ∀ n, K n = K' n) : (BA Sg T call).conv .u8 a K = dR a K' := by obtain rfl : K = K' := funext h; rfl
theorem oN {k : IntKind} {a : Int} {K K' : Int → RT} (h : ∀ n, K n = K' n) : (BA Sg T call).conv k a K = outK k a K' := by obtain rfl : K = K' := funext h; rfl
theorem q_sel {t : Bool} {a b : Int} {K K' : Int → RT} (h : ∀ n, K n = K' n) : (BA Sg T call).sel t a b K = selB t a b K' := by obtain rfl : K = K' := funext h; rfl
theorem ao {α : Type} {o : Option α} {K K' : α → RT} (h : ∀ n, K n = K' n) : (BA Sg T call).opt o K = optB o K' := by obtain rfl : K = K' := funext h; rfl
theorem bA {v : Value} {K K' : RT} (h : K = K') : (BA Sg T call).chk v K = chkB v K' := by subst h; rfl
theorem ae {ls : List Lf} {K K' : Int → List Lf → RT} (h : ∀ n r, K n r = K' n r) : (BA Sg T call).unI ls K = unIB ls K' := by obtain rfl : K = K' := funext fun n => funext fun r => h n r; rfl
theorem bm {ls : List Lf} {K K' : Bool → List Lf → RT} (h : ∀ n r, K n r = K' n r) : (BA Sg T call).unB ls K = unBB ls K' := by obtain rfl : K = K' := funext fun n => funext fun r => h n r; rfl
theorem mp {ls : List Lf} {K K' : Value → List Lf → RT} (h : ∀ n r, K n r = K' n r) : (BA Sg T call).unV ls K = unVB ls K' := by obtain rfl : K = K' := funext fun n => funext fun r => h n r; rfl
theorem ah {ls : List Lf} {K K' : RT} (h : K = K') : (BA Sg T call).un0 ls K = un0B ls K' := by subst h; rfl
theorem bj {a : Int} {r : List Lf} {K : Int → List Lf → RT} {X : RT} (h : K a r = X) : (BA Sg T call).unI (.i a :: r) K = X := h
theorem nO {a : Bool} {r : List Lf} {K : Bool → List Lf → RT} {X : RT} (h : K a r = X) : (BA Sg T call).unB (.b a :: r) K = X := h
theorem bX {a : Value} {r : List Lf} {K : Value → List Lf → RT} {X : RT} (h : K a r = X) : (BA Sg T call).unV (.v a :: r) K = X := h
theorem aU {K X : RT} (h : K = X) : (BA Sg T call).un0 [] K = X := h
theorem q_rI {ls : List Lf} {K K' : Int → List Lf → RT} (h : ∀ n r, K n r = K' n r) : (BA Sg T call).unI ls K = rI K' ls := by
 obtain rfl : K = K' := funext fun n => funext fun r => h n r
 match ls with
 | [] => rfl
 | .i _ :: _ => rfl
 | .b _ :: _ => rfl
 | .v _ :: _ => rfl
theorem q_rV {ls : List Lf} {K K' : Value → List Lf → RT} (h : ∀ n r, K n r = K' n r) : (BA Sg T call).unV ls K = rV K' ls := by
 obtain rfl : K = K' := funext fun n => funext fun r => h n r
 match ls with
 | [] => rfl
 | .i _ :: _ => rfl
 | .b _ :: _ => rfl
 | .v _ :: _ => rfl
theorem q_r0 {ls : List Lf} {K K' : RT} (h : K = K') : (BA Sg T call).un0 ls K = r0 K' ls := by
 subst h
 match ls with
 | [] => rfl
 | _ :: _ => rfl
theorem aj {k : IntKind} {ls : List Value} {K K' : Int → List Value → RT} (h : ∀ n r, K n r = K' n r) : (BA Sg T call).ucI k ls K = ucIB k ls K' := by obtain rfl : K = K' := funext fun n => funext fun r => h n r; rfl
theorem q_ucB {ls : List Value} {K K' : Bool → List Value → RT} (h : ∀ n r, K n r = K' n r) : (BA Sg T call).ucB ls K = ucBB ls K' := by obtain rfl : K = K' := funext fun n => funext fun r => h n r; rfl
theorem dY {ls : List Value} {K K' : Value → List Value → RT} (h : ∀ n r, K n r = K' n r) : (BA Sg T call).ucV ls K = ucVB ls K' := by obtain rfl : K = K' := funext fun n => funext fun r => h n r; rfl
theorem aD {ls : List Value} {K K' : RT} (h : K = K') : (BA Sg T call).uc0 ls K = uc0B ls K' := by subst h; rfl
theorem q_lg {C : Cfg} {n : Nat} {p : Value} {h : HTr} {K K' : List Value → RT} (hK : ∀ l, K l = K' l) : (BA Sg T call).peek (.lg C n p) h K = lgB C n p h K' := by obtain rfl : K = K' := funext hK; rfl
theorem q_peek {f : bL → Option (List Value)} {h : HTr} {K K' : List Value → RT} (hK : ∀ l, K l = K' l) : (BA Sg T call).peek (.fn f) h K = qL T (.fn f) h K' := by obtain rfl : K = K' := funext hK; rfl
theorem q_st {p : Value} {new : List Value} {h : HTr} {K K' : List Value → HTr → RT} (hK : ∀ l h, K l h = K' l h) : (BA Sg T call).heap (.st p new) h K = stB p new h K' := by obtain rfl : K = K' := funext fun l => funext fun h => hK l h; rfl
theorem q_ap {C : Cfg} {esz bytes : Nat} {s x : Value} {h : HTr} {K K' : List Value → HTr → RT} (hK : ∀ l h, K l h = K' l h) : (BA Sg T call).heap (.ap C esz bytes s x) h K = apB T C esz bytes s x h K' := by obtain rfl : K = K' := funext fun l => funext fun h => hK l h; rfl
theorem q_heap {f : bL → Nat → Option (List Act1 × List Value)} {h : HTr} {K K' : List Value → HTr → RT} (hK : ∀ l h, K l h = K' l h) : (BA Sg T call).heap (.fn f) h K = ow T (.fn f) h K' := by obtain rfl : K = K' := funext fun l => funext fun h => hK l h; rfl
theorem cY {o : HObj} {h : HTr} {K K' : Nat → HTr → RT} (hK : ∀ l h, K l h = K' l h) : (BA Sg T call).new o h K = newB o h K' := by obtain rfl : K = K' := funext fun l => funext fun h => hK l h; rfl
theorem ay {g : FuncId} {ls : List Lf} {h : HTr} {K K' : List Lf → HTr → RT} (hK : ∀ l h, K l h = K' l h) : (BA Sg T call).call g ls h K = bf call g ls h K' := by obtain rfl : K = K' := funext fun l => funext fun h => hK l h; rfl
theorem cH {v : Value} {args : List Value} {hs : List SK} {h : HTr} {K K' : List Lf → HTr → RT} (hK : ∀ l h, K l h = K' l h) : (BA Sg T call).callv v args hs h K = cJ Sg T call v args hs h K' := by obtain rfl : K = K' := funext fun l => funext fun h => hK l h; rfl
theorem q_rfun {κ : Nat} {v : Value} {args : List Value} {h : HTr} {K K' : Option Code → HTr → RT} (hK : ∀ l h, K l h = K' l h) : (BA Sg T call).rfun κ v args h K = oP Sg call κ v args h K' := by obtain rfl : K = K' := funext fun l => funext fun h => hK l h; rfl
theorem q_pend {p : Option Code} {X X' Y Y' : RT} {l l' : List (Nat × RT)} (h1 : X = X') (h2 : Y = Y') (h3 : l = l') : (BA Sg T call).pend p X Y l = pendB p X' Y' l' := by subst h1 h2 h3; rfl
theorem q_lp1 {l : Nat} {h : HTr} {K K' : HTr → RT} (hK : ∀ h, K h = K' h) : (BA Sg T call).lp1 l h K = lp1B l h K' := by obtain rfl : K = K' := funext hK; rfl
theorem q_lp2 {l : Nat} {j : Option Code} {h : HTr} {K K' : HTr → RT} (hK : ∀ h, K h = K' h) : (BA Sg T call).lp2 l j h K = lp2B l j h K' := by obtain rfl : K = K' := funext hK; rfl
theorem aY {B B' : List Lf → HTr → RT} {M M' : (List Lf → HTr → RT) → RT} (h1 : ∀ l h, B l h = B' l h) (h2 : ∀ j, M j = M' j) : (BA Sg T call).join B M = bz B' M' := by
 obtain rfl : B = B' := funext fun l => funext fun h => h1 l h
 obtain rfl : M = M' := funext h2
 rfl
theorem bk {F F' : (List Lf → HTr → RT) → List Lf → HTr → RT} {ls : List Lf} {h : HTr} (hF : ∀ s l h, F s l h = F' s l h) : (BA Sg T call).loop F ls h = cd F' ls h := by
 obtain rfl : F = F' := funext fun s => funext fun l => funext fun h => hF s l h
 rfl
theorem cZ {g : FuncId} {ls vs : List Lf} {h : HTr} {K : List Lf → HTr → RT} {X : RT} (hg : aP ls = aP vs) (hX : call (.f g) ls h K = X) : (BA Sg T call).call g ls h K = ba vs X := by
 show bf call g ls h K = _
 unfold bf ba
 rw [hg, hX]
 cases aP vs <;> rfl
theorem aK {g : FuncId} {ls : List Lf} {h : HTr} {K : List Lf → HTr → RT} {X : RT} (hg : aP ls = true) (hX : call (.f g) ls h K = X) : (BA Sg T call).call g ls h K = X := by
 show bf call g ls h K = _
 unfold bf
 rw [hg]; exact hX
end
section
variable [Val] [Kno]
noncomputable def eqLs (a : List Lf) : List Lf → Bool := @List.rec _ (fun _ => List Lf → Bool) (fun b => @List.rec _ (fun _ => Bool) true (fun _ _ _ => false) b) (fun x _ ih b => @List.rec _ (fun _ => Bool) false (fun y m _ => @Bool.rec (fun _ => Bool) false (ih m) (eqLf x y)) b) a
theorem qA {x y : Lf} (h : eqLf x y = true) : x = y := by
 cases x <;> cases y <;> first | (cases h; done) | skip
 ·have h : eqZK _ _ = true := h
  rw [fz, beq_iff_eq] at h; rw [h]
 ·rename_i a b; cases a <;> cases b <;> first | rfl | cases h
theorem eY : ∀ {a b : List Lf}, eqLs a b = true → a = b
 | [], [], _ => rfl
 | x :: a, y :: b, h => by
  have h : @Bool.rec (fun _ => Bool) false (eqLs a b) (eqLf x y) = true := h
  cases e : eqLf x y with
  | true => rw [e] at h; rw [qA e, eY h]
  | false => rw [e] at h; cases h
 | [], _ :: _, h => by cases h
 | _ :: _, [], h => by cases h
abbrev KN1 := Nat × List Lf × List Lf
def ob (C : Cfg) (Sg : FuncId → Option Sig) (T : Nat → Site) (k : Nat) (g : FB) : Prop := ∀ ls h K w, cr ls → g ls h K = some w → ∃ rs h', aQ C Sg k ls (absH T (toL h)) rs (absH T (toL h')) ∧ K rs h' = some w
def AllK (C : Cfg) (Sg : FuncId → Option Sig) (l : List KN1) : Prop := ∀ p ∈ l, ∀ H, aQ C Sg p.1 p.2.1 H p.2.2 H
theorem AllK.nil {C : Cfg} {Sg : FuncId → Option Sig} : AllK C Sg [] := fun _ h => by cases h
theorem AllK.cons {C : Cfg} {Sg : FuncId → Option Sig} {f : Nat} {ls rs : List Lf} {l : List KN1} (h : ∀ H, aQ C Sg f ls H rs H) (hl : AllK C Sg l) : AllK C Sg ((f, ls, rs) :: l) := by
 intro p hp
 rcases List.mem_cons.1 hp with rfl | hp
 ·exact h
 ·exact hl p hp
theorem AllK.app {C : Cfg} {Sg : FuncId → Option Sig} {l m : List KN1} (h : AllK C Sg l) (hm : AllK C Sg m) : AllK C Sg (l ++ m) := by
 intro p hp
 rcases List.mem_append.1 hp with hp | hp
 ·exact h p hp
 ·exact hm p hp
theorem pD {C : Cfg} {Sg : FuncId → Option Sig} {T : Nat → Site} {g : Nat} {d : FB} (hd : ob C Sg T g d) : ∀ {l : List (Nat × FB)}, (∀ p ∈ l, ob C Sg T p.1 p.2) → ob C Sg T g (lookF l g d)
 | [], _ => hd
 | p :: l, h => by
  have e : lookF (p :: l) g d = @Bool.rec (fun _ => FB) (lookF l g d) p.2 (Nat.beq p.1 g) := rfl
  rw [e]
  cases hb : Nat.beq p.1 g with
  | true =>
   have := Nat.eq_of_beq_eq_true hb
   subst this
   exact h p List.mem_cons_self
  | false => exact pD hd (fun q hq => h q (List.mem_cons_of_mem _ hq))
theorem ak {C : Cfg} {Sg : FuncId → Option Sig} {T : Nat → Site} {c : aa} (hc : CallBOk C Sg T c) {l : List (Nat × FB)} (h : ∀ p ∈ l, ob C Sg T p.1 p.2) : CallBOk C Sg T (tblF l c) :=
 ⟨fun g ls hh K w hls hk => pD (fun ls h K w => hc.f g ls h K w) h ls hh K w hls hk, fun κ vs l ls h K w st pd xs e hy hk => hc.y κ vs l ls h K w st pd xs e hy hk⟩
def YOk (C : Cfg) (Sg : FuncId → Option Sig) (T : Nat → Site) (κ : Nat) (g : List Value → Nat → FB) : Prop := ∀ vs l ls h K w st pd xs, h.at l = some (.lp κ st pd vs) → Told ((T κ).params.map (·.2)) ls xs → g vs l ls h K = some w →
  ∃ b h', gt C l (am xs) (absH T (toL h)) (.bool b) (absH T (toL h')) ∧ K [.b b] h' = some w
noncomputable def lookY (l : List (Nat × (List Value → Nat → FB))) (κ : Nat) (d : List Value → Nat → FB) : List Value → Nat → FB := @List.rec _ (fun _ => List Value → Nat → FB) d (fun p _ ih => @Bool.rec (fun _ => List Value → Nat → FB) ih p.2 (Nat.beq p.1 κ)) l
theorem pE {C : Cfg} {Sg : FuncId → Option Sig} {T : Nat → Site} {g : Nat} {d : List Value → Nat → FB} (hd : YOk C Sg T g d) : ∀ {l : List (Nat × (List Value → Nat → FB))}, (∀ p ∈ l, YOk C Sg T p.1 p.2) → YOk C Sg T g (lookY l g d)
 | [], _ => hd
 | p :: l, h => by
  have e : lookY (p :: l) g d = @Bool.rec (fun _ => List Value → Nat → FB) (lookY l g d) p.2 (Nat.beq p.1 g) := rfl
  rw [e]
  cases hb : Nat.beq p.1 g with
  | true =>
   have := Nat.eq_of_beq_eq_true hb
   subst this
   exact h p List.mem_cons_self
  | false => exact pE hd (fun q hq => h q (List.mem_cons_of_mem _ hq))
theorem tell_eq : tell = fun rs _ => some rs := by
 funext rs h
 exact dp rs _
theorem memo_ok {C : Cfg} {Sg : FuncId → Option Sig} {T : Nat → Site} (hpl : ∀ f sg ls rs H', Sg f = some sg → sg.plain = true → aQ C Sg f ls [] rs H' → ∀ H, aQ C Sg f ls H rs H)
  {k : Nat} {g : FB} {sg : Sig} (hg : ob C Sg T k g) (hs : Sg k = some sg) (hp : sg.plain = true) : ob C Sg T k (memo g) := by
 intro ls h K w hls hk
 unfold memo at hk
 rw [dp, tell_eq] at hk
 cases e : g ls .empty (fun rs _ => some rs) with
 | none => rw [e] at hk; cases hk
 | some rs =>
  rw [e] at hk
  obtain ⟨rs', h', a1, a2⟩ := hg ls .empty _ rs hls e
  cases a2
  exact ⟨rs, h, hpl k sg ls rs _ hs hp a1 _, hk⟩
end
end Go.Am

/-
 WHAT A ROUND OF EACH LOOP OVER AN ITERATOR DOES, BY PROGRAM.
-/
set_option maxRecDepth 100000
namespace Go.Am
open Sx Go.Proofs
section
variable {R HT : Type} (A : Alg R HT)
noncomputable def y192 (vs : List Value) (lp : Nat) (ls : List Lf) (h : HT) (K : List Lf → HT → R) : R := A.ucV vs (fun J U => A.chk J ( A.uc0 U ( A.unI ls (fun n10 V => A.unI V (fun n12 a0 => A.unI a0 (fun b2 a1 => A.unI a1 (fun n16 a2 => A.un0 a2 ( A.lp1 lp h (fun O => A.peek (.lg cc 1 J) O (fun a3 => A.ucV a3 (fun x20 a4 => A.chk x20 ( A.uc0 a4 ( A.new (.cells [(.int .i64 n10)] 1 true) O (fun a5 a6 => A.heap (.ap cc 1 8 x20 (.slice (some ⟨a5, 0, (some 11)⟩) 1 2)) a6 (fun a7 a8 => A.ucV a7 (fun Q a9 => A.chk Q ( A.uc0 a9 ( A.heap (.st J [Q]) a8 (fun b3 b0 => A.lp2 lp none b0 (fun b1 => K [(.b true)] b1))))))))))))))))))))
noncomputable def y304 (vs : List Value) (lp : Nat) (ls : List Lf) (h : HT) (K : List Lf → HT → R) : R := A.ucV vs (fun V a9 => A.chk V ( A.ucV a9 (fun U b0 => A.chk U ( A.uc0 b0 ( A.unI ls (fun n12 b1 => A.unI b1 (fun b2 b3 => A.unI b3 (fun n16 b4 => A.unI b4 (fun n18 b5 => A.un0 b5 ( A.new (.cells [(.int .i64 (.ofNat 0)), (.int .i64 (.ofNat 0)), (.int .u8 (.ofNat 0))] 3 true) h (fun J h21 => A.heap (.st (.pointer (some ⟨J, 0, none⟩)) [(.int .i64 b2), (.int .i64 n16), (.int .u8 n18)]) h21 (fun f3 b6 => A.lp1 lp b6 (fun O => A.peek (.lg cc 3 V) O (fun b7 => A.ucI .i64 b7 (fun b8 b9 => A.ucI .i64 b9 (fun c0 c1 => A.ucV c1 (fun a0 d0 => A.chk a0 ( A.uc0 d0 ( A.opt (fdP 1 (.pointer (some ⟨J, 0, none⟩))) (fun a1 => A.chk a1 ( A.opt (fdP 0 a1) (fun a2 => A.chk a2 ( A.peek (.lg cc 1 a2) O (fun d1 => A.ucI .i64 d1 (fun d2 d3 => A.uc0 d3 ( A.opt (fdP 1 (.pointer (some ⟨J, 0, none⟩))) (fun a3 => A.chk a3 ( A.opt (fdP 1 a3) (fun a4 => A.chk a4 ( A.peek (.lg cc 1 a4) O (fun d4 => A.ucI .u8 d4 (fun n40 d5 => A.uc0 d5 ( A.call 41 [(.i b8), (.i c0), (.v a0), (.i d2), (.i n40)] O (fun d6 Q => A.unI d6 (fun n44 d7 => A.unI d7 (fun n46 d8 => A.un0 d8 ( A.cmp .neq n44 (.ofNat 0) (fun d9 => A.join (fun e0 e1 => A.un0 e0 ( A.lp2 lp none e1 (fun h51 => K [(.b true)] h51))) (fun a5 => A.cond d9 ( A.peek (.lg cc 1 U) Q (fun e2 => A.ucV e2 (fun a6 e3 => A.chk a6 ( A.uc0 e3 ( A.opt (fdP 0 (.pointer (some ⟨J, 0, none⟩))) (fun a7 => A.chk a7 ( A.peek (.lg cc 1 a7) Q (fun e5 => A.ucI .i64 e5 (fun n58 e6 => A.uc0 e6 ( A.new (.cells [(.int .i64 n58), (.int .u8 n44)] 2 true) Q (fun e7 e8 => A.heap (.ap cc 2 16 a6 (.slice (some ⟨e7, 0, (some 12)⟩) 1 2)) e8 (fun e9 f0 => A.ucV e9 (fun a8 f1 => A.chk a8 ( A.uc0 f1 ( A.heap (.st U [a8]) f0 (fun f5 f2 => a5 [] f2)))))))))))))))) ( a5 [] Q))))))))))))))))))))))))))))))))))))))))
noncomputable def y1408 (vs : List Value) (lp : Nat) (ls : List Lf) (h : HT) (K : List Lf → HT → R) : R := A.ucV vs (fun J V => A.chk J ( A.uc0 V ( A.unI ls (fun n10 a0 => A.unI a0 (fun n12 a1 => A.un0 a1 ( A.new (.cells [(.int .i64 (.ofNat 0)), (.int .u8 (.ofNat 0))] 2 true) h (fun Q a2 => A.heap (.st (.pointer (some ⟨Q, 0, none⟩)) [(.int .i64 n10), (.int .u8 n12)]) a2 (fun b7 h17 => A.lp1 lp h17 (fun O => A.peek (.lg cc 1 J) O (fun a3 => A.ucV a3 (fun x20 a4 => A.chk x20 ( A.uc0 a4 ( A.peek (.lg cc 2 (.pointer (some ⟨Q, 0, none⟩))) O (fun a5 => A.ucI .i64 a5 (fun a6 a7 => A.ucI .u8 a7 (fun a8 a9 => A.uc0 a9 ( A.new (.cells [(.int .i64 a6), (.int .u8 a8)] 2 true) O (fun b0 b1 => A.heap (.ap cc 2 16 x20 (.slice (some ⟨b0, 0, (some 12)⟩) 1 2)) b1 (fun b2 b3 => A.ucV b2 (fun U b4 => A.chk U ( A.uc0 b4 ( A.heap (.st J [U]) b3 (fun b8 b5 => A.lp2 lp none b5 (fun b6 => K [(.b true)] b6))))))))))))))))))))))))
end
theorem ey192 : @y192 = fun R HT A vs lp ls h K => lP A (xc 0) ac drN (ab 192) vs lp ls h K := by kernel_rfl
theorem ey304 : @y304 = fun R HT A vs lp ls h K => lP A (xc 0) ac drN (ab 304) vs lp ls h K := by kernel_rfl
theorem ey1408 : @y1408 = fun R HT A vs lp ls h K => lP A (xc 0) ac drN (ab 1408) vs lp ls h K := by kernel_rfl
end Go.Am


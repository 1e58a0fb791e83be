/-
  PART 4 OF THE PROOF: Sx8 Sx9m Sx9 Sx9b Sx9c Sx10 Sx11 Ge0 Ge1 Ge2 Ge3 Ge4 Ge5 Ge6 Gq Sx12 Sx13 Px1 Sx14 Bx1 Gy (no conditions).
-/
import Derived.Test.YtdngmncaohgacaaDoorCW3
import Derived.Calls
import Derived.LaidMore
import Derived.MakeChecks
import Derived.OpenShut
import Derived.ProofKit
import Derived.Stop.Joined
import Derived.Test.YtdngmncaohgacaaDoorRows
import GoSem.ClaimJoined
set_option linter.unusedSectionVars false
set_option linter.unusedSimpArgs false
set_option linter.unusedVariables false
set_option linter.constructorNameAsVariable false
set_option linter.defProp false
/-
 FUNCTIONS AND ROUNDS: what the algebra says of them, the abstract machine does.
-/
namespace Go.Am
namespace Sx
section
variable [Val] [Kno] {R HT : Type} {A : Alg R HT} {X : Ctxt} {Sg : FuncId → Option Sig} {holds : R → Prop} {abs : HT → List HObj}
def dg (ls : List Lf) : Prop := ∀ l ∈ ls, match l with
 | .v x => cA x = true
 | _ => True
theorem rK {xs : List S0} (h : dg (bU xs)) : ∀ x ∈ xs, x.good := by
 intro x hx l hl
 have hm : l.lf ∈ bU xs := by
  induction xs with
  | nil => cases hx
  | cons y ys ih =>
   simp only [bU, List.mem_append, List.mem_map]
   rcases List.mem_cons.1 hx with rfl | hx
   ·exact .inl ⟨l, hl, rfl⟩
   ·exact .inr (ih (fun l hl => h l (by simp only [bU, List.mem_append]; exact .inr hl)) hx)
 have := h _ hm
 cases l <;> first | trivial | exact this
theorem lK : ∀ {xs : List S0}, (∀ x ∈ xs, x.good) → dg (bU xs)
 | [], _, l, hl => by cases hl
 | x :: xs, h, l, hl => by
  simp only [bU, List.mem_append, List.mem_map] at hl
  rcases hl with ⟨c, hc, rfl⟩ | hl
  ·have := h x (by simp) c hc
   cases c <;> first | trivial | exact this
  ·exact lK (fun y hy => h y (by simp [hy])) l hl
theorem ey {C : Cfg} {T : Nat → Site} (hA : AlgOk A C Sg T holds abs) : ∀ {cs : List SL} {K : R}, holds (chkAll A cs K) → (∀ c ∈ cs, cF c.val = true) ∧ holds K
 | [], K, h => ⟨by simp, h⟩
 | c :: cs, K, h => by
  cases c with
  | v x =>
   have h' : holds (A.opt (chk2 x) fun _ => chkAll A cs K) := h
   obtain ⟨u, hu, h1⟩ := hA.opt _ _ h'
   obtain ⟨h2, h3⟩ := ey hA h1
   refine ⟨List.forall_mem_cons.2 ⟨?_, h2⟩, h3⟩
   unfold chk2 at hu
   split at hu
   ·assumption
   ·cases hu
  | i k n => obtain ⟨h2, h3⟩ := ey (cs := cs) (K := K) hA h; exact ⟨List.forall_mem_cons.2 ⟨rfl, h2⟩, h3⟩
  | b t => obtain ⟨h2, h3⟩ := ey (cs := cs) (K := K) hA h; exact ⟨List.forall_mem_cons.2 ⟨rfl, h2⟩, h3⟩
  | l t => obtain ⟨h2, h3⟩ := ey (cs := cs) (K := K) hA h; exact ⟨List.forall_mem_cons.2 ⟨rfl, h2⟩, h3⟩
theorem chkRes_ok {C : Cfg} {T : Nat → Site} (hA : AlgOk A C Sg T holds abs) {many : Bool} {x : S0} {K : R} (hx : x.good) (h : holds (ej A many x K)) : (many = true → bv x.val = true) ∧ holds K := by
 unfold ej at h
 split at h
 ·rename_i cs
  obtain ⟨h1, h2⟩ := ey hA h
  refine ⟨fun _ => ?_, h2⟩
  simp only [S0.val, bv, List.all_eq_true, List.mem_map]
  rintro _ ⟨c, hc, rfl⟩
  exact h1 c hc
 ·rename_i hne
  refine ⟨fun hm => ?_, h⟩
  cases x with
  | agg cs => exact absurd rfl (hne cs hm)
  | leaf l => exact (cR.1 (SL.val_good (hx l (by simp [S0.cells])))).2.1
theorem resE_ok (hA : AlgOk A X.C Sg X.T holds abs) {ev : Env} {σ : St} {h : HT} (hR : Rp ev σ) (ha : abs h = σ.heap) {many : Bool} : ∀ (rvs : List ResultVar) (sks : List SK) (acc : List Lf) (K : List Lf → HT → R), holds (resE A X many ev h rvs sks acc K) →
  ∃ ys, bN ys sks = true ∧ (∀ y ∈ ys, y.good) ∧ (many = true → ∀ y ∈ ys, bv y.val = true) ∧ ys.length = rvs.length ∧ cb X.C σ rvs = some (aj ys) ∧ holds (K (acc ++ bU ys) h)
 | [], sks, acc, K, hk => by
  cases sks with
  | nil =>
   have hk' : holds (K acc h) := hk
   exact ⟨[], rfl, by simp, by simp, rfl, rfl, by rw [bU, List.append_nil]; exact hk'⟩
  | cons _ _ => exact absurd hk hA.fail
 | rv :: rvs, sks, acc, K, hk => by
  cases sks with
  | nil => exact absurd hk hA.fail
  | cons sk sks =>
   have fin : ∀ x : S0, x.is sk = true → x.good → du X.C σ rv = some x.val → holds (ej A many x (resE A X many ev h rvs sks (acc ++ x.cells.map SL.lf) K)) →
     ∃ ys, bN ys (sk :: sks) = true ∧ (∀ y ∈ ys, y.good) ∧ (many = true → ∀ y ∈ ys, bv y.val = true) ∧ ys.length = (rv :: rvs).length ∧ cb X.C σ (rv :: rvs) = some (aj ys) ∧ holds (K (acc ++ bU ys) h) := by
    intro x hx hg hres hk
    obtain ⟨h1, h2⟩ := chkRes_ok hA hg hk
    obtain ⟨ys, a1, a2, a3, a4, a5, a6⟩ := resE_ok hA hR ha rvs sks _ K h2
    refine ⟨x :: ys, by simp [bN, hx, a1], List.forall_mem_cons.2 ⟨hg, a2⟩, fun hm => List.forall_mem_cons.2 ⟨h1 hm, a3 hm⟩, by simp [a4], ?_, by simpa [bU] using a6⟩
    simp only [cb, hres, a5]; rfl
   cases rv with
   | tmp t =>
    have hk' : holds (match ev.tm.getD t .no with
     | .st x => match x.is sk with
      | true => ej A many x (resE A X many ev h rvs sks (acc ++ x.cells.map SL.lf) K)
      | false => A.fail
     | _ => A.fail) := hk
    split at hk'
    ·rename_i x hx
     obtain ⟨g1, g2⟩ := hR.at hx (by simp)
     split at hk'
     ·rename_i his
      exact fin x his g2 (by simp [du, List.getD_eq_getElem?_getD, g1]; rfl) hk'
     ·exact absurd hk' hA.fail
    ·exact absurd hk' hA.fail
   | cell a t =>
    have hk' : holds (match (generalizing := false) aggT X.C.P t with
     | some agg =>
      let n := if agg then X.C.P.cellsOf t else 1
      match (generalizing := false) ev.tm.getD a .no with
      | .lad s off => match (ny ev s).bind (fun cs => (cutS cs off n).bind (mkS0 agg)) with
       | some x => match x.is sk with
        | true => ej A many x (resE A X many ev h rvs sks (acc ++ x.cells.map SL.lf) K)
        | false => A.fail
       | none => A.fail
      | .st (.leaf (.v p)) => match (generalizing := false) agg, sk with
       | true, .agg _ => A.peek (.ld n p) h fun cs => ucS A sk cs fun x r => A.uc0 r (ej A many x (resE A X many ev h rvs sks (acc ++ x.cells.map SL.lf) K))
       | false, .leaf _ => A.peek (.ld n p) h fun cs => ucS A sk cs fun x r => A.uc0 r (ej A many x (resE A X many ev h rvs sks (acc ++ x.cells.map SL.lf) K))
       | _, _ => A.fail
      | _ => A.fail
     | none => A.fail) := hk
    clear hk
    split at hk'
    ·rename_i agg hag
     simp only at hk'
     split at hk'
     ·rename_i s off hl
      obtain ⟨g1, _⟩ := hR.at hl (by simp)
      split at hk'
      ·rename_i x hx
       obtain ⟨cs, hr, hx⟩ := Option.bind_eq_some_iff.1 hx
       obtain ⟨ds, hd, hx⟩ := Option.bind_eq_some_iff.1 hx
       obtain ⟨r1, r2, _⟩ := hI hR hr
       obtain ⟨c1, c2⟩ := jL hd
       obtain ⟨v, v1, v2⟩ := ca hag c1
       obtain ⟨m1, m2⟩ := kp hx
       split at hk'
       ·rename_i his
        have hv : x.val = v := by
         rcases m2 with ⟨a1, a2⟩ | ⟨a1, a2⟩ <;> rcases v2 with ⟨b1, b2⟩ | ⟨b1, b2⟩
         ·rw [a2, b2]
         ·rw [a1] at b1; cases b1
         ·rw [a1] at b1; cases b1
         ·rw [a2] at b2; simpa using b2
        refine fin x his (fun l hl => ?_) ?_ hk'
        ·rw [m1] at hl; exact r2 l (c2 l hl)
        ·simp only [du, List.getD_eq_getElem?_getD, g1, Option.getD_some, SV.val, r1, v1, hv]
       ·exact absurd hk' hA.fail
      ·exact absurd hk' hA.fail
     ·rename_i p hl
      obtain ⟨g1, _⟩ := hR.at hl (by simp)
      have common : agg = gC sk → holds (A.peek (.ld (if agg then X.C.P.cellsOf t else 1) p) h fun cs => ucS A sk cs fun x r => A.uc0 r (ej A many x (resE A X many ev h rvs sks (acc ++ x.cells.map SL.lf) K))) →
        ∃ ys, bN ys (sk :: sks) = true ∧ (∀ y ∈ ys, y.good) ∧ (many = true → ∀ y ∈ ys, bv y.val = true) ∧ ys.length = (ResultVar.cell a t :: rvs).length ∧ cb X.C σ (.cell a t :: rvs) = some (aj ys) ∧ holds (K (acc ++ bU ys) h) := by
       intro hsk hk
       obtain ⟨cs, h2, hk1⟩ := hA.peek _ _ _ hk
       simp only [Pk.run] at h2
       rw [ha] at h2
       obtain ⟨id, off, vs, rfl, h3, h4⟩ := ldP_ok h2
       rw [nU] at h3
       obtain ⟨v, h5, h6⟩ := ca hag h4
       rw [hsk] at h6
       obtain ⟨x, r, q1, q2, q3, hk2⟩ := me hA hk1
       obtain ⟨hr, hk3⟩ := hA.uc0 _ _ hk2
       rw [hr, List.append_nil] at q1
       rw [q1] at h6
       refine fin x q2 q3 ?_ hk3
       rw [lL q2 h6]
       simp only [du, List.getD_eq_getElem?_getD, g1, Option.getD_some, SV.val, S0.val, SL.val, h3, Option.bind_some, h5]
      split at hk'
      ·exact common rfl hk'
      ·exact common rfl hk'
      ·exact absurd hk' hA.fail
     ·exact absurd hk' hA.fail
    ·exact absurd hk' hA.fail
structure FnIs (X : Ctxt) (Sg : FuncId → Option Sig) (f : FuncId) (fn : Fn1) : Prop where
 is : ∃ g, X.C.P.funcs[f]? = some g ∧ g.body = some (er X fn.code) ∧ (g.name == "runtime.NumGoroutine") = false ∧ g.ntmps = fn.nt ∧ g.results.toList = fn.rvs
 pts : X.pts = X.C.pts f
 sg : Sg f = some fn.sg
theorem pV {ys : List S0} (hg : ∀ y ∈ ys, y.good) (hm : 1 < ys.length → ∀ y ∈ ys, bv y.val = true) : noLoc (dP (aj ys)) = true := by
 match ys with
 | [] => rfl
 | [y] => exact S0.noLoc (hg y (by simp))
 | a :: b :: l =>
  have h := hm (by simp)
  have e : dP (aj (a :: b :: l)) = .tuple (aj (a :: b :: l)).toArray := rfl
  rw [e]
  simp only [Am.noLoc, List.all_eq_true]
  intro v hv
  simp only [aj, List.mem_map] at hv
  obtain ⟨y, hy, rfl⟩ := hv
  exact h y hy
theorem iL : ∀ {a : List S0} {sks : List SK}, bN a sks = true → a.length = sks.length
 | [], [], _ => rfl
 | x :: a, k :: sks, h => by
  simp only [bN, Bool.and_eq_true] at h
  simp [iL h.2]
 | [], _ :: _, h => by cases h
 | _ :: _, [], h => by cases h
theorem start_rp {xs : List S0} (hg : ∀ x ∈ xs, x.good) (nt : Nat) (H : List HObj) :
  Rp ⟨xs.map .st ++ List.replicate (nt - xs.length) .no, List.replicate nt .nil⟩ { tmps := aj xs ++ List.replicate (nt - (aj xs).length) undef, loc := List.replicate nt none, heap := H } := by
 refine ⟨by simp [aj], fun i s hs => ?_, by simp, fun i r hr => ?_⟩
 ·rw [List.getElem?_append] at hs
  split at hs
  ·rename_i hi
   simp only [List.length_map] at hi
   simp only [List.getElem?_map, Option.map_eq_some_iff] at hs
   obtain ⟨x, hx, rfl⟩ := hs
   refine ⟨?_, hg x (List.mem_of_getElem? hx)⟩
   rw [List.getElem?_append_left (by simpa [aj] using hi)]
   simp [aj, hx, SV.val]
  ·rw [List.getElem?_replicate] at hs
   split at hs
   ·cases hs; trivial
   ·cases hs
 ·simp only [List.getElem?_replicate] at hr
  split at hr
  ·rename_i hi; cases hr
   simp [LR.ok, hi]
  ·cases hr
theorem mz (hA : AlgOk A X.C Sg X.T holds abs) {dr : List Nat → Array Oper → Bool}
  (hdr : ∀ pts ops, dr pts ops = true → ∀ (n : Nat) (σ σ' : St), bO X.C (sm X.C n).toBelow pts ops (List.range ops.size) σ σ' → ei X.C (sm X.C n).toBelow pts ops σ σ')
  {f : FuncId} {fn : Fn1} (hf : FnIs X Sg f fn) {ls : List Lf} {h : HT} {K : List Lf → HT → R} (hls : dg ls) (hk : holds (aQ A X Sg dr fn ls h K)) :
  ∃ rs h', bm X.C Sg f ls (abs h) rs (abs h') ∧ dg rs ∧ holds (K rs h') := by
 obtain ⟨g, f1, f2, f3, f4, f5⟩ := hf.is
 obtain ⟨xs, r, e1, e2, hk1⟩ := kP hA hk
 obtain ⟨hr, hk2⟩ := hA.un0 _ _ hk1
 rw [hr, List.append_nil] at e1
 subst e1
 have hg := rK hls
 have hR := start_rp hg fn.nt (abs h)
 obtain ⟨e, σ', ev', h', q1, q2, q3, _, q5⟩ := pG hA hdr fn.code _ h _ _ _ hR rfl hk2
 have main : (e = .normal ∨ e = .ret) → holds (resE A X (Nat.blt 1 fn.rvs.length) ev' h' fn.rvs fn.sg.rs [] K) → ∃ rs h', bm X.C Sg f (bU xs) (abs h) rs (abs h') ∧ dg rs ∧ holds (K rs h') := by
  intro he hk
  obtain ⟨ys, a1, a2, a3, a4, a5, a6⟩ := resE_ok hA q2 q3 fn.rvs fn.sg.rs [] K hk
  rw [List.nil_append] at a6
  refine ⟨bU ys, h', ⟨fn.sg, xs, ys, hf.sg, ⟨e2, rfl, hg⟩, ⟨a1, rfl, a2⟩, ?_⟩, lK a2, a6⟩
  rw [q3]
  refine gc.intro f1 f2 f3 ?_ he (by rw [f5]; exact a5) (pV a2 fun hl => a3 (by rw [Nat.blt_eq]; omega))
  rw [hf.pts] at q1
  simpa [iR, f4] using q1
 rcases q5 with ⟨rfl, q5⟩ | ⟨q5, q6⟩
 ·exact main (.inl rfl) q5
 ·cases e with
  | ret => exact main (.inr rfl) q6
  | _ => exact absurd q6 hA.fail
theorem jE : ∀ (caps : List (Nat × SK)) (xs : List S0) (tm : List SV) (tmps : List Value), tm.length = tmps.length → (∀ x ∈ xs, x.good) → (∀ (i : Nat) s, tm[i]? = some s → s.ok tmps i) →
  (dz 0 caps xs tm).length = tm.length ∧ ∀ (i : Nat) s, (dz 0 caps xs tm)[i]? = some s → s.ok (bP (caps.map (·.1)) (aj xs) tmps) i
 | [], xs, tm, tmps, _, _, h => ⟨by simp [dz], by simpa [dz, bP] using h⟩
 | (t, sk) :: caps, [], tm, tmps, _, _, h => ⟨by simp [dz], by simpa [dz, bP, aj] using h⟩
 | (t, sk) :: caps, x :: xs, tm, tmps, hl, hg, h => by
  have := jE caps xs (tm.set t (.st x)) (tmps.set t x.val) (by simp [hl]) (fun y hy => hg y (by simp [hy])) (fun i s hs => ?_)
  ·simpa [dz, bP, aj] using this
  ·simp only [List.getElem?_set] at hs
   split at hs
   ·rename_i hi
    subst hi
    split at hs
    ·rename_i hlt
     cases hs
     exact ⟨by rw [List.getElem?_set_self (by omega)]; rfl, hg x (by simp)⟩
    ·cases hs
   ·rename_i hi
    have := h i s hs
    cases s <;> first | trivial | exact ⟨by rw [List.getElem?_set_ne hi]; exact this.1, this.2⟩
theorem eq (nt nt' : Nat) : ∀ (caps : List (Nat × SK)) (xs : List S0) (tm : List SV), dz nt caps xs tm = dz nt' caps xs tm
 | [], _, _ => rfl
 | _ :: _, [], _ => rfl
 | (t, _) :: caps, x :: xs, tm => eq nt nt' caps xs _
theorem iN (nt : Nat) : ∀ (caps : List (Nat × SK)) (vs tm : List Value), kU nt caps vs tm = bP (caps.map (·.1)) vs tm
 | [], _, _ => by simp [kU, bP]
 | _ :: _, [], _ => by simp [kU, bP]
 | (t, _) :: caps, v :: vs, tm => by simp only [kU, List.map_cons, bP]; exact iN nt caps vs _
theorem lO {T T' : Nat → Tmp → Code} : ∀ {c : AC}, noRF c = true → c.erase T = c.erase T' := by
 intro c
 induction c with
 | seq a b iha ihb => intro h; simp only [noRF, Bool.and_eq_true] at h; simp only [AC.erase, iha h.1, ihb h.2]
 | scope b ih => intro h; simp only [AC.erase, ih h]
 | cond c a b j iha ihb => intro h; simp only [noRF, Bool.and_eq_true] at h; simp only [AC.erase, iha h.1, ihb h.2]
 | block id b j ih => intro h; simp only [AC.erase, ih h]
 | loop b lv ih => intro h; simp only [AC.erase, ih h]
 | rangeFunc f κ ids => intro h; cases h
 | _ => intro _; rfl
theorem oL : ∀ {caps : List (Nat × SK)} {xs : List S0}, mN caps = true → bN xs (caps.map (·.2)) = true → jq xs = aj xs
 | [], [], _, _ => rfl
 | p :: caps, x :: xs, h1, h2 => by
  simp only [mN, List.all_cons, Bool.and_eq_true] at h1
  simp only [List.map_cons, bN, Bool.and_eq_true] at h2
  have ih := oL (caps := caps) h1.2 h2.2
  obtain ⟨t, sk⟩ := p
  cases sk with
  | agg ks => cases h1.1
  | leaf k =>
   cases x with
   | agg _ => cases h2.1
   | leaf l =>
    simp only [jq, List.flatMap_cons, aj, List.map_cons] at ih ⊢
    rw [ih]; rfl
 | [], _ :: _, _, h => by cases h
 | _ :: _, [], _, h => by cases h
theorem execY_ok (hA : AlgOk A X.C Sg X.T holds abs) {dr : List Nat → Array Oper → Bool}
  (hdr : ∀ pts ops, dr pts ops = true → ∀ (n : Nat) (σ σ' : St), bO X.C (sm X.C n).toBelow pts ops (List.range ops.size) σ σ' → ei X.C (sm X.C n).toBelow pts ops σ σ')
  {st : Site} {vs : List Value} {l : Nat} {ls : List Lf} {h : HT} {K : List Lf → HT → R} {lp : ALoop} {ys : List S0} (h1 : cY (abs h) l = some lp) (h2 : lp.tmps = kU st.nt st.caps vs (List.replicate st.nt poison))
  (h3 : lp.params = st.params.map (·.1)) (h4 : lp.assign = st.assign.erase lP) (h5 : lp.body = st.body.erase lP) (hy : Told (st.params.map (·.2)) ls ys)
  (hk : holds (pF A X Sg dr st vs l ls h K)) : ∃ b h', hY X.C l (aj ys) (abs h) (.bool b) (abs h') ∧ holds (K [.b b] h') := by
 unfold pF at hk
 split at hk
 ·exact absurd hk hA.fail
 ·rename_i hc
  simp only [Bool.and_eq_true] at hc
  obtain ⟨⟨c1, c2⟩, c3⟩ := hc
  obtain ⟨xs, r, e1, e2, e3, hk1⟩ := ucSs_ok hA hk
  obtain ⟨hr, hk2⟩ := hA.uc0 _ _ hk1
  rw [hr, List.append_nil, oL c1 e2] at e1
  subst e1
  obtain ⟨zs, r', d1, d2, hk3⟩ := kP hA hk2
  obtain ⟨hr', hk4⟩ := hA.un0 _ _ hk3
  rw [hr', List.append_nil] at d1
  obtain ⟨y1, y2, y3⟩ := hy
  obtain ⟨w1, w2⟩ := cP y1 d2 (y2.trans d1)
  have hzg := w2 y3
  let X' : Ctxt := { X with pts := [] }
  let σ₀ : St := { tmps := bP lp.params (aj ys) lp.tmps, loc := [], heap := abs h }
  have hR : Rp ⟨dz st.nt st.params zs (dz st.nt st.caps xs (List.replicate st.nt .no)), []⟩ σ₀ := by
   have a1 := jE st.caps xs (List.replicate st.nt .no) (List.replicate st.nt poison) (by simp) e3 (fun i s hs => by
    rw [List.getElem?_replicate] at hs; split at hs
    ·cases hs; trivial
    ·cases hs)
   have plen : ∀ (ts : List Tmp) (vs tm : List Value), (bP ts vs tm).length = tm.length := by
    intro ts
    induction ts with
    | nil => intro vs tm; simp [bP]
    | cons t ts ih => intro vs tm; cases vs with
     | nil => simp [bP]
     | cons v vs => simp [bP, ih]
   have a2 := jE st.params zs _ _ (by rw [a1.1, plen]; simp) hzg a1.2
   have etm : σ₀.tmps = bP (st.params.map (·.1)) (aj zs) (bP (st.caps.map (·.1)) (aj xs) (List.replicate st.nt poison)) := by
    show bP lp.params (aj ys) lp.tmps = _
    rw [h3, h2, iN, w1]
   refine ⟨?_, fun i s hs => ?_, rfl, fun i r hr => by simp at hr⟩
   ·rw [etm, plen, plen, eq st.nt 0, eq st.nt 0, a2.1, a1.1]; simp
   ·rw [eq st.nt 0, eq st.nt 0] at hs
    rw [etm]
    exact a2.2 i s hs
  obtain ⟨e, σ₁, ev₁, h₁, q1, q2, q3, _, q5⟩ := pG (X := X') hA hdr st.assign _ h σ₀ _ _ hR rfl hk4
  rcases q5 with ⟨rfl, q5⟩ | ⟨_, q5⟩
  ·obtain ⟨lp₁, h₂, p1, p2, p3, q6⟩ := hA.lp1 _ _ _ q5
   rw [q3] at p1 p3
   obtain ⟨e, σ₂, ev₂, h₃, s1, s2, s3, _, s5⟩ := pG (X := X') hA hdr st.body ev₁ h₂ { σ₁ with heap := σ₁.heap.set l (.loop { lp₁ with state := .busy }) } _ _ (q2.heap _) p3 q6
   have u1 : uEx X.C [] lp.assign { tmps := bP lp.params (aj ys) lp.tmps, loc := [], heap := abs h } .normal σ₁ := by
    rw [h4, lO (T' := fun κ t => dC (X.T κ) t) c2]; exact q1
   have u2 : uEx X.C [] lp.body { σ₁ with heap := σ₁.heap.set l (.loop { lp₁ with state := .busy }) } e σ₂ := by
    rw [h5, lO (T' := fun κ t => dC (X.T κ) t) c3]; exact s1
   have hlen : (aj ys).length = lp.params.length := by
    rw [h3]
    have := iL y1
    simpa [aj] using this
   have fin : ∀ (j : Option Code) (b : Bool), jumpOf e = some j → b = j.isNone → holds (A.lp2 l j h₃ fun h => K [.b b] h) → ∃ b h', hY X.C l (aj ys) (abs h) (.bool b) (abs h') ∧ holds (K [.b b] h') := by
    intro j b hj hb hk
    obtain ⟨lp₂, h₄, z1, z2, z3⟩ := hA.lp2 _ _ _ _ hk
    rw [s3] at z1 z2
    refine ⟨b, h₄, ?_, z3⟩
    rw [z2, hb]
    exact hY.intro h1 hlen u1 p1 p2 u2 hj z1
   rcases s5 with ⟨rfl, s5⟩ | ⟨s5, s6⟩
   ·exact fin none true rfl rfl s5
   ·cases e with
    | ret => exact fin (some .ret) false rfl rfl s6
    | exit id => exact fin (some (.exit id)) false rfl rfl s6
    | _ => exact absurd s6 hA.fail
  ·exact absurd q5 hA.fail
end
end Sx
end Go.Am

/-
 AN ENTRY THAT IS MADE CHANGES NO LOOK-UP OF ITS KEY.
-/
namespace Go.Am
namespace Sx
section
variable {P : Program}
theorem ba_refl (a : ByteArray) : (a == a) = true := by
 cases a with | mk d => show (d == d) = true; simp
theorem ba_eq {a b : ByteArray} (h : (a == b) = true) : a = b := by
 cases a with | mk d => cases b with | mk e => have h : (d == e) = true := h; simp at h; rw [h]
theorem po {d : TypeDesc} {k x : Value} {b : Bool} (h : Instr.sameNow d k x = some b) : Instr.sameNow d k k = some true := by
 unfold Instr.sameNow at h
 split at h
 ·simp [Instr.sameNow]
 ·simp [Instr.sameNow, ba_refl]
 ·simp [Instr.sameNow]
 ·cases h
theorem lQ {d : TypeDesc} {k : Value} : ∀ (l l' : List MapEntry) (i : Nat), Instr.findNow d k l i = some none → Instr.findNow d k (l ++ l') i = Instr.findNow d k l' (i + l.length)
 | [], l', i, h => rfl
 | e :: l, l', i, h => by
  unfold Instr.findNow at h
  split at h
  ·cases h
  ·rename_i e1
   show (match Instr.sameNow d k e.key with | some true => some (some (i, e.val)) | some false => Instr.findNow d k (l ++ l') (i + 1) | none => none) = _
   rw [e1]
   simp only
   rw [lQ l l' (i + 1) h, List.length_cons]
   congr 1; omega
  ·cases h
theorem qN {d : TypeDesc} {k : Value} : ∀ (l l' : List MapEntry) (i : Nat), Instr.findNow d k l i = none → Instr.findNow d k (l ++ l') i = none
 | [], l', i, h => by cases h
 | e :: l, l', i, h => by
  unfold Instr.findNow at h
  show (match Instr.sameNow d k e.key with | some true => some (some (i, e.val)) | some false => Instr.findNow d k (l ++ l') (i + 1) | none => none) = none
  split at h
  ·cases h
  ·rename_i e1; rw [e1]; exact qN l l' (i + 1) h
  ·rename_i e1; rw [e1]
theorem lj {kt : TypeId} {k : Value} : ∀ (l l' : List MapEntry) (i : Nat), pev P (Instr.findAsking kt k l i) = some none → pev P (Instr.findAsking kt k (l ++ l') i) = pev P (Instr.findAsking kt k l' (i + l.length))
 | [], l', i, h => rfl
 | e :: l, l', i, h => by
  unfold Instr.findAsking at h
  rw [aZ] at h
  show pev P (Op.equal kt k e.key >>= fun b => if b then pure (some (i, e.val)) else Instr.findAsking kt k (l ++ l') (i + 1)) = _
  rw [aZ]
  cases hq : pev P (Op.equal kt k e.key) with
  | none => rw [hq] at h; cases h
  | some b =>
   rw [hq] at h
   simp only [Option.bind_some] at h ⊢
   cases b with
   | true => cases h
   | false =>
    simp only [Bool.false_eq_true, if_false] at h ⊢
    rw [lj l l' (i + 1) h, List.length_cons]
    congr 2; omega
theorem ask_one {kt : TypeId} {k v : Value} {b i : Nat} (h : pev P (Op.equal kt k k) = some true) : pev P (Instr.findAsking kt k [⟨k, v, b⟩] i) = some (some (i, v)) := by
 show pev P (Op.equal kt k k >>= fun b => if b then pure (some (i, v)) else Instr.findAsking kt k [] (i + 1)) = _
 rw [aZ, h]
 rfl
theorem rH {kt : TypeId} {k : Value} {es : List MapEntry} {e : MapEntry} (he : e.key = k) (hs : pev P (Op.equal kt k k) = some true) (h : gQ P kt k es = some none) : gQ P kt k (es ++ [e]) = some (some es.length) := by
 unfold gQ at h ⊢
 obtain ⟨r, h1, h2⟩ := Option.map_eq_some_iff.1 h
 have hr : r = none := by cases r with | none => rfl | some p => cases h2
 subst hr
 unfold Instr.findKey at h1 ⊢
 rw [aZ] at h1 ⊢
 cases hd : pev P (underlying kt) with
 | none => rw [hd] at h1; cases h1
 | some d =>
  rw [hd] at h1
  simp only [Option.bind_some] at h1 ⊢
  rw [List.map_append]
  have hb : [e].map aX = [⟨k, undef, 0⟩] := by simp [aX, he]
  rw [hb]
  cases hn : Instr.findNow d k (es.map aX) 0 with
  | some r =>
   rw [hn] at h1
   simp only [dZ, Option.some.injEq] at h1
   subst h1
   rw [lQ _ _ _ hn, Nat.zero_add, List.length_map]
   cases hq : Instr.sameNow d k k with
   | some b =>
    have := po hq
    have e1 : Instr.findNow d k [⟨k, undef, 0⟩] es.length = some (some (es.length, undef)) := by
     unfold Instr.findNow
     rw [this]
    rw [e1]
    rfl
   | none =>
    have e1 : Instr.findNow d k [⟨k, undef, 0⟩] es.length = none := by
     unfold Instr.findNow
     rw [hq]
    rw [e1]
    simp only
    cases es with
    | nil => rw [List.map_nil, List.nil_append, ask_one hs]; rfl
    | cons a l =>
     exfalso
     simp only [List.map_cons] at hn
     unfold Instr.findNow at hn
     split at hn
     ·cases hn
     ·rename_i e2
      rw [po e2] at hq
      cases hq
     ·cases hn
  | none =>
   rw [hn] at h1
   simp only at h1
   rw [qN _ _ _ hn]
   simp only
   rw [lj _ _ _ h1, Nat.zero_add, List.length_map, ask_one hs]
   rfl
theorem jC {x y : Value} {n : Nat} (hy : scalar y = true) (h : Instr.sameBits n x y = true) : x = y := by
 cases y <;> simp only [scalar, Bool.false_eq_true] at hy <;> cases x <;> cases n <;> first | (simp_all [Instr.sameBits]; done) | (rw [ba_eq (show _ = true from h)])
theorem nQ {n : Nat} : ∀ {l m : List Value}, l.length = m.length → m.all scalar = true → ((l.zip m).all fun p => Instr.sameBits n p.1 p.2) = true → l = m
 | [], [], _, _, _ => rfl
 | a :: l, b :: m, hl, hm, h => by
  simp only [List.all_cons, Bool.and_eq_true] at hm
  simp only [List.zip_cons_cons, List.all_cons, Bool.and_eq_true] at h
  rw [jC hm.1 h.1, nQ (by simpa using hl) hm.2 h.2]
 | [], _ :: _, hl, _, _ => by cases hl
 | _ :: _, [], hl, _, _ => by cases hl
theorem bits_flat {x y : Value} (hy : dx y = true) (h : Instr.sameBits 10000 x y = true) : x = y := by
 cases y with
 | agg b =>
  cases x with
  | agg a =>
   have h : (a.size == b.size && (a.toList.zip b.toList).all fun (x, y) => Instr.sameBits 9999 x y) = true := h
   simp only [Bool.and_eq_true, beq_iff_eq] at h
   congr 1
   exact Array.toList_inj.1 (nQ (n := 9999) (by simpa using h.1) hy h.2)
  | _ => cases h
 | _ => exact jC hy h
theorem kq {α : Type} {f : α → α} : ∀ (l : List α) (i : Nat) (a : α), l[i]? = some a → f a = a → l.modify i f = l
 | [], i, a, h, _ => by cases h
 | x :: l, 0, a, h, hf => by
  simp only [List.getElem?_cons_zero, Option.some.injEq] at h
  subst h
  simp [List.modify, hf]
 | x :: l, i + 1, a, h, hf => by
  simp only [List.getElem?_cons_succ] at h
  have := kq l i a h hf
  simp [List.modify_succ_cons, this]
theorem rc {α : Type} : ∀ (l : List α) (i : Nat) (a : α), l[i]? = some a → l.set i a = l
 | [], i, a, h => by cases h
 | x :: l, 0, a, h => by simp at h; simp [h]
 | x :: l, i + 1, a, h => by simp [rc l i a (by simpa using h)]
theorem oO {C : Cfg} {t : TypeId} {m k v r : Value} {H H' : List HObj} (h : cE C t m k H = some (H', r)) (hl : cf C t m k false H = some v) : cf C t m k false H' = some v := by
 unfold cE at h
 split at h
 ·rename_i kt et id hu
  split at h
  ·cases h
  ·rename_i hko
   have hko : dy C.P kt k = true := by simpa using hko
   have hko' := hko
   simp only [dy, Bool.and_eq_true] at hko'
   have hs : pev C.P (Op.equal kt k k) = some true := by
    have := hko'.2
    cases hq : pev C.P (Op.equal kt k k) with
    | none => rw [hq] at this; cases this
    | some b => rw [hq] at this; simp at this; rw [this]
   split at h
   ·cases h
   ·rename_i es c hm
    have hid : H[id]? = some (.map es c) := by
     unfold hmap at hm
     split at hm
     ·rename_i e; cases hm; exact e
     ·cases hm
    have hlt : id < H.length := by
     rcases Nat.lt_or_ge id H.length with h | h
     ·exact h
     ·rw [List.getElem?_eq_none h] at hid; cases hid
    split at h
    ·cases h
    ·rename_i hf
     split at h
     ·cases h
     ·rename_i z hz
      cases h
      unfold cf at hl ⊢
      rw [hu] at hl ⊢
      simp only [hko, Bool.not_true, Bool.false_eq_true, if_false, hz, hm, hf] at hl ⊢
      have hm' : hmap (H.set id (.map (es ++ [{ key := k, val := z, born := c }]) (c + 1))) id = some (es ++ [{ key := k, val := z, born := c }], c + 1) := by
       unfold hmap
       rw [List.getElem?_set_self hlt]
      rw [hm']
      simp only
      rw [rH (e := { key := k, val := z, born := c }) rfl hs hf]
      simp only [gM, List.getElem?_append_right (Nat.le_refl _), Nat.sub_self, List.getElem?_cons_zero, Option.map_some]
      exact hl
    ·rename_i i hf
     split at h
     ·cases h
     ·rename_i e he
      split at h
      ·rename_i hb
       cases h
       have hk : e.key = k := bits_flat hko'.1.1.1 hb
       have : es.modify i (fun e => { e with key := k }) = es := kq es i e he (by rw [← hk])
       rw [this, rc H id _ hid]
       exact hl
      ·cases h
 ·cases h
end
end Sx
end Go.Am

/-
 REGIONS THAT DRAW THEIR ORDER, first part: what an operation looks at.
-/
namespace Go.Am
namespace Sx
inductive MC where
 |no
 |row (s : Nat) (w : Bool)
 |hr
 |hw
 |neu (f : FuncId)
noncomputable def bf (N : FuncId → Option Nat) (pts : List Nat) (o : Oper) : Option MC :=
 match o.op with
 | .move _ | .assign _ | .pick _ _ _ | .build _ _ | .nilCheck _ | .unOp _ _ _ | .convert _ _ _ | .fieldAddr _ _ _ | .field _ _ _ | .indexAddr _ _ _ | .index _ _ _ | .extract _ _ => some .no
 | .binOp _ _ _ _ _ => some .no
 | .makeFunc _ _ _ => some .no
 | .load _ a => match pM pts a with
  | 0 => some .hr
  | 1 => some .no
  | s + 2 => some (.row s false)
 | .store _ a _ => match pM pts a with
  | 0 => some .hw
  | 1 => none
  | s + 2 => some (.row s true)
 | .alloc _ | .box _ _ => match o.dst with
  | some d => if pts.getD d 0 = d + 2 then some (.row d true) else some .hw
  | none => none
 | .buildSlice _ _ _ | .makeMap _ _ | .makeSlice _ _ _ | .mapUpdate _ _ _ _ | .mapEntry _ _ _ | .entryStore _ _ _ _ | .insert _ _ _ _ => some .hw
 | .lookup _ _ _ _ | .slice _ _ _ _ _ => some .hr
 | .call c => match c.callee with
  | .builtin b => match b with
   | .append | .copy | .delete => some .hw
   | .len => some .hr
   | .cap | .min | .max => some .no
   | _ => none
  | .value f => match f with
   | .func g => some (if N g = some c.args.size then .neu g else .hw)
   | _ => some .hw
  | _ => none
 | _ => none
noncomputable def ch (ops : Array Oper) (o : Oper) : List Nat :=
 (o.op.operands.toList.filterMap fun x => match x with
  | .tmp t => some t
  | _ => none) ++
 match o.guard with
 | some (j, _) => ((ops[j]?).bind (·.dst)).toList
 | none => []
section
variable [Val]
theorem execOp_congr {ρ ρ' : Operand → Value} {o : Oper} (N : FuncId → Option Nat) (pts : List Nat) (hm : bf N pts o ≠ none) (h : ∀ x ∈ o.op.operands.toList, ρ x = ρ' x) : execOp ρ o = execOp ρ' o := by
 obtain ⟨dst, op, ty, pos, after, guard⟩ := o
 have arr : ∀ {xs : Array Operand}, (∀ x ∈ xs.toList, ρ x = ρ' x) → xs.map ρ = xs.map ρ' := by
  intro xs hx
  apply Array.toList_inj.1
  rw [Array.toList_map, Array.toList_map]
  exact List.map_congr_left hx
 have prt : ∀ {xs : Array (Nat × Operand)}, (∀ x ∈ xs.toList.map (·.2), ρ x = ρ' x) → (xs.map fun (i, x) => (i, ρ x)) = (xs.map fun (i, x) => (i, ρ' x)) := by
  intro xs hx
  apply Array.toList_inj.1
  rw [Array.toList_map, Array.toList_map]
  refine List.map_congr_left fun p hp => ?_
  show (p.1, ρ p.2) = (p.1, ρ' p.2)
  rw [hx p.2 (List.mem_map.2 ⟨p, hp, rfl⟩)]
 have opt : ∀ {r : Option Operand}, (∀ x ∈ r.toArray.toList, ρ x = ρ' x) → r.map ρ = r.map ρ' := by
  intro r hx
  cases r with
  | none => rfl
  | some y => simp [hx y (by simp)]
 cases op <;> simp only [bf, ne_eq, not_true_eq_false, not_false_eq_true, reduceCtorEq] at hm <;> simp only [Op.operands] at h
 case move x => simp only [execOp, h x (by simp)]
 case assign x => simp only [execOp, h x (by simp)]
 case pick c a b => simp only [execOp, h c (by simp), h a (by simp), h b (by simp)]
 case alloc t => rfl
 case box t x => simp only [execOp, h x (by simp)]
 case build t ps => simp only [execOp, prt (by simpa using h)]
 case buildSlice t n ps => simp only [execOp, prt (by simpa using h)]
 case load t a => simp only [execOp, h a (by simp)]
 case store t a x => simp only [execOp, h a (by simp), h x (by simp)]
 case nilCheck x => simp only [execOp, h x (by simp)]
 case binOp op t x y yt => simp only [execOp, h x (by simp), h y (by simp)]
 case unOp op t x => simp only [execOp, h x (by simp)]
 case convert s d x => simp only [execOp, h x (by simp)]
 case makeFunc fn a b => simp only [execOp, arr (fun x hx => h x (by simp; exact .inl (by simpa using hx))), arr (fun x hx => h x (by simp; exact .inr (by simpa using hx)))]
 case makeMap t r => simp only [execOp, opt h]
 case makeSlice t a b => simp only [execOp, h a (by simp), h b (by simp)]
 case slice t x a b c =>
  simp only [Array.toList_append, List.mem_append] at h
  simp only [execOp, h x (by simp), opt (fun y hy => h y (.inl (.inl (.inr hy)))), opt (fun y hy => h y (.inl (.inr hy))), opt (fun y hy => h y (.inr hy))]
 case fieldAddr t x f => simp only [execOp, h x (by simp)]
 case field t x f => simp only [execOp, h x (by simp)]
 case indexAddr t x i => simp only [execOp, h x (by simp), h i (by simp)]
 case index t x i => simp only [execOp, h x (by simp), h i (by simp)]
 case lookup t x i ok => simp only [execOp, h x (by simp), h i (by simp)]
 case mapUpdate t m k v => simp only [execOp, h m (by simp), h k (by simp), h v (by simp)]
 case insert t m k v => simp only [execOp, h m (by simp), h k (by simp), h v (by simp)]
 case mapEntry t m k => simp only [execOp, h m (by simp), h k (by simp)]
 case entryStore t m s v => simp only [execOp, h m (by simp), h s (by simp), h v (by simp)]
 case extract t i => simp only [execOp, h t (by simp)]
 case call c =>
  have hres : resolve ρ c ty = resolve ρ' c ty := by
   unfold resolve
   simp only [Call.operands, Array.toList_append, List.mem_append] at h
   rw [arr (fun x hx => h x (.inr hx))]
   cases hc : c.callee with
   | builtin b => rfl
   | value f => simp only [hc] at h ⊢; rw [h f (.inl (by simp))]
   | invoke r m => simp only [hc] at h ⊢; rw [h r (.inl (by simp))]
  simp only [execOp, hres]
theorem jO {C : Cfg} {ρ ρ' : Operand → Value} {o : Oper} (N : FuncId → Option Nat) (pts : List Nat) (hm : bf N pts o ≠ none) (h : ∀ x ∈ o.op.operands.toList, ρ x = ρ' x) : ak C pts ρ o = ak C pts ρ' o := by
 have hx := execOp_congr N pts hm h
 have hall : ∀ (f : Value → Bool), (o.op.operands.toList.all fun x => f (ρ x)) = (o.op.operands.toList.all fun x => f (ρ' x)) := by
  intro f
  rw [Bool.eq_iff_iff, List.all_eq_true, List.all_eq_true]
  exact ⟨fun g x hx => by rw [← h x hx]; exact g x hx, fun g x hx => by rw [h x hx]; exact g x hx⟩
 have hp : bQ C ρ o = bQ C ρ' o := by
  unfold bQ
  rw [hall flat, hx]
 have opt : ∀ {r : Option Operand}, (∀ x ∈ r.toArray.toList, ρ x = ρ' x) → r.map ρ = r.map ρ' := by
  intro r hx
  cases r with
  | none => rfl
  | some y => simp [hx y (by simp)]
 have prt : ∀ {xs : Array (Nat × Operand)}, (∀ x ∈ xs.toList.map (·.2), ρ x = ρ' x) → (xs.toList.map fun p => (p.1, ρ p.2)) = (xs.toList.map fun p => (p.1, ρ' p.2)) := by
  intro xs hx
  refine List.map_congr_left fun p hp => ?_
  rw [hx p.2 (List.mem_map.2 ⟨p, hp, rfl⟩)]
 have pal : ∀ (f : Value → Bool) {xs : Array (Nat × Operand)}, (∀ x ∈ xs.toList.map (·.2), ρ x = ρ' x) → (xs.toList.all fun p => f (ρ p.2)) = (xs.toList.all fun p => f (ρ' p.2)) := by
  intro f xs hx
  rw [Bool.eq_iff_iff, List.all_eq_true, List.all_eq_true]
  have hh : ∀ p ∈ xs.toList, ρ p.2 = ρ' p.2 := fun p hp => hx p.2 (List.mem_map.2 ⟨p, hp, rfl⟩)
  exact ⟨fun g p hp => by rw [← hh p hp]; exact g p hp, fun g p hp => by rw [hh p hp]; exact g p hp⟩
 obtain ⟨dst, op, ty, pos, after, guard⟩ := o
 cases op <;> simp only [bf, ne_eq, not_true_eq_false, not_false_eq_true, reduceCtorEq] at hm <;> simp only [Op.operands] at h
 case move x => simp only [ak, h x (by simp)]
 case assign x => simp only [ak, h x (by simp)]
 case pick c a b => simp only [ak, h c (by simp), h a (by simp), h b (by simp)]
 case alloc t => rfl
 case box t x => simp only [ak, h x (by simp)]
 case build t ps => simp only [ak, prt (by simpa using h), pal (fun v => !aU v) (by simpa using h)]
 case buildSlice t n ps => simp only [ak, prt (by simpa using h), pal (fun v => v.cells.toList.all aY) (by simpa using h)]
 case load t a => simp only [ak, h a (by simp)]
 case store t a x => simp only [ak, h a (by simp), h x (by simp)]
 case nilCheck x => simp only [ak, h x (by simp)]
 case binOp op t x y yt => simp only [ak, h x (by simp), h y (by simp), hp]
 case unOp op t x => simp only [ak, hp]
 case convert s d x => simp only [ak, hp]
 case makeFunc fn a b =>
  have e1 : a.map ρ = a.map ρ' := Array.toList_inj.1 (by rw [Array.toList_map, Array.toList_map]; exact List.map_congr_left fun x hx => h x (by simp; exact .inl (by simpa using hx)))
  have e2 : b.map ρ = b.map ρ' := Array.toList_inj.1 (by rw [Array.toList_map, Array.toList_map]; exact List.map_congr_left fun x hx => h x (by simp; exact .inr (by simpa using hx)))
  simp only [ak, e1, e2]
 case makeMap t r => simp only [ak, opt h]
 case makeSlice t a b => simp only [ak, h a (by simp), h b (by simp)]
 case slice t x a b c =>
  simp only [Array.toList_append, List.mem_append] at h
  simp only [ak, h x (by simp), opt (fun y hy => h y (.inl (.inl (.inr hy)))), opt (fun y hy => h y (.inl (.inr hy))), opt (fun y hy => h y (.inr hy)), hp]
 case fieldAddr t x f => simp only [ak, h x (by simp)]
 case field t x f => simp only [ak, h x (by simp)]
 case indexAddr t x i => simp only [ak, h x (by simp), h i (by simp)]
 case index t x i => simp only [ak, h x (by simp), h i (by simp)]
 case lookup t x i ok => simp only [ak, h x (by simp), h i (by simp)]
 case mapUpdate t m k v => simp only [ak, h m (by simp), h k (by simp), h v (by simp)]
 case insert t m k v => simp only [ak, h m (by simp), h k (by simp), h v (by simp)]
 case mapEntry t m k => simp only [ak, h m (by simp), h k (by simp)]
 case entryStore t m s v => simp only [ak, h m (by simp), h s (by simp), h v (by simp)]
 case extract t i => simp only [ak, h t (by simp)]
 case call c =>
  simp only [Call.operands, Array.toList_append, List.mem_append] at h
  have e1 : c.args.toList.map ρ = c.args.toList.map ρ' := List.map_congr_left fun x hx => h x (.inr hx)
  have e2 : ∀ b, bc C ρ b (c.args.toList.map ρ) c.argTypes ⟨dst, .call c, ty, pos, after, guard⟩ = bc C ρ' b (c.args.toList.map ρ') c.argTypes ⟨dst, .call c, ty, pos, after, guard⟩ := by
   intro b
   unfold bc
   rw [e1, hp]
  simp only [ak, ep]
  cases hc : c.callee with
  | builtin b => exact e2 b
  | value f => simp only [hc] at h ⊢; rw [e1, h f (.inl (by simp))]
  | invoke r m => rfl
structure Ef where
 v : Value
 rw : Option (Nat × Option (List Value))
 hp : Option (List HObj)
noncomputable def Ef.on (e : Ef) (dst : Option Tmp) (σ : St) : St :=
 ({ tmps := σ.tmps, loc := (match e.rw with | some p => σ.loc.set p.1 p.2 | none => σ.loc), heap := e.hp.getD σ.heap } : St).put dst e.v
def Sees (N : FuncId → Option Nat) (pts : List Nat) (ops : Array Oper) (o : Oper) (σ τ : St) : Prop :=
 (∀ t ∈ ch ops o, τ.tmps[t]? = σ.tmps[t]?) ∧ match bf N pts o with
 | some (.row s _) => τ.loc[s]? = σ.loc[s]?
 | some .hr => τ.heap = σ.heap
 | some .hw => τ.heap = σ.heap
 | _ => True
def NeuB (N : FuncId → Option Nat) (B : Below) : Prop := ∀ f args H r H', N f = some args.length → B.call f args H r H' → H' = H ∧ ∀ H2, B.call f args H2 r H2
def Touch (m : Option MC) (e : Ef) : Prop :=
 (∀ p, e.rw = some p → m = some (.row p.1 true)) ∧ (e.hp ≠ none → m = some .hw)
theorem lT {σ τ : St} {x : Operand} (h : ∀ t, x = .tmp t → τ.tmps[t]? = σ.tmps[t]?) : oval τ.tmps x = oval σ.tmps x := by
 cases x with
 | tmp t => simp [oval, List.getD_eq_getElem?_getD, h t rfl]
 | _ => rfl
theorem rb {N : FuncId → Option Nat} {pts : List Nat} {ops : Array Oper} {o : Oper} {σ τ : St} (h : Sees N pts ops o σ τ) : ∀ x ∈ o.op.operands.toList, oval τ.tmps x = oval σ.tmps x := by
 intro x hx
 refine lT fun t ht => h.1 t ?_
 subst ht
 simp only [ch, List.mem_append, List.mem_filterMap]
 exact .inl ⟨.tmp t, hx, rfl⟩
theorem jd {N : FuncId → Option Nat} {pts : List Nat} {ops : Array Oper} {o : Oper} {σ τ : St} (h : Sees N pts ops o σ τ) : bM ops τ.tmps o = bM ops σ.tmps o := by
 unfold bM
 split
 ·rfl
 ·rename_i j want hg
  cases hd : (ops[j]?).bind (·.dst) with
  | none => rfl
  | some d =>
   simp only [Option.bind_some]
   rw [h.1 d (by simp [ch, hg, hd])]
noncomputable def Fits (N : FuncId → Option Nat) (m : Option MC) : Eff → Prop
 | .val _ => True
 | .lnew s _ => m = some (.row s true)
 | .lget s _ => m = some (.row s false)
 | .lset s _ => m = some (.row s true)
 | .hget _ => m = some .hr
 | .hop _ => m = some .hw
 | .call f args => (m = some (.neu f) ∧ N f = some args.length) ∨ m = some .hw
 | .yield _ _ => m = some .hw
theorem cX {N : FuncId → Option Nat} {m : Option MC} {x : Option Value} {e : Eff} (h : x.map Eff.val = some e) : Fits N m e := by
 obtain ⟨v, _, rfl⟩ := Option.map_eq_some_iff.1 h
 trivial
theorem cQ {C : Cfg} {ρ : Operand → Value} {o : Oper} {N : FuncId → Option Nat} {m : Option MC} {e : Eff} (h : bQ C ρ o = some e) : Fits N m e := by
 unfold bQ at h
 split at h
 ·split at h
  ·split at h
   ·cases h; trivial
   ·cases h
  ·cases h
 ·cases h
theorem fits_or {N : FuncId → Option Nat} {m : Option MC} {a : Option Value} {b : Option Eff} {e : Eff} (hb : b = some e → Fits N m e) (h : oV a b = some e) : Fits N m e := by
 unfold oV at h
 split at h
 ·cases h; trivial
 ·exact hb h
theorem jU {C : Cfg} {N : FuncId → Option Nat} {pts : List Nat} {o : Oper} {t : TypeId} {v : Value} {e : Eff} (ho : (∃ y, o.op = .box t y) ∨ o.op = .alloc t) (h : bW C pts o.dst t v = some e) : Fits N (bf N pts o) e := by
 unfold bW at h
 split at h
 ·cases h
 ·split at h
  ·cases h
  ·rename_i d hd
   split at h
   ·cases h
   ·split at h
    ·rename_i hp
     cases h
     rcases ho with ⟨y, ho⟩ | ho <;> (simp only [Fits, bf, ho, hd]; rw [if_pos hp])
    ·rename_i hp
     cases h
     rcases ho with ⟨y, ho⟩ | ho <;> (simp only [Fits, bf, ho, hd]; rw [if_neg hp])
theorem gr {C : Cfg} {N : FuncId → Option Nat} {pts : List Nat} {ρ : Operand → Value} {o : Oper} {e : Eff} (hρ : ∀ g, ρ (.func g) = .func (.func g) #[] #[]) (hm : bf N pts o ≠ none) (he : ak C pts ρ o = some e) : Fits N (bf N pts o) e := by
 unfold ak at he
 split at he
 ·cases he; trivial
 ·cases he; trivial
 ·split at he
  ·cases he; trivial
  ·cases he
 ·rename_i t ho
  obtain ⟨z, _, he⟩ := Option.bind_eq_some_iff.1 he
  exact jU (.inr ho) he
 ·rename_i t x ho
  exact jU (.inl ⟨x, ho⟩) he
 ·split at he
  ·exact cX he
  ·cases he
 ·rename_i t n ps ho
  split at he
  ·obtain ⟨r, _, rfl⟩ := Option.map_eq_some_iff.1 he
   simp only [Fits, bf, ho]
  ·cases he
 ·rename_i t a ho
  unfold cV at he
  split at he
  ·rename_i hk
   split at he
   ·cases he
    simp only [Fits, bf, ho, hk]
   ·obtain ⟨p, _, rfl⟩ := Option.map_eq_some_iff.1 he
    simp only [Fits, bf, ho, hk]
  ·obtain ⟨p, _, he⟩ := Option.bind_eq_some_iff.1 he
   exact cX he
  ·rename_i s hk
   obtain ⟨p, _, rfl⟩ := Option.map_eq_some_iff.1 he
   simp only [Fits, bf, ho, hk]
 ·rename_i t a x ho
  unfold dF at he
  split at he
  ·cases he
  ·split at he
   ·rename_i hk
    obtain ⟨p, _, rfl⟩ := Option.map_eq_some_iff.1 he
    simp only [Fits, bf, ho, hk]
   ·cases he
   ·rename_i s hk
    obtain ⟨p, _, rfl⟩ := Option.map_eq_some_iff.1 he
    simp only [Fits, bf, ho, hk]
 ·split at he <;> cases he <;> trivial
 ·split at he
  ·split at he
   ·split at he
    ·cases he; trivial
    ·cases he
   ·exact cQ he
  ·split at he
   ·split at he
    ·cases he; trivial
    ·cases he
   ·exact cQ he
  ·exact cQ he
 ·split at he
  ·cases he
  ·cases he; trivial
 ·rename_i t r ho
  split at he
  ·cases he; simp only [Fits, bf, ho]
  ·cases he
 ·rename_i t l c ho
  cases he; simp only [Fits, bf, ho]
 ·rename_i t x lo hi mx ho
  split at he
  ·split at he
   ·exact cX he
   ·cases he; simp only [Fits, bf, ho]
  ·exact fits_or cQ he
 ·exact cX he
 ·exact cX he
 ·exact cX he
 ·exact cX he
 ·rename_i t m k ok ho
  split at he
  ·exact cX he
  ·cases he; simp only [Fits, bf, ho]
 ·rename_i t m k v ho
  cases he; simp only [Fits, bf, ho]
 ·rename_i t m k v ho
  cases he; simp only [Fits, bf, ho]
 ·rename_i t m k ho
  cases he; simp only [Fits, bf, ho]
 ·rename_i t m s v ho
  cases he; simp only [Fits, bf, ho]
 ·split at he
  ·split at he
   ·cases he
   ·exact cX he
  ·cases he
 ·rename_i c ho
  unfold ep at he
  simp only at he
  cases hc : c.callee with
  | invoke r m => simp only [hc] at he; cases he
  | builtin b =>
   simp only [hc] at he
   unfold bc at he
   split at he
   ·split at he
    ·cases he
    ·cases he; simp only [Fits, bf, ho, hc]
   ·split at he
    ·cases he; trivial
    ·cases he; simp only [Fits, bf, ho, hc]
    ·cases he; trivial
    ·exact cQ he
   ·split at he
    ·cases he; trivial
    ·cases he; trivial
    ·cases he; trivial
    ·cases he
   ·cases he; simp only [Fits, bf, ho, hc]
   ·cases he; simp only [Fits, bf, ho, hc]
   ·exact cQ he
  | value f =>
   simp only [hc] at he
   split at he
   ·cases he
   ·split at he
    ·rename_i g first cap hf
     split at he
     ·cases he
      cases f with
      | func g' =>
       rw [hρ] at hf
       cases hf
       simp only [bf, ho, hc, Fits]
       by_cases hN : N g = some c.args.size
       ·rw [if_pos hN]; exact .inl ⟨rfl, by rw [hN]; simp⟩
       ·rw [if_neg hN]; exact .inr rfl
      | _ => simp only [Fits, bf, ho, hc, or_true]
     ·cases he
    ·rename_i l first cap hf
     split at he
     ·cases he
      cases f with
      | func g' => rw [hρ] at hf; cases hf
      | _ => simp only [Fits, bf, ho, hc]
     ·cases he
    ·cases he
 ·exact cQ he
 ·exact cQ he
 ·cases he
theorem jv {C : Cfg} {B : Below} {N : FuncId → Option Nat} (hN : NeuB N B) {pts : List Nat} {ops : Array Oper} {i : Nat} {o : Oper} (hi : ops[i]? = some o) (hm : bf N pts o ≠ none) {σ σ' : St} (hs : av C B pts ops i σ σ') :
  ∃ e : Ef, σ' = e.on o.dst σ ∧ Touch (bf N pts o) e ∧ ∀ τ, Sees N pts ops o σ τ → av C B pts ops i τ (e.on o.dst τ) := by
 unfold av at hs
 simp only [hi] at hs
 have val : ∀ v : Value, σ' = σ.put o.dst v → (∀ τ, Sees N pts ops o σ τ → av C B pts ops i τ (τ.put o.dst v)) →
   ∃ e : Ef, σ' = e.on o.dst σ ∧ Touch (bf N pts o) e ∧ ∀ τ, Sees N pts ops o σ τ → av C B pts ops i τ (e.on o.dst τ) := by
  intro v hv h
  exact ⟨⟨v, none, none⟩, hv, ⟨fun p hp => (by cases hp), fun h => absurd rfl h⟩, h⟩
 split at hs
 ·exact hs.elim
 ·rename_i hw
  refine val undef hs fun τ hτ => ?_
  unfold av
  simp only [hi, jd hτ, hw]
 ·rename_i hw
  have step : ∀ {τ τ' : St}, Sees N pts ops o σ τ → ((∃ e, ak C pts (oval τ.tmps) o = some e ∧ iQ B e o.dst τ τ') ∨ (∃ v, hQ C τ.tmps o v ∧ τ' = τ.put o.dst v)) → av C B pts ops i τ τ' := by
   intro τ τ' hτ h
   unfold av
   simp only [hi, jd hτ, hw]
   exact h
  rcases hs with ⟨e, he, hr⟩ | ⟨v, hv, rfl⟩
  ·have heτ : ∀ τ, Sees N pts ops o σ τ → ak C pts (oval τ.tmps) o = some e := fun τ hτ => by
    rw [jO N pts hm (rb hτ)]; exact he
   cases e with
   | val v =>
    obtain ⟨p, hp, rfl⟩ := hr
    cases hp
    exact val v rfl fun τ hτ => step hτ (.inl ⟨_, heτ τ hτ, _, rfl, rfl⟩)
   | lnew s vs =>
    obtain ⟨p, hp, rfl⟩ := hr
    simp only [aT] at hp
    split at hp
    ·rename_i hloc
     cases hp
     have hclass : bf N pts o = some (.row s true) := gr (fun _ => rfl) hm he
     refine ⟨⟨.pointer (some ⟨s, 0, some 0⟩), some (s, some vs), none⟩, rfl, ⟨fun p hp => by cases hp; exact hclass, fun h => absurd rfl h⟩, fun τ hτ => step hτ (.inl ⟨_, heτ τ hτ, ({ τ with loc := τ.loc.set s (some vs) }, .pointer (some ⟨s, 0, some 0⟩)), ?_, rfl⟩)⟩
     have := hτ.2
     rw [hclass] at this
     simp only [aT, this, hloc]
    ·cases hp
   | lget s f =>
    obtain ⟨p, hp, rfl⟩ := hr
    simp only [aT] at hp
    split at hp
    ·rename_i vs hloc
     obtain ⟨v, hv, rfl⟩ := Option.map_eq_some_iff.1 hp
     have hclass : bf N pts o = some (.row s false) := gr (fun _ => rfl) hm he
     refine val v rfl fun τ hτ => step hτ (.inl ⟨_, heτ τ hτ, (τ, v), ?_, rfl⟩)
     have := hτ.2
     rw [hclass] at this
     simp only [aT, this, hloc, hv, Option.map_some]
    ·cases hp
   | lset s f =>
    obtain ⟨p, hp, rfl⟩ := hr
    simp only [aT] at hp
    split at hp
    ·rename_i vs hloc
     obtain ⟨vs', hv, rfl⟩ := Option.map_eq_some_iff.1 hp
     have hclass : bf N pts o = some (.row s true) := gr (fun _ => rfl) hm he
     refine ⟨⟨undef, some (s, some vs'), none⟩, rfl, ⟨fun p hp => by cases hp; exact hclass, fun h => absurd rfl h⟩, fun τ hτ => step hτ (.inl ⟨_, heτ τ hτ, ({ τ with loc := τ.loc.set s (some vs') }, undef), ?_, rfl⟩)⟩
     have := hτ.2
     rw [hclass] at this
     simp only [aT, this, hloc, hv, Option.map_some]
    ·cases hp
   | hget f =>
    obtain ⟨p, hp, rfl⟩ := hr
    simp only [aT] at hp
    obtain ⟨v, hv, rfl⟩ := Option.map_eq_some_iff.1 hp
    have hclass : bf N pts o = some .hr := gr (fun _ => rfl) hm he
    refine val v rfl fun τ hτ => step hτ (.inl ⟨_, heτ τ hτ, (τ, v), ?_, rfl⟩)
    have := hτ.2
    rw [hclass] at this
    simp only [aT, this, hv, Option.map_some]
   | hop f =>
    obtain ⟨p, hp, rfl⟩ := hr
    simp only [aT] at hp
    obtain ⟨q, hv, rfl⟩ := Option.map_eq_some_iff.1 hp
    have hclass : bf N pts o = some .hw := gr (fun _ => rfl) hm he
    refine ⟨⟨q.2, none, some q.1⟩, rfl, ⟨fun p hp => (by cases hp), fun _ => hclass⟩, fun τ hτ => step hτ (.inl ⟨_, heτ τ hτ, ({ τ with heap := q.1 }, q.2), ?_, rfl⟩)⟩
    have := hτ.2
    rw [hclass] at this
    simp only [aT, this, hv, Option.map_some]
   | call f args =>
    obtain ⟨r, H, hc, rfl⟩ := hr
    have hclass : (bf N pts o = some (.neu f) ∧ N f = some args.length) ∨ bf N pts o = some .hw := gr (fun _ => rfl) hm he
    rcases hclass with ⟨hclass, hf⟩ | hclass
    ·obtain ⟨rfl, h2⟩ := hN f args _ r H hf hc
     exact val r rfl fun τ hτ => step hτ (.inl ⟨_, heτ τ hτ, r, τ.heap, h2 τ.heap, rfl⟩)
    ·refine ⟨⟨r, none, some H⟩, rfl, ⟨fun p hp => (by cases hp), fun _ => hclass⟩, fun τ hτ => step hτ (.inl ⟨_, heτ τ hτ, r, H, ?_, rfl⟩)⟩
     have := hτ.2
     rw [hclass] at this
     rw [this]; exact hc
   | yield l args =>
    obtain ⟨r, H, hc, rfl⟩ := hr
    have hclass : bf N pts o = some .hw := gr (fun _ => rfl) hm he
    refine ⟨⟨r, none, some H⟩, rfl, ⟨fun p hp => (by cases hp), fun _ => hclass⟩, fun τ hτ => step hτ (.inl ⟨_, heτ τ hτ, r, H, ?_, rfl⟩)⟩
    have := hτ.2
    rw [hclass] at this
    rw [this]; exact hc
  ·refine val v rfl fun τ hτ => step hτ (.inr ⟨v, ?_, rfl⟩)
   obtain ⟨h1, h2, h3, h4⟩ := hv
   have hops := rb hτ
   refine ⟨h1, ?_, h3, fun w => ?_⟩
   ·rw [List.all_eq_true] at h2 ⊢
    intro x hx
    rw [hops x hx]; exact h2 x hx
   ·rw [execOp_congr N pts hm (ρ' := fun x => den (oval σ.tmps x)) fun x hx => by rw [hops x hx]]
    exact h4 w
noncomputable def MC.ok2 : MC → MC → Bool
 | .no, _ => true
 | _, .no => true
 | .row s w, .row s' w' => !Nat.beq s s' || (!w && !w')
 | .row _ _, _ => true
 | _, .row _ _ => true
 | .neu _, _ => true
 | _, .neu _ => true
 | .hr, .hr => true
 | _, _ => false
noncomputable def eM (d : Option Tmp) (l : List Nat) : Bool := match d with
 | some d => !l.contains d
 | none => true
noncomputable def dK (a b : Option Tmp) : Bool := match a, b with
 | some a, some b => !Nat.beq a b
 | _, _ => true
noncomputable def nB : Operand → Operand → Bool
 | .tmp a, .tmp b => Nat.beq a b
 | _, _ => false
noncomputable def jP (a b : Oper) : Bool :=
 match a.op with
 | .lookup t m k false => (match b.op with
  | .mapEntry t' m' k' => Nat.beq t t' && nB m m' && nB k k'
  | _ => false)
 | _ => false
noncomputable def rC (N : FuncId → Option Nat) (pts : List Nat) (ops : Array Oper) (a b : Oper) : Bool :=
 match bf N pts a, bf N pts b with
 | some m, some n => (m.ok2 n || jP a b) && eM a.dst (ch ops b) && eM b.dst (ch ops a) && dK a.dst b.dst
 | _, _ => false
theorem pY {σ : St} {d : Option Tmp} {v : Value} {t : Nat} (h : ∀ x, d = some x → x ≠ t) : (σ.put d v).tmps[t]? = σ.tmps[t]? := by
 cases d with
 | none => rfl
 | some x => simp only [St.put]; rw [List.getElem?_set_ne (h x rfl)]
theorem put_loc {σ : St} {d : Option Tmp} {v : Value} : (σ.put d v).loc = σ.loc := by cases d <;> rfl
theorem gZ {σ : St} {d : Option Tmp} {v : Value} : (σ.put d v).heap = σ.heap := by cases d <;> rfl
theorem put_tmps {σ : St} {d : Option Tmp} {v : Value} : (σ.put d v).tmps = (match d with | some d => σ.tmps.set d v | none => σ.tmps) := by cases d <;> rfl
theorem on_tmps {e : Ef} {d : Option Tmp} {σ : St} : (e.on d σ).tmps = (match d with | some d => σ.tmps.set d e.v | none => σ.tmps) := by unfold Ef.on; rw [put_tmps]
theorem on_loc {e : Ef} {d : Option Tmp} {σ : St} : (e.on d σ).loc = (match e.rw with | some p => σ.loc.set p.1 p.2 | none => σ.loc) := by unfold Ef.on; rw [put_loc]
theorem nm {e : Ef} {d : Option Tmp} {σ : St} : (e.on d σ).heap = e.hp.getD σ.heap := by unfold Ef.on; rw [gZ]
theorem unseen {N : FuncId → Option Nat} {pts : List Nat} {ops : Array Oper} {a b : Oper} {m n : MC} (ha : bf N pts a = some m) (hb : bf N pts b = some n) (hok : m.ok2 n = true ∨ n.ok2 m = true)
  (hd : eM a.dst (ch ops b) = true) {e : Ef} (ht : Touch (bf N pts a) e) (σ : St) : Sees N pts ops b σ (e.on a.dst σ) := by
 refine ⟨fun t hr => ?_, ?_⟩
 ·unfold Ef.on
  refine pY fun x hx he => ?_
  subst he
  rw [hx] at hd
  simp only [eM, Bool.not_eq_true', List.contains_eq_mem, decide_eq_false_iff_not] at hd
  exact hd hr
 ·rw [ha] at ht
  rw [hb]
  cases n with
  | no => trivial
  | neu f => trivial
  | row s w =>
   show (e.on a.dst σ).loc[s]? = _
   rw [on_loc]
   cases hrw : e.rw with
   | none => rfl
   | some p =>
    have hm := ht.1 p hrw
    cases hm
    have : p.1 ≠ s := by
     intro he
     subst he
     rcases hok with h | h <;> simp [MC.ok2] at h
    show (σ.loc.set p.1 p.2)[s]? = _
    rw [List.getElem?_set_ne this]
  | hr =>
   show (e.on a.dst σ).heap = _
   rw [nm]
   cases hh : e.hp with
   | none => rfl
   | some H =>
    have hm := ht.2 (by rw [hh]; simp)
    cases hm
    rcases hok with h | h <;> cases h
  | hw =>
   show (e.on a.dst σ).heap = _
   rw [nm]
   cases hh : e.hp with
   | none => rfl
   | some H =>
    have hm := ht.2 (by rw [hh]; simp)
    cases hm
    rcases hok with h | h <;> cases h
theorem set_comm {α : Type} (l : List α) {i j : Nat} (a b : α) (h : i ≠ j) : (l.set i a).set j b = (l.set j b).set i a := List.set_comm _ _ h
theorem on_comm {N : FuncId → Option Nat} {pts : List Nat} {a b : Oper} {m n : MC} (ha : bf N pts a = some m) (hb : bf N pts b = some n) (hok : m.ok2 n = true) (hd : dK a.dst b.dst = true) {e f : Ef}
  (ht : Touch (bf N pts a) e) (hu : Touch (bf N pts b) f) (σ : St) : f.on b.dst (e.on a.dst σ) = e.on a.dst (f.on b.dst σ) := by
 have h1 : (f.on b.dst (e.on a.dst σ)).tmps = (e.on a.dst (f.on b.dst σ)).tmps := by
  simp only [on_tmps]
  cases hx : a.dst with
  | none => rfl
  | some x =>
   cases hy : b.dst with
   | none => rfl
   | some y =>
    rw [hx, hy] at hd
    have : x ≠ y := by
     intro he; subst he; simp [dK] at hd
    exact set_comm _ _ _ this
 have h2 : (f.on b.dst (e.on a.dst σ)).loc = (e.on a.dst (f.on b.dst σ)).loc := by
  simp only [on_loc]
  cases hx : e.rw with
  | none => rfl
  | some p =>
   cases hy : f.rw with
   | none => rfl
   | some q =>
    have e1 := ht.1 p hx
    have e2 := hu.1 q hy
    rw [ha] at e1
    rw [hb] at e2
    cases e1; cases e2
    have : p.1 ≠ q.1 := by
     intro he
     rw [he] at hok
     simp [MC.ok2] at hok
    exact set_comm _ _ _ this
 have h3 : (f.on b.dst (e.on a.dst σ)).heap = (e.on a.dst (f.on b.dst σ)).heap := by
  simp only [nm]
  cases hx : e.hp with
  | none => rfl
  | some p =>
   cases hy : f.hp with
   | none => rfl
   | some q =>
    have e1 := ht.2 (by rw [hx]; simp)
    have e2 := hu.2 (by rw [hy]; simp)
    rw [ha] at e1
    rw [hb] at e2
    cases e1; cases e2
    cases hok
 generalize f.on b.dst (e.on a.dst σ) = x at *
 generalize e.on a.dst (f.on b.dst σ) = y at *
 cases x; cases y
 simp only at h1 h2 h3
 subst h1; subst h2; subst h3
 rfl
theorem ma {a b : Operand} (h : nB a b = true) : a = b ∧ ∃ t, a = .tmp t := by
 cases a <;> cases b <;> simp only [nB, Bool.false_eq_true] at h
 exact ⟨by rw [Nat.eq_of_beq_eq_true h], _, rfl⟩
theorem kQ {ops : Array Oper} {o : Oper} {σ τ : St} (h : ∀ t ∈ ch ops o, τ.tmps[t]? = σ.tmps[t]?) : bM ops τ.tmps o = bM ops σ.tmps o := by
 unfold bM
 split
 ·rfl
 ·rename_i j want hg
  cases hd : (ops[j]?).bind (·.dst) with
  | none => rfl
  | some d =>
   simp only [Option.bind_some]
   rw [h d (by simp [ch, hg, hd])]
theorem qP {ops : Array Oper} {o : Oper} {σ τ : St} (h : ∀ t ∈ ch ops o, τ.tmps[t]? = σ.tmps[t]?) : ∀ x ∈ o.op.operands.toList, oval τ.tmps x = oval σ.tmps x := by
 intro x hx
 refine lT fun t ht => h t ?_
 subst ht
 simp only [ch, List.mem_append, List.mem_filterMap]
 exact .inl ⟨.tmp t, hx, rfl⟩
theorem oP {C : Cfg} {B : Below} {N : FuncId → Option Nat} {pts : List Nat} {ops : Array Oper} {i : Nat} {o : Oper} {t : TypeId} {m k : Operand} (hi : ops[i]? = some o) (ho : o.op = .lookup t m k false) {σ σ' : St} (hs : av C B pts ops i σ σ') :
  ∃ v, σ' = σ.put o.dst v ∧ ∀ τ : St, (∀ t ∈ ch ops o, τ.tmps[t]? = σ.tmps[t]?) →
   (∀ u, cf C t (oval σ.tmps m) (oval σ.tmps k) false σ.heap = some u → cf C t (oval σ.tmps m) (oval σ.tmps k) false τ.heap = some u) → av C B pts ops i τ (τ.put o.dst v) := by
 have hmem : bf N pts o ≠ none := by unfold bf; rw [ho]; simp
 unfold av at hs
 simp only [hi] at hs
 split at hs
 ·exact hs.elim
 ·rename_i hw
  refine ⟨undef, hs, fun τ hτ _ => ?_⟩
  unfold av
  simp only [hi, kQ hτ, hw]
 ·rename_i hw
  have step : ∀ {τ τ' : St}, (∀ t ∈ ch ops o, τ.tmps[t]? = σ.tmps[t]?) → ((∃ e, ak C pts (oval τ.tmps) o = some e ∧ iQ B e o.dst τ τ') ∨ (∃ v, hQ C τ.tmps o v ∧ τ' = τ.put o.dst v)) → av C B pts ops i τ τ' := by
   intro τ τ' hτ h
   unfold av
   simp only [hi, kQ hτ, hw]
   exact h
  rcases hs with ⟨e, he, hr⟩ | ⟨v, hv, rfl⟩
  ·have heτ : ∀ τ : St, (∀ t ∈ ch ops o, τ.tmps[t]? = σ.tmps[t]?) → ak C pts (oval τ.tmps) o = some e := fun τ hτ => by
    rw [jO N pts hmem (qP hτ)]; exact he
   have he' := he
   unfold ak at he'
   rw [ho] at he'
   simp only at he'
   split at he'
   ·obtain ⟨v, hv, rfl⟩ := Option.map_eq_some_iff.1 he'
    obtain ⟨p, hp, rfl⟩ := hr
    cases hp
    exact ⟨v, rfl, fun τ hτ _ => step hτ (.inl ⟨_, heτ τ hτ, _, rfl, rfl⟩)⟩
   ·cases he'
    obtain ⟨p, hp, rfl⟩ := hr
    simp only [aT] at hp
    obtain ⟨v, hv, rfl⟩ := Option.map_eq_some_iff.1 hp
    refine ⟨v, rfl, fun τ hτ hl => step hτ (.inl ⟨_, heτ τ hτ, (τ, v), ?_, rfl⟩)⟩
    simp only [aT, hl v hv, Option.map_some]
  ·refine ⟨v, rfl, fun τ hτ _ => step hτ (.inr ⟨v, ?_, rfl⟩)⟩
   obtain ⟨h1, h2, h3, h4⟩ := hv
   have hops := qP hτ
   refine ⟨h1, ?_, h3, fun w => ?_⟩
   ·rw [List.all_eq_true] at h2 ⊢
    intro x hx
    rw [hops x hx]; exact h2 x hx
   ·rw [execOp_congr N pts hmem (ρ' := fun x => den (oval σ.tmps x)) fun x hx => by rw [hops x hx]]
    exact h4 w
theorem rF {C : Cfg} {B : Below} {pts : List Nat} {ops : Array Oper} {i : Nat} {o : Oper} {t : TypeId} {m k : Operand} (hi : ops[i]? = some o) (ho : o.op = .mapEntry t m k) {σ σ' : St} (hs : av C B pts ops i σ σ') :
  σ'.heap = σ.heap ∨ ∃ r, cE C t (oval σ.tmps m) (oval σ.tmps k) σ.heap = some (σ'.heap, r) := by
 unfold av at hs
 simp only [hi] at hs
 split at hs
 ·exact hs.elim
 ·subst hs; exact .inl gZ
 ·rcases hs with ⟨e, he, hr⟩ | ⟨v, hv, rfl⟩
  ·unfold ak at he
   rw [ho] at he
   simp only [Option.some.injEq] at he
   subst he
   obtain ⟨p, hp, rfl⟩ := hr
   simp only [aT] at hp
   obtain ⟨q, hq, rfl⟩ := Option.map_eq_some_iff.1 hp
   refine .inr ⟨q.2, ?_⟩
   rw [gZ]
   exact hq
  ·exact .inl gZ
theorem sd {C : Cfg} {B : Below} {N : FuncId → Option Nat} (hN : NeuB N B) {pts : List Nat} {ops : Array Oper} {i j : Nat} {a b : Oper} (hi : ops[i]? = some a) (hj : ops[j]? = some b) (hc : jP a b = true)
  (c2 : eM a.dst (ch ops b) = true) (c3 : eM b.dst (ch ops a) = true) (c4 : dK a.dst b.dst = true) {σ σ₁ σ' : St}
  (h1 : av C B pts ops i σ σ₁) (h2 : av C B pts ops j σ₁ σ') : ∃ τ, av C B pts ops j σ τ ∧ av C B pts ops i τ σ' := by
 unfold jP at hc
 split at hc
 ·rename_i t m k ha
  split at hc
  ·rename_i t' m' k' hb
   simp only [Bool.and_eq_true] at hc
   obtain ⟨⟨e1, e2⟩, e3⟩ := hc
   have e1 := Nat.eq_of_beq_eq_true e1
   obtain ⟨e2, tm, rfl⟩ := ma e2
   obtain ⟨e3, tk, rfl⟩ := ma e3
   subst e1 e2 e3
   obtain ⟨v, rfl, la⟩ := oP (N := N) hi ha h1
   have hmb : bf N pts b = some .hw := by unfold bf; rw [hb]
   obtain ⟨f, rfl, tf, lf⟩ := jv hN hj (by rw [hmb]; simp) h2
   have hfree : ∀ {d : Option Tmp} {l : List Nat}, eM d l = true → ∀ t ∈ l, ∀ x, d = some x → x ≠ t := by
    intro d l hd t ht x hx he
    subst hx he
    simp only [eM, Bool.not_eq_true', List.contains_eq_mem, decide_eq_false_iff_not] at hd
    exact hd ht
   have s1 : Sees N pts ops b (σ.put a.dst v) σ := by
    refine ⟨fun t ht => (pY (hfree c2 t ht)).symm, ?_⟩
    rw [hmb]
    exact gZ.symm
   have hstep := lf σ s1
   refine ⟨f.on b.dst σ, hstep, ?_⟩
   have hrd : ∀ t ∈ ch ops a, (f.on b.dst σ).tmps[t]? = σ.tmps[t]? := by
    intro t ht
    unfold Ef.on
    rw [pY (hfree c3 t ht)]
   have hrow : f.rw = none := by
    cases hr : f.rw with
    | none => rfl
    | some p =>
     have := tf.1 p hr
     rw [hmb] at this
     cases this
   have hfin := la (f.on b.dst σ) hrd (fun u hu => by
    rcases rF hj hb hstep with h | ⟨r, h⟩
    ·rw [h]; exact hu
    ·exact oO h hu)
   have hcomm : f.on b.dst (σ.put a.dst v) = (f.on b.dst σ).put a.dst v := by
    unfold Ef.on
    rw [hrow]
    simp only
    cases hx : a.dst with
    | none => rfl
    | some x =>
     cases hy : b.dst with
     | none => rfl
     | some y =>
      rw [hx, hy] at c4
      have : x ≠ y := by
       intro he; subst he; simp [dK] at c4
      simp only [St.put]
      rw [set_comm _ _ _ this]
   rw [hcomm]
   exact hfin
  ·cases hc
 ·cases hc
theorem swap_ok {C : Cfg} {B : Below} {N : FuncId → Option Nat} (hN : NeuB N B) {pts : List Nat} {ops : Array Oper} {i j : Nat} {a b : Oper} (hi : ops[i]? = some a) (hj : ops[j]? = some b) (hc : rC N pts ops a b = true) {σ σ₁ σ' : St}
  (h1 : av C B pts ops i σ σ₁) (h2 : av C B pts ops j σ₁ σ') : ∃ τ, av C B pts ops j σ τ ∧ av C B pts ops i τ σ' := by
 unfold rC at hc
 split at hc
 ·rename_i m n hm hn
  simp only [Bool.and_eq_true] at hc
  obtain ⟨⟨⟨c1, c2⟩, c3⟩, c4⟩ := hc
  rw [Bool.or_eq_true] at c1
  rcases c1 with c1 | c1
  case inr => exact sd hN hi hj c1 c2 c3 c4 h1 h2
  obtain ⟨e, rfl, te, le⟩ := jv hN hi (by rw [hm]; simp) h1
  obtain ⟨f, rfl, tf, lf⟩ := jv hN hj (by rw [hn]; simp) h2
  have s1 : Sees N pts ops b (e.on a.dst σ) σ := by
   have := unseen hm hn (.inl c1) c2 te σ
   refine ⟨fun t ht => (this.1 t ht).symm, ?_⟩
   have h := this.2
   rw [hn] at h ⊢
   cases n <;> first | trivial | exact h.symm
  have s2 : Sees N pts ops a σ (f.on b.dst σ) := unseen hn hm (.inr c1) c3 tf σ
  refine ⟨f.on b.dst σ, lf σ s1, ?_⟩
  rw [on_comm hm hn c1 c4 te tf σ]
  exact le _ s2
 ·cases hc
end
end Sx
end Go.Am

/-
 REGIONS THAT DRAW THEIR ORDER, second part: whatever the order.
-/
namespace Go.Am
namespace Sx
section
variable [Val] {C : Cfg} {B : Below} {N : FuncId → Option Nat} {pts : List Nat} {ops : Array Oper}
theorem lM {i : Nat} {post : List Nat} : ∀ (pre : List Nat), (∀ k ∈ pre, ∀ σ σ₁ σ' : St, av C B pts ops k σ σ₁ → av C B pts ops i σ₁ σ' → ∃ τ, av C B pts ops i σ τ ∧ av C B pts ops k τ σ') →
  ∀ σ σ' : St, bO C B pts ops (pre ++ i :: post) σ σ' → bO C B pts ops (i :: (pre ++ post)) σ σ'
 | [], _, σ, σ', h => h
 | k :: pre, hc, σ, σ', ⟨σ₁, h1, h2⟩ => by
  obtain ⟨σ₂, h3, h4⟩ := lM pre (fun k hk => hc k (by simp [hk])) σ₁ σ' h2
  obtain ⟨τ, h5, h6⟩ := hc k (by simp) σ σ₁ σ₂ h1 h3
  exact ⟨τ, h5, σ₂, h6, h4⟩
noncomputable def ancOf (acc : List Nat) (o : Oper) : Nat :=
 o.after.toList.foldl (fun m e => match Region.binds .any e with
  | true => Nat.lor (Nat.lor m (Nat.shiftLeft 1 e.on)) (acc.getD e.on 0)
  | false => m) 0
noncomputable def ancs : List Oper → List Nat → List Nat
 | [], acc => acc
 | o :: l, acc => ancs l (acc ++ [ancOf acc o])
inductive Anc (ops : Array Oper) (k : Nat) : Nat → Prop
 |edge {i : Nat} {o : Oper} {e : Edge} (ho : ops[i]? = some o) (he : e ∈ o.after.toList) (hb : Region.binds .any e = true) (hk : e.on = k) : Anc ops k i
 |step {i : Nat} {o : Oper} {e : Edge} (ho : ops[i]? = some o) (he : e ∈ o.after.toList) (hb : Region.binds .any e = true) (h : Anc ops k e.on) : Anc ops k i
theorem ancOf_ok {acc : List Nat} (hacc : ∀ (i k : Nat), (acc.getD i 0).testBit k = true → Anc ops k i) {i : Nat} {o : Oper} (ho : ops[i]? = some o) {k : Nat} (h : (ancOf acc o).testBit k = true) : Anc ops k i := by
 unfold ancOf at h
 have main : ∀ (l : List Edge) (m : Nat), (∀ e ∈ l, e ∈ o.after.toList) → (m.testBit k = true → Anc ops k i) →
   (l.foldl (fun m e => match Region.binds .any e with
    | true => Nat.lor (Nat.lor m (Nat.shiftLeft 1 e.on)) (acc.getD e.on 0)
    | false => m) m).testBit k = true → Anc ops k i := by
  intro l
  induction l with
  | nil => intro m _ hm h; exact hm h
  | cons e l ih =>
   intro m hl hm h
   simp only [List.foldl_cons] at h
   refine ih _ (fun e he => hl e (by simp [he])) (fun hb => ?_) h
   cases hbi : Region.binds .any e with
   | false => simp only [hbi] at hb; exact hm hb
   | true =>
    simp only [hbi] at hb
    have hb' : ((m ||| (1 <<< e.on)) ||| acc.getD e.on 0).testBit k = true := hb
    rw [Nat.testBit_or, Nat.testBit_or, Bool.or_eq_true, Bool.or_eq_true] at hb'
    rcases hb' with (hb' | hb') | hb'
    ·exact hm hb'
    ·rw [Nat.one_shiftLeft, Nat.testBit_two_pow] at hb'
     exact .edge ho (hl e (by simp)) hbi (by simpa using hb')
    ·exact .step ho (hl e (by simp)) hbi (hacc _ _ hb')
 exact main _ 0 (fun _ h => h) (fun h => by simp at h) h
theorem ancs_ok : ∀ (l : List Oper) (acc : List Nat), ops.toList.drop acc.length = l → (∀ (i k : Nat), (acc.getD i 0).testBit k = true → Anc ops k i) → ∀ (i k : Nat), ((ancs l acc).getD i 0).testBit k = true → Anc ops k i
 | [], acc, _, hacc => hacc
 | o :: l, acc, hl, hacc => by
  have ho : ops[acc.length]? = some o := by
   have : (ops.toList.drop acc.length)[0]? = some o := by rw [hl]; rfl
   simpa using this
  refine ancs_ok l (acc ++ [ancOf acc o]) (by rw [List.length_append, ← List.drop_drop, hl]; rfl) fun i k h => ?_
  rw [List.getD_eq_getElem?_getD, List.getElem?_append] at h
  split at h
  ·exact hacc i k (by rw [List.getD_eq_getElem?_getD]; exact h)
  ·rename_i hge
   by_cases hi : i = acc.length
   ·subst hi
    simp at h
    exact ancOf_ok hacc ho h
   ·rw [List.getElem?_eq_none (by simp; omega)] at h
    simp at h
noncomputable def gL : List Oper → Nat → Bool
 | [], _ => true
 | o :: l, i => (o.after.toList.all fun e => !Region.binds .any e || Nat.blt e.on i) && gL l (i + 1)
noncomputable def mq (N : FuncId → Option Nat) (pts : List Nat) (ops : Array Oper) (b : Oper) (m : Nat) : List Oper → Nat → Bool
 | [], _ => true
 | a :: l, k => (Nat.testBit m k || rC N pts ops a b) && mq N pts ops b m l (k + 1)
noncomputable def nn (N : FuncId → Option Nat) (pts : List Nat) (ops : Array Oper) (ms : List Nat) : List Oper → List Oper → Nat → Bool
 | _, [], _ => true
 | pre, b :: l, i => mq N pts ops b (ms.getD i 0) pre 0 && nn N pts ops ms (pre ++ [b]) l (i + 1)
noncomputable def pg (N : FuncId → Option Nat) (pts : List Nat) (ops : Array Oper) : Bool :=
 gL ops.toList 0 && nn N pts ops (ancs ops.toList []) [] ops.toList 0
theorem iP : ∀ {l : List Oper} {i : Nat}, gL l i = true → ∀ (j : Nat) o, l[j]? = some o → ∀ e ∈ o.after.toList, Region.binds .any e = true → e.on < i + j
 | [], i, _, j, o, h, _, _, _ => by simp at h
 | o :: l, i, h, j, p, hj, e, he, hb => by
  simp only [gL, Bool.and_eq_true, List.all_eq_true] at h
  cases j with
  | zero =>
   simp at hj
   subst hj
   have := h.1 e he
   rw [hb] at this
   simpa [Nat.blt_eq] using this
  | succ j =>
   have := iP h.2 j p (by simpa using hj) e he hb
   omega
theorem lu {b : Oper} {m : Nat} : ∀ {l : List Oper} {k : Nat}, mq N pts ops b m l k = true → ∀ (j : Nat) a, l[j]? = some a → m.testBit (k + j) = true ∨ rC N pts ops a b = true
 | [], k, _, j, a, h => by simp at h
 | a :: l, k, h, j, c, hj => by
  simp only [mq, Bool.and_eq_true, Bool.or_eq_true] at h
  cases j with
  | zero => simp at hj; subst hj; exact h.1
  | succ j =>
   have := lu h.2 j c (by simpa using hj)
   rwa [show k + 1 + j = k + (j + 1) by omega] at this
theorem lU {ms : List Nat} : ∀ {l pre : List Oper} {i : Nat}, pre.length = i → nn N pts ops ms pre l i = true → ∀ (j : Nat) b, l[j]? = some b → ∀ (k : Nat) a, k < i + j → (pre ++ l)[k]? = some a → (ms.getD (i + j) 0).testBit k = true ∨ rC N pts ops a b = true
 | [], pre, i, _, _, j, b, h, _, _, _, _ => by simp at h
 | b :: l, pre, i, hp, h, j, c, hj, k, a, hk, ha => by
  simp only [nn, Bool.and_eq_true] at h
  cases j with
  | zero =>
   simp at hj
   subst hj
   rw [List.getElem?_append_left (by omega)] at ha
   have := lu h.1 k a ha
   simpa using this
  | succ j =>
   have := lU (pre := pre ++ [b]) (i := i + 1) (by simp [hp]) h.2 j c (by simpa using hj) k a (by omega) (by simpa using ha)
   rwa [show i + 1 + j = i + (j + 1) by omega] at this
theorem rU (h : pg N pts ops = true) {i k : Nat} {a b : Oper} (hb : ops[i]? = some b) (ha : ops[k]? = some a) (hk : k < i) : Anc ops k i ∨ rC N pts ops a b = true := by
 simp only [pg, Bool.and_eq_true] at h
 have := lU (pre := []) (i := 0) rfl h.2 i b (by simpa using hb) k a (by omega) (by simpa using ha)
 rw [Nat.zero_add] at this
 exact this.imp (fun h => ancs_ok ops.toList [] rfl (fun i k h => by simp at h) i k h) id
theorem rT (h : pg N pts ops = true) {i : Nat} {o : Oper} (ho : ops[i]? = some o) {e : Edge} (he : e ∈ o.after.toList) (hb : Region.binds .any e = true) : e.on < i := by
 simp only [pg, Bool.and_eq_true] at h
 have := iP h.1 i o (by simpa using ho) e he hb
 omega
noncomputable def unl (n : Nat) (listed : Array Bool) : List Nat := (List.range n).filter fun i => !listed.getD i true
theorem rq {listed : Array Bool} (hcl : ∀ (x : Nat) o, listed.getD x true = true → ops[x]? = some o → ∀ e ∈ o.after.toList, Region.binds .any e = true → listed.getD e.on false = true) {k i : Nat} (h : Anc ops k i)
  (hr : ∀ o, ops[i]? = some o → ∀ e ∈ o.after.toList, Region.binds .any e = true → listed.getD e.on false = true) : listed.getD k false = true := by
 induction h with
 | edge ho he hb hk => rw [← hk]; exact hr _ ho _ he hb
 | step ho he hb h ih =>
  have h1 := hr _ ho _ he hb
  refine ih fun o ho2 e he2 hb2 => hcl _ o ?_ ho2 e he2 hb2
  rename_i e0
  rw [Array.getD_eq_getD_getElem?] at h1 ⊢
  cases hx : listed[e0.on]? with
  | none => rfl
  | some b => rw [hx] at h1; exact h1
theorem iT {p : Nat → Bool} {i : Nat} : ∀ {l : List Nat}, l.Nodup → i ∈ l.filter p → ∃ pre post, l.filter p = pre ++ i :: post ∧ (l.filter fun j => p j && j != i) = pre ++ post ∧ (∀ k ∈ pre, k ∈ l.filter p ∧ k ≠ i)
 | [], _, h => by simp at h
 | x :: l, hn, h => by
  rw [List.nodup_cons] at hn
  by_cases hx : x = i
  ·subst hx
   have hp : p x = true := (List.mem_filter.1 h).2
   refine ⟨[], l.filter p, by simp [hp], ?_, by simp⟩
   simp only [List.nil_append, List.filter_cons, hp, bne_self_eq_false, Bool.and_false, Bool.false_eq_true, if_false]
   refine List.filter_congr fun j hj => ?_
   have : j ≠ x := fun e => hn.1 (e ▸ hj)
   simp [this]
  ·have h' : i ∈ l.filter p := by
    rw [List.mem_filter] at h ⊢
    exact ⟨(List.mem_cons.1 h.1).resolve_left fun e => hx e.symm, h.2⟩
   obtain ⟨pre, post, e1, e2, e3⟩ := iT hn.2 h'
   by_cases hp : p x = true
   ·refine ⟨x :: pre, post, by simp [List.filter_cons, hp, e1], ?_, fun k hk => ?_⟩
    ·simp only [List.filter_cons, hp, Bool.true_and, List.cons_append]
     rw [if_pos (by simpa using hx), e2]
    ·rcases List.mem_cons.1 hk with rfl | hk
     ·exact ⟨by simp [List.mem_filter, hp], hx⟩
     ·obtain ⟨q1, q2⟩ := e3 k hk
      rw [List.mem_filter] at q1 ⊢
      exact ⟨⟨by simp [q1.1], q1.2⟩, q2⟩
   ·refine ⟨pre, post, by simp [List.filter_cons, hp, e1], ?_, fun k hk => ?_⟩
    ·simp only [List.filter_cons, hp, Bool.false_and, Bool.false_eq_true, if_false]
     exact e2
    ·obtain ⟨q1, q2⟩ := e3 k hk
     rw [List.mem_filter] at q1 ⊢
     exact ⟨⟨by simp [q1.1], q1.2⟩, q2⟩
theorem oz {p : Nat → Bool} : ∀ {n : Nat} {pre post : List Nat} {i : Nat}, (List.range n).filter p = pre ++ i :: post → ∀ k ∈ pre, k < i := by
 intro n pre post i h k hk
 have hs : ((List.range n).filter p).Pairwise (· < ·) := List.Pairwise.filter _ List.pairwise_lt_range
 rw [h, List.pairwise_append] at hs
 exact hs.2.2 k hk i (by simp)
theorem go_ok (hN : NeuB N B) (hreg : pg N pts ops = true) : ∀ (fuel t : Nat) (listed : Array Bool), listed.size = ops.size → (unl ops.size listed).length = fuel →
  (∀ (x : Nat) o, listed.getD x true = true → ops[x]? = some o → ∀ e ∈ o.after.toList, Region.binds .any e = true → listed.getD e.on false = true) →
  ∀ σ σ' : St, bO C B pts ops (unl ops.size listed) σ σ' → bO C B pts ops (Region.linearise.go .any ops fuel t listed []) σ σ'
 | 0, t, listed, _, hl, _, σ, σ', h => by
  have : unl ops.size listed = [] := List.length_eq_zero_iff.1 hl
  rw [this] at h
  simpa [Region.linearise.go] using h
 | fuel + 1, t, listed, hsz, hl, hcl, σ, σ', h => by
  simp only [Region.linearise.go]
  generalize hrs : ((List.range ops.size).filter fun i => !listed.getD i true && ((ops[i]?).map (·.after.all fun e => !Region.binds .any e || listed.getD e.on false)).getD false) = rs
  have hready : ∀ i ∈ rs, i < ops.size ∧ listed.getD i true = false ∧ ∀ o, ops[i]? = some o → ∀ e ∈ o.after.toList, Region.binds .any e = true → listed.getD e.on false = true := by
   intro i hi
   rw [← hrs, List.mem_filter, List.mem_range] at hi
   obtain ⟨h1, h2⟩ := hi
   simp only [Bool.and_eq_true, Bool.not_eq_true'] at h2
   refine ⟨h1, h2.1, fun o ho e he hb => ?_⟩
   have h3 := h2.2
   rw [ho] at h3
   simp only [Option.map_some, Option.getD_some] at h3
   rw [Array.all_eq_true'] at h3
   have := h3 e (by simpa using he)
   rw [hb] at this
   simpa using this
  have hne : rs ≠ [] := by
   have hu : unl ops.size listed ≠ [] := by intro e; rw [e] at hl; cases hl
   obtain ⟨i0, tl, hu0⟩ := List.exists_cons_of_ne_nil hu
   have hi0 : i0 ∈ unl ops.size listed := by rw [hu0]; simp
   have hi1 := hi0
   rw [unl, List.mem_filter, List.mem_range] at hi1
   have hmem : i0 ∈ rs := by
    rw [← hrs, List.mem_filter, List.mem_range]
    refine ⟨hi1.1, ?_⟩
    simp only [Bool.and_eq_true]
    refine ⟨hi1.2, ?_⟩
    have ho : ops[i0]? = some ops[i0] := by simp [hi1.1]
    rw [ho]
    simp only [Option.map_some, Option.getD_some]
    rw [Array.all_eq_true']
    intro e he
    cases hb : Region.binds .any e with
    | false => simp
    | true =>
     have hlt := rT hreg ho (by simpa using he) hb
     simp only [Bool.not_true, Bool.false_or]
     by_cases hlis : listed.getD e.on true = true
     ·have hs : e.on < listed.size := by omega
      rw [Array.getD_eq_getD_getElem?] at hlis ⊢
      rw [Array.getElem?_eq_getElem hs] at hlis ⊢
      exact hlis
     ·exfalso
      have hm : e.on ∈ unl ops.size listed := by
       rw [unl, List.mem_filter, List.mem_range]
       exact ⟨by omega, by simpa using hlis⟩
      rw [hu0] at hm
      rcases List.mem_cons.1 hm with hm | hm
      ·omega
      ·have hs : (unl ops.size listed).Pairwise (· < ·) := List.Pairwise.filter _ List.pairwise_lt_range
       rw [hu0, List.pairwise_cons] at hs
       have := hs.1 _ hm
       omega
   intro e; rw [e] at hmem; cases hmem
  have hlen : 0 < rs.length := List.length_pos_iff.2 hne
  have hget : rs[t % rs.length]? = some (rs[t % rs.length]'(Nat.mod_lt _ hlen)) := List.getElem?_eq_getElem (Nat.mod_lt _ hlen)
  rw [hget]
  simp only
  generalize hi : rs[t % rs.length]'(Nat.mod_lt _ hlen) = i
  have hmem : i ∈ rs := by rw [← hi]; exact List.getElem_mem _
  obtain ⟨i1, i2, i3⟩ := hready i hmem
  rw [linearise_go_acc, List.reverse_singleton, List.singleton_append]
  have hiu : i ∈ (List.range ops.size).filter fun j => !listed.getD j true := by
   rw [List.mem_filter, List.mem_range]; exact ⟨i1, by simp [i2]⟩
  obtain ⟨pre, post, e1, e2, e3⟩ := iT List.nodup_range hiu
  have hord := oz e1
  have hnew : unl ops.size (listed.setIfInBounds i true) = pre ++ post := by
   rw [← e2]
   unfold unl
   refine List.filter_congr fun j hj => ?_
   rw [Array.getD_eq_getD_getElem?, Array.getD_eq_getD_getElem?, Array.getElem?_setIfInBounds]
   by_cases hji : i = j
   ·subst hji
    rw [if_pos rfl, if_pos (by omega)]
    simp
   ·rw [if_neg hji]
    have : (j != i) = true := by simpa using fun e => hji e.symm
    simp [this]
  have hmf := lM (C := C) (B := B) (pts := pts) (ops := ops) (i := i) (post := post) pre (fun k hk σ σ₁ σ' s1 s2 => by
   obtain ⟨m1, m2⟩ := e3 k hk
   rw [List.mem_filter, List.mem_range] at m1
   have ha : ops[k]? = some ops[k] := by simp [m1.1]
   have hb : ops[i]? = some ops[i] := by simp [i1]
   rcases rU hreg hb ha (hord k hk) with hanc | hcm
   ·exfalso
    have := rq hcl hanc i3
    have m3 := m1.2
    rw [Array.getD_eq_getD_getElem?] at this m3
    rw [Array.getElem?_eq_getElem (by omega)] at this m3
    simp only [Option.getD_some] at this m3
    rw [this] at m3
    cases m3
   ·exact swap_ok hN ha hb hcm s1 s2) σ σ'
  obtain ⟨σ₁, s1, s2⟩ := hmf (by rw [← e1]; exact h)
  refine ⟨σ₁, s1, go_ok hN hreg fuel _ _ (by simp [hsz]) ?_ ?_ σ₁ σ' (by rw [hnew]; exact s2)⟩
  ·rw [hnew]
   have : (unl ops.size listed).length = (pre ++ post).length + 1 := by
    show (List.filter _ _).length = _
    rw [e1]; simp; omega
   omega
  ·intro x o hx ho e he hb
   have keep : ∀ y, listed.getD y false = true → (listed.setIfInBounds i true).getD y false = true := by
    intro y hy
    rw [Array.getD_eq_getD_getElem?] at hy ⊢
    rw [Array.getElem?_setIfInBounds]
    split
    ·rename_i h1
     subst h1
     rw [if_pos (by omega)]; rfl
    ·exact hy
   by_cases hxi : x = i
   ·subst hxi; exact keep _ (i3 o ho e he hb)
   ·refine keep _ (hcl x o ?_ ho e he hb)
    rw [Array.getD_eq_getD_getElem?, Array.getElem?_setIfInBounds, if_neg (fun e => hxi e.symm)] at hx
    rw [Array.getD_eq_getD_getElem?]; exact hx
theorem any_ok (hN : NeuB N B) (hreg : pg N pts ops = true) {σ σ' : St} (h : bO C B pts ops (List.range ops.size) σ σ') : ei C B pts ops σ σ' := by
 refine .inl fun t => ?_
 have hz : unl ops.size (Array.replicate ops.size false) = List.range ops.size := by
  unfold unl
  rw [List.filter_eq_self]
  intro i hi
  rw [List.mem_range] at hi
  rw [Array.getD_eq_getD_getElem?, Array.getElem?_replicate, if_pos hi]
  rfl
 refine go_ok hN hreg ops.size t (Array.replicate ops.size false) (by simp) (by rw [hz]; simp) (fun x o hx ho => ?_) σ σ' (by rw [hz]; exact h)
 have hlt : x < ops.size := (Array.getElem?_eq_some_iff.1 ho).1
 rw [Array.getD_eq_getD_getElem?, Array.getElem?_replicate, if_pos hlt] at hx
 cases hx
end
end Sx
end Go.Am

/-
 REGIONS THAT DRAW THEIR ORDER, third part: functions that have nothing to do with the heap.
-/
namespace Go.Am
namespace Sx
section
variable [Val] [Kno] {C : Cfg}
def Lo (v : Value) : Prop := match v with
 | .pointer (some p) => p.spot = some 0
 | _ => True
theorem qW {v : Value} (h : plain v = true) : Lo v := by
 cases v <;> try trivial
 rename_i a
 cases a <;> first | trivial | (simp [plain, gh, scalar, fW] at h)
theorem clearV_lo {keys : List Nat} {v : Value} (h : Lo v) : Lo (gf keys v) := by
 unfold gf
 repeat' split
 all_goals first | exact h | trivial
def LoS (as0 : List Nat) (σ : St) : Prop := ∀ a ∈ as0, ∀ v, σ.tmps[a]? = some v → Lo v
noncomputable def oS (N : FuncId → Option Nat) (pts as0 : List Nat) (o : Oper) : Bool :=
 (match bf N pts o with
 | some .no => true
 | some (.row _ _) => true
 | some (.neu _) => true
 | _ => false) &&
 match o.dst with
 | some d => !as0.contains d || (Nat.beq (pts.getD d 0) (d + 2) && match o.op with
  | .alloc _ => true
  | .box _ _ => true
  | _ => false)
 | none => true
noncomputable def neuC (N : FuncId → Option Nat) (pts as0 : List Nat) : Code → Bool
 | .skip | .label _ | .ret | .exit _ => true
 | .seq a b => neuC N pts as0 a && neuC N pts as0 b
 | .cond _ a b => neuC N pts as0 a && neuC N pts as0 b
 | .block _ b => neuC N pts as0 b
 | .loop b => neuC N pts as0 b
 | .scope b => neuC N pts as0 b
 | .region _ ops _ => ops.toList.all (oS N pts as0)
 | _ => false
noncomputable def eu (l : List ResultVar) : List Nat := l.filterMap fun r => match r with
 | .cell a _ => some a
 | .tmp _ => none
noncomputable def neuF (N : FuncId → Option Nat) (C : Cfg) (f : FuncId) (n : Nat) : Bool :=
 match C.P.funcs[f]? with
 | some fn => match fn.body with
  | some b => neuC N (C.pts f) (eu fn.results.toList) b && (eu fn.results.toList).all fun a => Nat.ble n a
  | none => false
 | none => false
theorem oT {pts : List Nat} {d : Nat} {t : TypeId} {v : Value} {e : Eff} (hp : pts.getD d 0 = d + 2) (he : bW C pts (some d) t v = some e) : ∃ s vs, e = .lnew s vs := by
 unfold bW at he
 split at he
 ·cases he
 ·simp only at he
  split at he
  ·cases he
  ·exact ⟨_, _, (Option.some.inj he).symm⟩
theorem qZ {as0 : List Nat} {σ τ : St} {dst : Option Tmp} {v : Value} (h : LoS as0 σ) (ht : τ.tmps = σ.tmps) (hv : (∀ d, dst = some d → d ∉ as0) ∨ Lo v) : LoS as0 (τ.put dst v) := by
 intro a ha x hx
 cases dst with
 | none => exact h a ha x (by rw [← ht]; exact hx)
 | some d =>
  simp only [St.put, List.getElem?_set, ht] at hx
  split at hx
  ·rename_i hd
   subst hd
   split at hx
   ·cases hx
    rcases hv with hv | hv
    ·exact absurd ha (hv _ rfl)
    ·exact hv
   ·cases hx
  ·exact h a ha x hx
theorem ri {N : FuncId → Option Nat} {B : Below} (hN : NeuB N B) {pts as0 : List Nat} {ops : Array Oper} (hops : ops.toList.all (oS N pts as0) = true) {i : Nat} {σ σ' : St} (hl : LoS as0 σ) (h : av C B pts ops i σ σ') :
  σ'.heap = σ.heap ∧ LoS as0 σ' ∧ ∀ H, av C B pts ops i { σ with heap := H } { σ' with heap := H } := by
 cases hi : ops[i]? with
 | none =>
  have : σ' = σ := by simpa [av, hi] using h
  subst this
  exact ⟨rfl, hl, fun H => by simp [av, hi]⟩
 | some o =>
  have ho : oS N pts as0 o = true := List.all_eq_true.1 hops o (by
   have := Array.mem_of_getElem? hi
   simpa using this)
  unfold oS at ho
  rw [Bool.and_eq_true] at ho
  obtain ⟨o1, o2⟩ := ho
  have hm : bf N pts o ≠ none := by intro e; rw [e] at o1; cases o1
  obtain ⟨e, rfl, te, le⟩ := jv hN hi hm h
  have hh : e.hp = none := by
   cases he : e.hp with
   | none => rfl
   | some x =>
    have := te.2 (by rw [he]; simp)
    rw [this] at o1; cases o1
  refine ⟨by rw [nm, hh]; rfl, ?_, fun H => ?_⟩
  ·by_cases hd : ∀ d, o.dst = some d → d ∉ as0
   ·unfold Ef.on
    exact qZ hl rfl (.inl hd)
   · -- a local row is laid
    obtain ⟨d, hd⟩ := Classical.not_forall.1 hd
    obtain ⟨hdst, hd⟩ := Classical.not_imp.1 hd
    have hd := Classical.not_not.1 hd
    rw [hdst] at o2
    simp only [List.contains_eq_mem, hd, decide_true, Bool.not_true, Bool.false_or, Bool.and_eq_true] at o2
    have hp : pts.getD d 0 = d + 2 := by simpa using o2.1
    unfold av at h
    simp only [hi] at h
    split at h
    ·exact h.elim
    ·rw [h]; exact qZ hl rfl (.inr trivial)
    ·rcases h with ⟨ef, h1, h2⟩ | ⟨v, h1, h2⟩
     ·have hef : ∃ s vs, ef = .lnew s vs := by
       have o3 := o2.2
       obtain ⟨dst, op, ty, pos, after, guard⟩ := o
       simp only at hdst o3
       subst hdst
       cases op <;> first | cases o3 | skip
       ·simp only [ak] at h1
        obtain ⟨z, _, hz⟩ := Option.bind_eq_some_iff.1 h1
        exact oT hp hz
       ·exact oT hp h1
      obtain ⟨s, vs, rfl⟩ := hef
      obtain ⟨p, hp1, hp2⟩ := h2
      rw [hp2]
      simp only [aT] at hp1
      split at hp1
      ·cases hp1
       exact qZ hl rfl (.inr rfl)
      ·cases hp1
     ·rw [h2]
      exact qZ hl rfl (.inr (qW h1.2.2.1))
  ·have hs : Sees N pts ops o σ { σ with heap := H } := by
    refine ⟨fun t _ => rfl, ?_⟩
    cases hmm : bf N pts o with
    | none => trivial
    | some m => rw [hmm] at o1; cases m <;> first | trivial | cases o1 | rfl
   have := le _ hs
   have e2 : e.on o.dst { σ with heap := H } = { e.on o.dst σ with heap := H } := by
    unfold Ef.on
    rw [hh]
    cases o.dst <;> rfl
   rw [e2] at this
   exact this
theorem pT {N : FuncId → Option Nat} {B : Below} (hN : NeuB N B) {pts as0 : List Nat} {ops : Array Oper} (hops : ops.toList.all (oS N pts as0) = true) : ∀ (l : List Nat) {σ σ' : St}, LoS as0 σ → bO C B pts ops l σ σ' →
  σ'.heap = σ.heap ∧ LoS as0 σ' ∧ ∀ H, bO C B pts ops l { σ with heap := H } { σ' with heap := H }
 | [], σ, σ', hl, h => by
  have : σ' = σ := h
  subst this
  exact ⟨rfl, hl, fun H => rfl⟩
 | i :: l, σ, σ', hl, ⟨σ₁, h1, h2⟩ => by
  obtain ⟨a1, a2, a3⟩ := ri hN hops hl h1
  obtain ⟨b1, b2, b3⟩ := pT hN hops l a2 h2
  exact ⟨b1.trans a1, b2, fun H => ⟨_, a3 H, b3 H⟩⟩
theorem lY {as0 : List Nat} {σ σ' : St} (hl : LoS as0 σ) (h : dS σ σ') : LoS as0 σ' := by
 intro a ha v hv
 obtain ⟨_, _, h3, h4⟩ := h
 have hlt : a < σ'.tmps.length := (List.getElem?_eq_some_iff.1 hv).1
 have hx : σ.tmps[a]? = some (σ.tmps[a]'(by omega)) := List.getElem?_eq_getElem _
 rcases h4 a _ _ hx hv with e | ⟨_, h5, _⟩
 ·rw [e]; exact hl a ha _ hx
 ·exact qW h5
theorem ja {σ σ' : St} (h : dS σ σ') (H : List HObj) : dS { σ with heap := H } { σ' with heap := H } := ⟨h.1, rfl, h.2.2.1, h.2.2.2⟩
theorem qO {N : FuncId → Option Nat} {B : Below} (hN : NeuB N B) {pts as0 : List Nat} {ops : Array Oper} (hops : ops.toList.all (oS N pts as0) = true) : ∀ (l : List Nat) {σ σ' : St}, LoS as0 σ → dW C B pts ops l σ σ' →
  σ'.heap = σ.heap ∧ LoS as0 σ' ∧ ∀ H, dW C B pts ops l { σ with heap := H } { σ' with heap := H }
 | [], σ, σ', hl, h => by
  have : σ' = σ := h
  subst this
  exact ⟨rfl, hl, fun H => rfl⟩
 | i :: l, σ, σ', hl, ⟨σ₀, σ₁, h0, h1, h2⟩ => by
  obtain ⟨a1, a2, a3⟩ := ri hN hops (lY hl h0) h1
  obtain ⟨b1, b2, b3⟩ := qO hN hops l a2 h2
  exact ⟨b1.trans (a1.trans h0.2.1), b2, fun H => ⟨_, _, ja h0 H, a3 H, b3 H⟩⟩
theorem clear_lo {as0 : List Nat} {σ : St} {keys : List Nat} (hl : LoS as0 σ) : LoS as0 (σ.clear keys) := by
 unfold St.clear
 split
 ·exact hl
 ·intro a ha v hv
  simp only [List.getElem?_map, Option.map_eq_some_iff] at hv
  obtain ⟨x, hx, rfl⟩ := hv
  exact clearV_lo (hl a ha x hx)
theorem clearHp (σ : St) (keys : List Nat) (H : List HObj) : St.clear { σ with heap := H } keys = { σ.clear keys with heap := H } := by
 unfold St.clear
 split <;> rfl
theorem clearHp' (σ : St) (keys : List Nat) : (σ.clear keys).heap = σ.heap := by
 unfold St.clear
 split <;> rfl
theorem rX {σ : St} {r : ResultVar} {as0 : List Nat} (hl : LoS as0 σ) (ha : ∀ a ∈ eu [r], a ∈ as0) (H : List HObj) : du C { σ with heap := H } r = du C σ r := by
 cases r with
 | tmp t => rfl
 | cell a t =>
  have hm : a ∈ as0 := ha a (by simp [eu])
  unfold du
  simp only
  cases hv : σ.tmps[a]? with
  | none => simp [List.getD_eq_getElem?_getD, hv, undef]
  | some v =>
   have := hl a hm v hv
   simp only [List.getD_eq_getElem?_getD, hv, Option.getD_some]
   cases v <;> try rfl
   rename_i p
   cases p with
   | none => rfl
   | some p =>
    have hs : p.spot = some 0 := this
    simp only [hs]
theorem kG {σ : St} {as0 : List Nat} (hl : LoS as0 σ) (H : List HObj) : ∀ (l : List ResultVar), (∀ a ∈ eu l, a ∈ as0) → cb C { σ with heap := H } l = cb C σ l
 | [], _ => rfl
 | r :: l, ha => by
  have h1 := rX (C := C) (r := r) hl (fun a h => ha a (by cases r <;> simp [eu] at h ⊢; exact .inl h)) H
  have h2 := kG hl H l (fun a h => ha a (by cases r <;> simp [eu] at h ⊢ <;> first | exact h | exact .inr h))
  simp only [cb, h1, h2]
theorem new_neu {N : FuncId → Option Nat} {pts as0 : List Nat} {o : Oper} (h : newOp pts o = true) (hn : oS N pts as0 o = true) : False := by
 have hm : bf N pts o = some .hw := by
  obtain ⟨dst, op, ty, pos, after, guard⟩ := o
  cases op <;> simp only [newOp, Bool.false_eq_true] at h <;> first | rfl | skip
  ·cases dst with
   | none => cases h
   | some d =>
    simp only [bf]
    rw [if_neg (fun e => by
     have h : (!Nat.beq (pts.getD d 0) (d + 2)) = true := h
     rw [e, show Nat.beq (d + 2) (d + 2) = true from Nat.beq_refl _] at h; cases h)]
  ·cases dst with
   | none => cases h
   | some d =>
    simp only [bf]
    rw [if_neg (fun e => by
     have h : (!Nat.beq (pts.getD d 0) (d + 2)) = true := h
     rw [e, show Nat.beq (d + 2) (d + 2) = true from Nat.beq_refl _] at h; cases h)]
  ·rename_i c
   simp only [bf]
   split at h
   ·rename_i hc; rw [hc]
   ·cases h
 unfold oS at hn
 rw [hm] at hn
 cases hn
theorem neu_ok {N : FuncId → Option Nat} (hN : ∀ f n, N f = some n → neuF N C f n = true) (hk : ∀ f args H r H', Kno.kh f args H r H' → N f = none) : ∀ n, NeuB N (sm C n).toBelow ∧
  ∀ pts as0 c, neuC N pts as0 c = true → ∀ σ e σ', LoS as0 σ → (sm C n).ex pts c σ e σ' → σ'.heap = σ.heap ∧ LoS as0 σ' ∧ ∀ H, (sm C n).ex pts c { σ with heap := H } e { σ' with heap := H }
 | 0 => ⟨fun f args H r H' hf h => (by
   rcases h with h | h
   ·exact ⟨h.2, fun H2 => .inl ⟨h.1, rfl⟩⟩
   ·have hf : N f = some _ := hf
    rw [hk f args H r H' h] at hf; cases hf), fun _ _ _ _ _ _ _ _ h => absurd h id⟩
 | n + 1 => by
  obtain ⟨ihc, ihe⟩ := neu_ok hN hk n
  refine ⟨fun f args H r H' hf h => ?_, fun pts as0 c hc σ e σ' hl h => ?_⟩
  ·rcases h with h | ⟨fn, b, e, σ, vs, c1, c2, c3, c4, c5, c6, c7, c8, c9⟩
   ·rcases h with h | h
    ·exact ⟨h.2, fun H2 => .inl (.inl ⟨h.1, rfl⟩)⟩
    ·have hf : N f = some _ := hf
     rw [hk f args H r H' h] at hf; cases hf
   ·have hn := hN f _ hf
    unfold neuF at hn
    simp only [c1, c2, Bool.and_eq_true, List.all_eq_true] at hn
    have hl : LoS (eu fn.results.toList) (iR fn args H) := by
     intro a ha v hv
     have hge : args.length ≤ a := by simpa using hn.2 a ha
     simp only [iR] at hv
     rw [List.getElem?_append_right hge, List.getElem?_replicate] at hv
     split at hv
     ·cases hv; trivial
     ·cases hv
    obtain ⟨d1, d2, d3⟩ := ihe _ _ _ hn.1 _ _ _ hl c4
    refine ⟨c9.trans d1, fun H2 => .inr ⟨fn, b, e, _, vs, c1, c2, c3, d3 H2, c5, ?_, c7, c8, rfl⟩⟩
    rw [kG d2 H2 _ (fun a h => h)]
    exact c6
  ·have h : lx C (sm C n) pts c σ e σ' := h
   show _ ∧ _ ∧ ∀ H, lx C (sm C n) pts c { σ with heap := H } e { σ' with heap := H }
   cases c with
   | skip => obtain ⟨rfl, rfl⟩ := h; exact ⟨rfl, hl, fun H => ⟨rfl, rfl⟩⟩
   | label l => obtain ⟨rfl, rfl⟩ := h; exact ⟨rfl, hl, fun H => ⟨rfl, rfl⟩⟩
   | ret => obtain ⟨rfl, rfl⟩ := h; exact ⟨rfl, hl, fun H => ⟨rfl, rfl⟩⟩
   | exit id => obtain ⟨rfl, rfl⟩ := h; exact ⟨rfl, hl, fun H => ⟨rfl, rfl⟩⟩
   | seq a b =>
    simp only [neuC, Bool.and_eq_true] at hc
    obtain ⟨e₁, σ₁, h1, h2⟩ := h
    obtain ⟨a1, a2, a3⟩ := ihe _ _ _ hc.1 _ _ _ hl h1
    rcases h2 with ⟨rfl, h2⟩ | ⟨h2, rfl, rfl⟩
    ·obtain ⟨b1, b2, b3⟩ := ihe _ _ _ hc.2 _ _ _ a2 h2
     exact ⟨b1.trans a1, b2, fun H => ⟨_, _, a3 H, .inl ⟨rfl, b3 H⟩⟩⟩
    ·exact ⟨a1, a2, fun H => ⟨_, _, a3 H, .inr ⟨h2, rfl, rfl⟩⟩⟩
   | cond x a b =>
    simp only [neuC, Bool.and_eq_true] at hc
    obtain ⟨t, h1, h2⟩ := h
    cases t with
    | true =>
     obtain ⟨b1, b2, b3⟩ := ihe _ _ _ hc.1 _ _ _ hl h2
     exact ⟨b1, b2, fun H => ⟨true, h1, b3 H⟩⟩
    | false =>
     obtain ⟨b1, b2, b3⟩ := ihe _ _ _ hc.2 _ _ _ hl h2
     exact ⟨b1, b2, fun H => ⟨false, h1, b3 H⟩⟩
   | block id b =>
    obtain ⟨e₁, h1, rfl⟩ := h
    obtain ⟨b1, b2, b3⟩ := ihe pts as0 b hc _ _ _ hl h1
    exact ⟨b1, b2, fun H => ⟨_, b3 H, rfl⟩⟩
   | scope b => exact ihe pts as0 b hc _ _ _ hl h
   | loop b =>
    obtain ⟨e₁, σ₁, h1, h2⟩ := h
    obtain ⟨a1, a2, a3⟩ := ihe pts as0 b hc _ _ _ (clear_lo hl) h1
    rw [clearHp'] at a1
    rcases h2 with ⟨rfl, h2⟩ | ⟨h2, rfl, rfl⟩
    ·obtain ⟨b1, b2, b3⟩ := ihe pts as0 (.loop b) hc _ _ _ a2 h2
     exact ⟨b1.trans a1, b2, fun H => ⟨_, _, by rw [clearHp]; exact a3 H, .inl ⟨rfl, b3 H⟩⟩⟩
    ·exact ⟨a1, a2, fun H => ⟨_, _, by rw [clearHp]; exact a3 H, .inr ⟨h2, rfl, rfl⟩⟩⟩
   | region id ops draw =>
    obtain ⟨rfl, hq⟩ := h
    cases draw with
    | true =>
     obtain ⟨σ₀, h0, h1⟩ : ∃ σ₀, dS σ σ₀ ∧ ei C (sm C n).toBelow pts ops σ₀ σ' := hq
     have hl0 := lY hl h0
     rcases h1 with h1 | ⟨sl, m, q1, _⟩
     case inr =>
      exfalso
      obtain ⟨o, o1, o2⟩ := List.any_eq_true.1 q1
      exact new_neu o2 (List.all_eq_true.1 hc o o1)
     obtain ⟨a1, a2, _⟩ := pT ihc hc _ hl0 (h1 0)
     refine ⟨a1.trans h0.2.1, a2, fun H => ⟨rfl, ⟨_, ja h0 H, .inl fun t => ?_⟩⟩⟩
     exact (pT ihc hc _ hl0 (h1 t)).2.2 H
    | false =>
     have hq : dW C (sm C n).toBelow pts ops (List.range ops.size) σ σ' := hq
     obtain ⟨a1, a2, a3⟩ := qO ihc hc _ hl hq
     exact ⟨a1, a2, fun H => ⟨rfl, a3 H⟩⟩
   | _ => cases hc
theorem dr_ok {N : FuncId → Option Nat} (hN : ∀ f n, N f = some n → neuF N C f n = true) (hk : ∀ f args H r H', Kno.kh f args H r H' → N f = none) (pts : List Nat) (ops : Array Oper) (h : pg N pts ops = true) (n : Nat) (σ σ' : St) (hx : bO C (sm C n).toBelow pts ops (List.range ops.size) σ σ') :
  ei C (sm C n).toBelow pts ops σ σ' := any_ok (neu_ok hN hk n).1 h hx
end
end Sx
end Go.Am

/-
 THE ALGEBRA OF RUNS TELLS THE TRUTH; whole runs.
-/
namespace Go.Am
noncomputable def LK.plain : LK → Bool
 | .v => false
 | _ => true
noncomputable def SK.plain : SK → Bool
 | .leaf k => k.plain
 | .agg ks => ks.all LK.plain
noncomputable def Sig.plain (s : Sig) : Bool := s.ps.all SK.plain && s.rs.all SK.plain
namespace Sx
section
variable [Val] [Kno]
variable {w : List Lf}
theorem pU (k : IntKind) (c : Int) (K : Int → RT) : outG k c K = K (k.wrap c) := by
 unfold outG
 cases e : fits k c with
 | true => rw [oD e]
 | false => exact jS _ _
theorem out64_eq (c : Int) (K : Int → RT) : aA c K = K (IntKind.wrap .i64 c) := by
 refine Eq.trans ?_ (pU .i64 c K)
 cases c <;> rfl
theorem outU8_eq (c : Int) (K : Int → RT) : jf c K = K (IntKind.wrap .u8 c) := by
 refine Eq.trans ?_ (pU .u8 c K)
 cases c <;> rfl
theorem kB (k : IntKind) (c : Int) (K : Int → RT) : outK k c K = K (k.wrap c) := by
 cases k <;> first | exact pU _ _ _ | exact out64_eq _ _ | exact outU8_eq _ _
theorem addK_eq (a b : Int) (K : Int → RT) : addK a b K = K (a + b) := by
 unfold addK
 cases a with
 | ofNat m =>
  cases b with
  | ofNat n => exact congrArg K rfl
  | negSucc n =>
   simp only [gO]
   cases e : Nat.blt n m with
   | true => rw [Nat.blt_eq] at e; exact congrArg K (show Int.ofNat (m - (n + 1)) = Int.ofNat m + Int.negSucc n by simp only [Int.ofNat_eq_natCast, Int.negSucc_eq]; omega)
   | false =>
    have e : ¬ n < m := fun h => by rw [← Nat.blt_eq, e] at h; cases h
    exact congrArg K (show Int.negSucc (n - m) = Int.ofNat m + Int.negSucc n by simp only [Int.ofNat_eq_natCast, Int.negSucc_eq]; omega)
 | negSucc m =>
  cases b with
  | ofNat n =>
   simp only [gO]
   cases e : Nat.blt m n with
   | true => rw [Nat.blt_eq] at e; exact congrArg K (show Int.ofNat (n - (m + 1)) = Int.negSucc m + Int.ofNat n by simp only [Int.ofNat_eq_natCast, Int.negSucc_eq]; omega)
   | false =>
    have e : ¬ m < n := fun h => by rw [← Nat.blt_eq, e] at h; cases h
    exact congrArg K (show Int.negSucc (m - n) = Int.negSucc m + Int.ofNat n by simp only [Int.ofNat_eq_natCast, Int.negSucc_eq]; omega)
  | negSucc n => exact congrArg K (show Int.negSucc (m + n + 1) = Int.negSucc m + Int.negSucc n by simp only [Int.negSucc_eq]; omega)
theorem subK_eq (a b : Int) (K : Int → RT) : subK a b K = K (a - b) := by
 unfold subK
 cases a with
 | ofNat m =>
  cases b with
  | ofNat n =>
   simp only [gO]
   cases e : Nat.ble n m with
   | true => rw [Nat.ble_eq] at e; exact congrArg K (show Int.ofNat (m - n) = Int.ofNat m - Int.ofNat n by simp only [Int.ofNat_eq_natCast]; omega)
   | false =>
    have e : ¬ n ≤ m := fun h => by rw [← Nat.ble_eq, e] at h; cases h
    exact congrArg K (show Int.negSucc (n - (m + 1)) = Int.ofNat m - Int.ofNat n by simp only [Int.ofNat_eq_natCast, Int.negSucc_eq]; omega)
  | negSucc n => exact congrArg K (show Int.ofNat (m + n + 1) = Int.ofNat m - Int.negSucc n by simp only [Int.ofNat_eq_natCast, Int.negSucc_eq]; omega)
 | negSucc m =>
  cases b with
  | ofNat n => exact congrArg K (show Int.negSucc (m + n) = Int.negSucc m - Int.ofNat n by simp only [Int.ofNat_eq_natCast, Int.negSucc_eq]; omega)
  | negSucc n =>
   simp only [gO]
   cases e : Nat.ble m n with
   | true => rw [Nat.ble_eq] at e; exact congrArg K (show Int.ofNat (n - m) = Int.negSucc m - Int.negSucc n by simp only [Int.ofNat_eq_natCast, Int.negSucc_eq]; omega)
   | false =>
    have e : ¬ m ≤ n := fun h => by rw [← Nat.ble_eq, e] at h; cases h
    exact congrArg K (show Int.negSucc (m - (n + 1)) = Int.negSucc m - Int.negSucc n by simp only [Int.negSucc_eq]; omega)
theorem mulK_eq (a b : Int) (K : Int → RT) : mulK a b K = K (a * b) := by
 unfold mulK
 cases a with
 | ofNat m =>
  cases b with
  | ofNat n => exact congrArg K rfl
  | negSucc n =>
   cases m with
   | zero => exact congrArg K (show Int.ofNat 0 = Int.ofNat 0 * Int.negSucc n by simp)
   | succ m =>
    refine congrArg K (show Int.negSucc ((m + 1) * n + m) = Int.ofNat (m + 1) * Int.negSucc n from ?_)
    simp only [Int.ofNat_eq_natCast, Int.negSucc_eq, Int.natCast_add, Int.natCast_mul]
    simp only [Int.natCast_one, Int.mul_neg, Int.mul_add, Int.add_mul]
    omega
 | negSucc m =>
  cases b with
  | ofNat n =>
   cases n with
   | zero => exact congrArg K (show Int.ofNat 0 = Int.negSucc m * Int.ofNat 0 by simp)
   | succ n =>
    refine congrArg K (show Int.negSucc (m * (n + 1) + n) = Int.negSucc m * Int.ofNat (n + 1) from ?_)
    simp only [Int.ofNat_eq_natCast, Int.negSucc_eq, Int.natCast_add, Int.natCast_mul]
    simp only [Int.natCast_one, Int.neg_mul, Int.mul_add, Int.add_mul]
    omega
  | negSucc n =>
   refine congrArg K (show Int.ofNat ((m + 1) * (n + 1)) = Int.negSucc m * Int.negSucc n from ?_)
   simp only [Int.ofNat_eq_natCast, Int.negSucc_eq, Int.natCast_add, Int.natCast_mul]
   simp only [Int.natCast_one, Int.neg_mul_neg]
theorem quoK_eq (a b : Int) (K : Int → RT) : quoK a b K = K (Int.tdiv a b) := by
 unfold quoK
 cases a with
 | ofNat m =>
  cases b with
  | ofNat n => exact congrArg K rfl
  | negSucc n => exact jS _ _
 | negSucc m => exact jS _ _
theorem remK_eq (a b : Int) (K : Int → RT) : remK a b K = K (Int.tmod a b) := by
 unfold remK
 cases a with
 | ofNat m =>
  cases b with
  | ofNat n => exact congrArg K rfl
  | negSucc n => exact jS _ _
 | negSucc m => exact jS _ _
theorem oI {b : Int} (h : isZ b = false) : b ≠ 0 := by
 intro e; subst e; cases h
theorem fitsK {k : IntKind} {c : Int} {K : Int → RT} (h : outK k c K = some w) : K (k.wrap c) = some w := (kB k c K).symm.trans h
theorem ariB_ok {op : BinOp} {k : IntKind} {a b : Int} {K : Int → RT} (h : ariB op k a b K = some w) : ∃ n, pv op k a b n ∧ K n = some w := by
 cases op <;> simp only [ariB, reduceCtorEq] at h
 ·rw [addK_eq, kB] at h
  exact ⟨_, fun P t w => by simp [binOp, Op.intArith], h⟩
 ·rw [subK_eq, kB] at h
  exact ⟨_, fun P t w => by simp [binOp, Op.intArith], h⟩
 ·rw [mulK_eq, kB] at h
  exact ⟨_, fun P t w => by simp [binOp, Op.intArith], h⟩
 ·cases hb : isZ b with
  | true => rw [hb] at h; cases h
  | false =>
   rw [hb] at h
   simp only [quoK_eq, kB] at h
   have hb := oI hb
   exact ⟨_, fun P t w => by simp [binOp, Op.intDiv, hb], h⟩
 ·cases hb : isZ b with
  | true => rw [hb] at h; cases h
  | false =>
   rw [hb] at h
   simp only [remK_eq] at h
   have hb := oI hb
   exact ⟨_, fun P t w => by simp [binOp, Op.intDiv, hb], h⟩
 ·split at h
  ·rename_i hb
   have hb := eqI_iff.1 hb
   subst hb
   rw [jS] at h
   exact ⟨_, kI rfl, h⟩
  ·split at h
   ·rw [jS] at h
    exact ⟨_, pZ _ _, fitsK h⟩
   ·cases h
theorem eqI_eq (x y : Int) : eqI x y = (x == y) := by rw [Bool.eq_iff_iff, eqI_iff, beq_iff_eq]
theorem eqZK_eq (x y : Int) : eqZK x y = (x == y) := by
 rw [← eqI_eq]
 cases x <;> cases y <;> rfl
theorem leZ_eq (x y : Int) : leZ x y = decide (x ≤ y) := by rw [Bool.eq_iff_iff, leZ_iff, decide_eq_true_iff]
theorem notK_eq (b : Bool) : notK b = !b := by cases b <;> rfl
theorem cmpB_ok {op : BinOp} {a b : Int} {K : Bool → RT} (h : cmpB op a b K = some w) : ∃ t, lr op a b = some t ∧ K t = some w := by
 cases op <;> simp only [cmpB, reduceCtorEq, eqZK_eq, leZ_eq, notK_eq] at h
 ·exact ⟨_, rfl, h⟩
 ·exact ⟨_, rfl, h⟩
 ·exact ⟨_, rfl, by rw [show decide (a < b) = !decide (b ≤ a) by rw [Bool.eq_iff_iff]; simp]; exact h⟩
 ·exact ⟨_, rfl, h⟩
 ·exact ⟨_, rfl, by rw [show decide (a > b) = !decide (a ≤ b) by rw [Bool.eq_iff_iff]; simp]; exact h⟩
 ·exact ⟨_, rfl, h⟩
theorem eqLf_eq (a b : Lf) : eqLf a b = gN a b := by
 cases a <;> cases b <;> try rfl
 ·exact eqZK_eq _ _
 ·rename_i x y; cases x <;> cases y <;> rfl
theorem eqsV_eq (l : List (Lf × Lf)) : eqsV l = cr l := by
 unfold cr
 induction l with
 | nil => rfl
 | cons p l ih =>
  show (Bool.rec false (eqsV l) (eqLf p.1 p.2) : Bool) = _
  rw [eqLf_eq, List.all_cons, ih]
  cases gN p.1 p.2 <;> rfl
theorem eqsB_ok {l : List (Lf × Lf)} {K : Bool → RT} (h : eqsB l K = some w) : K (cr l) = some w := by
 rw [← eqsV_eq]; exact h
structure CallBOk (C : Cfg) (Sg : FuncId → Option Sig) (T : Nat → Site) (call : ab) : Prop where
 f : ∀ g ls h K w, dg ls → call (.f g) ls h K = some w → ∃ rs h', bm C Sg g ls (absH T (toL h)) rs (absH T (toL h')) ∧ K rs h' = some w
 y : ∀ κ vs l ls h K w st pd xs, h.at l = some (.lp κ st pd vs) → Told ((T κ).params.map (·.2)) ls xs → call (.y κ vs l) ls h K = some w →
  ∃ b h', hY C l (aj xs) (absH T (toL h)) (.bool b) (absH T (toL h')) ∧ K [.b b] h' = some w
theorem jW (T : Nat → Site) (h : HL) : getH T h = fun i => (absH T h)[i]? := by
 funext i
 simp only [getH, absH, List.getElem?_map]
 cases h[i]? <;> rfl
theorem getT_eq (T : Nat → Site) (h : HTr) : getT T h = fun i => (absH T (toL h))[i]? := by
 funext i
 simp only [getT, absH, List.getElem?_map, iI, Option.map_map]
 cases h.at i <;> rfl
theorem jt (T : Nat → Site) (h : HTr) : getT T h = getH T (toL h) := (getT_eq T h).trans (jW T (toL h)).symm
theorem jV {T : Nat → Site} {h : HTr} {i : Nat} {x : HOT} (e : h.at i = some x) : getH T (toL h) i = some (absO T x.ho) := by
 rw [← jt]; unfold getT; rw [e]
theorem gE (T : Nat → Site) (h : HL) : (absH T h).length = h.length := by simp [absH]
theorem gG (T : Nat → Site) (h : HL) (i : Nat) (o : HO) : absH T (h.set i o) = (absH T h).set i (absO T o) := by simp [absH, List.map_set]
theorem gF (T : Nat → Site) (h : HL) (o : HO) : absH T (h ++ [o]) = absH T h ++ [absO T o] := by simp [absH]
theorem ig (T : Nat → Site) : ∀ (l : List Act1) (h : HL), absH T (gk h l) = em (absH T h) l
 | [], h => rfl
 | a :: l, h => by
  have ih := ig T l (a.onH h)
  show absH T (gk (a.onH h) l) = em (a.on (absH T h)) l
  rw [ih]
  congr 1
  cases a with
  | set i o => exact gG T h i _
  | push o => exact gF T h _
theorem mh : ∀ {l : List Act1} {h : HTr} {k : HTr → RT}, rp l h k = some w → ∃ h', toL h' = gk (toL h) l ∧ k h' = some w
 | [], h, k, hk => ⟨h, rfl, hk⟩
 | .set i o :: l, h, k, hk => by
  have hk : (oK o fun o => putK h i o fun h => rp l h k) = some w := hk
  obtain ⟨x, e1, e2⟩ := gU (o := o) (k := fun o => putK h i o fun h => rp l h k)
  rw [e2, fE] at hk
  obtain ⟨h', e, hk⟩ := mh hk
  exact ⟨h', by rw [e, fL, e1]; rfl, hk⟩
 | .push o :: l, h, k, hk => by
  have hk : (oK o fun o => iC h o fun h => rp l h k) = some w := hk
  obtain ⟨x, e1, e2⟩ := gU (o := o) (k := fun o => iC h o fun h => rp l h k)
  rw [e2, fR] at hk
  obtain ⟨h', e, hk⟩ := mh hk
  exact ⟨h', by rw [e, fU, e1]; rfl, hk⟩
theorem rh (s : Option Nat) : spot0 s = (s != some 0) := by
 cases s with
 | none => rfl
 | some k => cases k <;> rfl
theorem qx (v : Value) : goodF v = cA v := by
 unfold goodF
 split
 ·rename_i a
  rw [rh]
  simp [cA, noLoc, bv, cF, bX, bt, aU]
 ·rename_i a _ _
  rw [rh]
  simp [cA, noLoc, bv, cF, bX, bt, aU]
 ·rfl
theorem pN {α : Type} (l : List α) : lenR l = l.length := by
 induction l with
 | nil => rfl
 | cons a l ih => exact congrArg Nat.succ ih
theorem ldB_ok {T : Nat → Site} {n : Nat} {p : Value} {h : HTr} {K : List Value → RT} (hk : ldB n p h K = some w) : ∃ cs, ldP n p (getH T (toL h)) = some cs ∧ K cs = some w := by
 unfold ldB at hk
 split at hk
 ·rename_i a
  split at hk
  ·rename_i hs
   split at hk
   ·rename_i m e rw' c hat
    split at hk
    ·rename_i hle
     rw [Nat.ble_eq] at hle
     refine ⟨_, ?_, hk⟩
     unfold ldP
     simp only [hs, ew, jV hat, HOT.ho, absO, Option.bind_some, cut]
     rw [if_pos (by rw [bd]; exact hle), hD c n a.off m hle]
    ·cases hk
   ·cases hk
  ·cases hk
 ·cases hk
theorem lgB_ok {T : Nat → Site} {C : Cfg} {n : Nat} {p : Value} {h : HTr} {K : List Value → RT} (hk : lgB C n p h K = some w) : ∃ cs, lgP C n p (getH T (toL h)) = some cs ∧ K cs = some w := by
 unfold lgB at hk
 split at hk
 ·rename_i a
  split at hk
  ·rename_i hs
   split at hk
   ·rename_i m e rw' c hat
    split at hk
    ·rename_i hle
     rw [Nat.ble_eq] at hle
     refine ⟨_, ?_, hk⟩
     unfold lgP
     simp only [hs, ew, jV hat, HOT.ho, absO, Option.bind_some, cut]
     rw [if_pos (by rw [bd]; exact hle), hD c n a.off m hle]
    ·cases hk
   ·cases hk
  ·rename_i k hs
   split at hk
   ·rename_i hb
    split at hk
    ·rename_i vs hg
     split at hk
     ·rename_i cs hc
      refine ⟨cs, ?_, hk⟩
      unfold lgP
      simp only [hs, hb, hg, Option.bind_some]
      rw [jK] at hc
      exact hc
     ·cases hk
    ·cases hk
   ·cases hk
 ·cases hk
theorem stB_ok {T : Nat → Site} {p : Value} {new : List Value} {h : HTr} {K : List Value → HTr → RT} {n0 : Nat} (hk : stB p new h K = some w) :
  ∃ acts cs h', stP p new (getH T (toL h)) n0 = some (acts, cs) ∧ toL h' = gk (toL h) acts ∧ K cs h' = some w := by
 unfold stB at hk
 split at hk
 ·rename_i a
  split at hk
  ·rename_i hs
   split at hk
   ·rename_i m e c hat
    split at hk
    ·rename_i hle
     rw [Nat.ble_eq, pN] at hle
     rw [jZ, fE] at hk
     refine ⟨[.set a.block (.cells (bJ (insT new a.off c) m) e true)], [], _, ?_, ?_, hk⟩
     ·unfold stP
      simp only [hs, jV hat, HOT.ho, absO, splice]
      rw [if_pos (by rw [bd]; exact hle), lm hle]
      rfl
     ·rw [fL]; rfl
    ·cases hk
   ·cases hk
  ·cases hk
 ·cases hk
theorem rj {s : Option Nat} {esz : Nat} : tagB s esz = true ↔ s = tag esz := by
 unfold tagB tag
 cases s with
 | none => simp
 | some k => simp only [Nat.beq_eq, Option.some.injEq]; try rfl
theorem slB_ok {C : Cfg} {T : Nat → Site} {esz : Nat} {x : Value} {h : HTr} {K : List Value → Nat → RT} (hk : slB C T esz x h K = some w) :
  ∃ l n, slG C esz (getH T (toL h)) x = some (l, n) ∧ K l n = some w := by
 have gen : ∀ {x : Value}, (match slG C esz (getT T h) x with | some p => K p.1 p.2 | none => none) = some w → ∃ l n, slG C esz (getH T (toL h)) x = some (l, n) ∧ K l n = some w := by
  intro x hk
  split at hk
  ·rename_i p e
   rw [jt] at e
   exact ⟨p.1, p.2, e, hk⟩
  ·cases hk
 unfold slB at hk
 split at hk
 ·rename_i a len cx
  split at hk
  ·rename_i ht
   have ht := rj.1 ht
   split at hk
   ·rename_i m e rw' c hat
    split at hk
    ·rename_i h1 h2
     have h1 := Nat.eq_of_beq_eq_true h1
     rw [Nat.ble_eq] at h2
     subst h1
     refine ⟨_, _, ?_, hk⟩
     unfold slG
     simp only [jV hat, HOT.ho, absO]
     rw [if_neg (by rw [ht]; simp [tag]), if_pos ht]
     first | rw [if_pos rfl] | rw [if_pos trivial]
     rw [cut, if_pos (by rw [bd]; exact h2), hD c _ a.off m h2]
     rfl
    ·cases hk
   ·cases hk
  ·exact gen hk
 ·exact gen hk
theorem qy {c : Tr Value} {m off wd esz : Nat} {new : List Value} {k : HOT → RT} (hle : off + wd ≤ m) (hk : growB c m off wd esz new k = some w) :
  ∃ x : HOT, x.ho = .o (.cells (((bJ c m).drop off).take wd ++ new) esz true) ∧ k x = some w := by
 unfold growB at hk
 split at hk
 ·rename_i h1 h2
  have h1 := Nat.eq_of_beq_eq_true h1
  have h2 := Nat.eq_of_beq_eq_true h2
  subst h1 h2
  rw [jZ, gO, pN] at hk
  refine ⟨_, ?_, hk⟩
  show HO.o (.cells (bJ (insT new wd c) (wd + new.length)) esz true) = _
  rw [jH, List.drop_zero, List.take_of_length_le (by rw [bd]; exact Nat.le_refl _)]
 ·rw [hD c wd off m hle] at hk
  obtain ⟨x, e1, e2⟩ := gU (o := .cells (((bJ c m).drop off).take wd ++ new) esz true) (k := k)
  rw [e2] at hk
  exact ⟨x, e1, hk⟩
theorem apB_ok {C : Cfg} {T : Nat → Site} {esz bytes : Nat} {s x : Value} {h : HTr} {K : List Value → HTr → RT} (hk : apB T C esz bytes s x h K = some w) :
  ∃ acts cs h', apG C esz bytes s x (getH T (toL h)) (toL h).length = some (acts, cs) ∧ toL h' = gk (toL h) acts ∧ K cs h' = some w := by
 obtain ⟨new, n, hsl, hk⟩ := slB_ok hk
 unfold apG
 rw [hsl, eg]
 simp only at hk ⊢
 split at hk
 ·cases n with
  | zero => exact ⟨_, _, h, rfl, rfl, hk⟩
  | succ n =>
   simp only at hk
   split at hk
   ·rename_i hz
    obtain ⟨y, e1, e2⟩ := gU (o := .cells new esz true) (k := fun o => iC h o fun h' => fN (n + 1) fun n => K [.slice (some ⟨h.n, 0, tag esz⟩) n 0] h')
    rw [e2, fR, gO] at hk
    refine ⟨[.push (.cells new esz true)], _, _, ?_, ?_, hk⟩
    ·show (if n + 1 = 0 then some ([], [Value.slice none 0 0]) else if dD (n + 1) bytes then _ else none) = _
     rw [if_neg (by omega), if_pos hz]
    ·rw [fU, e1]; rfl
   ·cases hk
 ·rename_i a len cx _
  split at hk
  ·cases hk
  ·rename_i ht
   have ht := rj.1 ht
   split at hk
   ·rename_i m e rw' c hat
    split at hk
    ·rename_i h1 h2
     have h1 := Nat.eq_of_beq_eq_true h1
     rw [Nat.ble_eq] at h2
     subst h1
     have hb : a.off + len * e ≤ m := h2
     have hcut : cut (bJ c m) a.off (len * e) = some (((bJ c m).drop a.off).take (len * e)) := by rw [cut, if_pos (by rw [bd]; exact hb)]
     simp only [ht, ne_eq, not_true_eq_false, if_false, jV hat, HOT.ho, absO, hcut]
     cases cx with
     | zero =>
      simp only at hk ⊢
      cases n with
      | zero => exact ⟨[], _, h, by first | rw [if_pos rfl] | rw [if_pos trivial], rfl, hk⟩
      | succ n =>
       simp only at hk
       split at hk
       ·rename_i q1 q2
        obtain ⟨y, e1, hk⟩ := qy hb hk
        rw [fE, fR, gO] at hk
        refine ⟨[.set a.block .dead, .push (.cells (((bJ c m).drop a.off).take (len * e) ++ new) e true)], _, _, by rw [if_neg (by omega), if_pos (by rw [q2]; rfl)], ?_, hk⟩
        rw [fU, fL, e1]; rfl
       ·cases hk
     | succ cap =>
      simp only at hk ⊢
      split at hk
      ·rename_i q0
       rw [Nat.ble_eq] at q0
       split at hk
       ·rename_i q1 q2
        rw [Nat.ble_eq, pN] at q2
        have q2 : a.off + len * e + new.length ≤ m := q2
        rw [jZ, fE, gO] at hk
        refine ⟨[.set a.block (.cells ((bJ c m).take (a.off + len * e) ++ new ++ (bJ c m).drop (a.off + len * e + new.length)) e true)], _, _, by rw [if_pos q0, if_pos rfl, splice, if_pos (by rw [bd]; exact q2)]; rfl, ?_, hk⟩
        rw [fL]
        show (toL h).set a.block (.o (.cells (bJ (insT new (a.off + len * e) c) m) e true)) = _
        rw [lm q2]; rfl
       ·cases hk
      ·rename_i q0
       have q0 : ¬ len + n ≤ cap := fun h => by rw [← Nat.ble_eq, q0] at h; cases h
       split at hk
       ·rename_i q1
        obtain ⟨y, e1, hk⟩ := qy hb hk
        rw [fR, gO] at hk
        refine ⟨[.push (.cells (((bJ c m).drop a.off).take (len * e) ++ new) e true)], _, _, by rw [if_neg q0, if_pos q1], ?_, hk⟩
        rw [fU, e1]; rfl
       ·cases hk
    ·cases hk
   ·cases hk
 ·cases hk
theorem heapB_ok {T : Nat → Site} {f : Hp} {h : HTr} {K : List Value → HTr → RT} (hk : heapB T f h K = some w) :
  ∃ acts cs h', f.run (getH T (toL h)) (toL h).length = some (acts, cs) ∧ toL h' = gk (toL h) acts ∧ K cs h' = some w := by
 unfold heapB at hk
 cases f with
 | st p new => exact stB_ok (n0 := (toL h).length) hk
 | ap C esz bytes s x => exact apB_ok hk
 | fn f =>
  simp only at hk
  rw [jt] at hk
  split at hk
  ·rename_i p e
   rw [kC] at hk
   obtain ⟨h', e2, hk⟩ := mh hk
   exact ⟨p.1, p.2, h', by rw [eg]; exact e, e2, hk⟩
  ·cases hk
theorem toSL_ok {k : LK} {v : Value} {l : SL} (h : toSL k v = some l) : l.is k = true ∧ l.val = v ∧ l.good := by
 cases k with
 | i k =>
  cases v <;> simp only [toSL] at h <;> first | cases h | skip
  split at h
  ·rename_i e; cases h; exact ⟨e, rfl, trivial⟩
  ·cases h
 | b =>
  cases v <;> simp only [toSL] at h <;> cases h
  exact ⟨rfl, rfl, trivial⟩
 | v =>
  simp only [toSL] at h
  split at h
  ·rename_i e; cases h; exact ⟨rfl, rfl, e⟩
  ·cases h
theorem rl : ∀ {ks : List LK} {vs : List Value} {xs : List SL}, toSLs ks vs = some xs → aF xs ks = true ∧ xs.map SL.val = vs ∧ ∀ x ∈ xs, x.good
 | [], [], xs, h => by cases h; exact ⟨rfl, rfl, fun _ h => by cases h⟩
 | k :: ks, v :: vs, xs, h => by
  simp only [toSLs] at h
  split at h
  ·rename_i x e
   split at h
   ·rename_i ys e2
    cases h
    obtain ⟨a1, a2, a3⟩ := toSL_ok e
    obtain ⟨b1, b2, b3⟩ := rl e2
    refine ⟨by simp [aF, a1, b1], by simp [a2, b2], fun y hy => ?_⟩
    rcases List.mem_cons.1 hy with rfl | hy
    ·exact a3
    ·exact b3 y hy
   ·cases h
  ·cases h
 | [], _ :: _, _, h => by cases h
 | _ :: _, [], _, h => by cases h
theorem toS0_ok {sk : SK} {v : Value} {x : S0} (h : toS0 sk v = some x) : x.is sk = true ∧ x.val = v ∧ x.good := by
 cases sk with
 | leaf k =>
  obtain ⟨l, e, rfl⟩ := Option.map_eq_some_iff.1 h
  obtain ⟨a1, a2, a3⟩ := toSL_ok e
  refine ⟨a1, a2, fun y hy => ?_⟩
  simp only [S0.cells, List.mem_singleton] at hy
  subst hy; exact a3
 | agg ks =>
  cases v <;> simp only [toS0] at h <;> first | cases h | skip
  obtain ⟨l, e, rfl⟩ := Option.map_eq_some_iff.1 h
  obtain ⟨a1, a2, a3⟩ := rl e
  exact ⟨a1, by simp [S0.val, a2], a3⟩
theorem nH : ∀ {sks : List SK} {vs : List Value} {xs : List S0}, toS0s sks vs = some xs → bN xs sks = true ∧ aj xs = vs ∧ ∀ x ∈ xs, x.good
 | [], [], xs, h => by cases h; exact ⟨rfl, rfl, fun _ h => by cases h⟩
 | k :: ks, v :: vs, xs, h => by
  simp only [toS0s] at h
  split at h
  ·rename_i x e
   split at h
   ·rename_i ys e2
    cases h
    obtain ⟨a1, a2, a3⟩ := toS0_ok e
    obtain ⟨b1, b2, b3⟩ := nH e2
    refine ⟨by simp [bN, a1, b1], by simp only [aj, List.map_cons, a2] at b2 ⊢; rw [b2], fun y hy => ?_⟩
    rcases List.mem_cons.1 hy with rfl | hy
    ·exact a3
    ·exact b3 y hy
   ·cases h
  ·cases h
 | [], _ :: _, _, h => by cases h
 | _ :: _, [], _, h => by cases h
theorem eqLK_ok {a b : LK} (h : eqLK a b = true) : a = b := by
 cases a <;> cases b <;> simp only [eqLK] at h <;> first | rfl | cases h | skip
 rw [dl h]
theorem qq : ∀ {a b : List LK}, eqLKs a b = true → a = b
 | [], [], _ => rfl
 | a :: l, b :: m, h => by
  simp only [eqLKs, Bool.and_eq_true] at h
  rw [eqLK_ok h.1, qq h.2]
 | [], _ :: _, h => by cases h
 | _ :: _, [], h => by cases h
theorem eqSK_ok {a b : SK} (h : eqSK a b = true) : a = b := by
 cases a <;> cases b <;> simp only [eqSK] at h <;> first | cases h | skip
 ·rw [eqLK_ok h]
 ·rw [qq h]
theorem mw : ∀ {a b : List SK}, eqSKs a b = true → a = b
 | [], [], _ => rfl
 | a :: l, b :: m, h => by
  simp only [eqSKs, Bool.and_eq_true] at h
  rw [eqSK_ok h.1, mw h.2]
 | [], _ :: _, h => by cases h
 | _ :: _, [], h => by cases h
theorem dM : ∀ {ls : List Lf}, aE ls = true → dg ls
 | [], _ => fun _ h => by cases h
 | .i n :: ls, h => fun l hl => by
  rcases List.mem_cons.1 hl with rfl | hl
  ·trivial
  ·exact dM (ls := ls) h l hl
 | .b n :: ls, h => fun l hl => by
  rcases List.mem_cons.1 hl with rfl | hl
  ·trivial
  ·exact dM (ls := ls) h l hl
 | .v n :: ls, h => fun l hl => by
  have h : (match goodF n with | true => aE ls | false => false) = true := h
  split at h
  ·rename_i e
   rw [qx] at e
   rcases List.mem_cons.1 hl with rfl | hl
   ·exact e
   ·exact dM (ls := ls) h l hl
  ·cases h
theorem qn {C : Cfg} {Sg : FuncId → Option Sig} {T : Nat → Site} {call : ab} (hc : CallBOk C Sg T call) {g : FuncId} {ls : List Lf} {h : HTr} {K : List Lf → HTr → RT} (hk : rx call g ls h K = some w) :
  ∃ rs h', bm C Sg g ls (absH T (toL h)) rs (absH T (toL h')) ∧ K rs h' = some w := by
 unfold rx at hk
 split at hk
 ·rename_i e; exact hc.f g ls h K w (dM e) hk
 ·cases hk
theorem jD {C : Cfg} {Sg : FuncId → Option Sig} {T : Nat → Site} {call : ab} (hc : CallBOk C Sg T call) {g : FuncId} {hs : Option (List SK)} {vals : List Value} {h : HTr} {K : List Lf → HTr → RT} (hk : jp Sg call g hs vals h K = some w) :
  ∃ sg rs ys h', Sg g = some sg ∧ (∀ x, hs = some x → sg.rs = x) ∧ Told sg.rs rs ys ∧ gc C g vals (absH T (toL h)) (dP (aj ys)) (absH T (toL h')) ∧ K rs h' = some w := by
 unfold jp at hk
 split at hk
 ·cases hk
 ·rename_i sg e
  split at hk
  ·cases hk
  ·rename_i e2
   split at hk
   ·cases hk
   ·rename_i xs e3
    obtain ⟨rs, h', ⟨sg', xs', ys, c1, c2, c3, c4⟩, hk⟩ := qn hc hk
    rw [e] at c1
    cases c1
    obtain ⟨d1, d2, d3⟩ := nH e3
    obtain ⟨w1, _⟩ := cP c2.1 d1 c2.2.1
    rw [w1, d2] at c4
    refine ⟨sg, rs, ys, h', e, fun x hx => ?_, c3, c4, hk⟩
    subst hx
    exact mw e2
theorem gT {T : Nat → Site} {h : HTr} {l κ : Nat} {st : LoopState} {pd : Option Code} {vs : List Value} (e : h.at l = some (.lp κ st pd vs)) : cY (absH T (toL h)) l = some { lpOf (T κ) κ vs with state := st, pending := pd } := by
 unfold cY absH
 rw [List.getElem?_map, iI, e]
 rfl
theorem callvB_ok {C : Cfg} {Sg : FuncId → Option Sig} {T : Nat → Site} {call : ab} (hc : CallBOk C Sg T call) {v : Value} {args : List Value} {hs : List SK} {h : HTr} {K : List Lf → HTr → RT} (hk : nT Sg T call v args hs h K = some w) :
  ∃ rs h', CallV C v args hs (absH T (toL h)) rs (absH T (toL h')) ∧ K rs h' = some w := by
 unfold nT at hk
 split at hk
 ·rename_i fn first cap
  split at hk
  ·rename_i g
   obtain ⟨sg, rs, ys, h', c1, c2, c3, c4, c5⟩ := jD hc hk
   rw [c2 _ rfl] at c3
   exact ⟨rs, h', ⟨ys, c3, .inl ⟨g, first, cap, rfl, c4⟩⟩, c5⟩
  ·rename_i l
   split at hk
   ·rename_i e1 e2
    have e1 : first = #[] := Array.toList_inj.1 e1
    have e2 : cap = #[] := Array.toList_inj.1 e2
    subst e1 e2
    split at hk
    ·rename_i κ st pd vs e
     split at hk
     ·cases hk
     ·rename_i e3
      have e3 := mw e3
      subst e3
      split at hk
      ·cases hk
      ·rename_i xs e4
       split at hk
       ·rename_i e5
        obtain ⟨d1, d2, d3⟩ := nH e4
        obtain ⟨b, h', y1, y2⟩ := hc.y κ vs l _ h K w st pd xs e ⟨d1, rfl, d3⟩ hk
        rw [d2] at y1
        refine ⟨[.b b], h', ⟨[.leaf (.b b)], ⟨rfl, rfl, fun x hx => ?_⟩, .inr ⟨l, rfl, y1⟩⟩, y2⟩
        simp only [List.mem_singleton] at hx
        subst hx
        intro y hy
        simp only [S0.cells, List.mem_singleton] at hy
        subst hy; trivial
       ·cases hk
    ·cases hk
   ·cases hk
  ·cases hk
 ·cases hk
theorem rfunB_ok {C : Cfg} {Sg : FuncId → Option Sig} {T : Nat → Site} {call : ab} (hc : CallBOk C Sg T call) {κ : Nat} {v : Value} {vals : List Value} {h : HTr} {K : Option Code → HTr → RT} (hk : rfunB Sg call κ v vals h K = some w) :
  ∃ g first cap r H1 lp h2, v = .func (.func g) first cap ∧ gc C g (first.toList ++ [.func (.yield (absH T (toL h)).length) #[] #[]] ++ cap.toList) (absH T (toL h) ++ [.loop (lpOf (T κ) κ vals)]) r H1 ∧
   cY H1 (absH T (toL h)).length = some lp ∧ lp.state ≠ .busy ∧ absH T (toL h2) = H1.set (absH T (toL h)).length (.loop { lp with state := .exhausted }) ∧ K lp.pending h2 = some w := by
 unfold rfunB at hk
 split at hk
 ·rename_i fn first cap
  split at hk
  ·rename_i g
   rw [fR] at hk
   obtain ⟨sg, rs, ys, h', _, _, c3, c4, c5⟩ := jD hc hk
   have hlen : (absH T (toL h)).length = h.n := by rw [gE, eg]
   split at c5
   ·rename_i κ' st pd vs e
    have hl := gT (T := T) e
    rw [fU, gF] at c4
    have fin : ∀ (hst : st ≠ .busy), (putK h' h.n (.lp κ' .exhausted pd vs) fun h2 => K pd h2) = some w → ∃ g' first' cap' r H1 lp h2, (Value.func (.func g) first cap) = .func (.func g') first' cap' ∧ gc C g' (first'.toList ++ [.func (.yield (absH T (toL h)).length) #[] #[]] ++ cap'.toList) (absH T (toL h) ++ [.loop (lpOf (T κ) κ vals)]) r H1 ∧
      cY H1 (absH T (toL h)).length = some lp ∧ lp.state ≠ .busy ∧ absH T (toL h2) = H1.set (absH T (toL h)).length (.loop { lp with state := .exhausted }) ∧ K lp.pending h2 = some w := by
     intro hst hk
     rw [fE] at hk
     refine ⟨g, first, cap, dP (aj ys), absH T (toL h'), { lpOf (T κ') κ' vs with state := st, pending := pd }, h'.put h.n (.lp κ' .exhausted pd vs), rfl, ?_, ?_, hst, ?_, hk⟩
     ·rw [hlen]; exact c4
     ·rw [hlen]; exact hl
     ·rw [fL, gG, hlen]; rfl
    cases st with
    | busy => cases c5
    | _ => exact fin (by simp) c5
   ·cases c5
  ·cases hk
 ·cases hk
theorem oW {id : Nat} : ∀ {ks : List (Nat × RT)}, (List.rec none (fun p _ ih => match Nat.beq p.1 id with | true => p.2 | false => ih) ks : RT) = some w →
  ∃ id' x, some (Code.exit id) = some (Code.exit id') ∧ (id', x) ∈ ks ∧ x = some w
 | [], h => by cases h
 | p :: ks, h => by
  have h : (match Nat.beq p.1 id with | true => p.2 | false => (List.rec none (fun p _ ih => match Nat.beq p.1 id with | true => p.2 | false => ih) ks : RT)) = some w := h
  split at h
  ·rename_i e
   exact ⟨id, p.2, rfl, by rw [← Nat.eq_of_beq_eq_true e]; exact List.mem_cons_self, h⟩
  ·obtain ⟨id', x, a, b, c⟩ := oW h
   exact ⟨id', x, a, List.mem_cons_of_mem _ b, c⟩
theorem shfB_ok {op : BinOp} {k k' : IntKind} {a b : Int} {K : Int → RT} (h : shfB op k a k' b K = some w) : ∃ n, ShRun op k a k' b n ∧ K n = some w := by
 unfold shfB at h
 split at h
 ·rename_i hb
  have hb : ¬ b < 0 := by have := leZ_iff.1 hb; omega
  split at h
  ·rw [jS] at h
   exact ⟨_, fun P t w => by simp [binOp, Op.shift, hb], h⟩
  ·rw [jS] at h
   exact ⟨_, fun P t w => by simp [binOp, Op.shift, hb], h⟩
  ·cases h
 ·cases h
theorem BA_ok {C : Cfg} {Sg : FuncId → Option Sig} {T : Nat → Site} {call : ab} (hc : CallBOk C Sg T call) : AlgOk (BA Sg T call) C Sg T (fun b => b = some w) (fun h => absH T (toL h)) where
 fail := by intro h; cases h
 cond := by
  intro b x y h
  cases b
  ·exact .inr ⟨rfl, h⟩
  ·exact .inl ⟨rfl, h⟩
 ari := fun op k a b K h => ariB_ok h
 shf := fun op k a k' b K h => shfB_ok h
 cmp := fun op a b K h => cmpB_ok h
 eqs := fun l K h => eqsB_ok h
 conv := fun k a K h => fitsK h
 sel := by intro t a b K h; cases t <;> exact h
 opt := by
  intro α o K h
  cases o with
  | none => cases h
  | some x => exact ⟨x, rfl, h⟩
 chk := by
  intro v K h
  have h : chkB v K = some w := h
  unfold chkB at h
  split at h
  ·rename_i e; rw [qx] at e; exact ⟨e, h⟩
  ·cases h
 unI := by
  intro ls K h
  match ls, h with
  | .i n :: r, h => exact ⟨n, r, rfl, h⟩
 unB := by
  intro ls K h
  match ls, h with
  | .b n :: r, h => exact ⟨n, r, rfl, h⟩
 unV := by
  intro ls K h
  match ls, h with
  | .v n :: r, h => exact ⟨n, r, rfl, h⟩
 un0 := by
  intro ls K h
  match ls, h with
  | [], h => exact ⟨rfl, h⟩
 ucI := by
  intro k ls K h
  match ls, h with
  | .int k' n :: r, h =>
   have h : (match ek k k' with | true => K n r | false => none) = some w := h
   split at h
   ·rename_i e; rw [dl e]; exact ⟨n, r, rfl, h⟩
   ·cases h
 ucB := by
  intro ls K h
  match ls, h with
  | .bool n :: r, h => exact ⟨n, r, rfl, h⟩
 ucV := by
  intro ls K h
  match ls, h with
  | n :: r, h => exact ⟨n, r, rfl, h⟩
 uc0 := by
  intro ls K h
  match ls, h with
  | [], h => exact ⟨rfl, h⟩
 peek := by
  intro f h K hk
  have hk : peekB T f h K = some w := hk
  unfold peekB at hk
  rw [← jW]
  cases f with
  | ld n p => exact ldB_ok hk
  | lg C n p => exact lgB_ok hk
  | fn f =>
   simp only at hk
   rw [jt] at hk
   split at hk
   ·rename_i x e; exact ⟨x, e, hk⟩
   ·cases hk
 heap := by
  intro f h K hk
  have hk : heapB T f h K = some w := hk
  obtain ⟨acts, cs, h', a1, a2, a3⟩ := heapB_ok hk
  exact ⟨acts, cs, h', by rw [← jW, gE]; exact a1, by rw [a2]; exact ig T acts (toL h), a3⟩
 new := by
  intro o h K hk
  have hk : newB o h K = some w := hk
  unfold newB at hk
  obtain ⟨x, e1, e2⟩ := gU (o := o) (k := fun o => iC h o fun h' => K h.n h')
  rw [e2, fR] at hk
  exact ⟨h.push x, by rw [fU, e1]; exact gF T (toL h) _, by rw [gE, eg]; exact hk⟩
 call := fun g ls h K hk => qn hc hk
 callv := fun v args hs h K hk => callvB_ok hc hk
 join := fun b m h => h
 loop := by
  intro F ls h hk
  refine ⟨fun n => Nat.rec (motive := fun _ => List Lf → HTr → RT) (fun _ _ => none) (fun _ ih ls h => F ih ls h) n, fun ls h => (by simp), fun n ls h => rfl, 1000000, hk⟩
 rfun := fun κ v vals h K hk => rfunB_ok hc hk
 pend := by
  intro pd kn kr ks h
  cases pd with
  | none => exact .inl ⟨rfl, h⟩
  | some c =>
   cases c <;> first | exact .inr (.inl ⟨rfl, h⟩) | skip
   case exit id =>
    exact .inr (.inr (oW h))
   all_goals cases h
 lp1 := by
  intro l h K hk
  have hk : lp1B l h K = some w := hk
  unfold lp1B at hk
  split at hk
  ·rename_i κ st pd vs e
   split at hk
   ·rw [fE] at hk
    exact ⟨_, _, gT e, rfl, by rw [fL]; exact gG T (toL h) l _, hk⟩
   ·cases hk
  ·cases hk
 lp2 := by
  intro l j h K hk
  have hk : lp2B l j h K = some w := hk
  unfold lp2B at hk
  split at hk
  ·rename_i κ st pd vs e
   cases j with
   | none =>
    have hk : putK h l (.lp κ .ready none vs) K = some w := hk
    rw [fE] at hk
    exact ⟨_, h.put l (.lp κ .ready none vs), gT e, (congrArg (absH T) (fL h l (.lp κ .ready none vs))).trans (gG T (toL h) l (.lp κ .ready none vs)), hk⟩
   | some c =>
    have hk : putK h l (.lp κ .done (some c) vs) K = some w := hk
    rw [fE] at hk
    exact ⟨_, h.put l (.lp κ .done (some c) vs), gT e, (congrArg (absH T) (fL h l (.lp κ .done (some c) vs))).trans (gG T (toL h) l (.lp κ .done (some c) vs)), hk⟩
  ·cases hk
inductive TabOk (C : Cfg) (Sg : FuncId → Option Sig) (X : Ctxt) (dr : List Nat → Array Oper → Bool) (A : Alg RT HTr) (f : FuncId) (ls : List Lf) (h : HTr) (K : List Lf → HTr → RT) (w : List Lf) : Prop
 |run (fn : Fn1) (hi : FnIs X Sg f fn) (he : aQ A X Sg dr fn ls h K = some w)
 |known (rs : List Lf) (hc : ∀ H, bm C Sg f ls H rs H) (hk : K rs h = some w)
 | alone (fn : Fn1) (rs : List Lf) (sg : Sig) (hi : FnIs X Sg f fn) (hs : Sg f = some sg) (hp : sg.plain = true) (he : aQ A X Sg dr fn ls .empty (fun rs _ => some rs) = some rs) (hk : K rs h = some w)
end
end Sx
end Go.Am

/-
 CALLS THAT LEAVE NOTHING BEHIND: a run that begins with an empty heap is a run over any heap.
-/
namespace Go.Am
namespace Sx
section
variable [Val]
theorem objR_keep {mu : HMap} {p : Pl} {x y : Option Obj} {o : HObj} (hxy : ∀ a, x = some a → y = some a) (h : objR mu p x o) : objR mu p y o := by
 cases o with
 | cells vs esz rw =>
  obtain ⟨h1, h2, h3, c, e, fr, h4, h5⟩ := h
  exact ⟨h1, h2, h3, c, e, fr, hxy _ h4, h5⟩
 | map es clock =>
  obtain ⟨es', h1, h2⟩ := h
  exact ⟨es', hxy _ h1, h2⟩
 | loop r =>
  obtain ⟨L, h1, h2⟩ := h
  exact ⟨L, hxy _ h1, h2⟩
 | siter s pos => exact hxy _ h
 | dead => trivial
theorem flatVRs {la : LMap} {mu mu' : HMap} {vs cs : List Value} (hf : vs.all flat = true) (h : VRs la mu vs cs) : VRs la mu' vs cs := by
 refine ⟨h.1, fun i x y hx hy => ?_⟩
 have h1 := h.2 i x y hx hy
 have h2 : flat x = true := List.all_eq_true.1 hf x (List.mem_of_getElem? hx)
 rw [mF h2 h1]
 exact .of_flat h2
theorem no_own {mu : HMap} {b : Nat} : ¬ Own mu [] b := by
 rintro ⟨id, o, p, h, _⟩
 simp at h
theorem frame_ok {C : Cfg} (hG : ∀ g vs, C.G g = some vs → vs.all flat = true) {f : FuncId} {args : List Value} {r : Value} {H' : List HObj} (h : dJ C f args [] r H') (ha : args.all flat = true) (hr : flat r = true) (H : List HObj) : dJ C f args H r H := by
 intro base mu w args' hb hargs hW
 have hW0 : WR C w.heap.size (fun _ => none) [] w := by
  refine ⟨fun id o h => by simp at h, fun i j oi oj pi pj h => by simp at h, fun i o p h => by simp at h, fun i o p h => by simp at h, fun _ _ => rfl, fun g vs hg => ?_⟩
  obtain ⟨h1, h2, c, e, fr, h3, h4⟩ := hW.glob g vs hg
  exact ⟨by omega, h2, c, e, fr, h3, flatVRs (hG g vs hg) h4⟩
 obtain ⟨v, mu', w', a1, a2, a3, a4, a5⟩ := h w.heap.size (fun _ => none) w args' (Nat.le_refl _) (flatVRs ha hargs) hW0
 have hkeep : ∀ (b : Nat) x, w.heap[b]? = some x → w'.heap[b]? = some x := by
  intro b x hx
  have hlt : b < w.heap.size := by
   rcases Nat.lt_or_ge b w.heap.size with h | h
   ·exact h
   ·rw [Array.getElem?_eq_none h] at hx; cases hx
  rw [a3.keep b hlt no_own]; exact hx
 refine ⟨v, mu, w', ?_, ?_, ?_, a4, a5⟩
 ·rw [mF hr a1]; exact .of_flat hr
 ·refine ⟨fun id o h1 h2 => ?_, hW.inj, hW.own, hW.ro, hW.dom, fun g vs hg => ?_⟩
  ·obtain ⟨p, h3, h4⟩ := hW.obj id o h1 h2
   exact ⟨p, h3, objR_keep (hkeep p.b) h4⟩
  ·obtain ⟨h1, h2, c, e, fr, h3, h4⟩ := hW.glob g vs hg
   exact ⟨h1, h2, c, e, fr, hkeep _ _ h3, h4⟩
 ·exact ⟨Nat.le_refl _, fun _ _ => rfl, a3.size, fun b hb _ => a3.keep b hb no_own, fun b h => .inr h, a3.os, a3.tape, a3.output⟩
end
section
variable [Val] [Kno]
end
end Sx
end Go.Am

/-
 THE FUNCTIONS OF THE PROGRAM ARE WHAT IS TOLD OF THEM, BY PROGRAM.
-/
set_option maxRecDepth 100000
namespace Go.Am
open Sx Go.Proofs
def neuT : List (Nat × Nat) := [(22, 2), (66, 3)]
def lookN (l : List (Nat × Nat)) (f : Nat) : Option Nat := match l with
 | [] => none
 | p :: l => match Nat.beq p.1 f with
  | true => some p.2
  | false => lookN l f
def neuN (f : FuncId) : Option Nat := lookN neuT f
theorem oN {f n : Nat} : ∀ {l : List (Nat × Nat)}, lookN l f = some n → (f, n) ∈ l
 | p :: l, h => by
  unfold lookN at h
  split at h
  ·rename_i e
   cases h
   have := Nat.eq_of_beq_eq_true e
   subst this
   exact List.mem_cons_self
  ·exact List.mem_cons_of_mem _ (oN h)
theorem neuT_ok : (neuT.all fun p => neuF neuN cc p.1 p.2) = true := by kernel_rfl
theorem neuN_ok (f n : Nat) (h : neuN f = some n) : neuF neuN cc f n = true := List.all_eq_true.1 neuT_ok (f, n) (oN h)
noncomputable def drN (pts : List Nat) (ops : Array Oper) : Bool := pg neuN pts ops
noncomputable def n15 : Fn1 := fn1 cc.P 15 ((ae 15).getD ⟨[], []⟩) an15
noncomputable def n40 : Fn1 := fn1 cc.P 40 ((ae 40).getD ⟨[], []⟩) an40
noncomputable def n41 : Fn1 := fn1 cc.P 41 ((ae 41).getD ⟨[], []⟩) an41
noncomputable def n43 : Fn1 := fn1 cc.P 43 ((ae 43).getD ⟨[], []⟩) an43
noncomputable def n44 : Fn1 := fn1 cc.P 44 ((ae 44).getD ⟨[], []⟩) an44
noncomputable def n47 : Fn1 := fn1 cc.P 47 ((ae 47).getD ⟨[], []⟩) an47
noncomputable def n48 : Fn1 := fn1 cc.P 48 ((ae 48).getD ⟨[], []⟩) an48
noncomputable def n50 : Fn1 := fn1 cc.P 50 ((ae 50).getD ⟨[], []⟩) an50
noncomputable def n52 : Fn1 := fn1 cc.P 52 ((ae 52).getD ⟨[], []⟩) an52
noncomputable def n55 : Fn1 := fn1 cc.P 55 ((ae 55).getD ⟨[], []⟩) an55
noncomputable def n59 : Fn1 := fn1 cc.P 59 ((ae 59).getD ⟨[], []⟩) an59
noncomputable def n60 : Fn1 := fn1 cc.P 60 ((ae 60).getD ⟨[], []⟩) an60
noncomputable def n61 : Fn1 := fn1 cc.P 61 ((ae 61).getD ⟨[], []⟩) an61
noncomputable def n62 : Fn1 := fn1 cc.P 62 ((ae 62).getD ⟨[], []⟩) an62
noncomputable def n63 : Fn1 := fn1 cc.P 63 ((ae 63).getD ⟨[], []⟩) an63
noncomputable def n66 : Fn1 := fn1 cc.P 66 ((ae 66).getD ⟨[], []⟩) an66
noncomputable def n74 : Fn1 := fn1 cc.P 74 ((ae 74).getD ⟨[], []⟩) an74
noncomputable def n75 : Fn1 := fn1 cc.P 75 ((ae 75).getD ⟨[], []⟩) an75
noncomputable def n78 : Fn1 := fn1 cc.P 78 ((ae 78).getD ⟨[], []⟩) an78
noncomputable def n79 : Fn1 := fn1 cc.P 79 ((ae 79).getD ⟨[], []⟩) an79
noncomputable def n80 : Fn1 := fn1 cc.P 80 ((ae 80).getD ⟨[], []⟩) an80
noncomputable def n82 : Fn1 := fn1 cc.P 82 ((ae 82).getD ⟨[], []⟩) an82
noncomputable def n83 : Fn1 := fn1 cc.P 83 ((ae 83).getD ⟨[], []⟩) an83
noncomputable def n85 : Fn1 := fn1 cc.P 85 ((ae 85).getD ⟨[], []⟩) an85
noncomputable def n86 : Fn1 := fn1 cc.P 86 ((ae 86).getD ⟨[], []⟩) an86
noncomputable def n87 : Fn1 := fn1 cc.P 87 ((ae 87).getD ⟨[], []⟩) an87
noncomputable def n88 : Fn1 := fn1 cc.P 88 ((ae 88).getD ⟨[], []⟩) an88
noncomputable def n90 : Fn1 := fn1 cc.P 90 ((ae 90).getD ⟨[], []⟩) an90
noncomputable def n91 : Fn1 := fn1 cc.P 91 ((ae 91).getD ⟨[], []⟩) an91
noncomputable def n92 : Fn1 := fn1 cc.P 92 ((ae 92).getD ⟨[], []⟩) an92
noncomputable def n94 : Fn1 := fn1 cc.P 94 ((ae 94).getD ⟨[], []⟩) an94
noncomputable def n95 : Fn1 := fn1 cc.P 95 ((ae 95).getD ⟨[], []⟩) an95
noncomputable def n96 : Fn1 := fn1 cc.P 96 ((ae 96).getD ⟨[], []⟩) an96
noncomputable def n97 : Fn1 := fn1 cc.P 97 ((ae 97).getD ⟨[], []⟩) an97
noncomputable def n98 : Fn1 := fn1 cc.P 98 ((ae 98).getD ⟨[], []⟩) an98
noncomputable def n99 : Fn1 := fn1 cc.P 99 ((ae 99).getD ⟨[], []⟩) an99
noncomputable def n100 : Fn1 := fn1 cc.P 100 ((ae 100).getD ⟨[], []⟩) an100
noncomputable def n101 : Fn1 := fn1 cc.P 101 ((ae 101).getD ⟨[], []⟩) an101
noncomputable def n102 : Fn1 := fn1 cc.P 102 ((ae 102).getD ⟨[], []⟩) an102
noncomputable def n103 : Fn1 := fn1 cc.P 103 ((ae 103).getD ⟨[], []⟩) an103
noncomputable def n104 : Fn1 := fn1 cc.P 104 ((ae 104).getD ⟨[], []⟩) an104
noncomputable def n105 : Fn1 := fn1 cc.P 105 ((ae 105).getD ⟨[], []⟩) an105
noncomputable def n106 : Fn1 := fn1 cc.P 106 ((ae 106).getD ⟨[], []⟩) an106
theorem i15 : FnIs (xc 15) ae 15 n15 := ⟨⟨Tryd.f15, Tryd.func15, by kernel_rfl, by kernel_rfl, by kernel_rfl, by kernel_rfl⟩, rfl, by kernel_rfl⟩
theorem i40 : FnIs (xc 40) ae 40 n40 := ⟨⟨Tryd.f40, Tryd.func40, by kernel_rfl, by kernel_rfl, by kernel_rfl, by kernel_rfl⟩, rfl, by kernel_rfl⟩
theorem i41 : FnIs (xc 41) ae 41 n41 := ⟨⟨Tryd.f41, Tryd.func41, by kernel_rfl, by kernel_rfl, by kernel_rfl, by kernel_rfl⟩, rfl, by kernel_rfl⟩
theorem i43 : FnIs (xc 43) ae 43 n43 := ⟨⟨Tryd.f43, Tryd.func43, by kernel_rfl, by kernel_rfl, by kernel_rfl, by kernel_rfl⟩, rfl, by kernel_rfl⟩
theorem i44 : FnIs (xc 44) ae 44 n44 := ⟨⟨Tryd.f44, Tryd.func44, by kernel_rfl, by kernel_rfl, by kernel_rfl, by kernel_rfl⟩, rfl, by kernel_rfl⟩
theorem i47 : FnIs (xc 47) ae 47 n47 := ⟨⟨Tryd.f47, Tryd.func47, by kernel_rfl, by kernel_rfl, by kernel_rfl, by kernel_rfl⟩, rfl, by kernel_rfl⟩
theorem i48 : FnIs (xc 48) ae 48 n48 := ⟨⟨Tryd.f48, Tryd.func48, by kernel_rfl, by kernel_rfl, by kernel_rfl, by kernel_rfl⟩, rfl, by kernel_rfl⟩
theorem i50 : FnIs (xc 50) ae 50 n50 := ⟨⟨Tryd.f50, Tryd.func50, by kernel_rfl, by kernel_rfl, by kernel_rfl, by kernel_rfl⟩, rfl, by kernel_rfl⟩
theorem i52 : FnIs (xc 52) ae 52 n52 := ⟨⟨Tryd.f52, Tryd.func52, by kernel_rfl, by kernel_rfl, by kernel_rfl, by kernel_rfl⟩, rfl, by kernel_rfl⟩
theorem i55 : FnIs (xc 55) ae 55 n55 := ⟨⟨Tryd.f55, Tryd.func55, by kernel_rfl, by kernel_rfl, by kernel_rfl, by kernel_rfl⟩, rfl, by kernel_rfl⟩
theorem i59 : FnIs (xc 59) ae 59 n59 := ⟨⟨Tryd.f59, Tryd.func59, by kernel_rfl, by kernel_rfl, by kernel_rfl, by kernel_rfl⟩, rfl, by kernel_rfl⟩
theorem i60 : FnIs (xc 60) ae 60 n60 := ⟨⟨Tryd.f60, Tryd.func60, by kernel_rfl, by kernel_rfl, by kernel_rfl, by kernel_rfl⟩, rfl, by kernel_rfl⟩
theorem i61 : FnIs (xc 61) ae 61 n61 := ⟨⟨Tryd.f61, Tryd.func61, by kernel_rfl, by kernel_rfl, by kernel_rfl, by kernel_rfl⟩, rfl, by kernel_rfl⟩
theorem i62 : FnIs (xc 62) ae 62 n62 := ⟨⟨Tryd.f62, Tryd.func62, by kernel_rfl, by kernel_rfl, by kernel_rfl, by kernel_rfl⟩, rfl, by kernel_rfl⟩
theorem i63 : FnIs (xc 63) ae 63 n63 := ⟨⟨Tryd.f63, Tryd.func63, by kernel_rfl, by kernel_rfl, by kernel_rfl, by kernel_rfl⟩, rfl, by kernel_rfl⟩
theorem i66 : FnIs (xc 66) ae 66 n66 := ⟨⟨Tryd.f66, Tryd.func66, by kernel_rfl, by kernel_rfl, by kernel_rfl, by kernel_rfl⟩, rfl, by kernel_rfl⟩
theorem i74 : FnIs (xc 74) ae 74 n74 := ⟨⟨Tryd.f74, Tryd.func74, by kernel_rfl, by kernel_rfl, by kernel_rfl, by kernel_rfl⟩, rfl, by kernel_rfl⟩
theorem i75 : FnIs (xc 75) ae 75 n75 := ⟨⟨Tryd.f75, Tryd.func75, by kernel_rfl, by kernel_rfl, by kernel_rfl, by kernel_rfl⟩, rfl, by kernel_rfl⟩
theorem i78 : FnIs (xc 78) ae 78 n78 := ⟨⟨Tryd.f78, Tryd.func78, by kernel_rfl, by kernel_rfl, by kernel_rfl, by kernel_rfl⟩, rfl, by kernel_rfl⟩
theorem i79 : FnIs (xc 79) ae 79 n79 := ⟨⟨Tryd.f79, Tryd.func79, by kernel_rfl, by kernel_rfl, by kernel_rfl, by kernel_rfl⟩, rfl, by kernel_rfl⟩
theorem i80 : FnIs (xc 80) ae 80 n80 := ⟨⟨Tryd.f80, Tryd.func80, by kernel_rfl, by kernel_rfl, by kernel_rfl, by kernel_rfl⟩, rfl, by kernel_rfl⟩
theorem i82 : FnIs (xc 82) ae 82 n82 := ⟨⟨Tryd.f82, Tryd.func82, by kernel_rfl, by kernel_rfl, by kernel_rfl, by kernel_rfl⟩, rfl, by kernel_rfl⟩
theorem i83 : FnIs (xc 83) ae 83 n83 := ⟨⟨Tryd.f83, Tryd.func83, by kernel_rfl, by kernel_rfl, by kernel_rfl, by kernel_rfl⟩, rfl, by kernel_rfl⟩
theorem i85 : FnIs (xc 85) ae 85 n85 := ⟨⟨Tryd.f85, Tryd.func85, by kernel_rfl, by kernel_rfl, by kernel_rfl, by kernel_rfl⟩, rfl, by kernel_rfl⟩
theorem i86 : FnIs (xc 86) ae 86 n86 := ⟨⟨Tryd.f86, Tryd.func86, by kernel_rfl, by kernel_rfl, by kernel_rfl, by kernel_rfl⟩, rfl, by kernel_rfl⟩
theorem i87 : FnIs (xc 87) ae 87 n87 := ⟨⟨Tryd.f87, Tryd.func87, by kernel_rfl, by kernel_rfl, by kernel_rfl, by kernel_rfl⟩, rfl, by kernel_rfl⟩
theorem i88 : FnIs (xc 88) ae 88 n88 := ⟨⟨Tryd.f88, Tryd.func88, by kernel_rfl, by kernel_rfl, by kernel_rfl, by kernel_rfl⟩, rfl, by kernel_rfl⟩
theorem i90 : FnIs (xc 90) ae 90 n90 := ⟨⟨Tryd.f90, Tryd.func90, by kernel_rfl, by kernel_rfl, by kernel_rfl, by kernel_rfl⟩, rfl, by kernel_rfl⟩
theorem i91 : FnIs (xc 91) ae 91 n91 := ⟨⟨Tryd.f91, Tryd.func91, by kernel_rfl, by kernel_rfl, by kernel_rfl, by kernel_rfl⟩, rfl, by kernel_rfl⟩
theorem i92 : FnIs (xc 92) ae 92 n92 := ⟨⟨Tryd.f92, Tryd.func92, by kernel_rfl, by kernel_rfl, by kernel_rfl, by kernel_rfl⟩, rfl, by kernel_rfl⟩
theorem i94 : FnIs (xc 94) ae 94 n94 := ⟨⟨Tryd.f94, Tryd.func94, by kernel_rfl, by kernel_rfl, by kernel_rfl, by kernel_rfl⟩, rfl, by kernel_rfl⟩
theorem i95 : FnIs (xc 95) ae 95 n95 := ⟨⟨Tryd.f95, Tryd.func95, by kernel_rfl, by kernel_rfl, by kernel_rfl, by kernel_rfl⟩, rfl, by kernel_rfl⟩
theorem i96 : FnIs (xc 96) ae 96 n96 := ⟨⟨Tryd.f96, Tryd.func96, by kernel_rfl, by kernel_rfl, by kernel_rfl, by kernel_rfl⟩, rfl, by kernel_rfl⟩
theorem i97 : FnIs (xc 97) ae 97 n97 := ⟨⟨Tryd.f97, Tryd.func97, by kernel_rfl, by kernel_rfl, by kernel_rfl, by kernel_rfl⟩, rfl, by kernel_rfl⟩
theorem i98 : FnIs (xc 98) ae 98 n98 := ⟨⟨Tryd.f98, Tryd.func98, by kernel_rfl, by kernel_rfl, by kernel_rfl, by kernel_rfl⟩, rfl, by kernel_rfl⟩
theorem i99 : FnIs (xc 99) ae 99 n99 := ⟨⟨Tryd.f99, Tryd.func99, by kernel_rfl, by kernel_rfl, by kernel_rfl, by kernel_rfl⟩, rfl, by kernel_rfl⟩
theorem i100 : FnIs (xc 100) ae 100 n100 := ⟨⟨Tryd.f100, Tryd.func100, by kernel_rfl, by kernel_rfl, by kernel_rfl, by kernel_rfl⟩, rfl, by kernel_rfl⟩
theorem i101 : FnIs (xc 101) ae 101 n101 := ⟨⟨Tryd.f101, Tryd.func101, by kernel_rfl, by kernel_rfl, by kernel_rfl, by kernel_rfl⟩, rfl, by kernel_rfl⟩
theorem i102 : FnIs (xc 102) ae 102 n102 := ⟨⟨Tryd.f102, Tryd.func102, by kernel_rfl, by kernel_rfl, by kernel_rfl, by kernel_rfl⟩, rfl, by kernel_rfl⟩
theorem i103 : FnIs (xc 103) ae 103 n103 := ⟨⟨Tryd.f103, Tryd.func103, by kernel_rfl, by kernel_rfl, by kernel_rfl, by kernel_rfl⟩, rfl, by kernel_rfl⟩
theorem i104 : FnIs (xc 104) ae 104 n104 := ⟨⟨Tryd.f104, Tryd.func104, by kernel_rfl, by kernel_rfl, by kernel_rfl, by kernel_rfl⟩, rfl, by kernel_rfl⟩
theorem i105 : FnIs (xc 105) ae 105 n105 := ⟨⟨Tryd.f105, Tryd.func105, by kernel_rfl, by kernel_rfl, by kernel_rfl, by kernel_rfl⟩, rfl, by kernel_rfl⟩
theorem i106 : FnIs (xc 106) ae 106 n106 := ⟨⟨Tryd.f106, Tryd.func106, by kernel_rfl, by kernel_rfl, by kernel_rfl, by kernel_rfl⟩, rfl, by kernel_rfl⟩
end Go.Am

/-
 THE FUNCTIONS OF THE PROGRAM ARE WHAT IS TOLD OF THEM, BY PROGRAM, part 1.
-/
set_option maxRecDepth 100000
namespace Go.Am
open Sx Go.Proofs
theorem e41 : @f41 = fun R HT A ls h K => aQ A (xc 41) ae drN n41 ls h K := by kernel_rfl
theorem e43 : @f43 = fun R HT A ls h K => aQ A (xc 43) ae drN n43 ls h K := by kernel_rfl
theorem e44 : @f44 = fun R HT A ls h K => aQ A (xc 44) ae drN n44 ls h K := by kernel_rfl
theorem e47 : @f47 = fun R HT A ls h K => aQ A (xc 47) ae drN n47 ls h K := by kernel_rfl
theorem e59 : @f59 = fun R HT A ls h K => aQ A (xc 59) ae drN n59 ls h K := by kernel_rfl
theorem e63 : @f63 = fun R HT A ls h K => aQ A (xc 63) ae drN n63 ls h K := by kernel_rfl
theorem e96 : @f96 = fun R HT A ls h K => aQ A (xc 96) ae drN n96 ls h K := by kernel_rfl
theorem e103 : @f103 = fun R HT A ls h K => aQ A (xc 103) ae drN n103 ls h K := by kernel_rfl
theorem e104 : @f104 = fun R HT A ls h K => aQ A (xc 104) ae drN n104 ls h K := by kernel_rfl
end Go.Am

/-
 THE FUNCTIONS OF THE PROGRAM ARE WHAT IS TOLD OF THEM, BY PROGRAM, part 2.
-/
set_option maxRecDepth 100000
namespace Go.Am
open Sx Go.Proofs
theorem e40 : @f40 = fun R HT A ls h K => aQ A (xc 40) ae drN n40 ls h K := by kernel_rfl
theorem e52 : @f52 = fun R HT A ls h K => aQ A (xc 52) ae drN n52 ls h K := by kernel_rfl
theorem e74 : @f74 = fun R HT A ls h K => aQ A (xc 74) ae drN n74 ls h K := by kernel_rfl
theorem e79 : @f79 = fun R HT A ls h K => aQ A (xc 79) ae drN n79 ls h K := by kernel_rfl
theorem e83 : @f83 = fun R HT A ls h K => aQ A (xc 83) ae drN n83 ls h K := by kernel_rfl
theorem e98 : @f98 = fun R HT A ls h K => aQ A (xc 98) ae drN n98 ls h K := by kernel_rfl
theorem e105 : @f105 = fun R HT A ls h K => aQ A (xc 105) ae drN n105 ls h K := by kernel_rfl
end Go.Am

/-
 THE FUNCTIONS OF THE PROGRAM ARE WHAT IS TOLD OF THEM, BY PROGRAM, part 3.
-/
set_option maxRecDepth 100000
namespace Go.Am
open Sx Go.Proofs
theorem e50 : @f50 = fun R HT A ls h K => aQ A (xc 50) ae drN n50 ls h K := by kernel_rfl
theorem e66 : @f66 = fun R HT A ls h K => aQ A (xc 66) ae drN n66 ls h K := by kernel_rfl
theorem e94 : @f94 = fun R HT A ls h K => aQ A (xc 94) ae drN n94 ls h K := by kernel_rfl
theorem e100 : @f100 = fun R HT A ls h K => aQ A (xc 100) ae drN n100 ls h K := by kernel_rfl
theorem e102 : @f102 = fun R HT A ls h K => aQ A (xc 102) ae drN n102 ls h K := by kernel_rfl
end Go.Am

/-
 THE FUNCTIONS OF THE PROGRAM ARE WHAT IS TOLD OF THEM, BY PROGRAM, part 4.
-/
set_option maxRecDepth 100000
namespace Go.Am
open Sx Go.Proofs
theorem e80 : @f80 = fun R HT A ls h K => aQ A (xc 80) ae drN n80 ls h K := by kernel_rfl
theorem e82 : @f82 = fun R HT A ls h K => aQ A (xc 82) ae drN n82 ls h K := by kernel_rfl
theorem e88 : @f88 = fun R HT A ls h K => aQ A (xc 88) ae drN n88 ls h K := by kernel_rfl
theorem e97 : @f97 = fun R HT A ls h K => aQ A (xc 97) ae drN n97 ls h K := by kernel_rfl
theorem e101 : @f101 = fun R HT A ls h K => aQ A (xc 101) ae drN n101 ls h K := by kernel_rfl
theorem e106 : @f106 = fun R HT A ls h K => aQ A (xc 106) ae drN n106 ls h K := by kernel_rfl
end Go.Am

/-
 THE FUNCTIONS OF THE PROGRAM ARE WHAT IS TOLD OF THEM, BY PROGRAM, part 5.
-/
set_option maxRecDepth 100000
namespace Go.Am
open Sx Go.Proofs
theorem e15 : @f15 = fun R HT A ls h K => aQ A (xc 15) ae drN n15 ls h K := by kernel_rfl
theorem e55 : @f55 = fun R HT A ls h K => aQ A (xc 55) ae drN n55 ls h K := by kernel_rfl
theorem e61 : @f61 = fun R HT A ls h K => aQ A (xc 61) ae drN n61 ls h K := by kernel_rfl
theorem e75 : @f75 = fun R HT A ls h K => aQ A (xc 75) ae drN n75 ls h K := by kernel_rfl
theorem e85 : @f85 = fun R HT A ls h K => aQ A (xc 85) ae drN n85 ls h K := by kernel_rfl
theorem e86 : @f86 = fun R HT A ls h K => aQ A (xc 86) ae drN n86 ls h K := by kernel_rfl
theorem e87 : @f87 = fun R HT A ls h K => aQ A (xc 87) ae drN n87 ls h K := by kernel_rfl
theorem e99 : @f99 = fun R HT A ls h K => aQ A (xc 99) ae drN n99 ls h K := by kernel_rfl
end Go.Am

/-
 THE FUNCTIONS OF THE PROGRAM ARE WHAT IS TOLD OF THEM, BY PROGRAM, part 6.
-/
set_option maxRecDepth 100000
namespace Go.Am
open Sx Go.Proofs
theorem e48 : @f48 = fun R HT A ls h K => aQ A (xc 48) ae drN n48 ls h K := by kernel_rfl
theorem e60 : @f60 = fun R HT A ls h K => aQ A (xc 60) ae drN n60 ls h K := by kernel_rfl
theorem e62 : @f62 = fun R HT A ls h K => aQ A (xc 62) ae drN n62 ls h K := by kernel_rfl
theorem e78 : @f78 = fun R HT A ls h K => aQ A (xc 78) ae drN n78 ls h K := by kernel_rfl
theorem e90 : @f90 = fun R HT A ls h K => aQ A (xc 90) ae drN n90 ls h K := by kernel_rfl
theorem e91 : @f91 = fun R HT A ls h K => aQ A (xc 91) ae drN n91 ls h K := by kernel_rfl
theorem e92 : @f92 = fun R HT A ls h K => aQ A (xc 92) ae drN n92 ls h K := by kernel_rfl
theorem e95 : @f95 = fun R HT A ls h K => aQ A (xc 95) ae drN n95 ls h K := by kernel_rfl
end Go.Am

/-
 THE FUNCTIONS OF THE PROGRAM ARE WHAT IS TOLD OF THEM, BY PROGRAM.
-/
set_option maxRecDepth 100000
namespace Go.Am
end Go.Am

/-
  WHAT THE PACKAGE-LEVEL VARIABLES HOLD, read off the row's list; a call as the row sees it.
-/
namespace Go.Am
namespace Sx
noncomputable def unL (P : Program) (un : TypeId → DataW Unit → Option (List Value)) : List (Nat × TypeId) → List (DataW Unit) → Nat → Option (List Value)
  | [], [], _ => some []
  | (o, t) :: l, d :: ds, off => match Nat.beq o off, un t d with
    | true, some v => match Nat.beq v.length (P.cellsOf t), unL P un l ds (off + v.length) with
      | true, some vs => some (v ++ vs)
      | _, _ => none
    | _, _ => none
  | _, _, _ => none
noncomputable def unD (P : Program) : Nat → TypeId → DataW Unit → Option (List Value)
  | 0, _, _ => none
  | fu + 1, t, d => match P.underlying t, d with
    | some .bool, .lit (.bool b) => some [.bool b]
    | some (.int k), .lit (.int _ n) => some [.int k n]
    | some (.struct fs), .agg ds => match unL P (unD P fu) (fs.toList.map fun f => (f.offset, f.type)) ds 0 with
      | some vs => if vs.length = P.cellsOf t then some vs else none
      | none => none
    | some (.array n e), .agg ds => match unL P (unD P fu) ((List.range n).map fun i => (i * P.cellsOf e, e)) ds 0 with
      | some vs => if vs.length = P.cellsOf t then some vs else none
      | none => none
    | _, _ => none
section
variable {P : Program} {w : World} {base : Nat} {spare : Nat → Bool} {held : Bool} {enc : TypeId × Value → Unit}
theorem seg_ok {un : TypeId → DataW Unit → Option (List Value)} {fuel : Nat} (hun : ∀ t d vs, un t d = some vs → ∀ cs p, DataW.trod enc P w base spare held fuel t cs = some (d, p) → cs = vs) {α : Type} (o : α → Nat) (ty : α → TypeId) (cs : List Value) :
    ∀ (l : List α) (xs : List (DataW Unit × List MemPlace)) (off : Nat) (vs : List Value), l.mapM (fun a => DataW.trod enc P w base spare held fuel (ty a) ((cs.drop (o a)).take (P.cellsOf (ty a)))) = some xs →
      unL P un (l.map fun a => (o a, ty a)) (xs.map (·.1)) off = some vs → (cs.drop off).take vs.length = vs
  | [], xs, off, vs, h1, h2 => by
    simp only [List.mapM_nil, Option.pure_def, Option.some.injEq] at h1
    subst h1
    simp only [List.map_nil, unL, Option.some.injEq] at h2
    subst h2
    simp
  | a :: l, xs, off, vs, h1, h2 => by
    rw [List.mapM_cons] at h1
    obtain ⟨x, h3, h1⟩ := Option.bind_eq_some_iff.1 h1
    obtain ⟨ys, h4, h1⟩ := Option.bind_eq_some_iff.1 h1
    cases h1
    simp only [List.map_cons, unL] at h2
    split at h2
    · rename_i v e1 e2
      split at h2
      · rename_i ws e3 e4
        cases h2
        have e1 := Nat.eq_of_beq_eq_true e1
        have e3 := Nat.eq_of_beq_eq_true e3
        have hv := hun _ _ _ e2 _ _ h3
        have ih := seg_ok hun o ty cs l ys _ _ h4 e4
        rw [e1, ← e3] at hv
        rw [List.length_append, List.take_add, hv, List.drop_drop]
        rw [ih]
      · cases h2
    · cases h2
theorem unD_ok : ∀ (fu : Nat) (t : TypeId) (d : DataW Unit) (vs : List Value), unD P fu t d = some vs → ∀ (fuel : Nat) (cs : List Value) (p : List MemPlace), DataW.trod enc P w base spare held fuel t cs = some (d, p) → cs = vs
  | 0, _, _, _, h => by cases h
  | fu + 1, t, d, vs, h => by
    intro fuel cs p hp
    cases fuel with
    | zero => simp [DataW.trod] at hp
    | succ fuel =>
      have hun : ∀ t d vs, unD P fu t d = some vs → ∀ cs p, DataW.trod enc P w base spare held fuel t cs = some (d, p) → cs = vs := fun t d vs h cs p => unD_ok fu t d vs h fuel cs p
      simp only [unD] at h
      split at h
      · rename_i b e
        cases h
        simp only [DataW.trod, e] at hp
        split at hp <;> simp_all
      · rename_i k k' n e
        cases h
        simp only [DataW.trod, e] at hp
        split at hp <;> first | cases hp | skip
        all_goals first
          | (split at hp
             · rename_i hh; simp at hp; obtain ⟨⟨rfl, rfl⟩, _⟩ := hp; rw [hh.1]
             · cases hp)
          | simp_all
      · rename_i fs ds e
        split at h
        · rename_i ws e2
          split at h
          · rename_i e3
            cases h
            simp only [DataW.trod, e] at hp
            split at hp
            · rename_i e4
              obtain ⟨xs, h5, h6⟩ := Option.map_eq_some_iff.1 hp
              simp only [Prod.mk.injEq, DataW.agg.injEq] at h6
              rw [← h6.1] at e2
              have := seg_ok hun (fun f : Field => f.offset) (fun f : Field => f.type) cs _ xs 0 _ h5 e2
              rw [List.drop_zero, List.take_of_length_le (by omega)] at this
              exact this
            · cases hp
          · cases h
        · cases h
      · rename_i n el ds e
        split at h
        · rename_i ws e2
          split at h
          · rename_i e3
            cases h
            simp only [DataW.trod, e] at hp
            split at hp
            · rename_i e4
              obtain ⟨xs, h5, h6⟩ := Option.map_eq_some_iff.1 hp
              simp only [Prod.mk.injEq, DataW.agg.injEq] at h6
              rw [← h6.1] at e2
              have := seg_ok hun (fun i => i * P.cellsOf el) (fun _ => el) cs _ xs 0 _ h5 e2
              rw [List.drop_zero, List.take_of_length_le (by omega)] at this
              exact this
            · cases hp
          · cases h
        · cases h
      · cases h
end
section
variable [Val]
end
end Sx
end Go.Am

/-
 FROM A CALL TO THE ROW: arguments without addresses.
-/
namespace Go.Am
namespace Sx
open Go.ChangeShapes Go.WideShapes Go.ChangeAt Go.WideMaps Go.WideElems Go.RowKit
theorem kept_of {W W' : World} (h1 : W'.os = W.os) (h2 : W'.output = W.output) (h3 : ∀ b, b < W.heap.size → W'.heap[b]? = W.heap[b]?) (may : MemPlace → Prop) : W.keptBut W' may := by
 refine ⟨h1, h2, fun i hi => ?_⟩
 rw [h3 i hi]
 exact (World.keptBut_refl W may).2.2 i hi
theorem lH {P : Program} {w : World} {laid : List (String × DataW Unit)} {ps : List MemPlace} (h : DataW.LaidVars P w laid ps) : ∀ n d, (n, d) ∈ laid → ∀ g t fu vs, P.globalNamed n = some g → (P.globals[g]?).map (·.type) = some t → unD P fu t d = some vs →
  ∃ c e fr, w.heap[g]? = some (.cells c e fr) ∧ c.toList = vs := by
 induction laid generalizing ps with
 | nil => intro n d h; cases h
 | cons x l ih =>
  obtain ⟨n0, d0⟩ := x
  obtain ⟨g0, t0, cs, fuel, p, q, a1, a2, a3, a4, a5, a6⟩ := h
  intro n d hm g t fu vs b1 b2 b3
  rcases List.mem_cons.1 hm with e | hm
  ·cases e
   rw [a1] at b1; cases b1
   rw [a2] at b2; cases b2
   have hc := unD_ok fu _ _ vs b3 _ _ _ a4
   unfold World.var? at a3
   rw [a1] at a3
   simp only [Option.bind_some] at a3
   split at a3
   ·rename_i c ty fr e
    cases a3
    exact ⟨_, _, _, e, hc⟩
   ·cases a3
  ·exact ih a5 n d hm g t fu vs b1 b2 b3
section
variable [Val] [Kno]
end
end Sx
end Go.Am

/-
 THE ALGEBRA OF PROPOSITIONS: what must hold, that code does as it is told to do.
-/
namespace Go.Am
namespace Sx
section
variable [Val] [Kno]
def condP (b : Bool) (x y : Prop) : Prop := (b = true → x) ∧ (b = false → y)
def ariP (op : BinOp) (k : IntKind) (a b : Int) (K : Int → Prop) : Prop :=
 match op with
 | .add => K (k.wrap (a + b))
 | .sub => K (k.wrap (a - b))
 | .mul => K (k.wrap (a * b))
 | .quo => b ≠ 0 ∧ K (k.wrap (a.tdiv b))
 | .rem => b ≠ 0 ∧ K (a.tmod b)
 | .and => (b = 1 ∧ K (a % 2)) ∨ (b ≠ 1 ∧ ∃ n, pv .and k a b n ∧ K n)
 | op => ∃ n, pv op k a b n ∧ K n
def cmpP (op : BinOp) (a b : Int) (K : Bool → Prop) : Prop :=
 match op with
 | .eql => K (a == b)
 | .neq => K (a != b)
 | .lss => K (decide (a < b))
 | .leq => K (decide (a ≤ b))
 | .gtr => K (decide (a > b))
 | .geq => K (decide (a ≥ b))
 | _ => False
def optP {α : Type} (o : Option α) (K : α → Prop) : Prop := ∃ x, o = some x ∧ K x
def unIP (ls : List Lf) (K : Int → List Lf → Prop) : Prop := match ls with | .i n :: r => K n r | _ => False
def unBP (ls : List Lf) (K : Bool → List Lf → Prop) : Prop := match ls with | .b n :: r => K n r | _ => False
def unVP (ls : List Lf) (K : Value → List Lf → Prop) : Prop := match ls with | .v n :: r => K n r | _ => False
def un0P (ls : List Lf) (K : Prop) : Prop := match ls with | [] => K | _ => False
def ucIP (k : IntKind) (ls : List Value) (K : Int → List Value → Prop) : Prop := match ls with | .int k' n :: r => k = k' ∧ K n r | _ => False
def ucBP (ls : List Value) (K : Bool → List Value → Prop) : Prop := match ls with | .bool n :: r => K n r | _ => False
def ucVP (ls : List Value) (K : Value → List Value → Prop) : Prop := match ls with | n :: r => K n r | _ => False
def uc0P (ls : List Value) (K : Prop) : Prop := match ls with | [] => K | _ => False
noncomputable def getL (h : List HObj) : bR := fun i => h[i]?
def peekP (f : Pk) (h : List HObj) (K : List Value → Prop) : Prop := ∃ cs, f.run (getL h) = some cs ∧ K cs
def heapP (f : Hp) (h : List HObj) (K : List Value → List HObj → Prop) : Prop := ∃ acts cs, f.run (getL h) h.length = some (acts, cs) ∧ K cs (em h acts)
def callP (C : Cfg) (Sg : FuncId → Option Sig) (g : FuncId) (ls : List Lf) (h : List HObj) (K : List Lf → List HObj → Prop) : Prop := ∃ rs h', bm C Sg g ls h rs h' ∧ K rs h'
def callvP (C : Cfg) (v : Value) (args : List Value) (hs : List SK) (h : List HObj) (K : List Lf → List HObj → Prop) : Prop := ∃ rs h', CallV C v args hs h rs h' ∧ K rs h'
noncomputable def itP (F : (List Lf → List HObj → Prop) → List Lf → List HObj → Prop) (n : Nat) : List Lf → List HObj → Prop :=
 match n with
 | 0 => fun _ _ => False
 | n + 1 => F (itP F n)
def loopP (F : (List Lf → List HObj → Prop) → List Lf → List HObj → Prop) (ls : List Lf) (h : List HObj) : Prop := ∃ n, itP F n ls h
def rfunP (C : Cfg) (T : Nat → Site) (κ : Nat) (v : Value) (vals : List Value) (h : List HObj) (K : Option Code → List HObj → Prop) : Prop :=
 ∃ g first cap r H1 lp, v = .func (.func g) first cap ∧
  gc C g (first.toList ++ [.func (.yield h.length) #[] #[]] ++ cap.toList) (h ++ [.loop (lpOf (T κ) κ vals)]) r H1 ∧
  cY H1 h.length = some lp ∧ lp.state ≠ .busy ∧ K lp.pending (H1.set h.length (.loop { lp with state := .exhausted }))
def pendP (pd : Option Code) (kn kr : Prop) (ks : List (Nat × Prop)) : Prop :=
 match pd with
 | none => kn
 | some .ret => kr
 | some (.exit id) => ∃ x, (id, x) ∈ ks ∧ x
 | _ => False
def lp1P (l : Nat) (h : List HObj) (K : List HObj → Prop) : Prop := ∃ lp, cY h l = some lp ∧ lp.state = .ready ∧ K (h.set l (.loop { lp with state := .busy }))
def lp2P (l : Nat) (j : Option Code) (h : List HObj) (K : List HObj → Prop) : Prop := ∃ lp, cY h l = some lp ∧ K (h.set l (.loop { lp with state := if j.isNone then .ready else .done, pending := j }))
noncomputable def PA (C : Cfg) (Sg : FuncId → Option Sig) (T : Nat → Site) : Alg Prop (List HObj) where
 fail := False
 cond := condP
 ari := ariP
 shf := fun op k a k' b K => ∃ n, ShRun op k a k' b n ∧ K n
 cmp := cmpP
 eqs := fun l K => K (cr l)
 conv := fun k a K => K (k.wrap a)
 sel := fun t a b K => K (if t then a else b)
 opt := optP
 chk := fun v K => cA v = true ∧ K
 unI := unIP
 unB := unBP
 unV := unVP
 un0 := un0P
 ucI := ucIP
 ucB := ucBP
 ucV := ucVP
 uc0 := uc0P
 peek := peekP
 heap := heapP
 new := fun o h K => K h.length (h ++ [o])
 call := callP C Sg
 callv := callvP C
 join := fun b m => m b
 loop := loopP
 rfun := rfunP C T
 pend := pendP
 lp1 := lp1P
 lp2 := lp2P
theorem dR (C : Cfg) (Sg : FuncId → Option Sig) (T : Nat → Site) : AlgOk (PA C Sg T) C Sg T id id where
 fail := fun h => h
 cond := by
  intro b x y h
  cases b
  ·exact .inr ⟨rfl, h.2 rfl⟩
  ·exact .inl ⟨rfl, h.1 rfl⟩
 ari := by
  intro op k a b K h
  have h : ariP op k a b K := h
  cases op <;> simp only [ariP] at h
  ·exact ⟨_, fun P t w => by simp [binOp, Op.intArith], h⟩
  ·exact ⟨_, fun P t w => by simp [binOp, Op.intArith], h⟩
  ·exact ⟨_, fun P t w => by simp [binOp, Op.intArith], h⟩
  ·obtain ⟨hb, h⟩ := h
   exact ⟨_, fun P t w => by simp [binOp, Op.intDiv, hb], h⟩
  ·obtain ⟨hb, h⟩ := h
   exact ⟨_, fun P t w => by simp [binOp, Op.intDiv, hb], h⟩
  ·rcases h with ⟨rfl, h'⟩ | ⟨_, n, h1, h2⟩
   ·exact ⟨_, kI rfl, h'⟩
   ·exact ⟨n, h1, h2⟩
  all_goals exact h
 shf := fun op k a k' b K h => h
 cmp := by
  intro op a b K h
  have h : cmpP op a b K := h
  cases op <;> simp only [cmpP] at h <;> exact ⟨_, rfl, h⟩
 eqs := fun l K h => h
 conv := fun k a K h => h
 sel := fun t a b K h => h
 opt := fun o K h => h
 chk := fun v K h => h
 unI := by
  intro ls K h
  match ls, h with
  | .i n :: r, h => exact ⟨n, r, rfl, h⟩
 unB := by
  intro ls K h
  match ls, h with
  | .b n :: r, h => exact ⟨n, r, rfl, h⟩
 unV := by
  intro ls K h
  match ls, h with
  | .v n :: r, h => exact ⟨n, r, rfl, h⟩
 un0 := by
  intro ls K h
  match ls, h with
  | [], h => exact ⟨rfl, h⟩
 ucI := by
  intro k ls K h
  match ls, h with
  | .int k' n :: r, h =>
   obtain ⟨rfl, h⟩ : k = k' ∧ K n r := h
   exact ⟨n, r, rfl, h⟩
 ucB := by
  intro ls K h
  match ls, h with
  | .bool n :: r, h => exact ⟨n, r, rfl, h⟩
 ucV := by
  intro ls K h
  match ls, h with
  | n :: r, h => exact ⟨n, r, rfl, h⟩
 uc0 := by
  intro ls K h
  match ls, h with
  | [], h => exact ⟨rfl, h⟩
 peek := fun f h K hk => hk
 heap := by
  intro f h K hk
  obtain ⟨acts, cs, h1, h2⟩ := hk
  exact ⟨acts, cs, _, h1, rfl, h2⟩
 new := fun o h K hk => ⟨_, rfl, hk⟩
 call := fun g ls h K hk => hk
 callv := fun v args hs h K hk => hk
 join := fun b m h => h
 loop := by
  intro F ls h hk
  obtain ⟨n, hk⟩ := hk
  exact ⟨itP F, fun ls h => (id : False → False), fun n ls h => rfl, n, hk⟩
 rfun := by
  intro κ v vals h K hk
  obtain ⟨g, first, cap, r, H1, lp, h1, h2, h3, h4, h5⟩ := hk
  exact ⟨g, first, cap, r, H1, lp, _, h1, h2, h3, h4, rfl, h5⟩
 pend := by
  intro pd kn kr ks h
  have h : pendP pd kn kr ks := h
  unfold pendP at h
  split at h
  ·exact .inl ⟨rfl, h⟩
  ·exact .inr (.inl ⟨rfl, h⟩)
  ·obtain ⟨x, h1, h2⟩ := h
   exact .inr (.inr ⟨_, x, rfl, h1, h2⟩)
  ·exact h.elim
 lp1 := by
  intro l h K hk
  obtain ⟨lp, h1, h2, h3⟩ := hk
  exact ⟨lp, _, h1, h2, rfl, h3⟩
 lp2 := by
  intro l j h K hk
  obtain ⟨lp, h1, h2⟩ := hk
  exact ⟨lp, _, h1, rfl, h2⟩
theorem SL.plain_scalar {l : SL} {k : LK} (h : l.is k = true) (hk : k.plain = true) : scalar l.val = true := by
 cases l <;> cases k <;> first | (cases hk; done) | (cases h; done) | rfl
theorem iK : ∀ {cs : List SL} {ks : List LK}, aF cs ks = true → ks.all LK.plain = true → (cs.map SL.val).all scalar = true
 | [], [], _, _ => rfl
 | c :: cs, k :: ks, h, hk => by
  simp only [aF, Bool.and_eq_true] at h
  simp only [List.all_cons, Bool.and_eq_true] at hk
  simp only [List.map_cons, List.all_cons, Bool.and_eq_true]
  exact ⟨SL.plain_scalar h.1 hk.1, iK h.2 hk.2⟩
 | [], _ :: _, h, _ => by cases h
 | _ :: _, [], h, _ => by cases h
theorem S0.plain_flat1 {x : S0} {k : SK} (h : x.is k = true) (hk : k.plain = true) : dx x.val = true := by
 cases x with
 | leaf l =>
  cases k with
  | leaf k =>
   have := SL.plain_scalar h hk
   show dx l.val = true
   cases hv : l.val <;> rw [hv] at this <;> first | exact this | cases this
  | agg _ => cases h
 | agg cs =>
  cases k with
  | leaf k => cases h
  | agg ks => exact iK h hk
theorem gS {v : Value} (h : dx v = true) : flat v = true := by
 cases v <;> first | exact h | cases h
theorem gm : ∀ {xs : List S0} {sks : List SK}, bN xs sks = true → sks.all SK.plain = true → (aj xs).all dx = true
 | [], [], _, _ => rfl
 | x :: xs, k :: ks, h, hk => by
  simp only [bN, Bool.and_eq_true] at h
  simp only [List.all_cons, Bool.and_eq_true] at hk
  simp only [aj, List.map_cons, List.all_cons, Bool.and_eq_true]
  exact ⟨S0.plain_flat1 h.1 hk.1, gm h.2 hk.2⟩
 | [], _ :: _, h, _ => by cases h
 | _ :: _, [], h, _ => by cases h
theorem rt {xs : List S0} {sks : List SK} (h : bN xs sks = true) (hk : sks.all SK.plain = true) : (aj xs).all flat = true := by
 have := gm h hk
 rw [List.all_eq_true] at this ⊢
 exact fun v hv => gS (this v hv)
theorem rP {vs : List Value} (h : vs.all dx = true) : flat (dP vs) = true := by
 match vs, h with
 | [], _ => rfl
 | [v], h =>
  simp only [List.all_cons, List.all_nil, Bool.and_true] at h
  exact gS h
 | a :: b :: l, h =>
  show flat (.tuple (a :: b :: l).toArray) = true
  simp only [flat, Bool.and_eq_true]
  exact ⟨by simp, h⟩
end
@[reducible] def KnoC (C : Cfg) (N : FuncId → Option Nat) [Val] : Kno := ⟨fun f args r => ∀ H, dJ C f args H r H, fun f args H r H' => N f = none ∧ dJ C f args H r H'⟩
section
variable [Val]
def Ct (C : Cfg) (N : FuncId → Option Nat) (Sg : FuncId → Option Sig) (g : FuncId) (ls rs : List Lf) : Prop := let _ : Kno := KnoC C N; ∀ H, bm C Sg g ls H rs H
theorem pq {C : Cfg} {N : FuncId → Option Nat} (hm : C.P.follows .mixedOrders = true) {f : FuncId} {args : List Value} {H : List HObj} {r : Value} {H' : List HObj} (h : let _ : Kno := KnoC C N; gc C f args H r H') : dJ C f args H r H' :=
 @uCall_ok _ _ (KnoC C N) hm (fun _ _ _ h => h) (fun _ _ _ _ _ h => h.2) _ _ _ _ _ h
theorem dw {C : Cfg} {N : FuncId → Option Nat} {Sg : FuncId → Option Sig} (hm : C.P.follows .mixedOrders = true) (hG : ∀ g vs, C.G g = some vs → vs.all flat = true) {g : FuncId} {sg : Sig} (hs : Sg g = some sg) (hp : sg.plain = true) {ls rs : List Lf} {H' : List HObj}
  (h : let _ : Kno := KnoC C N; bm C Sg g ls [] rs H') : Ct C N Sg g ls rs := by
 let _ : Kno := KnoC C N
 obtain ⟨sg', xs, ys, c1, c2, c3, c4⟩ := h
 rw [hs] at c1
 cases c1
 simp only [Sig.plain, Bool.and_eq_true] at hp
 have ha := rt c2.1 hp.1
 have hr := rP (gm c3.1 hp.2)
 intro H
 exact ⟨sg, xs, ys, hs, c2, c3, ⟨0, .inl ⟨fun H => frame_ok hG (pq hm c4) ha hr H, rfl⟩⟩⟩
end
section
variable [Val] [Kno]
theorem ce {n : Int} (h1 : -9223372036854775808 ≤ n) (h2 : n ≤ 9223372036854775807) : IntKind.wrap .i64 n = n := by
 simp only [IntKind.wrap, IntKind.bits, IntKind.signed, Bool.true_and, ge_iff_le, decide_eq_true_eq]
 split <;> omega
theorem nI {n : Int} (h1 : 0 ≤ n) (h2 : n ≤ 255) : IntKind.wrap .u8 n = n := by
 simp only [IntKind.wrap, IntKind.bits, IntKind.signed, Bool.false_and, Bool.false_eq_true, if_false]
 omega
end
end Sx
end Go.Am

/-
 CALLS THAT ONLY READ: slices under other names of their blocks; what a run over these blocks alone answers.
-/
namespace Go.Am
namespace Sx
section
variable [Val]
end
end Sx
end Go.Am

/-
 RUNS IN THE DIRECT STYLE: what the texts by program use, and what makes a table of runs true.
-/
set_option maxRecDepth 100000
namespace Go.Am
open Sx
abbrev FB := List Lf → HTr → (List Lf → HTr → RT) → RT
noncomputable def nf : FB := fun _ _ _ => none
noncomputable def tell (rs : List Lf) (_ : HTr) : RT := np rs fun rs => some rs
noncomputable def memo (g : FB) : FB := fun ls h K => np ls fun ls => @Option.rec _ (fun _ => RT) none (fun rs => K rs h) (g ls .empty tell)
noncomputable def fB {R : Type} (b : Bool) (k : Bool → R) : R := Bool.rec (k false) (k true) b
noncomputable def flatI (v : Value) : Bool := match v with
 | .int _ _ => true
 | .bool _ => true
 | _ => false
noncomputable def allR (c : Tr Value) (n : Nat) : Bool := @Nat.rec (fun _ => Bool) true (fun i ih => @Bool.rec (fun _ => Bool) false ih (flatI ((bw i).get nilV c))) n
noncomputable def ext (h : HTr) (d : RT) (ls : List Lf) : HTr → (List Lf → HTr → RT) → RT :=
 @List.rec Lf (fun _ => HTr → (List Lf → HTr → RT) → RT) (fun h0 k => k [] h0) (fun x _ ih h0 k => match x with
  | .i n => fI n fun n => ih h0 fun l h1 => k (.i n :: l) h1
  | .b t => fB t fun t => ih h0 fun l h1 => k (.b t :: l) h1
  | .v v => match v with
   | .slice (some a) len cx => match h.at a.block with
    | some (.t n e _ c) => match tagB a.spot e, allR c n with
     | true, true => iC h0 (.t n e false c) fun h1 => fN a.off fun o => fN len fun len => fN cx fun cx => ih h1 fun l h2 => k (.v (.slice (some ⟨h0.n, o, tag e⟩) len cx) :: l) h2
     | _, _ => d
    | _ => d
   | v => match flat v with
    | true => ih h0 fun l h1 => k (.v v :: l) h1
    | false => d) ls
theorem fx {K K' : List Lf → HTr → RT} (h : ∀ rs h, K rs h = K' rs h) : K = K' := funext fun rs => funext fun x => h rs x
noncomputable abbrev cB (x y : RT) (b : Bool) : RT := @Bool.rec (fun _ => RT) x y b
theorem c2 {A B Z : Sort _} {f g : A → B → Z} (h : f = g) (x0 : A) (x1 : B) : f x0 x1 = g x0 x1 := by rw [h]
theorem c3 {A B C Z : Sort _} {f g : A → B → C → Z} (h : f = g) (x0 : A) (x1 : B) (x2 : C) : f x0 x1 x2 = g x0 x1 x2 := by rw [h]
theorem c4 {A B C D Z : Sort _} {f g : A → B → C → D → Z} (h : f = g) (x0 : A) (x1 : B) (x2 : C) (x3 : D) : f x0 x1 x2 x3 = g x0 x1 x2 x3 := by rw [h]
theorem c5 {A B C D E Z : Sort _} {f g : A → B → C → D → E → Z} (h : f = g) (x0 : A) (x1 : B) (x2 : C) (x3 : D) (x4 : E) : f x0 x1 x2 x3 x4 = g x0 x1 x2 x3 x4 := by rw [h]
theorem c6 {A B C D E F Z : Sort _} {f g : A → B → C → D → E → F → Z} (h : f = g) (x0 : A) (x1 : B) (x2 : C) (x3 : D) (x4 : E) (x5 : F) : f x0 x1 x2 x3 x4 x5 = g x0 x1 x2 x3 x4 x5 := by rw [h]
theorem c7 {A B C D E F G Z : Sort _} {f g : A → B → C → D → E → F → G → Z} (h : f = g) (x0 : A) (x1 : B) (x2 : C) (x3 : D) (x4 : E) (x5 : F) (x6 : G) : f x0 x1 x2 x3 x4 x5 x6 = g x0 x1 x2 x3 x4 x5 x6 := by rw [h]
theorem c8 {A B C D E F G H Z : Sort _} {f g : A → B → C → D → E → F → G → H → Z} (h : f = g) (x0 : A) (x1 : B) (x2 : C) (x3 : D) (x4 : E) (x5 : F) (x6 : G) (x7 : H) : f x0 x1 x2 x3 x4 x5 x6 x7 = g x0 x1 x2 x3 x4 x5 x6 x7 := by rw [h]
theorem c9 {A B C D E F G H I Z : Sort _} {f g : A → B → C → D → E → F → G → H → I → Z} (h : f = g) (x0 : A) (x1 : B) (x2 : C) (x3 : D) (x4 : E) (x5 : F) (x6 : G) (x7 : H) (x8 : I) : f x0 x1 x2 x3 x4 x5 x6 x7 x8 = g x0 x1 x2 x3 x4 x5 x6 x7 x8 := by rw [h]
noncomputable abbrev rI (F : Int → List Lf → RT) (ls : List Lf) : RT := @List.rec Lf (fun _ => RT) none (fun x l _ => @Lf.rec (fun _ => RT) (fun a => F a l) (fun _ => none) (fun _ => none) x) ls
noncomputable abbrev rV (F : Value → List Lf → RT) (ls : List Lf) : RT := @List.rec Lf (fun _ => RT) none (fun x l _ => @Lf.rec (fun _ => RT) (fun _ => none) (fun _ => none) (fun a => F a l) x) ls
noncomputable abbrev r0 (X : RT) (ls : List Lf) : RT := @List.rec Lf (fun _ => RT) X (fun _ _ _ => none) ls
noncomputable def lookF (l : List (Nat × FB)) (g : Nat) (d : FB) : FB := @List.rec _ (fun _ => FB) d (fun p _ ih => @Bool.rec (fun _ => FB) ih p.2 (Nat.beq p.1 g)) l
noncomputable def tblF (l : List (Nat × FB)) (c : ab) : ab := fun ck => match ck with
 | .f g => lookF l g (c (.f g))
 | .y κ vs i => c (.y κ vs i)
section
variable {Sg : FuncId → Option Sig} {T : Nat → Site} {call : ab}
theorem al {t : Bool} {X Y X' Y' : RT} (h1 : X = X') (h2 : Y = Y') : (BA Sg T call).cond t X Y = @Bool.rec (fun _ => RT) Y' X' t := by subst h1 h2; rfl
theorem bu {a b : Int} {K K' : Int → RT} (h : ∀ n, K n = K' n) : (BA Sg T call).ari .add .i64 a b K = addK a b (fun c => aA c K') := by obtain rfl : K = K' := funext h; rfl
theorem gA {a b : Int} {K K' : Int → RT} (h : ∀ n, K n = K' n) : (BA Sg T call).ari .add .u8 a b K = addK a b (fun c => jf c K') := by obtain rfl : K = K' := funext h; rfl
theorem bE {a b : Int} {K K' : Int → RT} (h : ∀ n, K n = K' n) : (BA Sg T call).ari .sub .i64 a b K = subK a b (fun c => aA c K') := by obtain rfl : K = K' := funext h; rfl
theorem bj {a b : Int} {K K' : Int → RT} (h : ∀ n, K n = K' n) : (BA Sg T call).ari .mul .i64 a b K = mulK a b (fun c => aA c K') := by obtain rfl : K = K' := funext h; rfl
theorem nu {a b : Int} {K K' : Int → RT} (h : ∀ n, K n = K' n) : (BA Sg T call).ari .quo .i64 a b K = @Bool.rec (fun _ => RT) (quoK a b (fun c => aA c K')) none (isZ b) := by obtain rfl : K = K' := funext h; rfl
theorem q_rem {k : IntKind} {a b : Int} {K K' : Int → RT} (h : ∀ n, K n = K' n) : (BA Sg T call).ari .rem k a b K = @Bool.rec (fun _ => RT) (remK a b K') none (isZ b) := by obtain rfl : K = K' := funext h; rfl
theorem q_ariG {op : BinOp} {k : IntKind} {a b : Int} {K K' : Int → RT} (h : ∀ n, K n = K' n) : (BA Sg T call).ari op k a b K = ariB op k a b K' := by obtain rfl : K = K' := funext h; rfl
theorem nr {a b : Int} {K : Bool → RT} {X : RT} (h : K (eqZK a b) = X) : (BA Sg T call).cmp .eql a b K = X := h
theorem cu {a b : Int} {K : Bool → RT} {X : RT} (h : K (notK (eqZK a b)) = X) : (BA Sg T call).cmp .neq a b K = X := h
theorem fF {a b : Int} {K : Bool → RT} {X : RT} (h : K (notK (leZ b a)) = X) : (BA Sg T call).cmp .lss a b K = X := h
theorem jh {a b : Int} {K : Bool → RT} {X : RT} (h : K (notK (leZ a b)) = X) : (BA Sg T call).cmp .gtr a b K = X := h
theorem q_geq {a b : Int} {K : Bool → RT} {X : RT} (h : K (leZ b a) = X) : (BA Sg T call).cmp .geq a b K = X := h
theorem kW {l : List (Lf × Lf)} {K : Bool → RT} {X : RT} (h : K (eqsV l) = X) : (BA Sg T call).eqs l K = X := h
theorem q_conv64 {a : Int} {K K' : Int → RT} (h : ∀ n, K n = K' n) : (BA Sg T call).conv .i64 a K = aA a K' := by obtain rfl : K = K' := funext h; rfl
theorem q_convU8 {a : Int} {K K' : Int → RT} (h : ∀ n, K n = K' n) : (BA Sg T call).conv .u8 a K = jf a K' := by obtain rfl : K = K' := funext h; rfl
theorem bD {α : Type} {o : Option α} {K K' : α → RT} (h : ∀ n, K n = K' n) : (BA Sg T call).opt o K = optB o K' := by obtain rfl : K = K' := funext h; rfl
theorem nq {v : Value} {K K' : RT} (h : K = K') : (BA Sg T call).chk v K = chkB v K' := by subst h; rfl
theorem ah {ls : List Lf} {K K' : Int → List Lf → RT} (h : ∀ n r, K n r = K' n r) : (BA Sg T call).unI ls K = unIB ls K' := by obtain rfl : K = K' := funext fun n => funext fun r => h n r; rfl
theorem q_unB {ls : List Lf} {K K' : Bool → List Lf → RT} (h : ∀ n r, K n r = K' n r) : (BA Sg T call).unB ls K = unBB ls K' := by obtain rfl : K = K' := funext fun n => funext fun r => h n r; rfl
theorem q_unV {ls : List Lf} {K K' : Value → List Lf → RT} (h : ∀ n r, K n r = K' n r) : (BA Sg T call).unV ls K = unVB ls K' := by obtain rfl : K = K' := funext fun n => funext fun r => h n r; rfl
theorem am {ls : List Lf} {K K' : RT} (h : K = K') : (BA Sg T call).un0 ls K = un0B ls K' := by subst h; rfl
theorem dt {a : Value} {r : List Lf} {K : Value → List Lf → RT} {X : RT} (h : K a r = X) : (BA Sg T call).unV (.v a :: r) K = X := h
theorem q_un0s {K X : RT} (h : K = X) : (BA Sg T call).un0 [] K = X := h
theorem q_rI {ls : List Lf} {K K' : Int → List Lf → RT} (h : ∀ n r, K n r = K' n r) : (BA Sg T call).unI ls K = rI K' ls := by
 obtain rfl : K = K' := funext fun n => funext fun r => h n r
 match ls with
 | [] => rfl
 | .i _ :: _ => rfl
 | .b _ :: _ => rfl
 | .v _ :: _ => rfl
theorem q_rV {ls : List Lf} {K K' : Value → List Lf → RT} (h : ∀ n r, K n r = K' n r) : (BA Sg T call).unV ls K = rV K' ls := by
 obtain rfl : K = K' := funext fun n => funext fun r => h n r
 match ls with
 | [] => rfl
 | .i _ :: _ => rfl
 | .b _ :: _ => rfl
 | .v _ :: _ => rfl
theorem q_r0 {ls : List Lf} {K K' : RT} (h : K = K') : (BA Sg T call).un0 ls K = r0 K' ls := by
 subst h
 match ls with
 | [] => rfl
 | _ :: _ => rfl
theorem bb {k : IntKind} {ls : List Value} {K K' : Int → List Value → RT} (h : ∀ n r, K n r = K' n r) : (BA Sg T call).ucI k ls K = ucIB k ls K' := by obtain rfl : K = K' := funext fun n => funext fun r => h n r; rfl
theorem q_ucV {ls : List Value} {K K' : Value → List Value → RT} (h : ∀ n r, K n r = K' n r) : (BA Sg T call).ucV ls K = ucVB ls K' := by obtain rfl : K = K' := funext fun n => funext fun r => h n r; rfl
theorem ea {ls : List Value} {K K' : RT} (h : K = K') : (BA Sg T call).uc0 ls K = uc0B ls K' := by subst h; rfl
theorem q_lg {C : Cfg} {n : Nat} {p : Value} {h : HTr} {K K' : List Value → RT} (hK : ∀ l, K l = K' l) : (BA Sg T call).peek (.lg C n p) h K = lgB C n p h K' := by obtain rfl : K = K' := funext hK; rfl
theorem q_st {p : Value} {new : List Value} {h : HTr} {K K' : List Value → HTr → RT} (hK : ∀ l h, K l h = K' l h) : (BA Sg T call).heap (.st p new) h K = stB p new h K' := by obtain rfl : K = K' := funext fun l => funext fun h => hK l h; rfl
theorem q_ap {C : Cfg} {esz bytes : Nat} {s x : Value} {h : HTr} {K K' : List Value → HTr → RT} (hK : ∀ l h, K l h = K' l h) : (BA Sg T call).heap (.ap C esz bytes s x) h K = apB T C esz bytes s x h K' := by obtain rfl : K = K' := funext fun l => funext fun h => hK l h; rfl
theorem ns {o : HObj} {h : HTr} {K K' : Nat → HTr → RT} (hK : ∀ l h, K l h = K' l h) : (BA Sg T call).new o h K = newB o h K' := by obtain rfl : K = K' := funext fun l => funext fun h => hK l h; rfl
theorem q_callv {v : Value} {args : List Value} {hs : List SK} {h : HTr} {K K' : List Lf → HTr → RT} (hK : ∀ l h, K l h = K' l h) : (BA Sg T call).callv v args hs h K = nT Sg T call v args hs h K' := by obtain rfl : K = K' := funext fun l => funext fun h => hK l h; rfl
theorem q_lp1 {l : Nat} {h : HTr} {K K' : HTr → RT} (hK : ∀ h, K h = K' h) : (BA Sg T call).lp1 l h K = lp1B l h K' := by obtain rfl : K = K' := funext hK; rfl
theorem q_lp2 {l : Nat} {j : Option Code} {h : HTr} {K K' : HTr → RT} (hK : ∀ h, K h = K' h) : (BA Sg T call).lp2 l j h K = lp2B l j h K' := by obtain rfl : K = K' := funext hK; rfl
theorem pe {B B' : List Lf → HTr → RT} {M M' : (List Lf → HTr → RT) → RT} (h1 : ∀ l h, B l h = B' l h) (h2 : ∀ j, M j = M' j) : (BA Sg T call).join B M = pL B' M' := by
 obtain rfl : B = B' := funext fun l => funext fun h => h1 l h
 obtain rfl : M = M' := funext h2
 rfl
theorem hC {F F' : (List Lf → HTr → RT) → List Lf → HTr → RT} {ls : List Lf} {h : HTr} (hF : ∀ s l h, F s l h = F' s l h) : (BA Sg T call).loop F ls h = kj F' ls h := by
 obtain rfl : F = F' := funext fun s => funext fun l => funext fun h => hF s l h
 rfl
theorem co {g : FuncId} {ls : List Lf} {h : HTr} {K : List Lf → HTr → RT} {X : RT} (hg : aE ls = true) (hX : call (.f g) ls h K = X) : (BA Sg T call).call g ls h K = X := by
 show rx call g ls h K = _
 unfold rx
 rw [hg]; exact hX
end
section
variable [Val] [Kno]
abbrev KN1 := Nat × List Lf × List Lf
def pw (C : Cfg) (Sg : FuncId → Option Sig) (T : Nat → Site) (k : Nat) (g : FB) : Prop := ∀ ls h K w, dg ls → g ls h K = some w → ∃ rs h', bm C Sg k ls (absH T (toL h)) rs (absH T (toL h')) ∧ K rs h' = some w
def AllK (C : Cfg) (Sg : FuncId → Option Sig) (l : List KN1) : Prop := ∀ p ∈ l, ∀ H, bm C Sg p.1 p.2.1 H p.2.2 H
theorem AllK.nil {C : Cfg} {Sg : FuncId → Option Sig} : AllK C Sg [] := fun _ h => by cases h
theorem AllK.cons {C : Cfg} {Sg : FuncId → Option Sig} {f : Nat} {ls rs : List Lf} {l : List KN1} (h : ∀ H, bm C Sg f ls H rs H) (hl : AllK C Sg l) : AllK C Sg ((f, ls, rs) :: l) := by
 intro p hp
 rcases List.mem_cons.1 hp with rfl | hp
 ·exact h
 ·exact hl p hp
theorem AllK.app {C : Cfg} {Sg : FuncId → Option Sig} {l m : List KN1} (h : AllK C Sg l) (hm : AllK C Sg m) : AllK C Sg (l ++ m) := by
 intro p hp
 rcases List.mem_append.1 hp with hp | hp
 ·exact h p hp
 ·exact hm p hp
theorem qB {C : Cfg} {Sg : FuncId → Option Sig} {T : Nat → Site} {g : Nat} {d : FB} (hd : pw C Sg T g d) : ∀ {l : List (Nat × FB)}, (∀ p ∈ l, pw C Sg T p.1 p.2) → pw C Sg T g (lookF l g d)
 | [], _ => hd
 | p :: l, h => by
  have e : lookF (p :: l) g d = @Bool.rec (fun _ => FB) (lookF l g d) p.2 (Nat.beq p.1 g) := rfl
  rw [e]
  cases hb : Nat.beq p.1 g with
  | true =>
   have := Nat.eq_of_beq_eq_true hb
   subst this
   exact h p List.mem_cons_self
  | false => exact qB hd (fun q hq => h q (List.mem_cons_of_mem _ hq))
theorem aR {C : Cfg} {Sg : FuncId → Option Sig} {T : Nat → Site} {c : ab} (hc : CallBOk C Sg T c) {l : List (Nat × FB)} (h : ∀ p ∈ l, pw C Sg T p.1 p.2) : CallBOk C Sg T (tblF l c) :=
 ⟨fun g ls hh K w hls hk => qB (fun ls h K w => hc.f g ls h K w) h ls hh K w hls hk, fun κ vs l ls h K w st pd xs e hy hk => hc.y κ vs l ls h K w st pd xs e hy hk⟩
def YOk (C : Cfg) (Sg : FuncId → Option Sig) (T : Nat → Site) (κ : Nat) (g : List Value → Nat → FB) : Prop := ∀ vs l ls h K w st pd xs, h.at l = some (.lp κ st pd vs) → Told ((T κ).params.map (·.2)) ls xs → g vs l ls h K = some w →
  ∃ b h', hY C l (aj xs) (absH T (toL h)) (.bool b) (absH T (toL h')) ∧ K [.b b] h' = some w
noncomputable def lookY (l : List (Nat × (List Value → Nat → FB))) (κ : Nat) (d : List Value → Nat → FB) : List Value → Nat → FB := @List.rec _ (fun _ => List Value → Nat → FB) d (fun p _ ih => @Bool.rec (fun _ => List Value → Nat → FB) ih p.2 (Nat.beq p.1 κ)) l
theorem qC {C : Cfg} {Sg : FuncId → Option Sig} {T : Nat → Site} {g : Nat} {d : List Value → Nat → FB} (hd : YOk C Sg T g d) : ∀ {l : List (Nat × (List Value → Nat → FB))}, (∀ p ∈ l, YOk C Sg T p.1 p.2) → YOk C Sg T g (lookY l g d)
 | [], _ => hd
 | p :: l, h => by
  have e : lookY (p :: l) g d = @Bool.rec (fun _ => List Value → Nat → FB) (lookY l g d) p.2 (Nat.beq p.1 g) := rfl
  rw [e]
  cases hb : Nat.beq p.1 g with
  | true =>
   have := Nat.eq_of_beq_eq_true hb
   subst this
   exact h p List.mem_cons_self
  | false => exact qC hd (fun q hq => h q (List.mem_cons_of_mem _ hq))
theorem tell_eq : tell = fun rs _ => some rs := by
 funext rs h
 exact df rs _
theorem memo_ok {C : Cfg} {Sg : FuncId → Option Sig} {T : Nat → Site} (hpl : ∀ f sg ls rs H', Sg f = some sg → sg.plain = true → bm C Sg f ls [] rs H' → ∀ H, bm C Sg f ls H rs H)
  {k : Nat} {g : FB} {sg : Sig} (hg : pw C Sg T k g) (hs : Sg k = some sg) (hp : sg.plain = true) : pw C Sg T k (memo g) := by
 intro ls h K w hls hk
 unfold memo at hk
 rw [df, tell_eq] at hk
 cases e : g ls .empty (fun rs _ => some rs) with
 | none => rw [e] at hk; cases hk
 | some rs =>
  rw [e] at hk
  obtain ⟨rs', h', a1, a2⟩ := hg ls .empty _ rs hls e
  cases a2
  exact ⟨rs, h, hpl k sg ls rs _ hs hp a1 _, hk⟩
end
end Go.Am

/-
 WHAT A ROUND OF EACH LOOP OVER AN ITERATOR DOES, BY PROGRAM.
-/
set_option maxRecDepth 100000
namespace Go.Am
open Sx Go.Proofs
section
variable {R HT : Type} (A : Alg R HT)
noncomputable def y368 (vs : List Value) (lp : Nat) (ls : List Lf) (h : HT) (K : List Lf → HT → R) : R := A.ucV vs (fun J a0 => A.chk J ( A.uc0 a0 ( A.unI ls (fun a1 a2 => A.unI a2 (fun a3 a4 => A.un0 a4 ( A.new (.cells [(.int .i64 (.ofNat 0)), (.int .u8 (.ofNat 0))] 2 true) h (fun Q h15 => A.heap (.st (.pointer (some ⟨Q, 0, none⟩)) [(.int .i64 a1), (.int .u8 a3)]) h15 (fun c0 a5 => A.lp1 lp a5 (fun O => A.peek (.lg cc 1 J) O (fun a6 => A.ucV a6 (fun U a7 => A.chk U ( A.uc0 a7 ( A.peek (.lg cc 2 (.pointer (some ⟨Q, 0, none⟩))) O (fun a8 => A.ucI .i64 a8 (fun a9 b0 => A.ucI .u8 b0 (fun b1 b2 => A.uc0 b2 ( A.new (.cells [(.int .i64 a9), (.int .u8 b1)] 2 true) O (fun b3 b4 => A.heap (.ap cc 2 16 U (.slice (some ⟨b3, 0, (some 12)⟩) 1 2)) b4 (fun b5 b6 => A.ucV b5 (fun V b7 => A.chk V ( A.uc0 b7 ( A.heap (.st J [V]) b6 (fun c1 b8 => A.lp2 lp none b8 (fun b9 => K [(.b true)] b9))))))))))))))))))))))))
end
theorem ey368 : @y368 = fun R HT A vs lp ls h K => pF A (xc 0) ae drN (ac 368) vs lp ls h K := by kernel_rfl
end Go.Am


/-
  OPERATIONS, sixth part: slices, indices, maps.
-/
import Derived.Test.YtdngmncaohgacaaDoorSx6e
set_option linter.unusedSectionVars false
set_option linter.unusedSimpArgs false
set_option linter.unusedVariables false
set_option linter.constructorNameAsVariable false
namespace Go.Am
namespace Sx

section
variable [Val] [Kno] {R HT : Type} {A : Alg R HT} {X : Ctxt} {Sg : FuncId → Option Sig} {holds : R → Prop} {abs : HT → List HObj}
variable {ev : Env} {σ : St} {h : HT} {o : Oper} {K : KN R HT}

theorem cutS_len {cs ds : List SL} {off n : Nat} (h : cutS cs off n = some ds) : ds.length = n := by
  unfold cutS at h
  split at h
  · rename_i hle; cases h; simp; omega
  · cases h

theorem mk_any {ag : Bool} {ds : List SL} {n : Nat} (hl : ds.length = (if ag then n else 1)) : ∃ x, mkS0 ag ds = some x := by
  cases ag with
  | true => exact ⟨_, rfl⟩
  | false =>
    simp only [Bool.false_eq_true, if_false] at hl
    match ds, hl with
    | [d], _ => exact ⟨_, rfl⟩

theorem index_ok (hA : AlgOk A X.C Sg X.T holds abs) (hR : Rp ev σ) (ha : abs h = σ.heap) {t : TypeId} {x i : Operand} {hs : List SK} (ho : o.op = .index t x i)
    (hk : holds (match X.C.P.underlying t, sval ev x, sval ev i with
    | some (.array len e), .st (.agg cs), .st (.leaf (.i _ j)) => match aggT X.C.P e with
      | some ag => match eqB ag (skAgg (resSK hs)) && allAt cs (skKs (resSK hs)) 0 [(j, X.C.P.cellsOf e)] && Nat.beq (if ag then X.C.P.cellsOf e else 1) (skKs (resSK hs)).length with
        | false => A.fail
        | true => A.opt (inB len j) fun _ => A.opt (pickL (cs.map SL.lf) 0 [(j, X.C.P.cellsOf e)] (if ag then X.C.P.cellsOf e else 1)) fun ls => setL A o.dst (resSK hs) ls ev h K
      | none => A.fail
    | _, _, _ => A.fail)) : Done X holds abs o σ K := by
  split at hk
  · rename_i len e cs k j hu e1 e2
    obtain ⟨h1, g1⟩ := hR.sval e1 (by simp)
    obtain ⟨h2, _⟩ := hR.sval e2 (by simp)
    split at hk
    · rename_i ag hag
      split at hk
      · exact absurd hk hA.fail
      · rename_i hc
        simp only [Bool.and_eq_true] at hc
        obtain ⟨⟨c1, c2⟩, c3⟩ := hc
        have c1 := eqB_eq c1
        have c3 := Nat.eq_of_beq_eq_true c3
        obtain ⟨u, hb, hk1⟩ := hA.opt _ _ hk
        obtain ⟨b1, b2⟩ := inB_ok hb
        obtain ⟨ls, hp, hk2⟩ := hA.opt _ _ hk1
        obtain ⟨ds, hd, rfl⟩ := pickL_ok hp
        have hlen : ds.length = (if ag then X.C.P.cellsOf e else 1) := cutS_len hd
        obtain ⟨y, hy⟩ := mk_any hlen
        obtain ⟨p1, p2⟩ := partS_ok hag hd hy
        obtain ⟨m1, m2⟩ := mkS0_ok hy
        rw [c3] at hd
        rw [c1] at m2
        obtain ⟨z, hz1, hz2, hk3⟩ := setL_ok hA (allAt_ok c2 hd) (fun c hc => g1 c ((cutS_ok hd).2 c hc)) m2 hk2
        refine done_val hR ha (s := .st z) hz2 ?_ hk3
        have hi : indexA X.C t (.agg ⟨cs.map SL.val⟩) (.int k j) = some y.val := by
          have : offX 0 [(j, X.C.P.cellsOf e)] = j.toNat * X.C.P.cellsOf e := by simp [offX]
          rw [this] at p1
          simp only [indexA, Am.intOf, hu, if_pos (And.intro b1 b2)]
          exact p1
        have h1 : oval σ.tmps x = .agg ⟨cs.map SL.val⟩ := h1
        have h2 : oval σ.tmps i = .int k j := h2
        simp only [effOf, ho, h1, h2, hi, Option.map_some]
        rw [← hz1]; rfl
    · exact absurd hk hA.fail
  · exact absurd hk hA.fail

theorem bounds_zero {P : Program} {lo hi mx : Option Value} (h1 : ∀ v, lo = some v → ∃ k, v = .int k 0) (h2 : ∀ v, hi = some v → ∃ k, v = .int k 0) (h3 : ∀ v, mx = some v → ∃ k, v = .int k 0) (h4 : mx = none ∨ hi.isSome = true) (w : World) :
    (Instr.sliceBounds true 0 0 lo hi mx).run P w = .ok (0, 0, 0) w := by
  have hb : ∀ (k : IntKind) (c : BoundsCode), (Instr.sliceBound (.int k 0) 0 c).run P w = .ok 0 w := fun k c => by
    simp [Instr.sliceBound, asIntOf]
  unfold Instr.sliceBounds
  cases mx with
  | none =>
    cases hi with
    | none =>
      cases lo with
      | none => simp
      | some l => obtain ⟨k, rfl⟩ := h1 _ rfl; simp [hb]
    | some u =>
      obtain ⟨k, rfl⟩ := h2 _ rfl
      cases lo with
      | none => simp [hb]
      | some l => obtain ⟨k, rfl⟩ := h1 _ rfl; simp [hb]
  | some m =>
    obtain ⟨k, rfl⟩ := h3 _ rfl
    cases hi with
    | none => rcases h4 with h | h <;> simp at h
    | some u =>
      obtain ⟨k, rfl⟩ := h2 _ rfl
      cases lo with
      | none => simp [hb]
      | some l => obtain ⟨k, rfl⟩ := h1 _ rfl; simp [hb]

theorem sliceE_ok (hA : AlgOk A X.C Sg X.T holds abs) (hR : Rp ev σ) (ha : abs h = σ.heap) {t : TypeId} {x : Operand} {lo hi mx : Option Operand} (ho : o.op = .slice t x lo hi mx)
    (hk : holds (match X.C.P.underlying t, sval ev x, optI ev lo, optI ev hi, optI ev mx with
    | some (.slice e), .st (.leaf (.v x)), some lo, some hi, some mx => match Nat.beq (X.C.P.cellsOf e) 0 with
      | true => A.fail
      | false => A.opt (slS (X.C.P.cellsOf e) x lo hi mx) fun q => A.chk q (setD o.dst (.st (.leaf (.v q))) ev h K)
    | some (.array _ e), .gad g off, some lo, some hi, some mx => match Nat.beq (X.C.P.cellsOf e) 0 with
      | true => A.fail
      | false => A.opt (sliceArr X.C t ⟨g, off, some 1⟩ (lo.map (.int .i64)) (hi.map (.int .i64)) (mx.map (.int .i64)) []) fun q => A.chk q (setD o.dst (.st (.leaf (.v q))) ev h K)
    | _, _, _, _, _ => A.fail)) : Done X holds abs o σ K := by
  split at hk
  · rename_i e v lo' hi' mx' hu e1 e2 e3 e4
    obtain ⟨h1, _⟩ := hR.sval e1 (by simp)
    simp only [SV.val, S0.val, SL.val] at h1
    split at hk
    · exact absurd hk hA.fail
    · rename_i hz
      have hz : ¬ X.C.P.cellsOf e = 0 := fun e => by rw [e] at hz; cases hz
      obtain ⟨q, hq, hk1⟩ := hA.opt _ _ hk
      obtain ⟨hg, hk2⟩ := hA.chk _ _ hk1
      have b2 := boundOf_ok hR e2
      have b3 := boundOf_ok hR e3
      have b4 := boundOf_ok hR e4
      unfold slS at hq
      split at hq
      · rename_i a len cx
        split at hq
        · cases hq
        · rename_i hsp
          split at hq
          · rename_i hb
            cases hq
            refine done_val hR ha (s := .st (.leaf (.v _))) (leaf_good hg) ?_ hk2
            simp only [effOf, ho, h1, sliceA, b2, b3, b4, hu, if_neg hz, if_neg hsp, if_pos hb, orElse]
            rfl
          · cases hq
      · split at hq
        · rename_i hb
          cases hq
          have hint : ∀ {r : Option Operand} {x : Option Int}, optI ev r = some x → x.getD 0 = 0 → ∀ v, r.map (oval σ.tmps) = some v → ∃ k, v = .int k 0 := by
            intro r x hx h0 v hv
            rcases optI_ok hR hx with ⟨rfl, rfl⟩ | ⟨y, k, n, rfl, h1, rfl⟩
            · cases hv
            · simp only [Option.map_some, Option.some.injEq, h1] at hv
              simp at h0
              subst h0
              exact ⟨k, hv.symm⟩
          have hplain : ∀ {r : Option Operand} {x : Option Int}, optI ev r = some x → ∀ y, r = some y → plain (oval σ.tmps y) = true ∧ den (oval σ.tmps y) = oval σ.tmps y := by
            intro r x hx y hy
            rcases optI_ok hR hx with ⟨rfl, rfl⟩ | ⟨y', k, n, rfl, h1, rfl⟩
            · cases hy
            · cases hy; rw [h1]; exact ⟨rfl, rfl⟩
          have hden : ∀ {r : Option Operand} {x : Option Int}, optI ev r = some x → r.map (fun y => den (oval σ.tmps y)) = r.map (oval σ.tmps) := by
            intro r x hx
            cases r with
            | none => rfl
            | some y => simp [(hplain hx y rfl).2]
          refine done_sym hR ha (s := .st (.leaf (.v (.slice none 0 0)))) (leaf_good rfl) ⟨by rw [ho]; rfl, ?_, rfl, fun w => ?_⟩ hk2
          · rw [ho]
            simp only [Op.operands, Array.toList_append, List.all_append, Bool.and_eq_true]
            refine ⟨⟨⟨by simp [h1]; rfl, ?_⟩, ?_⟩, ?_⟩
            · cases lo with
              | none => rfl
              | some y => simp [(hplain e2 y rfl).1]
            · cases hi with
              | none => rfl
              | some y => simp [(hplain e3 y rfl).1]
            · cases mx with
              | none => rfl
              | some y => simp [(hplain e4 y rfl).1]
          · have hm : mx.map (oval σ.tmps) = none ∨ (hi.map (oval σ.tmps)).isSome = true := by
              rcases hb.2.2.2 with hm | hm
              · left
                rcases optI_ok hR e4 with ⟨rfl, rfl⟩ | ⟨y', k, n, rfl, h1, rfl⟩
                · rfl
                · cases hm
              · right
                rcases optI_ok hR e3 with ⟨rfl, rfl⟩ | ⟨y', k, n, rfl, h1, rfl⟩
                · cases hm
                · rfl
            have hbd := bounds_zero (P := X.C.P) (hint e2 hb.1) (hint e3 hb.2.1) (hint e4 hb.2.2.1) hm w
            have hsz : ∃ i, X.C.P.info? e = some i := by
              unfold Program.cellsOf at hz
              cases hi : X.C.P.info? e with
              | none => rw [hi] at hz; exact absurd rfl hz
              | some i => exact ⟨i, rfl⟩
            obtain ⟨i, hi⟩ := hsz
            have hd0 : den (.slice none 0 0) = .slice none 0 0 := rfl
            simp only [execOp, ho, h1, hden e2, hden e3, hden e4, hd0, Instr.sliceAt, Instr.slice, Sem.run_bind, run_underlying hu, Result.andThen_ok, hbd, run_sizeOf hi, Sem.run_pure]
            simp only [SV.val, S0.val, SL.val, hd0]
            simp
        · cases hq
      · cases hq
  · rename_i n e g off lo' hi' mx' hu e1 e2 e3 e4
    obtain ⟨h1, _⟩ := hR.sval e1 (by simp)
    simp only [SV.val] at h1
    split at hk
    · exact absurd hk hA.fail
    · obtain ⟨q, hq, hk1⟩ := hA.opt _ _ hk
      obtain ⟨hg, hk2⟩ := hA.chk _ _ hk1
      refine done_val hR ha (s := .st (.leaf (.v q))) (leaf_good hg) ?_ hk2
      have hb : ∀ {r : Option Operand} {x : Option Int}, optI ev r = some x → boundOf (r.map (oval σ.tmps)) = boundOf (x.map (.int .i64)) := by
        intro r x hx
        rw [boundOf_ok hR hx]
        cases x <;> rfl
      have : sliceArr X.C t ⟨g, off, some 1⟩ (lo.map (oval σ.tmps)) (hi.map (oval σ.tmps)) (mx.map (oval σ.tmps)) [] = some q := by
        rw [← hq]
        unfold sliceArr arrBounds
        rw [hb e2, hb e3, hb e4]
      simp only [effOf, ho, h1, if_true, this, Option.map_some]; rfl
  · exact absurd hk hA.fail

/-! ### Maps -/

theorem cellsA_ok {ag : Bool} {v : Value} {cs : List Value} (h : cellsA ag v = some cs) : mkV ag cs v := by
  unfold cellsA at h
  split at h
  · cases h; exact .inl ⟨rfl, rfl⟩
  · cases h
  · cases h
  · cases h; exact .inr ⟨rfl, rfl⟩

theorem mapG_at (H : List HObj) (id : Nat) : mapG (fun i => H[i]?) id = hmap H id := rfl

theorem luG_ok {C : Cfg} {t kt et : TypeId} {ag ok : Bool} {z m k : Value} {H : List HObj} {cs : List Value} (hu : C.P.underlying t = some (.map kt et)) (hz : zeroOf C.P et = some z)
    (hl : luG C kt ag z m k ok (fun i => H[i]?) = some cs) : ∃ v b cs0, cellsA ag v = some cs0 ∧ cs = cs0 ++ (if ok then [.bool b] else []) ∧ lookupA C t m k ok H = some (if ok then .tuple #[v, .bool b] else v) := by
  unfold luG at hl
  unfold lookupA
  rw [hu]
  simp only
  split at hl
  · cases hl
  · rename_i hko
    rw [if_neg hko]
    simp only [hz]
    split at hl
    · obtain ⟨cs0, h1, h2⟩ := Option.map_eq_some_iff.1 hl
      exact ⟨z, false, cs0, h1, h2.symm, rfl⟩
    · rename_i id
      rw [mapG_at] at hl
      split at hl
      · cases hl
      · rename_i es c hm
        simp only [hm]
        split at hl
        · cases hl
        · rename_i hf
          rw [hf]
          obtain ⟨cs0, h1, h2⟩ := Option.map_eq_some_iff.1 hl
          exact ⟨z, false, cs0, h1, h2.symm, rfl⟩
        · rename_i i hf
          rw [hf]
          simp only
          obtain ⟨cs0, h1, h2⟩ := Option.map_eq_some_iff.1 hl
          obtain ⟨v, h3, h4⟩ := Option.bind_eq_some_iff.1 h1
          exact ⟨v, true, cs0, h4, h2.symm, by rw [h3]; rfl⟩
    · cases hl

theorem lookup_eff {C : Cfg} {pts : List Nat} {ρ : Operand → Value} {t : TypeId} {m k : Operand} {ok : Bool} (ho : o.op = .lookup t m k ok) (H : List HObj) {v : Value} (hv : lookupA C t (ρ m) (ρ k) ok H = some v) :
    effOf C pts ρ o = some (.val v) ∨ ∃ f, effOf C pts ρ o = some (.hget f) ∧ f H = some v := by
  simp only [effOf, ho]
  split
  · rename_i hm
    left
    rw [hm] at hv
    have : lookupA C t (.map none) (ρ k) ok [] = lookupA C t (.map none) (ρ k) ok H := rfl
    rw [this, hv]; rfl
  · right
    exact ⟨_, rfl, hv⟩

theorem done_look (hR : Rp ev σ) (ha : abs h = σ.heap) {s : SV} (hs : s.gd) {t : TypeId} {m k : Operand} {ok : Bool} (ho : o.op = .lookup t m k ok)
    (hv : lookupA X.C t (oval σ.tmps m) (oval σ.tmps k) ok σ.heap = some s.val) (hk : holds (setD o.dst s ev h K)) : Done X holds abs o σ K := by
  rcases lookup_eff (pts := X.pts) ho σ.heap hv with h1 | ⟨f, h1, h2⟩
  · exact done_val hR ha hs h1 hk
  · exact done_hget hR ha hs h1 h2 hk

theorem look_ok (hA : AlgOk A X.C Sg X.T holds abs) (hR : Rp ev σ) (ha : abs h = σ.heap) {t : TypeId} {m k : Operand} {ok : Bool} {hs : List SK} (ho : o.op = .lookup t m k ok)
    (hk : holds (match X.C.P.underlying t, sval ev m, sval0 ev k with
    | some (.map kt et), .st (.leaf (.v m)), some k => match zeroOf X.C.P et with
      | some z => match (generalizing := false) hs, ok with
        | [sk], false => A.peek (luG X.C kt (skAgg sk) z m k.val false) h fun cs => ucS A sk cs fun x r => A.uc0 r (setD o.dst (.st x) ev h K)
        | [sk, .leaf .b], true => A.peek (luG X.C kt (skAgg sk) z m k.val true) h fun cs => ucS A sk cs fun x r => A.ucB r fun t r => A.uc0 r (setD o.dst (.tup [x, .leaf (.b t)]) ev h K)
        | _, _ => A.fail
      | none => A.fail
    | _, _, _ => A.fail)) : Done X holds abs o σ K := by
  split at hk
  · rename_i kt et mv kv hu e1 e2
    obtain ⟨h1, _⟩ := hR.sval e1 (by simp)
    obtain ⟨h2, _⟩ := hR.sval0 e2
    simp only [SV.val, S0.val, SL.val] at h1
    split at hk
    · rename_i z hz
      split at hk
      · rename_i sk
        obtain ⟨cs, hl, hk1⟩ := hA.peek _ _ _ hk
        rw [ha] at hl
        obtain ⟨v, b, cs0, q1, q2, q3⟩ := luG_ok hu hz hl
        obtain ⟨x, r, r1, r2, r3, hk2⟩ := ucS_ok hA hk1
        obtain ⟨hr, hk3⟩ := hA.uc0 _ _ hk2
        rw [hr, List.append_nil] at r1
        simp only [Bool.false_eq_true, if_false, List.append_nil] at q2 q3
        have hv := cellsA_ok q1
        rw [← q2, r1] at hv
        refine done_look hR ha (s := .st x) r3 ho ?_ hk3
        rw [h1, h2, q3, ← mkV_is r2 hv]; rfl
      · rename_i sk
        obtain ⟨cs, hl, hk1⟩ := hA.peek _ _ _ hk
        rw [ha] at hl
        obtain ⟨v, b, cs0, q1, q2, q3⟩ := luG_ok hu hz hl
        obtain ⟨x, r, r1, r2, r3, hk2⟩ := ucS_ok hA hk1
        obtain ⟨t', r', r4, hk3⟩ := hA.ucB _ _ hk2
        obtain ⟨hr, hk4⟩ := hA.uc0 _ _ hk3
        simp only [if_true] at q2 q3
        rw [r4, hr, q2] at r1
        obtain ⟨w1, w2⟩ := List.append_inj' r1 rfl
        simp only [List.cons.injEq, Value.bool.injEq, and_true] at w2
        have hv := cellsA_ok q1
        rw [w1] at hv
        refine done_look hR ha (s := .tup [x, .leaf (.b t')]) ⟨fun y hy => ?_, Nat.le_refl 2⟩ ho ?_ hk4
        · simp only [List.mem_cons, List.not_mem_nil, or_false] at hy
          rcases hy with rfl | rfl
          · exact r3
          · exact leaf_good trivial
        · rw [h1, h2, q3, ← mkV_is r2 hv, w2]; rfl
      · exact absurd hk hA.fail
    · exact absurd hk hA.fail
  · exact absurd hk hA.fail

theorem muG_ok {C : Cfg} {t kt et : TypeId} {m k v : Value} {H : List HObj} {n : Nat} {acts : List Act1} {cs : List Value} (hu : C.P.underlying t = some (.map kt et)) (hv1 : noLoc v = true) (hv2 : isTuple v = false)
    (hl : muG C kt m k v (fun i => H[i]?) n = some (acts, cs)) : mapUpdateA C t m k v H = some (actsOn H acts, undef) := by
  unfold muG at hl
  unfold mapUpdateA
  split at hl
  · rename_i id
    rw [hu]
    simp only
    split at hl
    · cases hl
    · rename_i hko
      have hko : keyOk C.P kt k = true := by simpa using hko
      rw [if_neg (by simp [hko, hv1, hv2])]
      rw [mapG_at] at hl
      split at hl
      · cases hl
      · rename_i es c hm
        simp only [hm]
        split at hl
        · cases hl
        · rename_i hf
          rw [hf]
          cases hl; rfl
        · rename_i i hf
          rw [hf]
          simp only
          split at hl
          · rename_i hb
            rw [if_pos hb]
            cases hl; rfl
          · cases hl
  · cases hl

theorem mapUp_ok (hA : AlgOk A X.C Sg X.T holds abs) (hR : Rp ev σ) (ha : abs h = σ.heap) {t : TypeId} {m k v : Operand} (ho : o.op = .mapUpdate t m k v ∨ o.op = .insert t m k v)
    (hk : holds (match X.C.P.underlying t, sval ev m, sval0 ev k, sval0 ev v with
    | some (.map kt _), .st (.leaf (.v m)), some k, some v => A.heap (muG X.C kt m k.val v.val) h fun _ h => setD o.dst .un ev h K
    | _, _, _, _ => A.fail)) : Done X holds abs o σ K := by
  split at hk
  · rename_i kt et mv kv vv hu e1 e2 e3
    obtain ⟨h1, _⟩ := hR.sval e1 (by simp)
    obtain ⟨h2, _⟩ := hR.sval0 e2
    obtain ⟨h3, g3⟩ := hR.sval0 e3
    simp only [SV.val, S0.val, SL.val] at h1
    obtain ⟨acts, cs, h', q1, q2, hk1⟩ := hA.heap _ _ _ hk
    rw [ha] at q1 q2
    refine done_hop hR q2 (s := .un) trivial (f := mapUpdateA X.C t mv kv.val vv.val) ?_ (muG_ok hu (S0.noLoc g3) (S0.not_tuple g3) q1) hk1
    rcases ho with ho | ho <;> simp only [effOf, ho, h1, h2, h3]
  · exact absurd hk hA.fail

theorem meG_ok {C : Cfg} {t kt et : TypeId} {ag : Bool} {z m k : Value} {H : List HObj} {n : Nat} {acts : List Act1} {cs : List Value} (hu : C.P.underlying t = some (.map kt et)) (hz : zeroOf C.P et = some z)
    (hl : meG C kt ag z m k (fun i => H[i]?) n = some (acts, cs)) : ∃ v cs0 c, cellsA ag v = some cs0 ∧ cs = cs0 ++ [.int .i64 c] ∧ mapEntryA C t m k H = some (actsOn H acts, .tuple #[v, .int .i64 c]) := by
  unfold meG at hl
  unfold mapEntryA
  split at hl
  · rename_i id
    rw [hu]
    simp only
    split at hl
    · cases hl
    · rename_i hko
      rw [if_neg hko]
      rw [mapG_at] at hl
      split at hl
      · cases hl
      · rename_i es c hm
        simp only [hm]
        split at hl
        · cases hl
        · rename_i hf
          rw [hf]
          simp only [hz]
          obtain ⟨cs0, h1, h2⟩ := Option.map_eq_some_iff.1 hl
          cases h2
          exact ⟨z, cs0, _, h1, rfl, rfl⟩
        · rename_i i hf
          rw [hf]
          simp only
          split at hl
          · cases hl
          · rename_i e he
            rw [he]
            simp only
            split at hl
            · rename_i hb
              rw [if_pos hb]
              obtain ⟨cs0, h1, h2⟩ := Option.map_eq_some_iff.1 hl
              cases h2
              exact ⟨e.val, cs0, _, h1, rfl, rfl⟩
            · cases hl
  · cases hl

theorem mapEn_ok (hA : AlgOk A X.C Sg X.T holds abs) (hR : Rp ev σ) (ha : abs h = σ.heap) {t : TypeId} {m k : Operand} {hs : List SK} (ho : o.op = .mapEntry t m k)
    (hk : holds (match X.C.P.underlying t, sval ev m, sval0 ev k with
    | some (.map kt et), .st (.leaf (.v m)), some k => match zeroOf X.C.P et with
      | some z => match hs with
        | [sk, .leaf (.i .i64)] => A.heap (meG X.C kt (skAgg sk) z m k.val) h fun cs h => ucS A sk cs fun x r => A.ucI .i64 r fun n r => A.uc0 r (setD o.dst (.tup [x, .leaf (.i .i64 n)]) ev h K)
        | _ => A.fail
      | none => A.fail
    | _, _, _ => A.fail)) : Done X holds abs o σ K := by
  split at hk
  · rename_i kt et mv kv hu e1 e2
    obtain ⟨h1, _⟩ := hR.sval e1 (by simp)
    obtain ⟨h2, _⟩ := hR.sval0 e2
    simp only [SV.val, S0.val, SL.val] at h1
    split at hk
    · rename_i z hz
      split at hk
      · rename_i sk
        obtain ⟨acts, cs, h', q1, q2, hk1⟩ := hA.heap _ _ _ hk
        rw [ha] at q1 q2
        obtain ⟨v, cs0, c, w1, w2, w3⟩ := meG_ok hu hz q1
        obtain ⟨x, r, r1, r2, r3, hk2⟩ := ucS_ok hA hk1
        obtain ⟨n, r', r4, hk3⟩ := hA.ucI _ _ _ hk2
        obtain ⟨hr, hk4⟩ := hA.uc0 _ _ hk3
        rw [r4, hr, w2] at r1
        obtain ⟨u1, u2⟩ := List.append_inj' r1 rfl
        simp only [List.cons.injEq, Value.int.injEq, true_and, and_true] at u2
        have hv := cellsA_ok w1
        rw [u1] at hv
        refine done_hop hR q2 (s := .tup [x, .leaf (.i .i64 n)]) ⟨fun y hy => ?_, Nat.le_refl 2⟩ (f := mapEntryA X.C t mv kv.val) ?_ ?_ hk4
        · simp only [List.mem_cons, List.not_mem_nil, or_false] at hy
          rcases hy with rfl | rfl
          · exact r3
          · exact leaf_good trivial
        · simp only [effOf, ho, h1, h2]
        · rw [w3, ← mkV_is r2 hv, u2]; rfl
      · exact absurd hk hA.fail
    · exact absurd hk hA.fail
  · exact absurd hk hA.fail

theorem esG_ok {m v : Value} {b : Int} {k : IntKind} {H : List HObj} {n : Nat} {acts : List Act1} {cs : List Value} (hv1 : noLoc v = true) (hv2 : isTuple v = false)
    (hl : esG m b v (fun i => H[i]?) n = some (acts, cs)) : entryStoreA m (.int k b) v H = some (actsOn H acts, undef) := by
  unfold esG at hl
  unfold entryStoreA
  split at hl
  · rename_i id
    simp only [Am.intOf]
    rw [if_neg (by simp [hv1, hv2])]
    rw [mapG_at] at hl
    split at hl
    · cases hl
    · rename_i es c hm
      simp only [hm]
      split at hl
      · rename_i i hf
        rw [hf]
        cases hl; rfl
      · cases hl
  · cases hl

theorem entSt_ok (hA : AlgOk A X.C Sg X.T holds abs) (hR : Rp ev σ) (ha : abs h = σ.heap) {t : TypeId} {m s v : Operand} (ho : o.op = .entryStore t m s v)
    (hk : holds (match sval ev m, sval ev s, sval0 ev v with
    | .st (.leaf (.v m)), .st (.leaf (.i _ b)), some v => A.heap (esG m b v.val) h fun _ h => setD o.dst .un ev h K
    | _, _, _ => A.fail)) : Done X holds abs o σ K := by
  split at hk
  · rename_i mv k b vv e1 e2 e3
    obtain ⟨h1, _⟩ := hR.sval e1 (by simp)
    obtain ⟨h2, _⟩ := hR.sval e2 (by simp)
    obtain ⟨h3, g3⟩ := hR.sval0 e3
    simp only [SV.val, S0.val, SL.val] at h1 h2
    obtain ⟨acts, cs, h', q1, q2, hk1⟩ := hA.heap _ _ _ hk
    rw [ha] at q1 q2
    refine done_hop hR q2 (s := .un) trivial (f := entryStoreA mv (.int k b) vv.val) ?_ (esG_ok (S0.noLoc g3) (S0.not_tuple g3) q1) hk1
    simp only [effOf, ho, h1, h2, h3]
  · exact absurd hk hA.fail

theorem deG_ok {C : Cfg} {t kt et : TypeId} {m k : Value} {H : List HObj} {n : Nat} {acts : List Act1} {cs : List Value} (hu : C.P.underlying t = some (.map kt et))
    (hl : deG C kt m k (fun i => H[i]?) n = some (acts, cs)) : deleteA C t m k H = some (actsOn H acts, undef) := by
  unfold deG at hl
  unfold deleteA
  rw [hu]
  simp only
  split at hl
  · cases hl
  · rename_i hko
    rw [if_neg hko]
    split at hl
    · cases hl; rfl
    · rename_i id
      rw [mapG_at] at hl
      split at hl
      · cases hl
      · rename_i es c hm
        simp only [hm]
        split at hl
        · cases hl
        · rename_i hf
          rw [hf]; cases hl; rfl
        · rename_i i hf
          rw [hf]; cases hl; rfl
    · cases hl

end
end Sx
end Go.Am

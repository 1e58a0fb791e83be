/-
  CODE, second part: statements.
-/
import Derived.Test.YtdngmncaohgacaaDoorSx7
set_option linter.unusedSectionVars false
set_option linter.unusedSimpArgs false
set_option linter.unusedVariables false
set_option linter.constructorNameAsVariable false
namespace Go.Am
namespace Sx

section
variable [Val] [Kno] {R HT : Type} {A : Alg R HT} {X : Ctxt} {Sg : FuncId → Option Sig} {holds : R → Prop} {abs : HT → List HObj}

def er (X : Ctxt) (c : AC) : Code := c.erase fun κ t => siteCode (X.T κ) t

/-- What came of a piece of code. -/
def Out (X : Ctxt) (holds : R → Prop) (abs : HT → List HObj) (c : Code) (σ : St) (kn : KN R HT) (kx : Exit → KN R HT) : Prop :=
  ∃ e σ' ev' h', uEx X.C X.pts c σ e σ' ∧ Rp ev' σ' ∧ abs h' = σ'.heap ∧ Fr (wrT c) (boxKeys X.pts c) (wrR X.pts c) σ σ' ∧ ((e = .normal ∧ holds (kn ev' h')) ∨ (e ≠ .normal ∧ holds (kx e ev' h')))

theorem joinE_ok (hA : AlgOk A X.C Sg X.T holds abs) {c : Code} {j : Option Live} {ev : Env} {σ : St} {kn : KN R HT} {main : KN R HT → R} {kx : Exit → KN R HT} {c' : Code}
    (hw : wrT c' = wrT c) (hb : boxKeys X.pts c' = boxKeys X.pts c) (hr : wrR X.pts c' = wrR X.pts c)
    (hR : Rp ev σ) (hm : ∀ kn, holds (main kn) → Out X holds abs c' σ kn kx) (hk : holds (joinE A X.pts c j ev kn main)) : Out X holds abs c' σ kn kx := by
  unfold joinE at hk
  cases j with
  | none => exact hm kn hk
  | some lv =>
    obtain ⟨e, σ', ev', h', h1, h2, h3, h4, h5⟩ := hm _ (hA.join _ _ hk)
    rcases h5 with ⟨rfl, h5⟩ | h5
    · simp only at h5
      split at h5
      · rename_i ls hp
        rw [hw, hb, hr] at h4
        obtain ⟨ev1, g1, g2⟩ := reE_ok hA hR h2 h4 hp (.refl _ _) (.inl rfl) h5
        exact ⟨.normal, σ', ev1, h', h1, g1, h3, by rw [hw, hb, hr]; exact h4, .inl ⟨rfl, g2⟩⟩
      · exact absurd h5 hA.fail
    · exact ⟨e, σ', ev', h', h1, h2, h3, h4, .inr h5⟩

theorem box_sub (pts : List Nat) : ∀ c : Code, ∀ s ∈ boxKeys pts c, s ∈ wrR pts c := by
  intro c
  induction c with
  | region id ops draw =>
    intro s hs
    simp only [boxKeys, List.mem_filterMap] at hs
    simp only [wrR, List.mem_filterMap]
    obtain ⟨o, ho, hs⟩ := hs
    refine ⟨o, ho, ?_⟩
    unfold opRow
    split at hs
    · rename_i e1 e2
      simp only [e1, e2]
      exact hs
    · rename_i e1 e2
      simp only [e1, e2]
      exact hs
    · cases hs
  | seq a b iha ihb => intro s hs; simp only [boxKeys, wrR, List.mem_append] at hs ⊢; exact hs.imp (iha s) (ihb s)
  | cond c a b iha ihb => intro s hs; simp only [boxKeys, wrR, List.mem_append] at hs ⊢; exact hs.imp (iha s) (ihb s)
  | block id b ih => exact ih
  | loop b ih => exact ih
  | scope b ih => exact ih
  | rangeFunc f ps a b iha ihb => intro s hs; simp only [boxKeys, wrR, List.mem_append] at hs ⊢; exact hs.imp (iha s) (ihb s)
  | _ => intro s hs; cases hs

theorem clear_val {keys : List Nat} {v : Value} (h : noLoc v = true) : clearV keys v = v := by
  unfold clearV
  split
  · rename_i a
    split
    · rename_i hc
      simp only [Bool.and_eq_true, decide_eq_true_eq] at hc
      simp [noLoc, noLoc3, noLoc2, noLoc1, hc.1] at h
    · rfl
  · rw [if_pos h]
theorem clear_ptr {keys : List Nat} {s off : Nat} (h : s ∉ keys) : clearV keys (.pointer (some ⟨s, off, some 0⟩)) = .pointer (some ⟨s, off, some 0⟩) := by
  unfold clearV
  simp [h]

theorem clear_tmps {σ : St} {keys : List Nat} {i : Nat} {v : Value} (hv : σ.tmps[i]? = some v) (hc : clearV keys v = v) : (σ.clear keys).tmps[i]? = some v := by
  unfold St.clear
  split
  · exact hv
  · simp [hv, hc]
theorem clear_loc {σ : St} {keys : List Nat} {s : Nat} {x : Option (List Value)} (hs : σ.loc[s]? = some x) (hn : s ∉ keys) : (σ.clear keys).loc[s]? = some x := by
  unfold St.clear
  split
  · exact hs
  · simp only
    rw [clearAt_get, Nat.zero_add, if_neg (by simpa using hn)]
    exact hs
theorem clear_new {σ : St} {keys : List Nat} {s : Nat} (hs : s ∈ keys) (hl : s < σ.loc.length) : (σ.clear keys).loc[s]? = some none := by
  unfold St.clear
  split
  · rename_i e; rw [e] at hs; cases hs
  · simp only
    rw [clearAt_get, Nat.zero_add, if_pos (by simpa using hs)]
    simp [hl]
theorem clear_tlen {σ : St} {keys : List Nat} : (σ.clear keys).tmps.length = σ.tmps.length := by unfold St.clear; split <;> simp
theorem clearAt_length (keys : List Nat) : ∀ (l : List (Option (List Value))) (i : Nat), (clearAt keys l i).length = l.length
  | [], _ => rfl
  | _ :: l, i => by simp [clearAt, clearAt_length keys l]
theorem clear_llen {σ : St} {keys : List Nat} : (σ.clear keys).loc.length = σ.loc.length := by unfold St.clear; split <;> simp [clearAt_length]
theorem clear_heap {σ : St} {keys : List Nat} : (σ.clear keys).heap = σ.heap := by unfold St.clear; split <;> rfl

theorem clear_like (σ : St) (keys : List Nat) : Like keys .nil σ (σ.clear keys) :=
  ⟨clear_tlen, clear_llen, fun _ _ h hn => clear_tmps h (clear_val hn), fun _ _ _ h hn => clear_tmps h (clear_ptr hn), fun _ _ h hn => clear_loc h hn, fun _ h hl => clear_new h (by rw [clear_llen] at hl; exact hl)⟩
theorem clear_fr {σ : St} {ws keys rs : List Nat} (hsub : ∀ s ∈ keys, s ∈ rs) : Fr ws keys rs σ (σ.clear keys) :=
  ⟨clear_tlen, clear_llen, fun _ _ h _ hn => clear_tmps h (clear_val hn), fun _ _ _ h _ hn => clear_tmps h (clear_ptr hn), fun s _ h hn => clear_loc h fun hk => hn (hsub s hk),
    fun s vs h hn => ⟨vs, clear_loc h hn, rfl⟩⟩

theorem capVals_ok {ev : Env} {σ : St} (hR : Rp ev σ) : ∀ {caps : List (Nat × SK)} {vs : List Value}, capVals ev.tm caps = some vs → ∀ (nt : Nat) (tm : List Value),
    (∀ (i : Nat) x, tm[i]? = some x → x = poison ∨ (σ.tmps[i]? = some x ∧ noLoc x = true)) → ∀ (i : Nat) x, (capTm nt caps vs tm)[i]? = some x → x = poison ∨ (σ.tmps[i]? = some x ∧ noLoc x = true)
  | [], vs, h, nt, tm, ht => by cases h; exact ht
  | (t, sk) :: caps, vs, h, nt, tm, ht => by
    simp only [capVals] at h
    split at h
    · rename_i x vs' hx hl
      split at h
      · cases h
        obtain ⟨g1, g2⟩ := hR.at hx (by simp)
        refine capVals_ok hR hl nt _ fun i y hy => ?_
        simp only [List.getElem?_set] at hy
        split at hy
        · rename_i hi
          subst hi
          split at hy
          · cases hy; exact .inr ⟨g1, S0.noLoc g2⟩
          · cases hy
        · exact ht i y hy
      · cases h
    · cases h
theorem capTm_length : ∀ (nt : Nat) (caps : List (Nat × SK)) (vs tm : List Value), (capTm nt caps vs tm).length = tm.length
  | _, [], _, _ => rfl
  | _, _ :: _, [], _ => rfl
  | nt, (t, _) :: caps, v :: vs, tm => by simp [capTm, capTm_length nt caps vs]

/-- EVERY PIECE OF CODE. -/
theorem exec_ok (hA : AlgOk A X.C Sg X.T holds abs) {dr : List Nat → Array Oper → Bool}
    (hdr : ∀ pts ops, dr pts ops = true → ∀ (n : Nat) (σ σ' : St), opsRel X.C (sm X.C n).toBelow pts ops (List.range ops.size) σ σ' → anyRel X.C (sm X.C n).toBelow pts ops σ σ') :
    ∀ (c : AC) (ev : Env) (h : HT) (σ : St) (kn : KN R HT) (kx : Exit → KN R HT), Rp ev σ → abs h = σ.heap → holds (exec A X Sg dr c ev h kn kx) → Out X holds abs (er X c) σ kn kx := by
  intro c
  induction c with
  | skip => intro ev h σ kn kx hR ha hk; exact ⟨.normal, σ, ev, h, .skip, hR, ha, .refl _ _ _ _, .inl ⟨rfl, hk⟩⟩
  | ret => intro ev h σ kn kx hR ha hk; exact ⟨.ret, σ, ev, h, .ret, hR, ha, .refl _ _ _ _, .inr ⟨by simp, hk⟩⟩
  | exit id => intro ev h σ kn kx hR ha hk; exact ⟨.exit id, σ, ev, h, .exit, hR, ha, .refl _ _ _ _, .inr ⟨by simp, hk⟩⟩
  | label l => intro ev h σ kn kx hR ha hk; exact ⟨.normal, σ, ev, h, .label, hR, ha, .refl _ _ _ _, .inl ⟨rfl, hk⟩⟩
  | seq a b iha ihb =>
    intro ev h σ kn kx hR ha hk
    obtain ⟨e, σ₁, ev₁, h₁, q1, q2, q3, q4, q5⟩ := iha ev h σ _ _ hR ha hk
    have m1 : Fr (wrT (er X (.seq a b))) (boxKeys X.pts (er X (.seq a b))) (wrR X.pts (er X (.seq a b))) σ σ₁ :=
      q4.mono (fun i hi => List.mem_append_left _ hi) (fun i hi => List.mem_append_left _ hi) (fun i hi => List.mem_append_left _ hi)
    rcases q5 with ⟨rfl, q5⟩ | ⟨q5, q6⟩
    · obtain ⟨e', σ', ev', h', p1, p2, p3, p4, p5⟩ := ihb ev₁ h₁ σ₁ kn kx q2 q3 q5
      exact ⟨e', σ', ev', h', .seq q1 p1, p2, p3, m1.trans (p4.mono (fun i hi => List.mem_append_right _ hi) (fun i hi => List.mem_append_right _ hi) (fun i hi => List.mem_append_right _ hi)), p5⟩
    · exact ⟨e, σ₁, ev₁, h₁, .seqX q1 q5, q2, q3, m1, .inr ⟨q5, q6⟩⟩
  | scope b ih =>
    intro ev h σ kn kx hR ha hk
    obtain ⟨e, σ₁, ev₁, h₁, q1, q⟩ := ih ev h σ kn kx hR ha hk
    exact ⟨e, σ₁, ev₁, h₁, .scope q1, q⟩
  | region id ops draw hs j =>
    intro ev h σ kn kx hR ha hk
    have hk' : holds (match draw && !(dr X.pts ops) with
      | true => A.fail
      | false => joinE A X.pts (.region id ops draw) j ev kn fun kn => opsE A X Sg ops ops.toList hs ev h kn) := hk
    split at hk'
    · exact absurd hk' hA.fail
    · rename_i hd
      refine joinE_ok hA (c := .region id ops draw) rfl rfl rfl hR (fun kn hk => ?_) hk'
      obtain ⟨σ', ev', h', p1, p2, p3, p4, p5⟩ := opsE_ok hA ops.toList 0 hs ev h σ rfl hR ha hk
      have p1 : opsRel X.C (uB X.C) X.pts ops (List.range ops.size) σ σ' := by
        rw [List.range_eq_range']; simpa using p1
      refine ⟨.normal, σ', ev', h', ?_, p2, p3, p4, .inl ⟨rfl, p5⟩⟩
      cases draw with
      | false => exact .region p1
      | true =>
        have hd : dr X.pts ops = true := by simpa using hd
        exact .draw (fun n hn => hdr _ _ hd n _ _ hn) p1
  | cond c a b j iha ihb =>
    intro ev h σ kn kx hR ha hk
    have hk' : holds (match sval ev c with
      | .st (.leaf (.l true)) => exec A X Sg dr a ev h kn kx
      | .st (.leaf (.l false)) => exec A X Sg dr b ev h kn kx
      | .st (.leaf (.b t)) => joinE A X.pts (er X (.cond c a b j)) j ev kn fun kn => A.cond t (exec A X Sg dr a ev h kn kx) (exec A X Sg dr b ev h kn kx)
      | _ => A.fail) := hk
    have ga : ∀ {kn}, oval σ.tmps c = .bool true → holds (exec A X Sg dr a ev h kn kx) → Out X holds abs (er X (.cond c a b j)) σ kn kx := by
      intro kn hc hk
      obtain ⟨e, σ₁, ev₁, h₁, q1, q2, q3, q4, q5⟩ := iha ev h σ kn kx hR ha hk
      exact ⟨e, σ₁, ev₁, h₁, .cond hc q1, q2, q3, q4.mono (fun i hi => List.mem_append_left _ hi) (fun i hi => List.mem_append_left _ hi) (fun i hi => List.mem_append_left _ hi), q5⟩
    have gb : ∀ {kn}, oval σ.tmps c = .bool false → holds (exec A X Sg dr b ev h kn kx) → Out X holds abs (er X (.cond c a b j)) σ kn kx := by
      intro kn hc hk
      obtain ⟨e, σ₁, ev₁, h₁, q1, q2, q3, q4, q5⟩ := ihb ev h σ kn kx hR ha hk
      exact ⟨e, σ₁, ev₁, h₁, .cond hc (show uEx X.C X.pts (if false = true then er X a else er X b) σ e σ₁ by rw [if_neg (by simp)]; exact q1), q2, q3, q4.mono (fun i hi => List.mem_append_right _ hi) (fun i hi => List.mem_append_right _ hi) (fun i hi => List.mem_append_right _ hi), q5⟩
    split at hk'
    · rename_i e; exact ga (hR.sval e (by simp)).1 hk'
    · rename_i e; exact gb (hR.sval e (by simp)).1 hk'
    · rename_i t e
      have h1 := (hR.sval e (by simp)).1
      refine joinE_ok hA (c := er X (.cond c a b j)) rfl rfl rfl hR (fun kn hk => ?_) hk'
      rcases hA.cond _ _ _ hk with ⟨ht, hk1⟩ | ⟨ht, hk1⟩
      · exact ga (by rw [h1, ht]; rfl) hk1
      · exact gb (by rw [h1, ht]; rfl) hk1
    · exact absurd hk' hA.fail
  | block id b j ih =>
    intro ev h σ kn kx hR ha hk
    refine joinE_ok hA (c := er X b) rfl rfl rfl hR (fun kn hk => ?_) (show holds (joinE A X.pts (er X b) j ev kn fun kn => exec A X Sg dr b ev h kn fun e => match eqExit e id with
      | true => kn
      | false => kx e) from hk)
    obtain ⟨e, σ₁, ev₁, h₁, q1, q2, q3, q4, q5⟩ := ih ev h σ _ _ hR ha hk
    refine ⟨exitTo1 id e, σ₁, ev₁, h₁, .block q1, q2, q3, q4, ?_⟩
    rcases q5 with ⟨rfl, q5⟩ | ⟨q5, q6⟩
    · exact .inl ⟨rfl, q5⟩
    · cases e with
      | normal => exact absurd rfl q5
      | exit i =>
        by_cases hi : i = id
        · subst hi
          left
          simp only [exitTo1, if_true, true_and]
          simpa [eqExit] using q6
        · right
          simp only [exitTo1, if_neg hi]
          refine ⟨by simp, ?_⟩
          have : Nat.beq i id = false := by
            rw [← Bool.not_eq_true]; intro h; exact hi (Nat.eq_of_beq_eq_true h)
          simpa [eqExit, this] using q6
      | _ => exact .inr ⟨by simp [exitTo1], by simpa [eqExit, exitTo1] using q6⟩
  | loop b lv ih =>
    intro ev h σ kn kx hR ha hk
    have hk' : holds (match pk ev lv with
      | none => A.fail
      | some ls => match lv.rows.all fun p => !(boxKeys X.pts (er X b)).contains p.1 with
        | false => A.fail
        | true => A.loop (fun self ls h => reE A X.pts (er X b) .nil lv ev ls fun ev => exec A X Sg dr b ev h (fun ev h => match pk ev lv with
          | some ls => self ls h
          | none => A.fail) kx) ls h) := hk
    split at hk'
    · exact absurd hk' hA.fail
    · rename_i ls0 hp0
      split at hk'
      · exact absurd hk' hA.fail
      · rename_i hlv
        have hlive : ∀ p ∈ lv.rows, p.1 ∉ boxKeys X.pts (er X b) := by
          intro p hp
          have := List.all_eq_true.1 hlv p hp
          simpa using this
        obtain ⟨it, i0, i1, n, hn⟩ := hA.loop _ _ _ hk'
        have main : ∀ (n : Nat) (ls : List Lf) (h : HT) (τ : St) (evτ : Env), Rp evτ τ → Fr (wrT (er X b)) (boxKeys X.pts (er X b)) (wrR X.pts (er X b)) σ τ → pk evτ lv = some ls → abs h = τ.heap → holds (it n ls h) →
            ∃ e σ' ev' h', uEx X.C X.pts (.loop (er X b)) τ e σ' ∧ e ≠ .normal ∧ Rp ev' σ' ∧ abs h' = σ'.heap ∧ Fr (wrT (er X b)) (boxKeys X.pts (er X b)) (wrR X.pts (er X b)) σ σ' ∧ holds (kx e ev' h') := by
          intro n
          induction n with
          | zero => intro ls h τ evτ _ _ _ _ hh; exact absurd hh (i0 _ _)
          | succ n ihn =>
            intro ls h τ evτ hRτ hF hp haτ hh
            rw [i1] at hh
            obtain ⟨ev1, g1, g2⟩ := reE_ok hA hR hRτ hF hp (clear_like τ _) (.inr hlive) hh
            obtain ⟨e, σ₁, ev₁, h₁, q1, q2, q3, q4, q5⟩ := ih ev1 h (τ.clear (boxKeys X.pts (er X b))) _ _ g1 (by rw [clear_heap]; exact haτ) g2
            have hF1 : Fr (wrT (er X b)) (boxKeys X.pts (er X b)) (wrR X.pts (er X b)) σ σ₁ := (hF.trans (clear_fr (box_sub _ _))).trans q4
            rcases q5 with ⟨rfl, q5⟩ | ⟨q5, q6⟩
            · simp only at q5
              split at q5
              · rename_i ls1 hp1
                obtain ⟨e', σ', ev', h', p1, p2, p3, p4, p5, p6⟩ := ihn ls1 h₁ σ₁ ev₁ q2 hF1 hp1 q3 q5
                exact ⟨e', σ', ev', h', .loop q1 p1, p2, p3, p4, p5, p6⟩
              · exact absurd q5 hA.fail
            · exact ⟨e, σ₁, ev₁, h₁, .loopX q1 q5, q5, q2, q3, hF1, q6⟩
        obtain ⟨e', σ', ev', h', p1, p2, p3, p4, p5, p6⟩ := main n ls0 h σ ev hR (.refl _ _ _ _) hp0 ha hn
        exact ⟨e', σ', ev', h', p1, p3, p4, p5, .inr ⟨p2, p6⟩⟩
  | rangeFunc f κ ids =>
    intro ev h σ kn kx hR ha hk
    have hk' : holds (match (generalizing := false) f, sval ev f, X.pts with
      | .tmp _, .st (.leaf (.v v)), _ :: _ => match Nat.beq ev.tm.length (X.T κ).nt, capVals ev.tm (X.T κ).caps with
        | true, some vs => A.rfun κ v vs h fun pd h => A.pend pd (kn ev h) (kx .ret ev h) (ids.map fun id => (id, kx (.exit id) ev h))
        | _, _ => A.fail
      | _, _, _ => A.fail) := hk
    clear hk
    cases f with
    | tmp t =>
      cases hpts : X.pts with
      | nil => rw [hpts] at hk'; split at hk' <;> first | exact absurd hk' hA.fail | (rename_i e; cases e)
      | cons p0 pr =>
        rw [hpts] at hk'
        split at hk'
        · rename_i t2 v hd tl e0 e e1
          split at hk'
          · rename_i vs hnt hcv
            have hnt := Nat.eq_of_beq_eq_true hnt
            obtain ⟨h1, g1⟩ := hR.sval e (by simp)
            have gv : goodV v = true := g1 (.v v) (by simp [S0.cells])
            obtain ⟨g, first, cap, r, H1, lp, h2, r1, r2, r3, r4, r5, r6⟩ := hA.rfun _ _ _ _ _ hk'
            subst r1
            rw [ha] at r2 r3 r5
            have hsnap : SnapOf σ.tmps (lpOf (X.T κ) κ vs).tmps := by
              refine ⟨by simp only [lpOf, capTm_length, List.length_replicate]; rw [← hnt, hR.len], capVals_ok hR hcv _ _ fun i x hx => ?_⟩
              rw [List.getElem?_replicate] at hx
              split at hx
              · cases hx; exact .inl rfl
              · cases hx
            have hpend := hA.pend _ _ _ _ r6
            have hex : ∀ {e : Exit}, exitOf lp.pending = some e → uEx X.C X.pts (er X (.rangeFunc (.tmp t) κ ids)) σ e { σ with heap := H1.set σ.heap.length (.loop { lp with state := .exhausted }) } := by
              intro e he
              have hne : X.pts ≠ [] := by rw [hpts]; simp
              refine uEx.rangeFunc (r := r) (φ := κ) (tm := (lpOf (X.T κ) κ vs).tmps) hne hsnap h1 (goodV_iff.1 gv).1 ?_ r3 r4 he
              simpa [lpOf] using r2
            have hR' : Rp ev { σ with heap := H1.set σ.heap.length (.loop { lp with state := .exhausted }) } := hR.heap _
            rcases hpend with ⟨p1, p2⟩ | ⟨p1, p2⟩ | ⟨id, x, p1, p2, p3⟩
            · exact ⟨.normal, _, ev, h2, hex (by rw [p1]; rfl), hR', r5, (Fr.refl _ _ _ _).heap _, .inl ⟨rfl, p2⟩⟩
            · exact ⟨.ret, _, ev, h2, hex (by rw [p1]; rfl), hR', r5, (Fr.refl _ _ _ _).heap _, .inr ⟨by simp, p2⟩⟩
            · obtain ⟨id', hid, he⟩ := List.mem_map.1 p2
              cases he
              exact ⟨.exit id, _, ev, h2, hex (by rw [p1]; rfl), hR', r5, (Fr.refl _ _ _ _).heap _, .inr ⟨by simp, p3⟩⟩
          · exact absurd hk' hA.fail
        · exact absurd hk' hA.fail
    | _ => exact absurd hk' hA.fail

end
end Sx
end Go.Am

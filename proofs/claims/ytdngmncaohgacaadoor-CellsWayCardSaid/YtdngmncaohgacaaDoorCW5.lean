/-
  PART 5 OF THE PROOF: Gb Ph1 Ph2 Pq Gp C1 C3 C6 (no conditions).
-/
import Derived.Test.YtdngmncaohgacaaDoorCW4
set_option linter.unusedSectionVars false
set_option linter.unusedSimpArgs false
set_option linter.unusedVariables false
set_option linter.constructorNameAsVariable false
set_option linter.defProp false
/-
 THE FUNCTIONS IN THE DIRECT STYLE OF RUNS, BY PROGRAM; THE TABLE OF RUNS.
-/
set_option maxRecDepth 100000
namespace Go.Am
open Sx Go.Proofs
instance val0 : Val := ⟨fun _ => 0⟩
noncomputable instance kno0 : Kno := KnoC cc neuN
theorem dm : cc.P.follows .mixedOrders = true := by kernel_rfl
theorem br (g : Nat) (vs : List Value) (h : cc.G g = some vs) : vs.all flat = true := by
 unfold cc at h
 simp only at h
 split at h <;> first | (cases h; done) | (obtain rfl := Option.some.inj h; kernel_rfl)
theorem qo : ∀ pts ops, drN pts ops = true → ∀ (n : Nat) (σ σ' : St), bO cc (sm cc n).toBelow pts ops (List.range ops.size) σ σ' → ei cc (sm cc n).toBelow pts ops σ σ' := fun pts ops h n σ σ' hx => dr_ok neuN_ok (fun _ _ _ _ _ (h : _ ∧ _) => h.1) pts ops h n σ σ' hx
abbrev Ent (k : Nat) (g : FB) : Prop := pw cc ae ac k g
abbrev Cok (c : ab) : Prop := CallBOk cc ae ac c
theorem qX (f : FuncId) (sg : Sig) (ls rs : List Lf) (H' : List HObj) (hs : ae f = some sg) (hp : sg.plain = true) (hc : bm cc ae f ls [] rs H') : ∀ H, bm cc ae f ls H rs H := dw dm br hs hp hc
theorem ent_of {k : Nat} {g : ab → FB} {f : Alg RT HTr → FB} {ct : ab → ab} {fn : Fn1} (h0 : g = fun c => f (BA ae ac (ct c))) (h2 : f = fun A ls h K => aQ A (xc k) ae drN fn ls h K) (h3 : FnIs (xc k) ae k fn) {c : ab} (hc : Cok (ct c)) : Ent k (g c) := by
 intro ls h K w hls hk
 rw [h0, h2] at hk
 obtain ⟨rs, h', a1, _, a3⟩ := mz (BA_ok (w := w) hc) qo h3 hls hk
 exact ⟨rs, h', a1, a3⟩
theorem bY {k : Nat} {g : ab → FB} {f : Alg RT HTr → FB} {ct : ab → ab} {fn : Fn1} (h2 : ∀ c ls h K, f (BA ae ac (ct c)) ls h K = g c ls h K) (h3 : f = fun A ls h K => aQ A (xc k) ae drN fn ls h K) (h4 : FnIs (xc k) ae k fn) {c : ab} (hc : Cok (ct c)) : Ent k (g c) :=
 ent_of (g := g) (ct := ct) (funext fun c => funext fun ls => funext fun h => funext fun K => (h2 c ls h K).symm) h3 h4 hc
theorem aN : ∀ p ∈ ([] : List (Nat × FB)), Ent p.1 p.2 := fun _ h => by cases h
theorem aC {k : Nat} {g : FB} {l : List (Nat × FB)} (h : Ent k g) (t : ∀ p ∈ l, Ent p.1 p.2) : ∀ p ∈ (k, g) :: l, Ent p.1 p.2 := fun p hp => by
 rcases List.mem_cons.1 hp with rfl | hp
 ·exact h
 ·exact t p hp
theorem ba {k : Nat} {g : FB} {sg : Sig} (h : Ent k g) (h4 : ae k = some sg) (h5 : sg.plain = true) : Ent k (memo g) := memo_ok qX h h4 h5
/-- crimp/cells.Check -/
noncomputable def ct43 (c : ab) : ab := tblF [] c
noncomputable def b43 (c : ab) (a0 : Int) (a1 : Int) (a2 : Int) (h : HTr) (K : Int → HTr → RT) : RT := cB ( cB ( cB ( cB ( cB ( K (.ofNat (nat_lit 0)) h) ( K (.ofNat (nat_lit 1)) h) (notK (leZ a2 (.ofNat (nat_lit 3))))) ( K (.ofNat (nat_lit 1)) h) (notK (leZ a1 (.ofNat (nat_lit 4096))))) ( K (.ofNat (nat_lit 1)) h) (notK (leZ (.negSucc (nat_lit 4095)) a1))) ( K (.ofNat (nat_lit 1)) h) (notK (leZ a0 (.ofNat (nat_lit 4096))))) ( K (.ofNat (nat_lit 1)) h) (notK (leZ (.negSucc (nat_lit 4095)) a0))
noncomputable def wr43 (c : ab) : FB := fun ls h K => rI (fun J O => rI (fun Q U => rI (fun V a0 => r0 (b43 c J Q V h (fun r0 h => K [.i r0] h)) a0) U) O) ls
noncomputable abbrev u_i (K : Int → HTr → RT) (rs : List Lf) (h : HTr) : RT := unIB rs fun r0 J => un0B J (K r0 h)
noncomputable def w43 (c : ab) : FB := memo (wr43 c)
noncomputable def mc43 (c : ab) (J : Int) (O : Int) (Q : Int) (h : HTr) (K : Int → HTr → RT) : RT := fI J fun J => fI O fun O => fI Q fun Q => @Option.rec _ (fun _ => RT) none (fun rs => u_i K rs h) (b43 c J O Q .empty (fun r0 h => tell [.i r0] h))
theorem vm43 : (fun (c : ab) (a0 : Int) (a1 : Int) (a2 : Int) (h : HTr) (K : Int → HTr → RT) => w43 c [.i a0, .i a1, .i a2] h (u_i K)) = fun c a0 a1 a2 h K => mc43 c a0 a1 a2 h K := by kernel_rfl
theorem qm43 {c call : ab} (hct : call (.f 43) = w43 c) {a0 : Int} {a1 : Int} {a2 : Int} {h : HTr} {K : List Lf → HTr → RT} {K' : Int → HTr → RT} (hX : ∀ rs h, K rs h = u_i K' rs h) : (BA ae ac call).call 43 [.i a0, .i a1, .i a2] h K = mc43 c a0 a1 a2 h K' := by
 obtain rfl := fx hX
 exact co rfl ((c3 hct _ _ _).trans (c6 vm43 c a0 a1 a2 h K'))
theorem pf43 (c : ab) (ls : List Lf) (h : HTr) (K : List Lf → HTr → RT) : f43 (BA ae ac (ct43 c)) ls h K = wr43 c ls h K := q_rI (fun n6 l7 => q_rI (fun n8 l9 => q_rI (fun n10 l11 => q_r0 (fF (al (rfl) (jh (al (rfl) (fF (al (rfl) (jh (al (rfl) (jh (al (rfl) (rfl))))))))))))))
theorem ok43 {c : ab} (hc : Cok c) : Ent 43 (w43 c) := ba (bY (f := fun A => f43 A) (ct := ct43) pf43 (congrFun (congrFun e43 RT) HTr) i43 (aR hc aN)) rfl (by kernel_rfl)
/-- crimp/lines.Check -/
noncomputable def ct74 (c : ab) : ab := tblF [] c
noncomputable def b74 (c : ab) (a0 : Int) (a1 : Int) (h : HTr) (K : Int → HTr → RT) : RT := cB ( cB ( cB ( cB ( K (.ofNat (nat_lit 0)) h) ( K (.ofNat (nat_lit 1)) h) (notK (leZ a1 (.ofNat (nat_lit 4096))))) ( K (.ofNat (nat_lit 1)) h) (notK (leZ (.negSucc (nat_lit 4095)) a1))) ( K (.ofNat (nat_lit 1)) h) (notK (leZ a0 (.ofNat (nat_lit 4))))) ( K (.ofNat (nat_lit 1)) h) (notK (leZ (.ofNat (nat_lit 1)) a0))
noncomputable def wr74 (c : ab) : FB := fun ls h K => rI (fun J O => rI (fun Q U => r0 (b74 c J Q h (fun r0 h => K [.i r0] h)) U) O) ls
noncomputable def w74 (c : ab) : FB := memo (wr74 c)
noncomputable def mc74 (c : ab) (J : Int) (O : Int) (h : HTr) (K : Int → HTr → RT) : RT := fI J fun J => fI O fun O => @Option.rec _ (fun _ => RT) none (fun rs => u_i K rs h) (b74 c J O .empty (fun r0 h => tell [.i r0] h))
theorem vm74 : (fun (c : ab) (a0 : Int) (a1 : Int) (h : HTr) (K : Int → HTr → RT) => w74 c [.i a0, .i a1] h (u_i K)) = fun c a0 a1 h K => mc74 c a0 a1 h K := by kernel_rfl
theorem qm74 {c call : ab} (hct : call (.f 74) = w74 c) {a0 : Int} {a1 : Int} {h : HTr} {K : List Lf → HTr → RT} {K' : Int → HTr → RT} (hX : ∀ rs h, K rs h = u_i K' rs h) : (BA ae ac call).call 74 [.i a0, .i a1] h K = mc74 c a0 a1 h K' := by
 obtain rfl := fx hX
 exact co rfl ((c3 hct _ _ _).trans (c5 vm74 c a0 a1 h K'))
theorem pf74 (c : ab) (ls : List Lf) (h : HTr) (K : List Lf → HTr → RT) : f74 (BA ae ac (ct74 c)) ls h K = wr74 c ls h K := q_rI (fun n6 l7 => q_rI (fun n8 l9 => q_r0 (fF (al (rfl) (jh (al (rfl) (fF (al (rfl) (jh (al (rfl) (rfl)))))))))))
theorem ok74 {c : ab} (hc : Cok c) : Ent 74 (w74 c) := ba (bY (f := fun A => f74 A) (ct := ct74) pf74 (congrFun (congrFun e74 RT) HTr) i74 (aR hc aN)) rfl (by kernel_rfl)
/-- crimp/cells.Line -/
noncomputable def ct40 (c : ab) : ab := tblF [(43, w43 c), (74, w74 c)] c
noncomputable def b40 (c : ab) (a0 : Int) (a1 : Int) (a2 : Int) (a3 : Int) (h : HTr) (K : Int → Int → Int → HTr → RT) : RT := mc43 c a0 a1 a2 h (fun r_1 h15 => cB ( cB ( optB (inB 4 a2) (fun e6 => optB (bo gl0 0 [(a2, 17)] 17) (fun a5 => ucIB .i64 a5 (fun e7 a6 => ucIB .i64 a6 (fun e8 a7 => ucIB .u8 a7 (fun J a8 => ucIB .i64 a8 (fun O a9 => ucIB .i64 a9 (fun e9 b0 => ucIB .i64 b0 (fun f0 b1 => ucIB .u8 b1 (fun f1 b2 => ucIB .i64 b2 (fun f2 b3 => ucIB .i64 b3 (fun f3 b4 => ucIB .u8 b4 (fun n40 b5 => ucIB .i64 b5 (fun f4 b6 => ucIB .i64 b6 (fun n44 b7 => ucIB .u8 b7 (fun f5 b8 => ucIB .i64 b8 (fun n48 b9 => ucIB .i64 b9 (fun n50 c0 => ucIB .i64 c0 (fun n52 c1 => ucIB .i64 c1 (fun f6 d0 => uc0B d0 ( addK a0 O (fun c_ => aA c_ (fun d1 => pL (fun d2 h59 => unIB d2 (fun n60 d3 => unIB d3 (fun n62 d4 => un0B d4 (mc74 c n60 n62 h59 (fun r_2 Q => cB ( K n60 n62 (.ofNat (nat_lit 0)) Q) ( K (.ofNat (nat_lit 0)) (.ofNat (nat_lit 0)) (.ofNat (nat_lit 3)) Q) (notK (eqZK r_2 (.ofNat (nat_lit 0))))))))) (fun U => cB ( pL (fun d5 h74 => unIB d5 (fun n75 d6 => unIB d6 (fun d7 d8 => un0B d8 (U [.i n75, .i d7] h74)))) (fun V => cB ( pL (fun d9 h83 => unIB d9 (fun e0 e1 => unIB e1 (fun n86 e2 => un0B e2 (V [.i e0, .i n86] h83)))) (fun a4 => cB ( a4 [.i J, .i d1] h15) ( addK a1 O (fun c_ => aA c_ (fun e3 => a4 [.i J, .i e3] h15))) (eqZK J (.ofNat (nat_lit 2))))) ( subK a1 a0 (fun c_ => aA c_ (fun n80 => V [.i (.ofNat (nat_lit 4)), .i n80] h15))) (eqZK a3 (.ofNat (nat_lit 2))))) ( addK a0 a1 (fun c_ => aA c_ (fun e4 => addK e4 (.ofNat (nat_lit 1)) (fun c_ => aA c_ (fun e5 => U [.i (.ofNat (nat_lit 3)), .i e5] h15))))) (eqZK a3 (.ofNat (nat_lit 1))))))))))))))))))))))))))) ( K (.ofNat (nat_lit 0)) (.ofNat (nat_lit 0)) (.ofNat (nat_lit 1)) h15) (notK (leZ a3 (.ofNat (nat_lit 2))))) ( K (.ofNat (nat_lit 0)) (.ofNat (nat_lit 0)) (.ofNat (nat_lit 1)) h15) (notK (eqZK r_1 (.ofNat (nat_lit 0)))))
noncomputable def wr40 (c : ab) : FB := fun ls h K => rI (fun J O => rI (fun Q U => rI (fun V a0 => rI (fun a1 a2 => r0 (b40 c J Q V a1 h (fun r0 a3 a4 h => K [.i r0, .i a3, .i a4] h)) a2) a0) U) O) ls
noncomputable abbrev jj (K : Int → Int → Int → HTr → RT) (rs : List Lf) (h : HTr) : RT := unIB rs fun r0 J => unIB J fun O Q => unIB Q fun U V => un0B V (K r0 O U h)
noncomputable def w40 (c : ab) : FB := memo (wr40 c)
noncomputable def mc40 (c : ab) (J : Int) (O : Int) (Q : Int) (U : Int) (h : HTr) (K : Int → Int → Int → HTr → RT) : RT := fI J fun J => fI O fun O => fI Q fun Q => fI U fun U => @Option.rec _ (fun _ => RT) none (fun rs => jj K rs h) (b40 c J O Q U .empty (fun r0 V a0 h => tell [.i r0, .i V, .i a0] h))
theorem vm40 : (fun (c : ab) (a0 : Int) (a1 : Int) (a2 : Int) (a3 : Int) (h : HTr) (K : Int → Int → Int → HTr → RT) => w40 c [.i a0, .i a1, .i a2, .i a3] h (jj K)) = fun c a0 a1 a2 a3 h K => mc40 c a0 a1 a2 a3 h K := by kernel_rfl
theorem qm40 {c call : ab} (hct : call (.f 40) = w40 c) {a0 : Int} {a1 : Int} {a2 : Int} {a3 : Int} {h : HTr} {K : List Lf → HTr → RT} {K' : Int → Int → Int → HTr → RT} (hX : ∀ rs h, K rs h = jj K' rs h) : (BA ae ac call).call 40 [.i a0, .i a1, .i a2, .i a3] h K = mc40 c a0 a1 a2 a3 h K' := by
 obtain rfl := fx hX
 exact co rfl ((c3 hct _ _ _).trans (c7 vm40 c a0 a1 a2 a3 h K'))
theorem pf40 (c : ab) (ls : List Lf) (h : HTr) (K : List Lf → HTr → RT) : f40 (BA ae ac (ct40 c)) ls h K = wr40 c ls h K := q_rI (fun n6 l7 => q_rI (fun n8 l9 => q_rI (fun n10 l11 => q_rI (fun n12 l13 => q_r0 (qm43 rfl (fun l14 h15 => ah (fun n16 l17 => am (cu (al (rfl) (jh (al (rfl) (bD (fun x20 => bD (fun x21 => bb (fun n22 l23 => bb (fun n24 l25 => bb (fun n26 l27 => bb (fun n28 l29 => bb (fun n30 l31 => bb (fun n32 l33 => bb (fun n34 l35 => bb (fun n36 l37 => bb (fun n38 l39 => bb (fun n40 l41 => bb (fun n42 l43 => bb (fun n44 l45 => bb (fun n46 l47 => bb (fun n48 l49 => bb (fun n50 l51 => bb (fun n52 l53 => bb (fun n54 l55 => ea (bu (fun n56 => nr (pe (fun l58 h59 => ah (fun n60 l61 => ah (fun n62 l63 => am (qm74 rfl (fun l64 h65 => ah (fun n66 l67 => am (cu (al (rfl) (rfl))))))))) (fun j69 => al (bu (fun n70 => bu (fun n71 => rfl))) (nr (pe (fun l73 h74 => ah (fun n75 l76 => ah (fun n77 l78 => am (rfl)))) (fun j79 => al (bE (fun n80 => rfl)) (nr (pe (fun l82 h83 => ah (fun n84 l85 => ah (fun n86 l87 => am (rfl)))) (fun j88 => al (bu (fun n89 => rfl)) (rfl))))))))))))))))))))))))))))))))))))))))))
theorem ok40 {c : ab} (hc : Cok c) : Ent 40 (w40 c) := ba (bY (f := fun A => f40 A) (ct := ct40) pf40 (congrFun (congrFun e40 RT) HTr) i40 (aR hc (aC (ok43 hc) (aC (ok74 hc) aN)))) rfl (by kernel_rfl)
/-- crimp/cells.Corners -/
noncomputable def ct41 (c : ab) : ab := tblF [(43, w43 c)] c
noncomputable def b41 (c : ab) (a0 : Int) (a1 : Int) (a2 : Int) (h : HTr) (K : Int → Int → Int → Int → Int → Int → Int → HTr → RT) : RT := mc43 c a0 a1 a2 h (fun r_1 V => cB ( optB (inB 4 a2) (fun g4 => optB (bo gl0 0 [(a2, 17)] 17) (fun a5 => ucIB .i64 a5 (fun g5 a6 => ucIB .i64 a6 (fun g6 a7 => ucIB .u8 a7 (fun g7 a8 => ucIB .i64 a8 (fun g8 a9 => ucIB .i64 a9 (fun g9 b0 => ucIB .i64 b0 (fun h0 b1 => ucIB .u8 b1 (fun h1 b2 => ucIB .i64 b2 (fun h2 b3 => ucIB .i64 b3 (fun h3 b4 => ucIB .u8 b4 (fun h4 b5 => ucIB .i64 b5 (fun h5 b6 => ucIB .i64 b6 (fun n41 b7 => ucIB .u8 b7 (fun n43 b8 => ucIB .i64 b8 (fun b9 c0 => ucIB .i64 c0 (fun n47 c1 => ucIB .i64 c1 (fun d0 d1 => ucIB .i64 d1 (fun d2 d3 => uc0B d3 ( kj (fun d4 d5 h55 => unIB d5 (fun J d6 => unIB d6 (fun O d7 => unIB d7 (fun n60 d8 => unIB d8 (fun n62 d9 => unIB d9 (fun Q e0 => unIB e0 (fun n66 e1 => unIB e1 (fun U e2 => un0B e2 (cB ( K O n60 n62 Q n66 U (.ofNat (nat_lit 0)) h55) ( optB (inB 3 J) (fun h6 => optB (aW [(.i O), (.i n60), (.i n62), (.i Q), (.i n66), (.i U)] 0 [(J, 2)] 1) (fun e3 => unIB e3 (fun e4 e5 => un0B e5 (mulK (.ofNat (nat_lit 2)) a0 (fun c_ => aA c_ (fun n75 => addK e4 n75 (fun c_ => aA c_ (fun e6 => optB (inB 3 J) (fun h7 => optB (putL [(.i O), (.i n60), (.i n62), (.i Q), (.i n66), (.i U)] 0 [(J, 2)] [(.i e6)]) (fun e7 => unIB e7 (fun n79 e8 => unIB e8 (fun a3 e9 => unIB e9 (fun n83 f0 => unIB f0 (fun n85 f1 => unIB f1 (fun n87 f2 => unIB f2 (fun a4 f3 => un0B f3 (optB (inB 3 J) (fun h8 => optB (aW [(.i n79), (.i a3), (.i n83), (.i n85), (.i n87), (.i a4)] 1 [(J, 2)] 1) (fun f4 => unIB f4 (fun f5 f6 => un0B f6 (mulK (.ofNat (nat_lit 2)) a1 (fun c_ => aA c_ (fun n95 => addK f5 n95 (fun c_ => aA c_ (fun n96 => optB (inB 3 J) (fun h9 => optB (putL [(.i n79), (.i a3), (.i n83), (.i n85), (.i n87), (.i a4)] 1 [(J, 2)] [(.i n96)]) (fun f7 => unIB f7 (fun n99 f8 => unIB f8 (fun n101 f9 => unIB f9 (fun n103 gl => unIB gl (fun n105 gq => unIB gq (fun gt g0 => unIB g0 (fun g1 g2 => un0B g2 (addK J (.ofNat (nat_lit 1)) (fun c_ => aA c_ (fun g3 => d4 [.i g3, .i n99, .i n101, .i n103, .i n105, .i gt, .i g1] h55))))))))))))))))))))))))))))))))))))) (notK (leZ (.ofNat (nat_lit 3)) J))))))))))) [.i (.ofNat (nat_lit 0)), .i (.ofNat (nat_lit 1)), .i (.ofNat (nat_lit 1)), .i b9, .i n47, .i d0, .i d2] V))))))))))))))))))))) ( K (.ofNat (nat_lit 0)) (.ofNat (nat_lit 0)) (.ofNat (nat_lit 0)) (.ofNat (nat_lit 0)) (.ofNat (nat_lit 0)) (.ofNat (nat_lit 0)) (.ofNat (nat_lit 1)) V) (notK (eqZK r_1 (.ofNat (nat_lit 0)))))
noncomputable def wr41 (c : ab) : FB := fun ls h K => rI (fun J O => rI (fun Q U => rI (fun V a0 => r0 (b41 c J Q V h (fun r0 a1 a2 a3 a4 a5 a6 h => K [.i r0, .i a1, .i a2, .i a3, .i a4, .i a5, .i a6] h)) a0) U) O) ls
noncomputable abbrev kO (K : Int → Int → Int → Int → Int → Int → Int → HTr → RT) (rs : List Lf) (h : HTr) : RT := unIB rs fun r0 J => unIB J fun O Q => unIB Q fun U V => unIB V fun a0 a1 => unIB a1 fun a2 a3 => unIB a3 fun a4 a5 => unIB a5 fun a6 a7 => un0B a7 (K r0 O U a0 a2 a4 a6 h)
noncomputable def w41 (c : ab) : FB := memo (wr41 c)
noncomputable def mc41 (c : ab) (J : Int) (O : Int) (Q : Int) (h : HTr) (K : Int → Int → Int → Int → Int → Int → Int → HTr → RT) : RT := fI J fun J => fI O fun O => fI Q fun Q => @Option.rec _ (fun _ => RT) none (fun rs => kO K rs h) (b41 c J O Q .empty (fun r0 U V a0 a1 a2 a3 h => tell [.i r0, .i U, .i V, .i a0, .i a1, .i a2, .i a3] h))
theorem vm41 : (fun (c : ab) (a0 : Int) (a1 : Int) (a2 : Int) (h : HTr) (K : Int → Int → Int → Int → Int → Int → Int → HTr → RT) => w41 c [.i a0, .i a1, .i a2] h (kO K)) = fun c a0 a1 a2 h K => mc41 c a0 a1 a2 h K := by kernel_rfl
theorem qm41 {c call : ab} (hct : call (.f 41) = w41 c) {a0 : Int} {a1 : Int} {a2 : Int} {h : HTr} {K : List Lf → HTr → RT} {K' : Int → Int → Int → Int → Int → Int → Int → HTr → RT} (hX : ∀ rs h, K rs h = kO K' rs h) : (BA ae ac call).call 41 [.i a0, .i a1, .i a2] h K = mc41 c a0 a1 a2 h K' := by
 obtain rfl := fx hX
 exact co rfl ((c3 hct _ _ _).trans (c6 vm41 c a0 a1 a2 h K'))
theorem pf41 (c : ab) (ls : List Lf) (h : HTr) (K : List Lf → HTr → RT) : f41 (BA ae ac (ct41 c)) ls h K = wr41 c ls h K := q_rI (fun n6 l7 => q_rI (fun n8 l9 => q_rI (fun n10 l11 => q_r0 (qm43 rfl (fun l12 h13 => ah (fun n14 l15 => am (cu (al (rfl) (bD (fun x17 => bD (fun x18 => bb (fun n19 l20 => bb (fun n21 l22 => bb (fun n23 l24 => bb (fun n25 l26 => bb (fun n27 l28 => bb (fun n29 l30 => bb (fun n31 l32 => bb (fun n33 l34 => bb (fun n35 l36 => bb (fun n37 l38 => bb (fun n39 l40 => bb (fun n41 l42 => bb (fun n43 l44 => bb (fun n45 l46 => bb (fun n47 l48 => bb (fun n49 l50 => bb (fun n51 l52 => ea (hC (fun s53 l54 h55 => ah (fun n56 l57 => ah (fun n58 l59 => ah (fun n60 l61 => ah (fun n62 l63 => ah (fun n64 l65 => ah (fun n66 l67 => ah (fun n68 l69 => am (fF (al (bD (fun x71 => bD (fun x72 => ah (fun n73 l74 => am (bj (fun n75 => bu (fun n76 => bD (fun x77 => bD (fun x78 => ah (fun n79 l80 => ah (fun n81 l82 => ah (fun n83 l84 => ah (fun n85 l86 => ah (fun n87 l88 => ah (fun n89 l90 => am (bD (fun x91 => bD (fun x92 => ah (fun n93 l94 => am (bj (fun n95 => bu (fun n96 => bD (fun x97 => bD (fun x98 => ah (fun n99 l100 => ah (fun n101 l102 => ah (fun n103 l104 => ah (fun n105 l106 => ah (fun n107 l108 => ah (fun n109 l110 => am (bu (fun n111 => rfl)))))))))))))))))))))))))))))))) (rfl))))))))))))))))))))))))))))))))))))))))
theorem ok41 {c : ab} (hc : Cok c) : Ent 41 (w41 c) := ba (bY (f := fun A => f41 A) (ct := ct41) pf41 (congrFun (congrFun e41 RT) HTr) i41 (aR hc (aC (ok43 hc) aN))) rfl (by kernel_rfl)
/-- crimp/cells.Neighbour -/
noncomputable def ct47 (c : ab) : ab := tblF [(43, w43 c)] c
noncomputable def b47 (c : ab) (a0 : Int) (a1 : Int) (a2 : Int) (a3 : Int) (h : HTr) (K : Int → Int → Int → Int → HTr → RT) : RT := mc43 c a0 a1 a2 h (fun r_1 h15 => cB ( cB ( optB (inB 4 a2) (fun a9 => optB (inB 3 a3) (fun b0 => optB (bo gl0 4 [(a2, 17), (a3, 3)] 3) (fun V => ucIB .i64 V (fun a4 a5 => ucIB .i64 a5 (fun a6 a7 => ucIB .u8 a7 (fun J a8 => uc0B a8 ( addK a4 a0 (fun c_ => aA c_ (fun O => addK a6 a1 (fun c_ => aA c_ (fun Q => mc43 c O Q J h15 (fun r_2 U => cB ( K O Q J (.ofNat (nat_lit 0)) U) ( K (.ofNat (nat_lit 0)) (.ofNat (nat_lit 0)) (.ofNat (nat_lit 0)) (.ofNat (nat_lit 3)) U) (notK (eqZK r_2 (.ofNat (nat_lit 0))))))))))))))))) ( K (.ofNat (nat_lit 0)) (.ofNat (nat_lit 0)) (.ofNat (nat_lit 0)) (.ofNat (nat_lit 1)) h15) (notK (leZ a3 (.ofNat (nat_lit 2))))) ( K (.ofNat (nat_lit 0)) (.ofNat (nat_lit 0)) (.ofNat (nat_lit 0)) (.ofNat (nat_lit 1)) h15) (notK (eqZK r_1 (.ofNat (nat_lit 0)))))
noncomputable def wr47 (c : ab) : FB := fun ls h K => rI (fun J O => rI (fun Q U => rI (fun V a0 => rI (fun a1 a2 => r0 (b47 c J Q V a1 h (fun r0 a3 a4 a5 h => K [.i r0, .i a3, .i a4, .i a5] h)) a2) a0) U) O) ls
noncomputable abbrev hZ (K : Int → Int → Int → Int → HTr → RT) (rs : List Lf) (h : HTr) : RT := unIB rs fun r0 J => unIB J fun O Q => unIB Q fun U V => unIB V fun a0 a1 => un0B a1 (K r0 O U a0 h)
noncomputable def w47 (c : ab) : FB := memo (wr47 c)
noncomputable def mc47 (c : ab) (J : Int) (O : Int) (Q : Int) (U : Int) (h : HTr) (K : Int → Int → Int → Int → HTr → RT) : RT := fI J fun J => fI O fun O => fI Q fun Q => fI U fun U => @Option.rec _ (fun _ => RT) none (fun rs => hZ K rs h) (b47 c J O Q U .empty (fun r0 V a0 a1 h => tell [.i r0, .i V, .i a0, .i a1] h))
theorem vm47 : (fun (c : ab) (a0 : Int) (a1 : Int) (a2 : Int) (a3 : Int) (h : HTr) (K : Int → Int → Int → Int → HTr → RT) => w47 c [.i a0, .i a1, .i a2, .i a3] h (hZ K)) = fun c a0 a1 a2 a3 h K => mc47 c a0 a1 a2 a3 h K := by kernel_rfl
theorem qm47 {c call : ab} (hct : call (.f 47) = w47 c) {a0 : Int} {a1 : Int} {a2 : Int} {a3 : Int} {h : HTr} {K : List Lf → HTr → RT} {K' : Int → Int → Int → Int → HTr → RT} (hX : ∀ rs h, K rs h = hZ K' rs h) : (BA ae ac call).call 47 [.i a0, .i a1, .i a2, .i a3] h K = mc47 c a0 a1 a2 a3 h K' := by
 obtain rfl := fx hX
 exact co rfl ((c3 hct _ _ _).trans (c7 vm47 c a0 a1 a2 a3 h K'))
theorem pf47 (c : ab) (ls : List Lf) (h : HTr) (K : List Lf → HTr → RT) : f47 (BA ae ac (ct47 c)) ls h K = wr47 c ls h K := q_rI (fun n6 l7 => q_rI (fun n8 l9 => q_rI (fun n10 l11 => q_rI (fun n12 l13 => q_r0 (qm43 rfl (fun l14 h15 => ah (fun n16 l17 => am (cu (al (rfl) (jh (al (rfl) (bD (fun x20 => bD (fun x21 => bD (fun x22 => bb (fun n23 l24 => bb (fun n25 l26 => bb (fun n27 l28 => ea (bu (fun n29 => bu (fun n30 => qm43 rfl (fun l31 h32 => ah (fun n33 l34 => am (cu (al (rfl) (rfl))))))))))))))))))))))))))
theorem ok47 {c : ab} (hc : Cok c) : Ent 47 (w47 c) := ba (bY (f := fun A => f47 A) (ct := ct47) pf47 (congrFun (congrFun e47 RT) HTr) i47 (aR hc (aC (ok43 hc) aN))) rfl (by kernel_rfl)
/-- crimp/cells.Touch -/
noncomputable def ct48 (c : ab) : ab := tblF [(43, w43 c), (47, w47 c)] c
noncomputable def b48 (c : ab) (a0 : Int) (a1 : Int) (a2 : Int) (a3 : Int) (a4 : Int) (a5 : Int) (h : HTr) (K : Int → Int → HTr → RT) : RT := mc43 c a0 a1 a2 h (fun r_1 Q => cB ( mc43 c a3 a4 a5 Q (fun r_2 U => cB ( kj (fun V a7 a6 => unIB a7 (fun J a8 => un0B a8 (cB ( K (.ofNat (nat_lit 0)) (.ofNat (nat_lit 7)) a6) ( mc47 c a0 a1 a2 J a6 (fun r_3 r_4 r_5 r_6 O => cB ( addK J (.ofNat (nat_lit 1)) (fun c_ => jf c_ (fun n47 => V [.i n47] O))) ( cB ( addK J (.ofNat (nat_lit 1)) (fun c_ => jf c_ (fun a9 => V [.i a9] O))) ( K J (.ofNat (nat_lit 0)) O) (@Bool.rec (fun _ => Bool) false (@Bool.rec (fun _ => Bool) false (@Bool.rec (fun _ => Bool) false true (eqZK r_5 a5)) (eqZK r_4 a4)) (eqZK r_3 a3))) (eqZK r_6 (.ofNat (nat_lit 0))))) (notK (leZ (.ofNat (nat_lit 3)) J))))) [.i (.ofNat (nat_lit 0))] U) ( K (.ofNat (nat_lit 0)) (.ofNat (nat_lit 1)) U) (notK (eqZK r_2 (.ofNat (nat_lit 0)))))) ( K (.ofNat (nat_lit 0)) (.ofNat (nat_lit 1)) Q) (notK (eqZK r_1 (.ofNat (nat_lit 0)))))
noncomputable def wr48 (c : ab) : FB := fun ls h K => rI (fun J O => rI (fun Q U => rI (fun V a0 => rI (fun a1 a2 => rI (fun a3 a4 => rI (fun a5 a6 => r0 (b48 c J Q V a1 a3 a5 h (fun r0 a7 h => K [.i r0, .i a7] h)) a6) a4) a2) a0) U) O) ls
noncomputable abbrev u_ii (K : Int → Int → HTr → RT) (rs : List Lf) (h : HTr) : RT := unIB rs fun r0 J => unIB J fun O Q => un0B Q (K r0 O h)
noncomputable def w48 (c : ab) : FB := memo (wr48 c)
noncomputable def mc48 (c : ab) (J : Int) (O : Int) (Q : Int) (U : Int) (V : Int) (a0 : Int) (h : HTr) (K : Int → Int → HTr → RT) : RT := fI J fun J => fI O fun O => fI Q fun Q => fI U fun U => fI V fun V => fI a0 fun a0 => @Option.rec _ (fun _ => RT) none (fun rs => u_ii K rs h) (b48 c J O Q U V a0 .empty (fun r0 a1 h => tell [.i r0, .i a1] h))
theorem vm48 : (fun (c : ab) (a0 : Int) (a1 : Int) (a2 : Int) (a3 : Int) (a4 : Int) (a5 : Int) (h : HTr) (K : Int → Int → HTr → RT) => w48 c [.i a0, .i a1, .i a2, .i a3, .i a4, .i a5] h (u_ii K)) = fun c a0 a1 a2 a3 a4 a5 h K => mc48 c a0 a1 a2 a3 a4 a5 h K := by kernel_rfl
theorem qm48 {c call : ab} (hct : call (.f 48) = w48 c) {a0 : Int} {a1 : Int} {a2 : Int} {a3 : Int} {a4 : Int} {a5 : Int} {h : HTr} {K : List Lf → HTr → RT} {K' : Int → Int → HTr → RT} (hX : ∀ rs h, K rs h = u_ii K' rs h) : (BA ae ac call).call 48 [.i a0, .i a1, .i a2, .i a3, .i a4, .i a5] h K = mc48 c a0 a1 a2 a3 a4 a5 h K' := by
 obtain rfl := fx hX
 exact co rfl ((c3 hct _ _ _).trans (c9 vm48 c a0 a1 a2 a3 a4 a5 h K'))
theorem pf48 (c : ab) (ls : List Lf) (h : HTr) (K : List Lf → HTr → RT) : f48 (BA ae ac (ct48 c)) ls h K = wr48 c ls h K := q_rI (fun n6 l7 => q_rI (fun n8 l9 => q_rI (fun n10 l11 => q_rI (fun n12 l13 => q_rI (fun n14 l15 => q_rI (fun n16 l17 => q_r0 (qm43 rfl (fun l18 h19 => ah (fun n20 l21 => am (cu (al (rfl) (qm43 rfl (fun l23 h24 => ah (fun n25 l26 => am (cu (al (rfl) (hC (fun s28 l29 h30 => ah (fun n31 l32 => am (fF (al (qm47 rfl (fun l34 h35 => ah (fun n36 l37 => ah (fun n38 l39 => ah (fun n40 l41 => ah (fun n42 l43 => am (nr (al (kW (al (rfl) (gA (fun n46 => rfl)))) (gA (fun n47 => rfl)))))))))) (rfl))))))))))))))))))))))
theorem ok48 {c : ab} (hc : Cok c) : Ent 48 (w48 c) := ba (bY (f := fun A => f48 A) (ct := ct48) pf48 (congrFun (congrFun e48 RT) HTr) i48 (aR hc (aC (ok43 hc) (aC (ok47 hc) aN)))) rfl (by kernel_rfl)
/-- crimp/lines.CheckPoint -/
noncomputable def ct90 (c : ab) : ab := tblF [] c
noncomputable def b90 (c : ab) (a0 : Int) (a1 : Int) (h : HTr) (K : Int → HTr → RT) : RT := cB ( cB ( cB ( cB ( K (.ofNat (nat_lit 0)) h) ( K (.ofNat (nat_lit 1)) h) (notK (leZ a1 (.ofNat (nat_lit 65536))))) ( K (.ofNat (nat_lit 1)) h) (notK (leZ (.negSucc (nat_lit 65535)) a1))) ( K (.ofNat (nat_lit 1)) h) (notK (leZ a0 (.ofNat (nat_lit 65536))))) ( K (.ofNat (nat_lit 1)) h) (notK (leZ (.negSucc (nat_lit 65535)) a0))
noncomputable def wr90 (c : ab) : FB := fun ls h K => rI (fun J O => rI (fun Q U => r0 (b90 c J Q h (fun r0 h => K [.i r0] h)) U) O) ls
noncomputable def w90 (c : ab) : FB := memo (wr90 c)
noncomputable def mc90 (c : ab) (J : Int) (O : Int) (h : HTr) (K : Int → HTr → RT) : RT := fI J fun J => fI O fun O => @Option.rec _ (fun _ => RT) none (fun rs => u_i K rs h) (b90 c J O .empty (fun r0 h => tell [.i r0] h))
theorem vm90 : (fun (c : ab) (a0 : Int) (a1 : Int) (h : HTr) (K : Int → HTr → RT) => w90 c [.i a0, .i a1] h (u_i K)) = fun c a0 a1 h K => mc90 c a0 a1 h K := by kernel_rfl
theorem qm90 {c call : ab} (hct : call (.f 90) = w90 c) {a0 : Int} {a1 : Int} {h : HTr} {K : List Lf → HTr → RT} {K' : Int → HTr → RT} (hX : ∀ rs h, K rs h = u_i K' rs h) : (BA ae ac call).call 90 [.i a0, .i a1] h K = mc90 c a0 a1 h K' := by
 obtain rfl := fx hX
 exact co rfl ((c3 hct _ _ _).trans (c5 vm90 c a0 a1 h K'))
theorem pf90 (c : ab) (ls : List Lf) (h : HTr) (K : List Lf → HTr → RT) : f90 (BA ae ac (ct90 c)) ls h K = wr90 c ls h K := q_rI (fun n6 l7 => q_rI (fun n8 l9 => q_r0 (fF (al (rfl) (jh (al (rfl) (fF (al (rfl) (jh (al (rfl) (rfl)))))))))))
theorem ok90 {c : ab} (hc : Cok c) : Ent 90 (w90 c) := ba (bY (f := fun A => f90 A) (ct := ct90) pf90 (congrFun (congrFun e90 RT) HTr) i90 (aR hc aN)) rfl (by kernel_rfl)
/-- crimp/lines.rules -/
noncomputable def ct91 (c : ab) : ab := tblF [] c
noncomputable def b91 (c : ab) (h : HTr) (K : Value → Value → Value → Value → Value → Value → Value → Value → Value → Value → Value → Value → Value → Value → Value → HTr → RT) : RT := newB (.cells [(.int .u8 (.ofNat (nat_lit 0))), (.int .u8 (.ofNat (nat_lit 0))), (.int .u8 (.ofNat (nat_lit 0))), (.int .u8 (.ofNat (nat_lit 0))), (.int .u8 (.ofNat (nat_lit 0)))] 1 true) h (fun J O => stB (.pointer (some ⟨J, 0, none⟩)) [(.int .u8 (.ofNat (nat_lit 0))), (.int .u8 (.ofNat (nat_lit 2))), (.int .u8 (.ofNat (nat_lit 1))), (.int .u8 (.ofNat (nat_lit 4))), (.int .u8 (.ofNat (nat_lit 3)))] O (fun U Q => chkB (.func (.func 103) ⟨[]⟩ ⟨[(.pointer (some ⟨J, 0, none⟩))]⟩) ( chkB (.func (.func 106) ⟨[]⟩ ⟨[(.pointer (some ⟨J, 0, none⟩))]⟩) ( K .nilFunc .nilFunc .nilFunc (.func (.func 94) ⟨[]⟩ ⟨[]⟩) (.func (.func 96) ⟨[]⟩ ⟨[]⟩) (.func (.func 97) ⟨[]⟩ ⟨[]⟩) (.func (.func 98) ⟨[]⟩ ⟨[]⟩) (.func (.func 99) ⟨[]⟩ ⟨[]⟩) (.func (.func 100) ⟨[]⟩ ⟨[]⟩) (.func (.func 101) ⟨[]⟩ ⟨[]⟩) (.func (.func 102) ⟨[]⟩ ⟨[]⟩) (.func (.func 103) ⟨[]⟩ ⟨[(.pointer (some ⟨J, 0, none⟩))]⟩) (.func (.func 104) ⟨[]⟩ ⟨[]⟩) (.func (.func 105) ⟨[]⟩ ⟨[]⟩) (.func (.func 106) ⟨[]⟩ ⟨[(.pointer (some ⟨J, 0, none⟩))]⟩) Q))))
noncomputable def wr91 (c : ab) : FB := fun ls h K => r0 (b91 c h (fun r0 J O Q U V a0 a1 a2 a3 a4 a5 a6 a7 a8 h => K [.v r0, .v J, .v O, .v Q, .v U, .v V, .v a0, .v a1, .v a2, .v a3, .v a4, .v a5, .v a6, .v a7, .v a8] h)) ls
noncomputable def w91 (c : ab) : FB := wr91 c
theorem vb91 : (fun (c : ab) (h : HTr) (K : List Lf → HTr → RT) => w91 c [] h K) = fun c h K => b91 c h (fun r0 r1 r2 r3 r4 r5 r6 r7 r8 r9 r10 r11 r12 r13 r14 h => K [.v r0, .v r1, .v r2, .v r3, .v r4, .v r5, .v r6, .v r7, .v r8, .v r9, .v r10, .v r11, .v r12, .v r13, .v r14] h) := by kernel_rfl
theorem qb91 {c call : ab} (hct : call (.f 91) = w91 c) {h : HTr} {K : List Lf → HTr → RT} {K' : Value → Value → Value → Value → Value → Value → Value → Value → Value → Value → Value → Value → Value → Value → Value → HTr → RT} (hX : ∀ r0 r1 r2 r3 r4 r5 r6 r7 r8 r9 r10 r11 r12 r13 r14 h, K [.v r0, .v r1, .v r2, .v r3, .v r4, .v r5, .v r6, .v r7, .v r8, .v r9, .v r10, .v r11, .v r12, .v r13, .v r14] h = K' r0 r1 r2 r3 r4 r5 r6 r7 r8 r9 r10 r11 r12 r13 r14 h) : (BA ae ac call).call 91 [] h K = b91 c h K' := by
 obtain rfl : K' = fun r0 r1 r2 r3 r4 r5 r6 r7 r8 r9 r10 r11 r12 r13 r14 h => K [.v r0, .v r1, .v r2, .v r3, .v r4, .v r5, .v r6, .v r7, .v r8, .v r9, .v r10, .v r11, .v r12, .v r13, .v r14] h := funext fun r0 => funext fun r1 => funext fun r2 => funext fun r3 => funext fun r4 => funext fun r5 => funext fun r6 => funext fun r7 => funext fun r8 => funext fun r9 => funext fun r10 => funext fun r11 => funext fun r12 => funext fun r13 => funext fun r14 => funext fun h => (hX r0 r1 r2 r3 r4 r5 r6 r7 r8 r9 r10 r11 r12 r13 r14 h).symm
 exact co rfl ((c3 hct _ _ _).trans (c3 vb91 c h K))
theorem pf91 (c : ab) (ls : List Lf) (h : HTr) (K : List Lf → HTr → RT) : f91 (BA ae ac (ct91 c)) ls h K = wr91 c ls h K := q_r0 (ns (fun m6 h7 => q_st (fun l8 h9 => nq (nq (rfl)))))
theorem ok91 {c : ab} (hc : Cok c) : Ent 91 (w91 c) := bY (f := fun A => f91 A) (ct := ct91) pf91 (congrFun (congrFun e91 RT) HTr) i91 (aR hc aN)
/-- crimp/lines.Side -/
noncomputable def ct78 (c : ab) : ab := tblF [(74, w74 c), (90, w90 c), (91, w91 c)] c
noncomputable def b78 (c : ab) (a0 : Int) (a1 : Int) (a2 : Int) (a3 : Int) (h : HTr) (K : Int → HTr → RT) : RT := mc74 c a0 a1 h (fun r_1 h15 => cB ( mc90 c a2 a3 h15 (fun r_2 O => cB ( b91 c O (fun r_3 r_4 r_5 r_6 r_7 r_8 r_9 r_10 r_11 r_12 r_13 r_14 r_15 r_16 r_17 Q => optB (inB 5 a0) (fun b1 => optB (aW [(.v r_3), (.v r_4), (.v r_5), (.v r_6), (.v r_7), (.v r_8), (.v r_9), (.v r_10), (.v r_11), (.v r_12), (.v r_13), (.v r_14), (.v r_15), (.v r_16), (.v r_17)] 0 [(a0, 3)] 3) (fun U => unVB U (fun V a4 => unVB a4 (fun b2 a5 => unVB a5 (fun b3 a6 => un0B a6 (nT ae ac (ct78 c) V [(.agg ⟨[(.int .i64 a2), (.int .i64 a3)]⟩)] [(.leaf (.i .i64))] Q (fun a7 J => unIB a7 (fun n66 a8 => un0B a8 (mulK (.ofNat (nat_lit 2)) a1 (fun c_ => aA c_ (fun a9 => cB ( mulK (.ofNat (nat_lit 2)) a1 (fun c_ => aA c_ (fun b0 => cB ( K (.ofNat (nat_lit 0)) J) ( K (.ofNat (nat_lit 1)) J) (notK (leZ n66 b0))))) ( K (.negSucc (nat_lit 0)) J) (notK (leZ a9 n66))))))))))))))) ( K (.ofNat (nat_lit 0)) O) (notK (eqZK r_2 (.ofNat (nat_lit 0)))))) ( K (.ofNat (nat_lit 0)) h15) (notK (eqZK r_1 (.ofNat (nat_lit 0)))))
noncomputable def wr78 (c : ab) : FB := fun ls h K => rI (fun J O => rI (fun Q U => rI (fun V a0 => rI (fun a1 a2 => r0 (b78 c J Q V a1 h (fun r0 h => K [.i r0] h)) a2) a0) U) O) ls
noncomputable def w78 (c : ab) : FB := memo (wr78 c)
noncomputable def mc78 (c : ab) (J : Int) (O : Int) (Q : Int) (U : Int) (h : HTr) (K : Int → HTr → RT) : RT := fI J fun J => fI O fun O => fI Q fun Q => fI U fun U => @Option.rec _ (fun _ => RT) none (fun rs => u_i K rs h) (b78 c J O Q U .empty (fun r0 h => tell [.i r0] h))
theorem vm78 : (fun (c : ab) (a0 : Int) (a1 : Int) (a2 : Int) (a3 : Int) (h : HTr) (K : Int → HTr → RT) => w78 c [.i a0, .i a1, .i a2, .i a3] h (u_i K)) = fun c a0 a1 a2 a3 h K => mc78 c a0 a1 a2 a3 h K := by kernel_rfl
theorem qm78 {c call : ab} (hct : call (.f 78) = w78 c) {a0 : Int} {a1 : Int} {a2 : Int} {a3 : Int} {h : HTr} {K : List Lf → HTr → RT} {K' : Int → HTr → RT} (hX : ∀ rs h, K rs h = u_i K' rs h) : (BA ae ac call).call 78 [.i a0, .i a1, .i a2, .i a3] h K = mc78 c a0 a1 a2 a3 h K' := by
 obtain rfl := fx hX
 exact co rfl ((c3 hct _ _ _).trans (c7 vm78 c a0 a1 a2 a3 h K'))
theorem pf78 (c : ab) (ls : List Lf) (h : HTr) (K : List Lf → HTr → RT) : f78 (BA ae ac (ct78 c)) ls h K = wr78 c ls h K := q_rI (fun n6 l7 => q_rI (fun n8 l9 => q_rI (fun n10 l11 => q_rI (fun n12 l13 => q_r0 (qm74 rfl (fun l14 h15 => ah (fun n16 l17 => am (cu (al (rfl) (qm90 rfl (fun l19 h20 => ah (fun n21 l22 => am (cu (al (rfl) (qb91 rfl (fun r_3 r_4 r_5 r_6 r_7 r_8 r_9 r_10 r_11 r_12 r_13 r_14 r_15 r_16 r_17 h25 => dt (dt (dt (dt (dt (dt (dt (dt (dt (dt (dt (dt (dt (dt (dt (q_un0s (bD (fun x56 => bD (fun x57 => q_unV (fun x58 l59 => q_unV (fun x60 l61 => q_unV (fun x62 l63 => am (q_callv (fun l64 h65 => ah (fun n66 l67 => am (bj (fun n68 => fF (al (rfl) (bj (fun n70 => jh (al (rfl) (rfl)))))))))))))))))))))))))))))))))))))))))))))))
theorem ok78 {c : ab} (hc : Cok c) : Ent 78 (w78 c) := ba (bY (f := fun A => f78 A) (ct := ct78) pf78 (congrFun (congrFun e78 RT) HTr) i78 (aR hc (aC (ok74 hc) (aC (ok90 hc) (aC (ok91 hc) aN))))) rfl (by kernel_rfl)
/-- crimp/cells.Side -/
noncomputable def ct50 (c : ab) : ab := tblF [(41, w41 c), (74, w74 c), (78, w78 c)] c
noncomputable def b50 (c : ab) (a0 : Int) (a1 : Int) (a2 : Int) (a3 : Int) (a4 : Int) (h : HTr) (K : Int → Int → HTr → RT) : RT := mc41 c a2 a3 a4 h (fun r_1 r_2 r_3 r_4 r_5 r_6 r_7 J => cB ( mc74 c a0 a1 J (fun r_8 O => cB ( kj (fun U V h40 => unIB V (fun n41 a5 => un0B a5 (cB ( K (.ofNat (nat_lit 0)) (.ofNat (nat_lit 0)) h40) ( optB (inB 3 n41) (fun b0 => optB (aW [(.i r_1), (.i r_2), (.i r_3), (.i r_4), (.i r_5), (.i r_6)] 0 [(n41, 2)] 2) (fun a6 => unIB a6 (fun a7 a8 => unIB a8 (fun n48 a9 => un0B a9 (mc78 c a0 a1 a7 n48 h40 (fun r_9 Q => cB ( addK n41 (.ofNat (nat_lit 1)) (fun c_ => aA c_ (fun n55 => U [.i n55] Q))) ( K (.ofNat (nat_lit 1)) (.ofNat (nat_lit 0)) Q) (notK (leZ r_9 (.ofNat (nat_lit 0))))))))))) (notK (leZ (.ofNat (nat_lit 3)) n41))))) [.i (.ofNat (nat_lit 0))] O) ( K (.ofNat (nat_lit 0)) (.ofNat (nat_lit 1)) O) (notK (eqZK r_8 (.ofNat (nat_lit 0)))))) ( K (.ofNat (nat_lit 0)) (.ofNat (nat_lit 1)) J) (notK (eqZK r_7 (.ofNat (nat_lit 0)))))
noncomputable def wr50 (c : ab) : FB := fun ls h K => rI (fun J O => rI (fun Q U => rI (fun V a0 => rI (fun a1 a2 => rI (fun a3 a4 => r0 (b50 c J Q V a1 a3 h (fun r0 a5 h => K [.i r0, .i a5] h)) a4) a2) a0) U) O) ls
noncomputable def w50 (c : ab) : FB := memo (wr50 c)
noncomputable def mc50 (c : ab) (J : Int) (O : Int) (Q : Int) (U : Int) (V : Int) (h : HTr) (K : Int → Int → HTr → RT) : RT := fI J fun J => fI O fun O => fI Q fun Q => fI U fun U => fI V fun V => @Option.rec _ (fun _ => RT) none (fun rs => u_ii K rs h) (b50 c J O Q U V .empty (fun r0 a0 h => tell [.i r0, .i a0] h))
theorem vm50 : (fun (c : ab) (a0 : Int) (a1 : Int) (a2 : Int) (a3 : Int) (a4 : Int) (h : HTr) (K : Int → Int → HTr → RT) => w50 c [.i a0, .i a1, .i a2, .i a3, .i a4] h (u_ii K)) = fun c a0 a1 a2 a3 a4 h K => mc50 c a0 a1 a2 a3 a4 h K := by kernel_rfl
theorem qm50 {c call : ab} (hct : call (.f 50) = w50 c) {a0 : Int} {a1 : Int} {a2 : Int} {a3 : Int} {a4 : Int} {h : HTr} {K : List Lf → HTr → RT} {K' : Int → Int → HTr → RT} (hX : ∀ rs h, K rs h = u_ii K' rs h) : (BA ae ac call).call 50 [.i a0, .i a1, .i a2, .i a3, .i a4] h K = mc50 c a0 a1 a2 a3 a4 h K' := by
 obtain rfl := fx hX
 exact co rfl ((c3 hct _ _ _).trans (c8 vm50 c a0 a1 a2 a3 a4 h K'))
theorem pf50 (c : ab) (ls : List Lf) (h : HTr) (K : List Lf → HTr → RT) : f50 (BA ae ac (ct50 c)) ls h K = wr50 c ls h K := q_rI (fun n6 l7 => q_rI (fun n8 l9 => q_rI (fun n10 l11 => q_rI (fun n12 l13 => q_rI (fun n14 l15 => q_r0 (qm41 rfl (fun l16 h17 => ah (fun n18 l19 => ah (fun n20 l21 => ah (fun n22 l23 => ah (fun n24 l25 => ah (fun n26 l27 => ah (fun n28 l29 => ah (fun n30 l31 => am (cu (al (rfl) (qm74 rfl (fun l33 h34 => ah (fun n35 l36 => am (cu (al (rfl) (hC (fun s38 l39 h40 => ah (fun n41 l42 => am (fF (al (bD (fun x44 => bD (fun x45 => ah (fun n46 l47 => ah (fun n48 l49 => am (qm78 rfl (fun l50 h51 => ah (fun n52 l53 => am (jh (al (rfl) (bu (fun n55 => rfl)))))))))))) (rfl)))))))))))))))))))))))))))
theorem ok50 {c : ab} (hc : Cok c) : Ent 50 (w50 c) := ba (bY (f := fun A => f50 A) (ct := ct50) pf50 (congrFun (congrFun e50 RT) HTr) i50 (aR hc (aC (ok41 hc) (aC (ok74 hc) (aC (ok78 hc) aN))))) rfl (by kernel_rfl)
/-- crimp/moves.beyond -/
noncomputable def ct92 (c : ab) : ab := tblF [] c
noncomputable def b92 (c : ab) (a0 : Int) (h : HTr) (K : Bool → HTr → RT) : RT := pL (fun O Q => unBB O (fun U V => un0B V (K U Q))) (fun J => cB ( J [.b (notK (leZ a0 (.ofNat (nat_lit 16384))))] h) ( J [.b true] h) (notK (leZ (.negSucc (nat_lit 16383)) a0)))
noncomputable def wr92 (c : ab) : FB := fun ls h K => rI (fun J O => r0 (b92 c J h (fun r0 h => K [.b r0] h)) O) ls
noncomputable abbrev u_b (K : Bool → HTr → RT) (rs : List Lf) (h : HTr) : RT := unBB rs fun r0 J => un0B J (K r0 h)
noncomputable def w92 (c : ab) : FB := memo (wr92 c)
noncomputable def mc92 (c : ab) (J : Int) (h : HTr) (K : Bool → HTr → RT) : RT := fI J fun J => @Option.rec _ (fun _ => RT) none (fun rs => u_b K rs h) (b92 c J .empty (fun r0 h => tell [.b r0] h))
theorem vm92 : (fun (c : ab) (a0 : Int) (h : HTr) (K : Bool → HTr → RT) => w92 c [.i a0] h (u_b K)) = fun c a0 h K => mc92 c a0 h K := by kernel_rfl
theorem qm92 {c call : ab} (hct : call (.f 92) = w92 c) {a0 : Int} {h : HTr} {K : List Lf → HTr → RT} {K' : Bool → HTr → RT} (hX : ∀ rs h, K rs h = u_b K' rs h) : (BA ae ac call).call 92 [.i a0] h K = mc92 c a0 h K' := by
 obtain rfl := fx hX
 exact co rfl ((c3 hct _ _ _).trans (c4 vm92 c a0 h K'))
theorem pf92 (c : ab) (ls : List Lf) (h : HTr) (K : List Lf → HTr → RT) : f92 (BA ae ac (ct92 c)) ls h K = wr92 c ls h K := q_rI (fun n6 l7 => q_r0 (pe (fun l8 h9 => q_unB (fun t10 l11 => am (rfl))) (fun j12 => fF (al (rfl) (jh (rfl))))))
theorem ok92 {c : ab} (hc : Cok c) : Ent 92 (w92 c) := ba (bY (f := fun A => f92 A) (ct := ct92) pf92 (congrFun (congrFun e92 RT) HTr) i92 (aR hc aN)) rfl (by kernel_rfl)
/-- crimp/moves.Check -/
noncomputable def ct79 (c : ab) : ab := tblF [(92, w92 c)] c
noncomputable def b79 (c : ab) (a0 : Int) (a1 : Int) (a2 : Int) (h : HTr) (K : Int → HTr → RT) : RT := aA a0 (fun O => cB ( mc92 c a1 h (fun r_1 h15 => cB ( mc92 c a2 h15 (fun r_2 J => cB ( addK a1 a2 (fun c_ => aA c_ (fun Q => @Bool.rec (fun _ => RT) (remK Q (.ofNat (nat_lit 2)) (fun U => cB ( K (.ofNat (nat_lit 0)) J) ( K (.ofNat (nat_lit 1)) J) (notK (eqZK U (.ofNat (nat_lit 0)))))) none (isZ (.ofNat (nat_lit 2)))))) ( K (.ofNat (nat_lit 1)) J) r_2)) ( K (.ofNat (nat_lit 1)) h15) r_1)) ( K (.ofNat (nat_lit 1)) h) (leZ (.ofNat (nat_lit 8)) O))
noncomputable def wr79 (c : ab) : FB := fun ls h K => rI (fun J O => rI (fun Q U => rI (fun V a0 => r0 (b79 c J Q V h (fun r0 h => K [.i r0] h)) a0) U) O) ls
noncomputable def w79 (c : ab) : FB := memo (wr79 c)
noncomputable def mc79 (c : ab) (J : Int) (O : Int) (Q : Int) (h : HTr) (K : Int → HTr → RT) : RT := fI J fun J => fI O fun O => fI Q fun Q => @Option.rec _ (fun _ => RT) none (fun rs => u_i K rs h) (b79 c J O Q .empty (fun r0 h => tell [.i r0] h))
theorem vm79 : (fun (c : ab) (a0 : Int) (a1 : Int) (a2 : Int) (h : HTr) (K : Int → HTr → RT) => w79 c [.i a0, .i a1, .i a2] h (u_i K)) = fun c a0 a1 a2 h K => mc79 c a0 a1 a2 h K := by kernel_rfl
theorem qm79 {c call : ab} (hct : call (.f 79) = w79 c) {a0 : Int} {a1 : Int} {a2 : Int} {h : HTr} {K : List Lf → HTr → RT} {K' : Int → HTr → RT} (hX : ∀ rs h, K rs h = u_i K' rs h) : (BA ae ac call).call 79 [.i a0, .i a1, .i a2] h K = mc79 c a0 a1 a2 h K' := by
 obtain rfl := fx hX
 exact co rfl ((c3 hct _ _ _).trans (c6 vm79 c a0 a1 a2 h K'))
theorem pf79 (c : ab) (ls : List Lf) (h : HTr) (K : List Lf → HTr → RT) : f79 (BA ae ac (ct79 c)) ls h K = wr79 c ls h K := q_rI (fun n6 l7 => q_rI (fun n8 l9 => q_rI (fun n10 l11 => q_r0 (q_conv64 (fun n12 => q_geq (al (rfl) (qm92 rfl (fun l14 h15 => q_unB (fun t16 l17 => am (al (rfl) (qm92 rfl (fun l18 h19 => q_unB (fun t20 l21 => am (al (rfl) (bu (fun n22 => q_rem (fun n23 => cu (al (rfl) (rfl)))))))))))))))))))
theorem ok79 {c : ab} (hc : Cok c) : Ent 79 (w79 c) := ba (bY (f := fun A => f79 A) (ct := ct79) pf79 (congrFun (congrFun e79 RT) HTr) i79 (aR hc (aC (ok92 hc) aN))) rfl (by kernel_rfl)
/-- crimp/cells.middle -/
noncomputable def ct82 (c : ab) : ab := tblF [] c
noncomputable def b82 (c : ab) (a0 : Int) (a1 : Int) (a2 : Int) (h : HTr) (K : Int → Int → HTr → RT) : RT := mulK (.ofNat (nat_lit 2)) a0 (fun c_ => aA c_ (fun J => addK J (.ofNat (nat_lit 1)) (fun c_ => aA c_ (fun O => mulK (.ofNat (nat_lit 2)) a1 (fun c_ => aA c_ (fun Q => addK Q (.ofNat (nat_lit 1)) (fun c_ => aA c_ (fun n15 => K O n15 h))))))))
noncomputable def wr82 (c : ab) : FB := fun ls h K => rI (fun J O => rI (fun Q U => rI (fun V a0 => r0 (b82 c J Q V h (fun r0 a1 h => K [.i r0, .i a1] h)) a0) U) O) ls
noncomputable def w82 (c : ab) : FB := memo (wr82 c)
noncomputable def mc82 (c : ab) (J : Int) (O : Int) (Q : Int) (h : HTr) (K : Int → Int → HTr → RT) : RT := fI J fun J => fI O fun O => fI Q fun Q => @Option.rec _ (fun _ => RT) none (fun rs => u_ii K rs h) (b82 c J O Q .empty (fun r0 U h => tell [.i r0, .i U] h))
theorem vm82 : (fun (c : ab) (a0 : Int) (a1 : Int) (a2 : Int) (h : HTr) (K : Int → Int → HTr → RT) => w82 c [.i a0, .i a1, .i a2] h (u_ii K)) = fun c a0 a1 a2 h K => mc82 c a0 a1 a2 h K := by kernel_rfl
theorem qm82 {c call : ab} (hct : call (.f 82) = w82 c) {a0 : Int} {a1 : Int} {a2 : Int} {h : HTr} {K : List Lf → HTr → RT} {K' : Int → Int → HTr → RT} (hX : ∀ rs h, K rs h = u_ii K' rs h) : (BA ae ac call).call 82 [.i a0, .i a1, .i a2] h K = mc82 c a0 a1 a2 h K' := by
 obtain rfl := fx hX
 exact co rfl ((c3 hct _ _ _).trans (c6 vm82 c a0 a1 a2 h K'))
theorem pf82 (c : ab) (ls : List Lf) (h : HTr) (K : List Lf → HTr → RT) : f82 (BA ae ac (ct82 c)) ls h K = wr82 c ls h K := q_rI (fun n6 l7 => q_rI (fun n8 l9 => q_rI (fun n10 l11 => q_r0 (bj (fun n12 => bu (fun n13 => bj (fun n14 => bu (fun n15 => rfl))))))))
theorem ok82 {c : ab} (hc : Cok c) : Ent 82 (w82 c) := ba (bY (f := fun A => f82 A) (ct := ct82) pf82 (congrFun (congrFun e82 RT) HTr) i82 (aR hc aN)) rfl (by kernel_rfl)
/-- (crimp/moves.matrix).of -/
noncomputable def ct85 (c : ab) : ab := tblF [] c
noncomputable def b85 (c : ab) (a0 : Int) (a1 : Int) (a2 : Int) (a3 : Int) (a4 : Int) (a5 : Int) (h : HTr) (K : Int → Int → HTr → RT) : RT := mulK a0 a4 (fun c_ => aA c_ (fun J => mulK a1 a5 (fun c_ => aA c_ (fun O => addK J O (fun c_ => aA c_ (fun Q => mulK a2 a4 (fun c_ => aA c_ (fun U => mulK a3 a5 (fun c_ => aA c_ (fun V => addK U V (fun c_ => aA c_ (fun a6 => K Q a6 h))))))))))))
noncomputable def wr85 (c : ab) : FB := fun ls h K => rI (fun J O => rI (fun Q U => rI (fun V a0 => rI (fun a1 a2 => rI (fun a3 a4 => rI (fun a5 a6 => r0 (b85 c J Q V a1 a3 a5 h (fun r0 a7 h => K [.i r0, .i a7] h)) a6) a4) a2) a0) U) O) ls
noncomputable def w85 (c : ab) : FB := memo (wr85 c)
noncomputable def mc85 (c : ab) (J : Int) (O : Int) (Q : Int) (U : Int) (V : Int) (a0 : Int) (h : HTr) (K : Int → Int → HTr → RT) : RT := fI J fun J => fI O fun O => fI Q fun Q => fI U fun U => fI V fun V => fI a0 fun a0 => @Option.rec _ (fun _ => RT) none (fun rs => u_ii K rs h) (b85 c J O Q U V a0 .empty (fun r0 a1 h => tell [.i r0, .i a1] h))
theorem vm85 : (fun (c : ab) (a0 : Int) (a1 : Int) (a2 : Int) (a3 : Int) (a4 : Int) (a5 : Int) (h : HTr) (K : Int → Int → HTr → RT) => w85 c [.i a0, .i a1, .i a2, .i a3, .i a4, .i a5] h (u_ii K)) = fun c a0 a1 a2 a3 a4 a5 h K => mc85 c a0 a1 a2 a3 a4 a5 h K := by kernel_rfl
theorem qm85 {c call : ab} (hct : call (.f 85) = w85 c) {a0 : Int} {a1 : Int} {a2 : Int} {a3 : Int} {a4 : Int} {a5 : Int} {h : HTr} {K : List Lf → HTr → RT} {K' : Int → Int → HTr → RT} (hX : ∀ rs h, K rs h = u_ii K' rs h) : (BA ae ac call).call 85 [.i a0, .i a1, .i a2, .i a3, .i a4, .i a5] h K = mc85 c a0 a1 a2 a3 a4 a5 h K' := by
 obtain rfl := fx hX
 exact co rfl ((c3 hct _ _ _).trans (c9 vm85 c a0 a1 a2 a3 a4 a5 h K'))
theorem pf85 (c : ab) (ls : List Lf) (h : HTr) (K : List Lf → HTr → RT) : f85 (BA ae ac (ct85 c)) ls h K = wr85 c ls h K := q_rI (fun n6 l7 => q_rI (fun n8 l9 => q_rI (fun n10 l11 => q_rI (fun n12 l13 => q_rI (fun n14 l15 => q_rI (fun n16 l17 => q_r0 (bj (fun n18 => bj (fun n19 => bu (fun n20 => bj (fun n21 => bj (fun n22 => bu (fun n23 => rfl)))))))))))))
theorem ok85 {c : ab} (hc : Cok c) : Ent 85 (w85 c) := ba (bY (f := fun A => f85 A) (ct := ct85) pf85 (congrFun (congrFun e85 RT) HTr) i85 (aR hc aN)) rfl (by kernel_rfl)
/-- crimp/moves.Point -/
noncomputable def ct83 (c : ab) : ab := tblF [(79, w79 c), (85, w85 c), (90, w90 c)] c
noncomputable def b83 (c : ab) (a0 : Int) (a1 : Int) (a2 : Int) (a3 : Int) (a4 : Int) (h : HTr) (K : Int → Int → Int → HTr → RT) : RT := mc79 c a0 a1 a2 h (fun r_1 J => cB ( mc90 c a3 a4 J (fun r_2 O => cB ( optB (inB 8 a0) (fun b4 => optB (bo gl1 0 [(a0, 4)] 4) (fun U => ucIB .i64 U (fun V a5 => ucIB .i64 a5 (fun a6 a7 => ucIB .i64 a7 (fun a8 a9 => ucIB .i64 a9 (fun b0 b1 => uc0B b1 ( mc85 c V a6 a8 b0 a3 a4 O (fun r_3 r_4 b2 => mulK (.ofNat (nat_lit 2)) a1 (fun c_ => aA c_ (fun b3 => addK r_3 b3 (fun c_ => aA c_ (fun n43 => mulK (.ofNat (nat_lit 2)) a2 (fun c_ => aA c_ (fun n44 => addK r_4 n44 (fun c_ => aA c_ (fun Q => mc90 c n43 Q b2 (fun r_5 h47 => cB ( K n43 Q (.ofNat (nat_lit 0)) h47) ( K (.ofNat (nat_lit 0)) (.ofNat (nat_lit 0)) (.ofNat (nat_lit 3)) h47) (notK (eqZK r_5 (.ofNat (nat_lit 0)))))))))))))))))))))) ( K (.ofNat (nat_lit 0)) (.ofNat (nat_lit 0)) (.ofNat (nat_lit 1)) O) (notK (eqZK r_2 (.ofNat (nat_lit 0)))))) ( K (.ofNat (nat_lit 0)) (.ofNat (nat_lit 0)) (.ofNat (nat_lit 1)) J) (notK (eqZK r_1 (.ofNat (nat_lit 0)))))
noncomputable def wr83 (c : ab) : FB := fun ls h K => rI (fun J O => rI (fun Q U => rI (fun V a0 => rI (fun a1 a2 => rI (fun a3 a4 => r0 (b83 c J Q V a1 a3 h (fun r0 a5 a6 h => K [.i r0, .i a5, .i a6] h)) a4) a2) a0) U) O) ls
noncomputable def w83 (c : ab) : FB := memo (wr83 c)
noncomputable def mc83 (c : ab) (J : Int) (O : Int) (Q : Int) (U : Int) (V : Int) (h : HTr) (K : Int → Int → Int → HTr → RT) : RT := fI J fun J => fI O fun O => fI Q fun Q => fI U fun U => fI V fun V => @Option.rec _ (fun _ => RT) none (fun rs => jj K rs h) (b83 c J O Q U V .empty (fun r0 a0 a1 h => tell [.i r0, .i a0, .i a1] h))
theorem vm83 : (fun (c : ab) (a0 : Int) (a1 : Int) (a2 : Int) (a3 : Int) (a4 : Int) (h : HTr) (K : Int → Int → Int → HTr → RT) => w83 c [.i a0, .i a1, .i a2, .i a3, .i a4] h (jj K)) = fun c a0 a1 a2 a3 a4 h K => mc83 c a0 a1 a2 a3 a4 h K := by kernel_rfl
theorem qm83 {c call : ab} (hct : call (.f 83) = w83 c) {a0 : Int} {a1 : Int} {a2 : Int} {a3 : Int} {a4 : Int} {h : HTr} {K : List Lf → HTr → RT} {K' : Int → Int → Int → HTr → RT} (hX : ∀ rs h, K rs h = jj K' rs h) : (BA ae ac call).call 83 [.i a0, .i a1, .i a2, .i a3, .i a4] h K = mc83 c a0 a1 a2 a3 a4 h K' := by
 obtain rfl := fx hX
 exact co rfl ((c3 hct _ _ _).trans (c8 vm83 c a0 a1 a2 a3 a4 h K'))
theorem pf83 (c : ab) (ls : List Lf) (h : HTr) (K : List Lf → HTr → RT) : f83 (BA ae ac (ct83 c)) ls h K = wr83 c ls h K := q_rI (fun n6 l7 => q_rI (fun n8 l9 => q_rI (fun n10 l11 => q_rI (fun n12 l13 => q_rI (fun n14 l15 => q_r0 (qm79 rfl (fun l16 h17 => ah (fun n18 l19 => am (cu (al (rfl) (qm90 rfl (fun l21 h22 => ah (fun n23 l24 => am (cu (al (rfl) (bD (fun x26 => bD (fun x27 => bb (fun n28 l29 => bb (fun n30 l31 => bb (fun n32 l33 => bb (fun n34 l35 => ea (qm85 rfl (fun l36 h37 => ah (fun n38 l39 => ah (fun n40 l41 => am (bj (fun n42 => bu (fun n43 => bj (fun n44 => bu (fun n45 => qm90 rfl (fun l46 h47 => ah (fun n48 l49 => am (cu (al (rfl) (rfl))))))))))))))))))))))))))))))))))))
theorem ok83 {c : ab} (hc : Cok c) : Ent 83 (w83 c) := ba (bY (f := fun A => f83 A) (ct := ct83) pf83 (congrFun (congrFun e83 RT) HTr) i83 (aR hc (aC (ok79 hc) (aC (ok85 hc) (aC (ok90 hc) aN))))) rfl (by kernel_rfl)
/-- crimp/cells.moved -/
noncomputable def ct80 (c : ab) : ab := tblF [(82, w82 c), (83, w83 c)] c
noncomputable def b80 (c : ab) (a0 : Int) (a1 : Int) (a2 : Int) (a3 : Int) (a4 : Int) (a5 : Int) (h : HTr) (K : Int → Int → Int → HTr → RT) : RT := mc82 c a3 a4 a5 h (fun r_1 r_2 U => optB (inB 4 a5) (fun f6 => optB (bo gl0 0 [(a5, 17)] 2) (fun V => ucIB .i64 V (fun a6 a7 => ucIB .i64 a7 (fun a8 a9 => uc0B a9 ( mc83 c a0 a1 a2 r_1 r_2 U (fun r_3 r_4 r_5 b0 => mc83 c a0 (.ofNat (nat_lit 0)) (.ofNat (nat_lit 0)) a6 a8 b0 (fun r_6 r_7 r_8 b1 => ariB .and .i64 r_3 (.ofNat (nat_lit 1)) (fun b2 => subK r_3 b2 (fun c_ => aA c_ (fun n47 => @Bool.rec (fun _ => RT) (quoK n47 (.ofNat (nat_lit 2)) (fun c_ => aA c_ (fun n48 => ariB .and .i64 r_4 (.ofNat (nat_lit 1)) (fun b3 => subK r_4 b3 (fun c_ => aA c_ (fun n50 => @Bool.rec (fun _ => RT) (quoK n50 (.ofNat (nat_lit 2)) (fun c_ => aA c_ (fun b4 => kj (fun b5 b6 J => unIB b6 (fun n55 b7 => unIB b7 (fun O b8 => unIB b8 (fun n59 b9 => unIB b9 (fun n61 c0 => un0B c0 (cB ( K O n59 n61 J) ( optB (inB 4 n55) (fun f7 => optB (aW [(.i (.ofNat (nat_lit 0))), (.i (.negSucc (nat_lit 0))), (.i (.ofNat (nat_lit 2))), (.i (.ofNat (nat_lit 0))), (.i (.ofNat (nat_lit 0))), (.i (.negSucc (nat_lit 0))), (.i (.ofNat (nat_lit 2))), (.i (.ofNat (nat_lit 0))), (.i (.ofNat (nat_lit 0))), (.i (.ofNat (nat_lit 1))), (.i (.ofNat (nat_lit 0))), (.i (.ofNat (nat_lit 0))), (.i (.ofNat (nat_lit 3))), (.i (.ofNat (nat_lit 0))), (.i (.ofNat (nat_lit 0))), (.i (.ofNat (nat_lit 2))), (.i (.ofNat (nat_lit 0))), (.i (.ofNat (nat_lit 1))), (.i (.ofNat (nat_lit 0))), (.i (.ofNat (nat_lit 1))), (.i (.ofNat (nat_lit 1))), (.i (.ofNat (nat_lit 1))), (.i (.ofNat (nat_lit 0))), (.i (.ofNat (nat_lit 3))), (.i (.ofNat (nat_lit 0))), (.i (.ofNat (nat_lit 0))), (.i (.ofNat (nat_lit 0))), (.i (.ofNat (nat_lit 0))), (.i (.ofNat (nat_lit 0))), (.i (.ofNat (nat_lit 2))), (.i (.ofNat (nat_lit 2))), (.i (.ofNat (nat_lit 2))), (.i (.ofNat (nat_lit 2))), (.i (.ofNat (nat_lit 0))), (.i (.ofNat (nat_lit 0))), (.i (.ofNat (nat_lit 1))), (.i (.ofNat (nat_lit 2))), (.i (.ofNat (nat_lit 1))), (.i (.ofNat (nat_lit 0))), (.i (.ofNat (nat_lit 1))), (.i (.ofNat (nat_lit 0))), (.i (.ofNat (nat_lit 0))), (.i (.ofNat (nat_lit 0))), (.i (.ofNat (nat_lit 3))), (.i (.ofNat (nat_lit 0))), (.i (.ofNat (nat_lit 0))), (.i (.ofNat (nat_lit 1))), (.i (.ofNat (nat_lit 2))), (.i (.ofNat (nat_lit 2))), (.i (.ofNat (nat_lit 0))), (.i (.ofNat (nat_lit 2))), (.i (.negSucc (nat_lit 0))), (.i (.ofNat (nat_lit 0))), (.i (.ofNat (nat_lit 1))), (.i (.ofNat (nat_lit 0))), (.i (.negSucc (nat_lit 0))), (.i (.ofNat (nat_lit 0))), (.i (.ofNat (nat_lit 1))), (.i (.ofNat (nat_lit 0))), (.i (.ofNat (nat_lit 0))), (.i (.ofNat (nat_lit 2))), (.i (.ofNat (nat_lit 0))), (.i (.ofNat (nat_lit 0))), (.i (.ofNat (nat_lit 0))), (.i (.ofNat (nat_lit 0))), (.i (.ofNat (nat_lit 0))), (.i (.ofNat (nat_lit 0))), (.i (.ofNat (nat_lit 2)))] 0 [(n55, 17)] 17) (fun c1 => unIB c1 (fun n66 d0 => unIB d0 (fun d1 d2 => unIB d2 (fun f8 d3 => unIB d3 (fun f9 d4 => unIB d4 (fun n74 d5 => unIB d5 (fun gl d6 => unIB d6 (fun n78 d7 => unIB d7 (fun n80 d8 => unIB d8 (fun n82 d9 => unIB d9 (fun gq e0 => unIB e0 (fun n86 e1 => unIB e1 (fun n88 e2 => unIB e2 (fun n90 e3 => unIB e3 (fun n92 e4 => unIB e4 (fun n94 e5 => unIB e5 (fun n96 e6 => unIB e6 (fun n98 e7 => un0B e7 (pL (fun e8 e9 => unIB e8 (fun n103 f0 => unIB f0 (fun n105 f1 => unIB f1 (fun f2 f3 => un0B f3 (addK n55 (.ofNat (nat_lit 1)) (fun c_ => aA c_ (fun f4 => b5 [.i f4, .i n103, .i n105, .i f2] e9))))))) (fun Q => cB ( Q [.i O, .i n59, .i n61] J) ( jf n55 (fun f5 => Q [.i O, .i n59, .i f5] J)) (@Bool.rec (fun _ => Bool) false (@Bool.rec (fun _ => Bool) false true (eqZK d1 r_7)) (eqZK n66 r_6)))))))))))))))))))))))) (notK (leZ (.ofNat (nat_lit 4)) n55)))))))) [.i (.ofNat (nat_lit 0)), .i n48, .i b4, .i (.ofNat (nat_lit 0))] b1))) none (isZ (.ofNat (nat_lit 2))))))))) none (isZ (.ofNat (nat_lit 2))))))))))))))
noncomputable def wr80 (c : ab) : FB := fun ls h K => rI (fun J O => rI (fun Q U => rI (fun V a0 => rI (fun a1 a2 => rI (fun a3 a4 => rI (fun a5 a6 => r0 (b80 c J Q V a1 a3 a5 h (fun r0 a7 a8 h => K [.i r0, .i a7, .i a8] h)) a6) a4) a2) a0) U) O) ls
noncomputable def w80 (c : ab) : FB := memo (wr80 c)
noncomputable def mc80 (c : ab) (J : Int) (O : Int) (Q : Int) (U : Int) (V : Int) (a0 : Int) (h : HTr) (K : Int → Int → Int → HTr → RT) : RT := fI J fun J => fI O fun O => fI Q fun Q => fI U fun U => fI V fun V => fI a0 fun a0 => @Option.rec _ (fun _ => RT) none (fun rs => jj K rs h) (b80 c J O Q U V a0 .empty (fun r0 a1 a2 h => tell [.i r0, .i a1, .i a2] h))
theorem vm80 : (fun (c : ab) (a0 : Int) (a1 : Int) (a2 : Int) (a3 : Int) (a4 : Int) (a5 : Int) (h : HTr) (K : Int → Int → Int → HTr → RT) => w80 c [.i a0, .i a1, .i a2, .i a3, .i a4, .i a5] h (jj K)) = fun c a0 a1 a2 a3 a4 a5 h K => mc80 c a0 a1 a2 a3 a4 a5 h K := by kernel_rfl
theorem qm80 {c call : ab} (hct : call (.f 80) = w80 c) {a0 : Int} {a1 : Int} {a2 : Int} {a3 : Int} {a4 : Int} {a5 : Int} {h : HTr} {K : List Lf → HTr → RT} {K' : Int → Int → Int → HTr → RT} (hX : ∀ rs h, K rs h = jj K' rs h) : (BA ae ac call).call 80 [.i a0, .i a1, .i a2, .i a3, .i a4, .i a5] h K = mc80 c a0 a1 a2 a3 a4 a5 h K' := by
 obtain rfl := fx hX
 exact co rfl ((c3 hct _ _ _).trans (c9 vm80 c a0 a1 a2 a3 a4 a5 h K'))
theorem pf80 (c : ab) (ls : List Lf) (h : HTr) (K : List Lf → HTr → RT) : f80 (BA ae ac (ct80 c)) ls h K = wr80 c ls h K := q_rI (fun n6 l7 => q_rI (fun n8 l9 => q_rI (fun n10 l11 => q_rI (fun n12 l13 => q_rI (fun n14 l15 => q_rI (fun n16 l17 => q_r0 (qm82 rfl (fun l18 h19 => ah (fun n20 l21 => ah (fun n22 l23 => am (bD (fun x24 => bD (fun x25 => bb (fun n26 l27 => bb (fun n28 l29 => ea (qm83 rfl (fun l30 h31 => ah (fun n32 l33 => ah (fun n34 l35 => ah (fun n36 l37 => am (qm83 rfl (fun l38 h39 => ah (fun n40 l41 => ah (fun n42 l43 => ah (fun n44 l45 => am (q_ariG (fun n46 => bE (fun n47 => nu (fun n48 => q_ariG (fun n49 => bE (fun n50 => nu (fun n51 => hC (fun s52 l53 h54 => ah (fun n55 l56 => ah (fun n57 l58 => ah (fun n59 l60 => ah (fun n61 l62 => am (fF (al (bD (fun x64 => bD (fun x65 => ah (fun n66 l67 => ah (fun n68 l69 => ah (fun n70 l71 => ah (fun n72 l73 => ah (fun n74 l75 => ah (fun n76 l77 => ah (fun n78 l79 => ah (fun n80 l81 => ah (fun n82 l83 => ah (fun n84 l85 => ah (fun n86 l87 => ah (fun n88 l89 => ah (fun n90 l91 => ah (fun n92 l93 => ah (fun n94 l95 => ah (fun n96 l97 => ah (fun n98 l99 => am (kW (pe (fun l101 h102 => ah (fun n103 l104 => ah (fun n105 l106 => ah (fun n107 l108 => am (bu (fun n109 => rfl)))))) (fun j110 => al (q_convU8 (fun n111 => rfl)) (rfl)))))))))))))))))))))))) (rfl))))))))))))))))))))))))))))))))))))))))
theorem ok80 {c : ab} (hc : Cok c) : Ent 80 (w80 c) := ba (bY (f := fun A => f80 A) (ct := ct80) pf80 (congrFun (congrFun e80 RT) HTr) i80 (aR hc (aC (ok82 hc) (aC (ok83 hc) aN)))) rfl (by kernel_rfl)
/-- crimp/cells.Move -/
noncomputable def ct52 (c : ab) : ab := tblF [(43, w43 c), (79, w79 c), (80, w80 c)] c
noncomputable def b52 (c : ab) (a0 : Int) (a1 : Int) (a2 : Int) (a3 : Int) (a4 : Int) (a5 : Int) (h : HTr) (K : Int → Int → Int → Int → HTr → RT) : RT := mc79 c a0 a1 a2 h (fun r_1 J => cB ( mc43 c a3 a4 a5 J (fun r_2 O => cB ( mc80 c a0 a1 a2 a3 a4 a5 O (fun r_3 r_4 r_5 U => mc43 c r_3 r_4 r_5 U (fun r_6 Q => cB ( K r_3 r_4 r_5 (.ofNat (nat_lit 0)) Q) ( K (.ofNat (nat_lit 0)) (.ofNat (nat_lit 0)) (.ofNat (nat_lit 0)) (.ofNat (nat_lit 3)) Q) (notK (eqZK r_6 (.ofNat (nat_lit 0))))))) ( K (.ofNat (nat_lit 0)) (.ofNat (nat_lit 0)) (.ofNat (nat_lit 0)) (.ofNat (nat_lit 1)) O) (notK (eqZK r_2 (.ofNat (nat_lit 0)))))) ( K (.ofNat (nat_lit 0)) (.ofNat (nat_lit 0)) (.ofNat (nat_lit 0)) (.ofNat (nat_lit 1)) J) (notK (eqZK r_1 (.ofNat (nat_lit 0)))))
noncomputable def wr52 (c : ab) : FB := fun ls h K => rI (fun J O => rI (fun Q U => rI (fun V a0 => rI (fun a1 a2 => rI (fun a3 a4 => rI (fun a5 a6 => r0 (b52 c J Q V a1 a3 a5 h (fun r0 a7 a8 a9 h => K [.i r0, .i a7, .i a8, .i a9] h)) a6) a4) a2) a0) U) O) ls
noncomputable def w52 (c : ab) : FB := memo (wr52 c)
noncomputable def mc52 (c : ab) (J : Int) (O : Int) (Q : Int) (U : Int) (V : Int) (a0 : Int) (h : HTr) (K : Int → Int → Int → Int → HTr → RT) : RT := fI J fun J => fI O fun O => fI Q fun Q => fI U fun U => fI V fun V => fI a0 fun a0 => @Option.rec _ (fun _ => RT) none (fun rs => hZ K rs h) (b52 c J O Q U V a0 .empty (fun r0 a1 a2 a3 h => tell [.i r0, .i a1, .i a2, .i a3] h))
theorem vm52 : (fun (c : ab) (a0 : Int) (a1 : Int) (a2 : Int) (a3 : Int) (a4 : Int) (a5 : Int) (h : HTr) (K : Int → Int → Int → Int → HTr → RT) => w52 c [.i a0, .i a1, .i a2, .i a3, .i a4, .i a5] h (hZ K)) = fun c a0 a1 a2 a3 a4 a5 h K => mc52 c a0 a1 a2 a3 a4 a5 h K := by kernel_rfl
theorem qm52 {c call : ab} (hct : call (.f 52) = w52 c) {a0 : Int} {a1 : Int} {a2 : Int} {a3 : Int} {a4 : Int} {a5 : Int} {h : HTr} {K : List Lf → HTr → RT} {K' : Int → Int → Int → Int → HTr → RT} (hX : ∀ rs h, K rs h = hZ K' rs h) : (BA ae ac call).call 52 [.i a0, .i a1, .i a2, .i a3, .i a4, .i a5] h K = mc52 c a0 a1 a2 a3 a4 a5 h K' := by
 obtain rfl := fx hX
 exact co rfl ((c3 hct _ _ _).trans (c9 vm52 c a0 a1 a2 a3 a4 a5 h K'))
theorem pf52 (c : ab) (ls : List Lf) (h : HTr) (K : List Lf → HTr → RT) : f52 (BA ae ac (ct52 c)) ls h K = wr52 c ls h K := q_rI (fun n6 l7 => q_rI (fun n8 l9 => q_rI (fun n10 l11 => q_rI (fun n12 l13 => q_rI (fun n14 l15 => q_rI (fun n16 l17 => q_r0 (qm79 rfl (fun l18 h19 => ah (fun n20 l21 => am (cu (al (rfl) (qm43 rfl (fun l23 h24 => ah (fun n25 l26 => am (cu (al (rfl) (qm80 rfl (fun l28 h29 => ah (fun n30 l31 => ah (fun n32 l33 => ah (fun n34 l35 => am (qm43 rfl (fun l36 h37 => ah (fun n38 l39 => am (cu (al (rfl) (rfl)))))))))))))))))))))))))))
theorem ok52 {c : ab} (hc : Cok c) : Ent 52 (w52 c) := ba (bY (f := fun A => f52 A) (ct := ct52) pf52 (congrFun (congrFun e52 RT) HTr) i52 (aR hc (aC (ok43 hc) (aC (ok79 hc) (aC (ok80 hc) aN))))) rfl (by kernel_rfl)
/-- crimp/cells.Between -/
noncomputable def ct55 (c : ab) : ab := tblF [(43, w43 c), (79, w79 c), (80, w80 c), (82, w82 c), (83, w83 c)] c
noncomputable def b55 (c : ab) (a0 : Int) (a1 : Int) (a2 : Int) (a3 : Int) (a4 : Int) (a5 : Int) (h : HTr) (K : Int → Int → Int → Int → HTr → RT) : RT := mc43 c a0 a1 a2 h (fun r_1 Q => cB ( mc43 c a3 a4 a5 Q (fun r_2 U => cB ( mc82 c a3 a4 a5 U (fun r_3 r_4 a8 => kj (fun V a9 a6 => unIB a9 (fun J b0 => un0B b0 (cB ( K (.ofNat (nat_lit 0)) (.ofNat (nat_lit 0)) (.ofNat (nat_lit 0)) (.ofNat (nat_lit 7)) a6) ( mc82 c a0 a1 a2 a6 (fun r_5 r_6 b1 => mc83 c J (.ofNat (nat_lit 0)) (.ofNat (nat_lit 0)) r_5 r_6 b1 (fun r_7 r_8 r_9 h47 => subK r_3 r_7 (fun c_ => aA c_ (fun b2 => @Bool.rec (fun _ => RT) (quoK b2 (.ofNat (nat_lit 2)) (fun c_ => aA c_ (fun n55 => subK r_4 r_8 (fun c_ => aA c_ (fun b3 => @Bool.rec (fun _ => RT) (quoK b3 (.ofNat (nat_lit 2)) (fun c_ => aA c_ (fun O => mc79 c J n55 O h47 (fun r_10 h59 => cB ( addK J (.ofNat (nat_lit 1)) (fun c_ => jf c_ (fun b4 => V [.i b4] h59))) ( mc80 c J n55 O a0 a1 a2 h59 (fun r_11 r_12 r_13 a7 => cB ( addK J (.ofNat (nat_lit 1)) (fun c_ => jf c_ (fun b5 => V [.i b5] a7))) ( K J n55 O (.ofNat (nat_lit 0)) a7) (@Bool.rec (fun _ => Bool) false (@Bool.rec (fun _ => Bool) false (@Bool.rec (fun _ => Bool) false true (eqZK r_13 a5)) (eqZK r_12 a4)) (eqZK r_11 a3)))) (eqZK r_10 (.ofNat (nat_lit 0))))))) none (isZ (.ofNat (nat_lit 2)))))))) none (isZ (.ofNat (nat_lit 2)))))))) (notK (leZ (.ofNat (nat_lit 8)) J))))) [.i (.ofNat (nat_lit 0))] a8)) ( K (.ofNat (nat_lit 0)) (.ofNat (nat_lit 0)) (.ofNat (nat_lit 0)) (.ofNat (nat_lit 1)) U) (notK (eqZK r_2 (.ofNat (nat_lit 0)))))) ( K (.ofNat (nat_lit 0)) (.ofNat (nat_lit 0)) (.ofNat (nat_lit 0)) (.ofNat (nat_lit 1)) Q) (notK (eqZK r_1 (.ofNat (nat_lit 0)))))
noncomputable def wr55 (c : ab) : FB := fun ls h K => rI (fun J O => rI (fun Q U => rI (fun V a0 => rI (fun a1 a2 => rI (fun a3 a4 => rI (fun a5 a6 => r0 (b55 c J Q V a1 a3 a5 h (fun r0 a7 a8 a9 h => K [.i r0, .i a7, .i a8, .i a9] h)) a6) a4) a2) a0) U) O) ls
noncomputable def w55 (c : ab) : FB := memo (wr55 c)
noncomputable def mc55 (c : ab) (J : Int) (O : Int) (Q : Int) (U : Int) (V : Int) (a0 : Int) (h : HTr) (K : Int → Int → Int → Int → HTr → RT) : RT := fI J fun J => fI O fun O => fI Q fun Q => fI U fun U => fI V fun V => fI a0 fun a0 => @Option.rec _ (fun _ => RT) none (fun rs => hZ K rs h) (b55 c J O Q U V a0 .empty (fun r0 a1 a2 a3 h => tell [.i r0, .i a1, .i a2, .i a3] h))
theorem vm55 : (fun (c : ab) (a0 : Int) (a1 : Int) (a2 : Int) (a3 : Int) (a4 : Int) (a5 : Int) (h : HTr) (K : Int → Int → Int → Int → HTr → RT) => w55 c [.i a0, .i a1, .i a2, .i a3, .i a4, .i a5] h (hZ K)) = fun c a0 a1 a2 a3 a4 a5 h K => mc55 c a0 a1 a2 a3 a4 a5 h K := by kernel_rfl
theorem qm55 {c call : ab} (hct : call (.f 55) = w55 c) {a0 : Int} {a1 : Int} {a2 : Int} {a3 : Int} {a4 : Int} {a5 : Int} {h : HTr} {K : List Lf → HTr → RT} {K' : Int → Int → Int → Int → HTr → RT} (hX : ∀ rs h, K rs h = hZ K' rs h) : (BA ae ac call).call 55 [.i a0, .i a1, .i a2, .i a3, .i a4, .i a5] h K = mc55 c a0 a1 a2 a3 a4 a5 h K' := by
 obtain rfl := fx hX
 exact co rfl ((c3 hct _ _ _).trans (c9 vm55 c a0 a1 a2 a3 a4 a5 h K'))
theorem pf55 (c : ab) (ls : List Lf) (h : HTr) (K : List Lf → HTr → RT) : f55 (BA ae ac (ct55 c)) ls h K = wr55 c ls h K := q_rI (fun n6 l7 => q_rI (fun n8 l9 => q_rI (fun n10 l11 => q_rI (fun n12 l13 => q_rI (fun n14 l15 => q_rI (fun n16 l17 => q_r0 (qm43 rfl (fun l18 h19 => ah (fun n20 l21 => am (cu (al (rfl) (qm43 rfl (fun l23 h24 => ah (fun n25 l26 => am (cu (al (rfl) (qm82 rfl (fun l28 h29 => ah (fun n30 l31 => ah (fun n32 l33 => am (hC (fun s34 l35 h36 => ah (fun n37 l38 => am (fF (al (qm82 rfl (fun l40 h41 => ah (fun n42 l43 => ah (fun n44 l45 => am (qm83 rfl (fun l46 h47 => ah (fun n48 l49 => ah (fun n50 l51 => ah (fun n52 l53 => am (bE (fun n54 => nu (fun n55 => bE (fun n56 => nu (fun n57 => qm79 rfl (fun l58 h59 => ah (fun n60 l61 => am (nr (al (qm80 rfl (fun l63 h64 => ah (fun n65 l66 => ah (fun n67 l68 => ah (fun n69 l70 => am (kW (al (rfl) (gA (fun n72 => rfl))))))))) (gA (fun n73 => rfl)))))))))))))))))))) (rfl))))))))))))))))))))))))))
theorem ok55 {c : ab} (hc : Cok c) : Ent 55 (w55 c) := ba (bY (f := fun A => f55 A) (ct := ct55) pf55 (congrFun (congrFun e55 RT) HTr) i55 (aR hc (aC (ok43 hc) (aC (ok79 hc) (aC (ok80 hc) (aC (ok82 hc) (aC (ok83 hc) aN))))))) rfl (by kernel_rfl)
/-- crimp/crimplaw03.cell -/
noncomputable def ct66 (c : ab) : ab := tblF [] c
noncomputable def b66 (c : ab) (a0 : Int) (a1 : Int) (a2 : Int) (h : HTr) (K : Int → Int → Int → HTr → RT) : RT := K a0 a1 a2 h
noncomputable def wr66 (c : ab) : FB := fun ls h K => rI (fun J O => rI (fun Q U => rI (fun V a0 => r0 (b66 c J Q V h (fun r0 a1 a2 h => K [.i r0, .i a1, .i a2] h)) a0) U) O) ls
noncomputable def w66 (c : ab) : FB := memo (wr66 c)
noncomputable def mc66 (c : ab) (J : Int) (O : Int) (Q : Int) (h : HTr) (K : Int → Int → Int → HTr → RT) : RT := fI J fun J => fI O fun O => fI Q fun Q => @Option.rec _ (fun _ => RT) none (fun rs => jj K rs h) (b66 c J O Q .empty (fun r0 U V h => tell [.i r0, .i U, .i V] h))
theorem vm66 : (fun (c : ab) (a0 : Int) (a1 : Int) (a2 : Int) (h : HTr) (K : Int → Int → Int → HTr → RT) => w66 c [.i a0, .i a1, .i a2] h (jj K)) = fun c a0 a1 a2 h K => mc66 c a0 a1 a2 h K := by kernel_rfl
theorem qm66 {c call : ab} (hct : call (.f 66) = w66 c) {a0 : Int} {a1 : Int} {a2 : Int} {h : HTr} {K : List Lf → HTr → RT} {K' : Int → Int → Int → HTr → RT} (hX : ∀ rs h, K rs h = jj K' rs h) : (BA ae ac call).call 66 [.i a0, .i a1, .i a2] h K = mc66 c a0 a1 a2 h K' := by
 obtain rfl := fx hX
 exact co rfl ((c3 hct _ _ _).trans (c6 vm66 c a0 a1 a2 h K'))
theorem pf66 (c : ab) (ls : List Lf) (h : HTr) (K : List Lf → HTr → RT) : f66 (BA ae ac (ct66 c)) ls h K = wr66 c ls h K := q_rI (fun n6 l7 => q_rI (fun n8 l9 => q_rI (fun n10 l11 => q_r0 (rfl))))
theorem ok66 {c : ab} (hc : Cok c) : Ent 66 (w66 c) := ba (bY (f := fun A => f66 A) (ct := ct66) pf66 (congrFun (congrFun e66 RT) HTr) i66 (aR hc aN)) rfl (by kernel_rfl)
/-- crimp/crimplaw03.line -/
noncomputable def ct75 (c : ab) : ab := tblF [] c
noncomputable def b75 (c : ab) (a0 : Int) (a1 : Int) (h : HTr) (K : Int → Int → HTr → RT) : RT := K a0 a1 h
noncomputable def wr75 (c : ab) : FB := fun ls h K => rI (fun J O => rI (fun Q U => r0 (b75 c J Q h (fun r0 V h => K [.i r0, .i V] h)) U) O) ls
noncomputable def w75 (c : ab) : FB := memo (wr75 c)
noncomputable def mc75 (c : ab) (J : Int) (O : Int) (h : HTr) (K : Int → Int → HTr → RT) : RT := fI J fun J => fI O fun O => @Option.rec _ (fun _ => RT) none (fun rs => u_ii K rs h) (b75 c J O .empty (fun r0 Q h => tell [.i r0, .i Q] h))
theorem vm75 : (fun (c : ab) (a0 : Int) (a1 : Int) (h : HTr) (K : Int → Int → HTr → RT) => w75 c [.i a0, .i a1] h (u_ii K)) = fun c a0 a1 h K => mc75 c a0 a1 h K := by kernel_rfl
theorem qm75 {c call : ab} (hct : call (.f 75) = w75 c) {a0 : Int} {a1 : Int} {h : HTr} {K : List Lf → HTr → RT} {K' : Int → Int → HTr → RT} (hX : ∀ rs h, K rs h = u_ii K' rs h) : (BA ae ac call).call 75 [.i a0, .i a1] h K = mc75 c a0 a1 h K' := by
 obtain rfl := fx hX
 exact co rfl ((c3 hct _ _ _).trans (c5 vm75 c a0 a1 h K'))
theorem pf75 (c : ab) (ls : List Lf) (h : HTr) (K : List Lf → HTr → RT) : f75 (BA ae ac (ct75 c)) ls h K = wr75 c ls h K := q_rI (fun n6 l7 => q_rI (fun n8 l9 => q_r0 (rfl)))
theorem ok75 {c : ab} (hc : Cok c) : Ent 75 (w75 c) := ba (bY (f := fun A => f75 A) (ct := ct75) pf75 (congrFun (congrFun e75 RT) HTr) i75 (aR hc aN)) rfl (by kernel_rfl)
/-- crimp/crimplaw03.lives -/
noncomputable def ct44 (c : ab) : ab := tblF [(40, w40 c), (41, w41 c), (47, w47 c), (48, w48 c), (50, w50 c), (52, w52 c), (55, w55 c), (66, w66 c), (75, w75 c)] c
noncomputable def b44 (c : ab) (h : HTr) (K : Bool → HTr → RT) : RT := kj (fun b2 b3 a6 => unIB b3 (fun J b4 => un0B b4 (cB ( kj (fun b5 b6 a7 => unIB b6 (fun Q b7 => un0B b7 (cB ( mc66 c (.ofNat (nat_lit 0)) (.ofNat (nat_lit 0)) (.ofNat (nat_lit 0)) a7 (fun r_41 r_42 r_43 b8 => mc66 c (.ofNat (nat_lit 0)) (.ofNat (nat_lit 0)) (.ofNat (nat_lit 1)) b8 (fun r_44 r_45 r_46 b9 => mc48 c r_41 r_42 r_43 r_44 r_45 r_46 b9 (fun r_47 r_48 c0 => mc66 c (.ofNat (nat_lit 0)) (.ofNat (nat_lit 0)) (.ofNat (nat_lit 0)) c0 (fun r_49 r_50 r_51 c1 => mc66 c (.ofNat (nat_lit 0)) (.ofNat (nat_lit 0)) (.ofNat (nat_lit 2)) c1 (fun r_52 r_53 r_54 d0 => mc48 c r_49 r_50 r_51 r_52 r_53 r_54 d0 (fun r_55 r_56 d1 => mc66 c (.ofNat (nat_lit 0)) (.ofNat (nat_lit 0)) (.ofNat (nat_lit 0)) d1 (fun r_57 r_58 r_59 d2 => mc41 c r_57 r_58 r_59 d2 (fun r_60 r_61 r_62 r_63 r_64 r_65 r_66 d3 => mc66 c (.ofNat (nat_lit 0)) (.ofNat (nat_lit 0)) (.ofNat (nat_lit 2)) d3 (fun r_67 r_68 r_69 d4 => mc41 c r_67 r_68 r_69 d4 (fun r_70 r_71 r_72 r_73 r_74 r_75 r_76 O => cB ( cB ( cB ( cB ( cB ( kj (fun d5 d6 a8 => unIB d6 (fun U d7 => un0B d7 (cB ( mc75 c (.ofNat (nat_lit 1)) (.ofNat (nat_lit 1)) a8 (fun r_84 r_85 d8 => mc66 c (.ofNat (nat_lit 0)) (.ofNat (nat_lit 0)) (.ofNat (nat_lit 1)) d8 (fun r_86 r_87 r_88 d9 => mc50 c r_84 r_85 r_86 r_87 r_88 d9 (fun r_89 r_90 e0 => mc75 c (.ofNat (nat_lit 1)) (.ofNat (nat_lit 1)) e0 (fun r_91 r_92 e1 => mc66 c (.ofNat (nat_lit 1)) (.ofNat (nat_lit 0)) (.ofNat (nat_lit 3)) e1 (fun r_93 r_94 r_95 e2 => mc50 c r_91 r_92 r_93 r_94 r_95 e2 (fun r_96 r_97 e3 => mc66 c (.ofNat (nat_lit 0)) (.ofNat (nat_lit 0)) (.ofNat (nat_lit 0)) e3 (fun r_98 r_99 r_100 e4 => mc52 c (.ofNat (nat_lit 1)) (.ofNat (nat_lit 2)) (.ofNat (nat_lit 4)) r_98 r_99 r_100 e4 (fun r_101 r_102 r_103 r_104 a5 => cB ( cB ( mc66 c (.ofNat (nat_lit 1)) (.ofNat (nat_lit 4)) (.ofNat (nat_lit 1)) a5 (fun r_105 r_106 r_107 a9 => cB ( mc66 c (.ofNat (nat_lit 0)) (.ofNat (nat_lit 0)) (.ofNat (nat_lit 3)) a9 (fun r_108 r_109 r_110 e5 => mc66 c (.ofNat (nat_lit 0)) (.ofNat (nat_lit 0)) (.ofNat (nat_lit 1)) e5 (fun r_111 r_112 r_113 e6 => mc66 c (.ofNat (nat_lit 0)) (.ofNat (nat_lit 0)) (.ofNat (nat_lit 2)) e6 (fun r_114 r_115 r_116 e7 => mc66 c (.ofNat (nat_lit 0)) (.negSucc (nat_lit 0)) (.ofNat (nat_lit 2)) e7 (fun r_117 r_118 r_119 e8 => mc66 c (.ofNat (nat_lit 1)) (.ofNat (nat_lit 0)) (.ofNat (nat_lit 0)) e8 (fun r_120 r_121 r_122 e9 => newB (.cells [(.int .i64 r_108), (.int .i64 r_109), (.int .u8 r_110), (.int .i64 r_111), (.int .i64 r_112), (.int .u8 r_113), (.int .i64 r_114), (.int .i64 r_115), (.int .u8 r_116), (.int .i64 r_117), (.int .i64 r_118), (.int .u8 r_119), (.int .i64 r_120), (.int .i64 r_121), (.int .u8 r_122)] 3 true) e9 (fun f0 f1 => newB (.cells [(.int .u8 (.ofNat (nat_lit 7))), (.int .i64 (.ofNat (nat_lit 0))), (.int .i64 (.ofNat (nat_lit 0))), (.int .u8 (.ofNat (nat_lit 5))), (.int .i64 (.ofNat (nat_lit 1))), (.int .i64 (.ofNat (nat_lit 1))), (.int .u8 (.ofNat (nat_lit 2))), (.int .i64 (.ofNat (nat_lit 1))), (.int .i64 (.ofNat (nat_lit 1))), (.int .u8 (.ofNat (nat_lit 6))), (.int .i64 (.ofNat (nat_lit 0))), (.int .i64 (.ofNat (nat_lit 0))), (.int .u8 (.ofNat (nat_lit 4))), (.int .i64 (.ofNat (nat_lit 2))), (.int .i64 (.ofNat (nat_lit 0)))] 3 true) f1 (fun f2 f3 => kj (fun f4 f5 b0 => unIB f5 (fun V f6 => un0B f6 (cB ( mc66 c (.ofNat (nat_lit 4096)) (.ofNat (nat_lit 0)) (.ofNat (nat_lit 0)) b0 (fun r_130 r_131 r_132 f7 => mc40 c r_130 r_131 r_132 (.ofNat (nat_lit 1)) f7 (fun r_133 r_134 r_135 f8 => K (eqZK r_135 (.ofNat (nat_lit 3))) f8))) ( mc66 c (.ofNat (nat_lit 0)) (.ofNat (nat_lit 0)) (.ofNat (nat_lit 0)) b0 (fun r_123 r_124 r_125 b1 => optB (idS 3 (.slice (some ⟨f0, 0, (some 13)⟩) 5 6) V) (fun f9 => lgB cc 3 f9 b1 (fun gl => ucIB .i64 gl (fun gq gt => ucIB .i64 gt (fun g0 g1 => ucIB .u8 g1 (fun g2 g3 => uc0B g3 ( mc55 c r_123 r_124 r_125 gq g0 g2 b1 (fun r_126 r_127 r_128 r_129 a0 => optB (idS 3 (.slice (some ⟨f2, 0, (some 13)⟩) 5 6) V) (fun g4 => lgB cc 3 g4 a0 (fun g5 => ucIB .u8 g5 (fun g6 g7 => ucIB .i64 g7 (fun g8 g9 => ucIB .i64 g9 (fun h0 h1 => uc0B h1 ( cB ( cB ( addK V (.ofNat (nat_lit 1)) (fun c_ => aA c_ (fun h2 => f4 [.i h2] a0))) ( K false a0) (notK (eqZK r_129 (.ofNat (nat_lit 0))))) ( K false a0) (!(@Bool.rec (fun _ => Bool) false (@Bool.rec (fun _ => Bool) false (@Bool.rec (fun _ => Bool) false true (eqZK r_128 h0)) (eqZK r_127 g8)) (eqZK r_126 g6)))))))))))))))))) (notK (leZ (.ofNat (nat_lit 5)) V))))) [.i (.ofNat (nat_lit 0))] f3)))))))) ( K false a9) (!(@Bool.rec (fun _ => Bool) false (@Bool.rec (fun _ => Bool) false (@Bool.rec (fun _ => Bool) false true (eqZK r_103 r_107)) (eqZK r_102 r_106)) (eqZK r_101 r_105))))) ( K false a5) (notK (eqZK r_96 (.ofNat (nat_lit 1))))) ( K false a5) (notK (eqZK r_89 (.ofNat (nat_lit 0))))))))))))) ( mc75 c (.ofNat (nat_lit 3)) (.ofNat (nat_lit 1)) a8 (fun r_77 r_78 h3 => mc66 c (.ofNat (nat_lit 0)) (.ofNat (nat_lit 0)) U h3 (fun r_79 r_80 r_81 h4 => mc50 c r_77 r_78 r_79 r_80 r_81 h4 (fun r_82 r_83 h5 => newB (.cells [(.int .i64 (.ofNat (nat_lit 0))), (.int .i64 (.ofNat (nat_lit 1))), (.int .i64 (.ofNat (nat_lit 1))), (.int .i64 (.ofNat (nat_lit 0)))] 1 true) h5 (fun h6 a1 => optB (idS 1 (.slice (some ⟨h6, 0, (some 11)⟩) 4 5) U) (fun h7 => lgB cc 1 h7 a1 (fun h8 => ucIB .i64 h8 (fun h9 i0 => uc0B i0 ( cB ( cB ( addK U (.ofNat (nat_lit 1)) (fun c_ => jf c_ (fun i1 => d5 [.i i1] a1))) ( K false a1) (notK (eqZK r_83 (.ofNat (nat_lit 0))))) ( K false a1) (notK (eqZK r_82 h9))))))))))) (notK (leZ (.ofNat (nat_lit 4)) U))))) [.i (.ofNat (nat_lit 0))] O) ( K false O) (!(@Bool.rec (fun _ => Bool) false (@Bool.rec (fun _ => Bool) false (@Bool.rec (fun _ => Bool) false (@Bool.rec (fun _ => Bool) false (@Bool.rec (fun _ => Bool) false (@Bool.rec (fun _ => Bool) false true (eqZK r_75 (.ofNat (nat_lit 2)))) (eqZK r_74 (.ofNat (nat_lit 0)))) (eqZK r_73 (.ofNat (nat_lit 2)))) (eqZK r_72 (.ofNat (nat_lit 2)))) (eqZK r_71 (.ofNat (nat_lit 1)))) (eqZK r_70 (.ofNat (nat_lit 1)))))) ( K false O) (!(@Bool.rec (fun _ => Bool) false (@Bool.rec (fun _ => Bool) false (@Bool.rec (fun _ => Bool) false (@Bool.rec (fun _ => Bool) false (@Bool.rec (fun _ => Bool) false (@Bool.rec (fun _ => Bool) false true (eqZK r_65 (.ofNat (nat_lit 0)))) (eqZK r_64 (.ofNat (nat_lit 2)))) (eqZK r_63 (.ofNat (nat_lit 0)))) (eqZK r_62 (.ofNat (nat_lit 0)))) (eqZK r_61 (.ofNat (nat_lit 1)))) (eqZK r_60 (.ofNat (nat_lit 1)))))) ( K false O) (notK (eqZK r_56 (.ofNat (nat_lit 7))))) ( K false O) (notK (eqZK r_48 (.ofNat (nat_lit 0))))) ( K false O) (notK (eqZK r_47 (.ofNat (nat_lit 1))))))))))))))) ( mc66 c (.ofNat (nat_lit 2)) (.ofNat (nat_lit 5)) Q a7 (fun r_29 r_30 r_31 i2 => mc40 c r_29 r_30 r_31 (.ofNat (nat_lit 0)) i2 (fun r_32 r_33 r_34 i3 => mc75 c (.ofNat (nat_lit 1)) (.ofNat (nat_lit 3)) i3 (fun r_35 r_36 i4 => mc75 c (.ofNat (nat_lit 2)) (.ofNat (nat_lit 6)) i4 (fun r_37 r_38 i5 => mc75 c (.ofNat (nat_lit 1)) (.ofNat (nat_lit 2)) i5 (fun r_39 r_40 i6 => newB (.cells [(.int .u8 (.ofNat (nat_lit 0))), (.int .i64 (.ofNat (nat_lit 0))), (.int .u8 r_35), (.int .i64 r_36), (.int .u8 r_37), (.int .i64 r_38), (.int .u8 r_39), (.int .i64 r_40)] 2 true) i6 (fun i7 a2 => optB (idS 2 (.slice (some ⟨i7, 0, (some 12)⟩) 4 5) Q) (fun i8 => lgB cc 2 i8 a2 (fun i9 => ucIB .u8 i9 (fun j0 j1 => ucIB .i64 j1 (fun j2 j3 => uc0B j3 ( cB ( cB ( addK Q (.ofNat (nat_lit 1)) (fun c_ => jf c_ (fun j4 => b5 [.i j4] a2))) ( K false a2) (notK (eqZK r_34 (.ofNat (nat_lit 0))))) ( K false a2) (!(@Bool.rec (fun _ => Bool) false (@Bool.rec (fun _ => Bool) false true (eqZK r_33 j2)) (eqZK r_32 j0))))))))))))))) (notK (leZ (.ofNat (nat_lit 4)) Q))))) [.i (.ofNat (nat_lit 1))] a6) ( mc66 c (.ofNat (nat_lit 2)) (.ofNat (nat_lit 5)) (.ofNat (nat_lit 0)) a6 (fun r_1 r_2 r_3 j5 => mc40 c r_1 r_2 r_3 J j5 (fun r_4 r_5 r_6 j6 => mc66 c (.ofNat (nat_lit 0)) (.ofNat (nat_lit 0)) (.ofNat (nat_lit 0)) j6 (fun r_7 r_8 r_9 j7 => mc47 c r_7 r_8 r_9 J j7 (fun r_10 r_11 r_12 r_13 j8 => mc75 c (.ofNat (nat_lit 2)) (.ofNat (nat_lit 5)) j8 (fun r_14 r_15 h47 => mc75 c (.ofNat (nat_lit 3)) (.ofNat (nat_lit 8)) h47 (fun r_16 r_17 j9 => mc75 c (.ofNat (nat_lit 4)) (.ofNat (nat_lit 3)) j9 (fun r_18 r_19 h59 => newB (.cells [(.int .u8 r_14), (.int .i64 r_15), (.int .u8 r_16), (.int .i64 r_17), (.int .u8 r_18), (.int .i64 r_19)] 2 true) h59 (fun k0 a3 => optB (idS 2 (.slice (some ⟨k0, 0, (some 12)⟩) 3 4) J) (fun k1 => lgB cc 2 k1 a3 (fun k2 => ucIB .u8 k2 (fun k3 k4 => ucIB .i64 k4 (fun k5 k6 => uc0B k6 ( cB ( cB ( mc66 c (.ofNat (nat_lit 0)) (.negSucc (nat_lit 0)) (.ofNat (nat_lit 2)) a3 (fun r_20 r_21 r_22 k7 => mc66 c (.ofNat (nat_lit 0)) (.ofNat (nat_lit 0)) (.ofNat (nat_lit 1)) k7 (fun r_23 r_24 r_25 h83 => mc66 c (.ofNat (nat_lit 0)) (.ofNat (nat_lit 0)) (.ofNat (nat_lit 3)) h83 (fun r_26 r_27 r_28 k8 => newB (.cells [(.int .i64 r_20), (.int .i64 r_21), (.int .u8 r_22), (.int .i64 r_23), (.int .i64 r_24), (.int .u8 r_25), (.int .i64 r_26), (.int .i64 r_27), (.int .u8 r_28)] 3 true) k8 (fun k9 a4 => optB (idS 3 (.slice (some ⟨k9, 0, (some 13)⟩) 3 4) J) (fun l0 => lgB cc 3 l0 a4 (fun l1 => ucIB .i64 l1 (fun n102 l2 => ucIB .i64 l2 (fun n104 l3 => ucIB .u8 l3 (fun n106 l4 => uc0B l4 ( cB ( cB ( addK J (.ofNat (nat_lit 1)) (fun c_ => jf c_ (fun l5 => b2 [.i l5] a4))) ( K false a4) (notK (eqZK r_13 (.ofNat (nat_lit 0))))) ( K false a4) (!(@Bool.rec (fun _ => Bool) false (@Bool.rec (fun _ => Bool) false (@Bool.rec (fun _ => Bool) false true (eqZK r_12 n106)) (eqZK r_11 n104)) (eqZK r_10 n102)))))))))))))) ( K false a3) (notK (eqZK r_6 (.ofNat (nat_lit 0))))) ( K false a3) (!(@Bool.rec (fun _ => Bool) false (@Bool.rec (fun _ => Bool) false true (eqZK r_5 k5)) (eqZK r_4 k3))))))))))))))))) (notK (leZ (.ofNat (nat_lit 3)) J))))) [.i (.ofNat (nat_lit 0))] h
noncomputable def wr44 (c : ab) : FB := fun ls h K => r0 (b44 c h (fun r0 h => K [.b r0] h)) ls
noncomputable def w44 (c : ab) : FB := memo (wr44 c)
theorem pf44 (c : ab) (ls : List Lf) (h : HTr) (K : List Lf → HTr → RT) : f44 (BA ae ac (ct44 c)) ls h K = wr44 c ls h K := q_r0 (hC (fun s6 l7 h8 => ah (fun n9 l10 => am (fF (al (qm66 rfl (fun l12 h13 => ah (fun n14 l15 => ah (fun n16 l17 => ah (fun n18 l19 => am (qm40 rfl (fun l20 h21 => ah (fun n22 l23 => ah (fun n24 l25 => ah (fun n26 l27 => am (qm66 rfl (fun l28 h29 => ah (fun n30 l31 => ah (fun n32 l33 => ah (fun n34 l35 => am (qm47 rfl (fun l36 h37 => ah (fun n38 l39 => ah (fun n40 l41 => ah (fun n42 l43 => ah (fun n44 l45 => am (qm75 rfl (fun l46 h47 => ah (fun n48 l49 => ah (fun n50 l51 => am (qm75 rfl (fun l52 h53 => ah (fun n54 l55 => ah (fun n56 l57 => am (qm75 rfl (fun l58 h59 => ah (fun n60 l61 => ah (fun n62 l63 => am (ns (fun m64 h65 => bD (fun x66 => q_lg (fun l67 => bb (fun n68 l69 => bb (fun n70 l71 => ea (kW (al (rfl) (cu (al (rfl) (qm66 rfl (fun l74 h75 => ah (fun n76 l77 => ah (fun n78 l79 => ah (fun n80 l81 => am (qm66 rfl (fun l82 h83 => ah (fun n84 l85 => ah (fun n86 l87 => ah (fun n88 l89 => am (qm66 rfl (fun l90 h91 => ah (fun n92 l93 => ah (fun n94 l95 => ah (fun n96 l97 => am (ns (fun m98 h99 => bD (fun x100 => q_lg (fun l101 => bb (fun n102 l103 => bb (fun n104 l105 => bb (fun n106 l107 => ea (kW (al (rfl) (cu (al (rfl) (gA (fun n110 => rfl))))))))))))))))))))))))))))))))))))))))))))))))))))))))))))))))))))))) (hC (fun s111 l112 h113 => ah (fun n114 l115 => am (fF (al (qm66 rfl (fun l117 h118 => ah (fun n119 l120 => ah (fun n121 l122 => ah (fun n123 l124 => am (qm40 rfl (fun l125 h126 => ah (fun n127 l128 => ah (fun n129 l130 => ah (fun n131 l132 => am (qm75 rfl (fun l133 h134 => ah (fun n135 l136 => ah (fun n137 l138 => am (qm75 rfl (fun l139 h140 => ah (fun n141 l142 => ah (fun n143 l144 => am (qm75 rfl (fun l145 h146 => ah (fun n147 l148 => ah (fun n149 l150 => am (ns (fun m151 h152 => bD (fun x153 => q_lg (fun l154 => bb (fun n155 l156 => bb (fun n157 l158 => ea (kW (al (rfl) (cu (al (rfl) (gA (fun n161 => rfl)))))))))))))))))))))))))))))))))) (qm66 rfl (fun l162 h163 => ah (fun n164 l165 => ah (fun n166 l167 => ah (fun n168 l169 => am (qm66 rfl (fun l170 h171 => ah (fun n172 l173 => ah (fun n174 l175 => ah (fun n176 l177 => am (qm48 rfl (fun l178 h179 => ah (fun n180 l181 => ah (fun n182 l183 => am (qm66 rfl (fun l184 h185 => ah (fun n186 l187 => ah (fun n188 l189 => ah (fun n190 l191 => am (qm66 rfl (fun l192 h193 => ah (fun n194 l195 => ah (fun n196 l197 => ah (fun n198 l199 => am (qm48 rfl (fun l200 h201 => ah (fun n202 l203 => ah (fun n204 l205 => am (qm66 rfl (fun l206 h207 => ah (fun n208 l209 => ah (fun n210 l211 => ah (fun n212 l213 => am (qm41 rfl (fun l214 h215 => ah (fun n216 l217 => ah (fun n218 l219 => ah (fun n220 l221 => ah (fun n222 l223 => ah (fun n224 l225 => ah (fun n226 l227 => ah (fun n228 l229 => am (qm66 rfl (fun l230 h231 => ah (fun n232 l233 => ah (fun n234 l235 => ah (fun n236 l237 => am (qm41 rfl (fun l238 h239 => ah (fun n240 l241 => ah (fun n242 l243 => ah (fun n244 l245 => ah (fun n246 l247 => ah (fun n248 l249 => ah (fun n250 l251 => ah (fun n252 l253 => am (cu (al (rfl) (cu (al (rfl) (cu (al (rfl) (kW (al (rfl) (kW (al (rfl) (hC (fun s259 l260 h261 => ah (fun n262 l263 => am (fF (al (qm75 rfl (fun l265 h266 => ah (fun n267 l268 => ah (fun n269 l270 => am (qm66 rfl (fun l271 h272 => ah (fun n273 l274 => ah (fun n275 l276 => ah (fun n277 l278 => am (qm50 rfl (fun l279 h280 => ah (fun n281 l282 => ah (fun n283 l284 => am (ns (fun m285 h286 => bD (fun x287 => q_lg (fun l288 => bb (fun n289 l290 => ea (cu (al (rfl) (cu (al (rfl) (gA (fun n293 => rfl)))))))))))))))))))))))) (qm75 rfl (fun l294 h295 => ah (fun n296 l297 => ah (fun n298 l299 => am (qm66 rfl (fun l300 h301 => ah (fun n302 l303 => ah (fun n304 l305 => ah (fun n306 l307 => am (qm50 rfl (fun l308 h309 => ah (fun n310 l311 => ah (fun n312 l313 => am (qm75 rfl (fun l314 h315 => ah (fun n316 l317 => ah (fun n318 l319 => am (qm66 rfl (fun l320 h321 => ah (fun n322 l323 => ah (fun n324 l325 => ah (fun n326 l327 => am (qm50 rfl (fun l328 h329 => ah (fun n330 l331 => ah (fun n332 l333 => am (qm66 rfl (fun l334 h335 => ah (fun n336 l337 => ah (fun n338 l339 => ah (fun n340 l341 => am (qm52 rfl (fun l342 h343 => ah (fun n344 l345 => ah (fun n346 l347 => ah (fun n348 l349 => ah (fun n350 l351 => am (cu (al (rfl) (cu (al (rfl) (qm66 rfl (fun l354 h355 => ah (fun n356 l357 => ah (fun n358 l359 => ah (fun n360 l361 => am (kW (al (rfl) (qm66 rfl (fun l363 h364 => ah (fun n365 l366 => ah (fun n367 l368 => ah (fun n369 l370 => am (qm66 rfl (fun l371 h372 => ah (fun n373 l374 => ah (fun n375 l376 => ah (fun n377 l378 => am (qm66 rfl (fun l379 h380 => ah (fun n381 l382 => ah (fun n383 l384 => ah (fun n385 l386 => am (qm66 rfl (fun l387 h388 => ah (fun n389 l390 => ah (fun n391 l392 => ah (fun n393 l394 => am (qm66 rfl (fun l395 h396 => ah (fun n397 l398 => ah (fun n399 l400 => ah (fun n401 l402 => am (ns (fun m403 h404 => ns (fun m405 h406 => hC (fun s407 l408 h409 => ah (fun n410 l411 => am (fF (al (qm66 rfl (fun l413 h414 => ah (fun n415 l416 => ah (fun n417 l418 => ah (fun n419 l420 => am (bD (fun x421 => q_lg (fun l422 => bb (fun n423 l424 => bb (fun n425 l426 => bb (fun n427 l428 => ea (qm55 rfl (fun l429 h430 => ah (fun n431 l432 => ah (fun n433 l434 => ah (fun n435 l436 => ah (fun n437 l438 => am (bD (fun x439 => q_lg (fun l440 => bb (fun n441 l442 => bb (fun n443 l444 => bb (fun n445 l446 => ea (kW (al (rfl) (cu (al (rfl) (bu (fun n449 => rfl))))))))))))))))))))))))))))) (qm66 rfl (fun l450 h451 => ah (fun n452 l453 => ah (fun n454 l455 => ah (fun n456 l457 => am (qm40 rfl (fun l458 h459 => ah (fun n460 l461 => ah (fun n462 l463 => ah (fun n464 l465 => am (nr (rfl)))))))))))))))))))))))))))))))))))))))))))))))))))))))))))))))))))))))))))))))))))))))))))))))))))))))))))))))))))))))))))))))))))))))))))))))))))))))))))))))))))))))))))))
theorem ok44 {c : ab} (hc : Cok c) : Ent 44 (w44 c) := ba (bY (f := fun A => f44 A) (ct := ct44) pf44 (congrFun (congrFun e44 RT) HTr) i44 (aR hc (aC (ok40 hc) (aC (ok41 hc) (aC (ok47 hc) (aC (ok48 hc) (aC (ok50 hc) (aC (ok52 hc) (aC (ok55 hc) (aC (ok66 hc) (aC (ok75 hc) aN))))))))))) rfl (by kernel_rfl)
/-- crimp/lines.along -/
noncomputable def ct95 (c : ab) : ab := tblF [] c
noncomputable def b95 (c : ab) (a0 : Int) (a1 : Int) (a2 : Int) (h : HTr) (K : Int → HTr → RT) : RT := cB ( cB ( cB ( subK a2 a1 (fun c_ => aA c_ (fun J => K J h))) ( addK a1 a2 (fun c_ => aA c_ (fun n15 => K n15 h))) (eqZK a0 (.ofNat (nat_lit 3)))) ( K a2 h) (eqZK a0 (.ofNat (nat_lit 2)))) ( K a1 h) (eqZK a0 (.ofNat (nat_lit 1)))
noncomputable def wr95 (c : ab) : FB := fun ls h K => rI (fun J O => rI (fun Q U => rI (fun V a0 => r0 (b95 c J Q V h (fun r0 h => K [.i r0] h)) a0) U) O) ls
noncomputable def w95 (c : ab) : FB := memo (wr95 c)
noncomputable def mc95 (c : ab) (J : Int) (O : Int) (Q : Int) (h : HTr) (K : Int → HTr → RT) : RT := fI J fun J => fI O fun O => fI Q fun Q => @Option.rec _ (fun _ => RT) none (fun rs => u_i K rs h) (b95 c J O Q .empty (fun r0 h => tell [.i r0] h))
theorem vm95 : (fun (c : ab) (a0 : Int) (a1 : Int) (a2 : Int) (h : HTr) (K : Int → HTr → RT) => w95 c [.i a0, .i a1, .i a2] h (u_i K)) = fun c a0 a1 a2 h K => mc95 c a0 a1 a2 h K := by kernel_rfl
theorem qm95 {c call : ab} (hct : call (.f 95) = w95 c) {a0 : Int} {a1 : Int} {a2 : Int} {h : HTr} {K : List Lf → HTr → RT} {K' : Int → HTr → RT} (hX : ∀ rs h, K rs h = u_i K' rs h) : (BA ae ac call).call 95 [.i a0, .i a1, .i a2] h K = mc95 c a0 a1 a2 h K' := by
 obtain rfl := fx hX
 exact co rfl ((c3 hct _ _ _).trans (c6 vm95 c a0 a1 a2 h K'))
theorem pf95 (c : ab) (ls : List Lf) (h : HTr) (K : List Lf → HTr → RT) : f95 (BA ae ac (ct95 c)) ls h K = wr95 c ls h K := q_rI (fun n6 l7 => q_rI (fun n8 l9 => q_rI (fun n10 l11 => q_r0 (nr (al (rfl) (nr (al (rfl) (nr (al (bu (fun n15 => rfl)) (bE (fun n16 => rfl)))))))))))
theorem ok95 {c : ab} (hc : Cok c) : Ent 95 (w95 c) := ba (bY (f := fun A => f95 A) (ct := ct95) pf95 (congrFun (congrFun e95 RT) HTr) i95 (aR hc aN)) rfl (by kernel_rfl)
/-- crimp/lines.rules$1 -/
noncomputable def ct94 (c : ab) : ab := tblF [(95, w95 c)] c
noncomputable def b94 (c : ab) (a0 : Int) (a1 : Int) (h : HTr) (K : Int → HTr → RT) : RT := mc95 c (.ofNat (nat_lit 1)) a0 a1 h (fun r_1 J => K r_1 J)
noncomputable def wr94 (c : ab) : FB := fun ls h K => rI (fun J O => rI (fun Q U => r0 (b94 c J Q h (fun r0 h => K [.i r0] h)) U) O) ls
noncomputable def w94 (c : ab) : FB := memo (wr94 c)
theorem pf94 (c : ab) (ls : List Lf) (h : HTr) (K : List Lf → HTr → RT) : f94 (BA ae ac (ct94 c)) ls h K = wr94 c ls h K := q_rI (fun n6 l7 => q_rI (fun n8 l9 => q_r0 (qm95 rfl (fun l10 h11 => ah (fun n12 l13 => am (rfl))))))
theorem ok94 {c : ab} (hc : Cok c) : Ent 94 (w94 c) := ba (bY (f := fun A => f94 A) (ct := ct94) pf94 (congrFun (congrFun e94 RT) HTr) i94 (aR hc (aC (ok95 hc) aN))) rfl (by kernel_rfl)
/-- crimp/lines.rules$2 -/
noncomputable def ct96 (c : ab) : ab := tblF [] c
noncomputable def b96 (c : ab) (a0 : Int) (a1 : Int) (a2 : Int) (h : HTr) (K : Int → Int → HTr → RT) : RT := mulK (.ofNat (nat_lit 4)) a0 (fun c_ => aA c_ (fun J => subK J a1 (fun c_ => aA c_ (fun O => K O a2 h))))
noncomputable def wr96 (c : ab) : FB := fun ls h K => rI (fun J O => rI (fun Q U => rI (fun V a0 => r0 (b96 c J Q V h (fun r0 a1 h => K [.i r0, .i a1] h)) a0) U) O) ls
noncomputable def w96 (c : ab) : FB := memo (wr96 c)
theorem pf96 (c : ab) (ls : List Lf) (h : HTr) (K : List Lf → HTr → RT) : f96 (BA ae ac (ct96 c)) ls h K = wr96 c ls h K := q_rI (fun n6 l7 => q_rI (fun n8 l9 => q_rI (fun n10 l11 => q_r0 (bj (fun n12 => bE (fun n13 => rfl))))))
theorem ok96 {c : ab} (hc : Cok c) : Ent 96 (w96 c) := ba (bY (f := fun A => f96 A) (ct := ct96) pf96 (congrFun (congrFun e96 RT) HTr) i96 (aR hc aN)) rfl (by kernel_rfl)
/-- crimp/lines.rules$3 -/
noncomputable def ct97 (c : ab) : ab := tblF [] c
noncomputable def b97 (c : ab) (a0 : Int) (a1 : Int) (a2 : Int) (h : HTr) (K : Int → Int → HTr → RT) : RT := mulK (.ofNat (nat_lit 2)) a0 (fun c_ => aA c_ (fun J => subK J a2 (fun c_ => aA c_ (fun O => mulK (.ofNat (nat_lit 2)) a0 (fun c_ => aA c_ (fun Q => subK a2 Q (fun c_ => aA c_ (fun n15 => mulK (.ofNat (nat_lit 2)) a0 (fun c_ => aA c_ (fun U => addK a2 U (fun c_ => aA c_ (fun V => optB (inB 5 a1) (fun a8 => optB (aW [(.i (.ofNat (nat_lit 0))), (.i (.ofNat (nat_lit 0))), (.i (.ofNat (nat_lit 1))), (.i O), (.i a1), (.i a2), (.i (.ofNat (nat_lit 4))), (.i n15), (.i (.ofNat (nat_lit 3))), (.i V)] 0 [(a1, 2)] 2) (fun a3 => unIB a3 (fun a4 a5 => unIB a5 (fun a6 a7 => un0B a7 (K a4 a6 h)))))))))))))))))
noncomputable def wr97 (c : ab) : FB := fun ls h K => rI (fun J O => rI (fun Q U => rI (fun V a0 => r0 (b97 c J Q V h (fun r0 a1 h => K [.i r0, .i a1] h)) a0) U) O) ls
noncomputable def w97 (c : ab) : FB := memo (wr97 c)
theorem pf97 (c : ab) (ls : List Lf) (h : HTr) (K : List Lf → HTr → RT) : f97 (BA ae ac (ct97 c)) ls h K = wr97 c ls h K := q_rI (fun n6 l7 => q_rI (fun n8 l9 => q_rI (fun n10 l11 => q_r0 (bj (fun n12 => bE (fun n13 => bj (fun n14 => bE (fun n15 => bj (fun n16 => bu (fun n17 => bD (fun x18 => bD (fun x19 => ah (fun n20 l21 => ah (fun n22 l23 => am (rfl)))))))))))))))
theorem ok97 {c : ab} (hc : Cok c) : Ent 97 (w97 c) := ba (bY (f := fun A => f97 A) (ct := ct97) pf97 (congrFun (congrFun e97 RT) HTr) i97 (aR hc aN)) rfl (by kernel_rfl)
/-- crimp/lines.rules$4 -/
noncomputable def ct98 (c : ab) : ab := tblF [(95, w95 c)] c
noncomputable def b98 (c : ab) (a0 : Int) (a1 : Int) (h : HTr) (K : Int → HTr → RT) : RT := mc95 c (.ofNat (nat_lit 2)) a0 a1 h (fun r_1 J => K r_1 J)
noncomputable def wr98 (c : ab) : FB := fun ls h K => rI (fun J O => rI (fun Q U => r0 (b98 c J Q h (fun r0 h => K [.i r0] h)) U) O) ls
noncomputable def w98 (c : ab) : FB := memo (wr98 c)
theorem pf98 (c : ab) (ls : List Lf) (h : HTr) (K : List Lf → HTr → RT) : f98 (BA ae ac (ct98 c)) ls h K = wr98 c ls h K := q_rI (fun n6 l7 => q_rI (fun n8 l9 => q_r0 (qm95 rfl (fun l10 h11 => ah (fun n12 l13 => am (rfl))))))
theorem ok98 {c : ab} (hc : Cok c) : Ent 98 (w98 c) := ba (bY (f := fun A => f98 A) (ct := ct98) pf98 (congrFun (congrFun e98 RT) HTr) i98 (aR hc (aC (ok95 hc) aN))) rfl (by kernel_rfl)
/-- crimp/lines.rules$5 -/
noncomputable def ct99 (c : ab) : ab := tblF [] c
noncomputable def b99 (c : ab) (a0 : Int) (a1 : Int) (a2 : Int) (h : HTr) (K : Int → Int → HTr → RT) : RT := mulK (.ofNat (nat_lit 4)) a0 (fun c_ => aA c_ (fun J => subK J a2 (fun c_ => aA c_ (fun O => K a1 O h))))
noncomputable def wr99 (c : ab) : FB := fun ls h K => rI (fun J O => rI (fun Q U => rI (fun V a0 => r0 (b99 c J Q V h (fun r0 a1 h => K [.i r0, .i a1] h)) a0) U) O) ls
noncomputable def w99 (c : ab) : FB := memo (wr99 c)
theorem pf99 (c : ab) (ls : List Lf) (h : HTr) (K : List Lf → HTr → RT) : f99 (BA ae ac (ct99 c)) ls h K = wr99 c ls h K := q_rI (fun n6 l7 => q_rI (fun n8 l9 => q_rI (fun n10 l11 => q_r0 (bj (fun n12 => bE (fun n13 => rfl))))))
theorem ok99 {c : ab} (hc : Cok c) : Ent 99 (w99 c) := ba (bY (f := fun A => f99 A) (ct := ct99) pf99 (congrFun (congrFun e99 RT) HTr) i99 (aR hc aN)) rfl (by kernel_rfl)
/-- crimp/lines.rules$6 -/
noncomputable def ct100 (c : ab) : ab := tblF [] c
noncomputable def b100 (c : ab) (a0 : Int) (a1 : Int) (a2 : Int) (h : HTr) (K : Int → Int → HTr → RT) : RT := mulK (.ofNat (nat_lit 2)) a0 (fun c_ => aA c_ (fun J => subK J a2 (fun c_ => aA c_ (fun O => mulK (.ofNat (nat_lit 2)) a0 (fun c_ => aA c_ (fun Q => subK Q a2 (fun c_ => aA c_ (fun n15 => mulK (.ofNat (nat_lit 2)) a0 (fun c_ => aA c_ (fun U => subK U a2 (fun c_ => aA c_ (fun V => optB (inB 5 a1) (fun a8 => optB (aW [(.i (.ofNat (nat_lit 0))), (.i (.ofNat (nat_lit 0))), (.i a1), (.i a2), (.i (.ofNat (nat_lit 2))), (.i O), (.i (.ofNat (nat_lit 4))), (.i n15), (.i (.ofNat (nat_lit 3))), (.i V)] 0 [(a1, 2)] 2) (fun a3 => unIB a3 (fun a4 a5 => unIB a5 (fun a6 a7 => un0B a7 (K a4 a6 h)))))))))))))))))
noncomputable def wr100 (c : ab) : FB := fun ls h K => rI (fun J O => rI (fun Q U => rI (fun V a0 => r0 (b100 c J Q V h (fun r0 a1 h => K [.i r0, .i a1] h)) a0) U) O) ls
noncomputable def w100 (c : ab) : FB := memo (wr100 c)
theorem pf100 (c : ab) (ls : List Lf) (h : HTr) (K : List Lf → HTr → RT) : f100 (BA ae ac (ct100 c)) ls h K = wr100 c ls h K := q_rI (fun n6 l7 => q_rI (fun n8 l9 => q_rI (fun n10 l11 => q_r0 (bj (fun n12 => bE (fun n13 => bj (fun n14 => bE (fun n15 => bj (fun n16 => bE (fun n17 => bD (fun x18 => bD (fun x19 => ah (fun n20 l21 => ah (fun n22 l23 => am (rfl)))))))))))))))
theorem ok100 {c : ab} (hc : Cok c) : Ent 100 (w100 c) := ba (bY (f := fun A => f100 A) (ct := ct100) pf100 (congrFun (congrFun e100 RT) HTr) i100 (aR hc aN)) rfl (by kernel_rfl)
/-- crimp/lines.rules$7 -/
noncomputable def ct101 (c : ab) : ab := tblF [(95, w95 c)] c
noncomputable def b101 (c : ab) (a0 : Int) (a1 : Int) (h : HTr) (K : Int → HTr → RT) : RT := mc95 c (.ofNat (nat_lit 3)) a0 a1 h (fun r_1 J => K r_1 J)
noncomputable def wr101 (c : ab) : FB := fun ls h K => rI (fun J O => rI (fun Q U => r0 (b101 c J Q h (fun r0 h => K [.i r0] h)) U) O) ls
noncomputable def w101 (c : ab) : FB := memo (wr101 c)
theorem pf101 (c : ab) (ls : List Lf) (h : HTr) (K : List Lf → HTr → RT) : f101 (BA ae ac (ct101 c)) ls h K = wr101 c ls h K := q_rI (fun n6 l7 => q_rI (fun n8 l9 => q_r0 (qm95 rfl (fun l10 h11 => ah (fun n12 l13 => am (rfl))))))
theorem ok101 {c : ab} (hc : Cok c) : Ent 101 (w101 c) := ba (bY (f := fun A => f101 A) (ct := ct101) pf101 (congrFun (congrFun e101 RT) HTr) i101 (aR hc (aC (ok95 hc) aN))) rfl (by kernel_rfl)
/-- crimp/lines.rules$8 -/
noncomputable def ct102 (c : ab) : ab := tblF [] c
noncomputable def b102 (c : ab) (a0 : Int) (a1 : Int) (a2 : Int) (h : HTr) (K : Int → Int → HTr → RT) : RT := mulK (.ofNat (nat_lit 2)) a0 (fun c_ => aA c_ (fun J => subK J a2 (fun c_ => aA c_ (fun O => mulK (.ofNat (nat_lit 2)) a0 (fun c_ => aA c_ (fun Q => subK Q a1 (fun c_ => aA c_ (fun n15 => K O n15 h))))))))
noncomputable def wr102 (c : ab) : FB := fun ls h K => rI (fun J O => rI (fun Q U => rI (fun V a0 => r0 (b102 c J Q V h (fun r0 a1 h => K [.i r0, .i a1] h)) a0) U) O) ls
noncomputable def w102 (c : ab) : FB := memo (wr102 c)
theorem pf102 (c : ab) (ls : List Lf) (h : HTr) (K : List Lf → HTr → RT) : f102 (BA ae ac (ct102 c)) ls h K = wr102 c ls h K := q_rI (fun n6 l7 => q_rI (fun n8 l9 => q_rI (fun n10 l11 => q_r0 (bj (fun n12 => bE (fun n13 => bj (fun n14 => bE (fun n15 => rfl))))))))
theorem ok102 {c : ab} (hc : Cok c) : Ent 102 (w102 c) := ba (bY (f := fun A => f102 A) (ct := ct102) pf102 (congrFun (congrFun e102 RT) HTr) i102 (aR hc aN)) rfl (by kernel_rfl)
/-- crimp/lines.rules$9 -/
noncomputable def ct103 (c : ab) : ab := tblF [] c
noncomputable def b103 (c : ab) (a0 : Int) (a1 : Int) (a2 : Int) (a3 : Value) (h : HTr) (K : Int → Int → HTr → RT) : RT := optB (idP 5 1 a3 a1) (fun J => chkB J ( lgB cc 1 J h (fun Q => ucIB .u8 Q (fun U V => uc0B V ( subK a0 a2 (fun c_ => aA c_ (fun a4 => optB (idP 5 1 a3 a1) (fun O => chkB O ( lgB cc 1 O h (fun a5 => ucIB .u8 a5 (fun a6 a7 => uc0B a7 ( subK a0 a2 (fun c_ => aA c_ (fun a8 => mulK (.ofNat (nat_lit 2)) a0 (fun c_ => aA c_ (fun a9 => subK a9 a2 (fun c_ => aA c_ (fun b0 => optB (inB 5 a1) (fun b6 => optB (aW [(.i (.ofNat (nat_lit 0))), (.i (.ofNat (nat_lit 0))), (.i U), (.i a4), (.i a6), (.i a8), (.i (.ofNat (nat_lit 3))), (.i b0), (.i a1), (.i a2)] 0 [(a1, 2)] 2) (fun b1 => unIB b1 (fun b2 b3 => unIB b3 (fun b4 b5 => un0B b5 (K b2 b4 h)))))))))))))))))))))))
noncomputable def wr103 (c : ab) : FB := fun ls h K => rI (fun J O => rI (fun Q U => rI (fun V a0 => rV (fun a1 a2 => r0 (b103 c J Q V a1 h (fun r0 a3 h => K [.i r0, .i a3] h)) a2) a0) U) O) ls
noncomputable def w103 (c : ab) : FB := wr103 c
theorem pf103 (c : ab) (ls : List Lf) (h : HTr) (K : List Lf → HTr → RT) : f103 (BA ae ac (ct103 c)) ls h K = wr103 c ls h K := q_rI (fun n6 l7 => q_rI (fun n8 l9 => q_rI (fun n10 l11 => q_rV (fun x12 l13 => q_r0 (bD (fun x14 => nq (q_lg (fun l15 => bb (fun n16 l17 => ea (bE (fun n18 => bD (fun x19 => nq (q_lg (fun l20 => bb (fun n21 l22 => ea (bE (fun n23 => bj (fun n24 => bE (fun n25 => bD (fun x26 => bD (fun x27 => ah (fun n28 l29 => ah (fun n30 l31 => am (rfl))))))))))))))))))))))))
theorem ok103 {c : ab} (hc : Cok c) : Ent 103 (w103 c) := bY (f := fun A => f103 A) (ct := ct103) pf103 (congrFun (congrFun e103 RT) HTr) i103 (aR hc aN)
/-- crimp/lines.rules$10 -/
noncomputable def ct104 (c : ab) : ab := tblF [(95, w95 c)] c
noncomputable def b104 (c : ab) (a0 : Int) (a1 : Int) (h : HTr) (K : Int → HTr → RT) : RT := mc95 c (.ofNat (nat_lit 4)) a0 a1 h (fun r_1 J => K r_1 J)
noncomputable def wr104 (c : ab) : FB := fun ls h K => rI (fun J O => rI (fun Q U => r0 (b104 c J Q h (fun r0 h => K [.i r0] h)) U) O) ls
noncomputable def w104 (c : ab) : FB := memo (wr104 c)
theorem pf104 (c : ab) (ls : List Lf) (h : HTr) (K : List Lf → HTr → RT) : f104 (BA ae ac (ct104 c)) ls h K = wr104 c ls h K := q_rI (fun n6 l7 => q_rI (fun n8 l9 => q_r0 (qm95 rfl (fun l10 h11 => ah (fun n12 l13 => am (rfl))))))
theorem ok104 {c : ab} (hc : Cok c) : Ent 104 (w104 c) := ba (bY (f := fun A => f104 A) (ct := ct104) pf104 (congrFun (congrFun e104 RT) HTr) i104 (aR hc (aC (ok95 hc) aN))) rfl (by kernel_rfl)
/-- crimp/lines.rules$11 -/
noncomputable def ct105 (c : ab) : ab := tblF [] c
noncomputable def b105 (c : ab) (a0 : Int) (a1 : Int) (a2 : Int) (h : HTr) (K : Int → Int → HTr → RT) : RT := mulK (.ofNat (nat_lit 2)) a0 (fun c_ => aA c_ (fun J => subK a2 J (fun c_ => aA c_ (fun O => mulK (.ofNat (nat_lit 2)) a0 (fun c_ => aA c_ (fun Q => addK a1 Q (fun c_ => aA c_ (fun n15 => K O n15 h))))))))
noncomputable def wr105 (c : ab) : FB := fun ls h K => rI (fun J O => rI (fun Q U => rI (fun V a0 => r0 (b105 c J Q V h (fun r0 a1 h => K [.i r0, .i a1] h)) a0) U) O) ls
noncomputable def w105 (c : ab) : FB := memo (wr105 c)
theorem pf105 (c : ab) (ls : List Lf) (h : HTr) (K : List Lf → HTr → RT) : f105 (BA ae ac (ct105 c)) ls h K = wr105 c ls h K := q_rI (fun n6 l7 => q_rI (fun n8 l9 => q_rI (fun n10 l11 => q_r0 (bj (fun n12 => bE (fun n13 => bj (fun n14 => bu (fun n15 => rfl))))))))
theorem ok105 {c : ab} (hc : Cok c) : Ent 105 (w105 c) := ba (bY (f := fun A => f105 A) (ct := ct105) pf105 (congrFun (congrFun e105 RT) HTr) i105 (aR hc aN)) rfl (by kernel_rfl)
/-- crimp/lines.rules$12 -/
noncomputable def ct106 (c : ab) : ab := tblF [] c
noncomputable def b106 (c : ab) (a0 : Int) (a1 : Int) (a2 : Int) (a3 : Value) (h : HTr) (K : Int → Int → HTr → RT) : RT := optB (idP 5 1 a3 a1) (fun J => chkB J ( lgB cc 1 J h (fun Q => ucIB .u8 Q (fun U V => uc0B V ( addK a2 a0 (fun c_ => aA c_ (fun a4 => optB (idP 5 1 a3 a1) (fun O => chkB O ( lgB cc 1 O h (fun a5 => ucIB .u8 a5 (fun a6 a7 => uc0B a7 ( subK a2 a0 (fun c_ => aA c_ (fun a8 => mulK (.ofNat (nat_lit 2)) a0 (fun c_ => aA c_ (fun a9 => subK a9 a2 (fun c_ => aA c_ (fun b0 => optB (inB 5 a1) (fun b6 => optB (aW [(.i (.ofNat (nat_lit 0))), (.i (.ofNat (nat_lit 0))), (.i U), (.i a4), (.i a6), (.i a8), (.i a1), (.i a2), (.i (.ofNat (nat_lit 4))), (.i b0)] 0 [(a1, 2)] 2) (fun b1 => unIB b1 (fun b2 b3 => unIB b3 (fun b4 b5 => un0B b5 (K b2 b4 h)))))))))))))))))))))))
noncomputable def wr106 (c : ab) : FB := fun ls h K => rI (fun J O => rI (fun Q U => rI (fun V a0 => rV (fun a1 a2 => r0 (b106 c J Q V a1 h (fun r0 a3 h => K [.i r0, .i a3] h)) a2) a0) U) O) ls
noncomputable def w106 (c : ab) : FB := wr106 c
theorem pf106 (c : ab) (ls : List Lf) (h : HTr) (K : List Lf → HTr → RT) : f106 (BA ae ac (ct106 c)) ls h K = wr106 c ls h K := q_rI (fun n6 l7 => q_rI (fun n8 l9 => q_rI (fun n10 l11 => q_rV (fun x12 l13 => q_r0 (bD (fun x14 => nq (q_lg (fun l15 => bb (fun n16 l17 => ea (bu (fun n18 => bD (fun x19 => nq (q_lg (fun l20 => bb (fun n21 l22 => ea (bE (fun n23 => bj (fun n24 => bE (fun n25 => bD (fun x26 => bD (fun x27 => ah (fun n28 l29 => ah (fun n30 l31 => am (rfl))))))))))))))))))))))))
theorem ok106 {c : ab} (hc : Cok c) : Ent 106 (w106 c) := bY (f := fun A => f106 A) (ct := ct106) pf106 (congrFun (congrFun e106 RT) HTr) i106 (aR hc aN)
theorem y_of {κ : Nat} {g : ab → List Value → Nat → FB} {ct : ab → ab} {c : ab} (h0 : ∀ vs l ls h K, pF (BA ae ac (ct c)) (xc 0) ae drN (ac κ) vs l ls h K = g c vs l ls h K) (hc : Cok (ct c)) : YOk cc ae ac κ (g c) := by
 intro vs l ls h K w st pd xs e hy hk
 rw [← h0] at hk
 obtain ⟨b, h', a1, a3⟩ := execY_ok (X := xc 0) (BA_ok (w := w) hc) qo (gT e) rfl rfl rfl rfl hy hk
 exact ⟨b, h', a1, a3⟩
noncomputable def ctY368 (c : ab) : ab := tblF [] c
noncomputable def bY368 (c : ab) (vs : List Value) (lp : Nat) : FB := fun ls h K => ucVB vs (fun J a0 => chkB J ( uc0B a0 ( unIB ls (fun a1 a2 => unIB a2 (fun a3 a4 => un0B a4 (newB (.cells [(.int .i64 (.ofNat (nat_lit 0))), (.int .u8 (.ofNat (nat_lit 0)))] 2 true) h (fun Q h15 => stB (.pointer (some ⟨Q, 0, none⟩)) [(.int .i64 a1), (.int .u8 a3)] h15 (fun c0 a5 => lp1B lp a5 (fun O => lgB cc 1 J O (fun a6 => ucVB a6 (fun U a7 => chkB U ( uc0B a7 ( lgB cc 2 (.pointer (some ⟨Q, 0, none⟩)) O (fun a8 => ucIB .i64 a8 (fun a9 b0 => ucIB .u8 b0 (fun b1 b2 => uc0B b2 ( newB (.cells [(.int .i64 a9), (.int .u8 b1)] 2 true) O (fun b3 b4 => apB ac cc 2 16 U (.slice (some ⟨b3, 0, (some 12)⟩) 1 2) b4 (fun b5 b6 => ucVB b5 (fun V b7 => chkB V ( uc0B b7 ( stB J [V] b6 (fun c1 b8 => lp2B lp none b8 (fun b9 => K [.b true] b9))))))))))))))))))))))))
theorem pfY368 (c : ab) (vs : List Value) (lp : Nat) (ls : List Lf) (h : HTr) (K : List Lf → HTr → RT) : y368 (BA ae ac (ctY368 c)) vs lp ls h K = bY368 c vs lp ls h K := q_ucV (fun x8 l9 => nq (ea (ah (fun n10 l11 => ah (fun n12 l13 => am (ns (fun m14 h15 => q_st (fun l16 h17 => q_lp1 (fun h18 => q_lg (fun l19 => q_ucV (fun x20 l21 => nq (ea (q_lg (fun l22 => bb (fun n23 l24 => bb (fun n25 l26 => ea (ns (fun m27 h28 => q_ap (fun l29 h30 => q_ucV (fun x31 l32 => nq (ea (q_st (fun l33 h34 => q_lp2 (fun h35 => rfl))))))))))))))))))))))))
theorem okY368 {c : ab} (hc : Cok c) : YOk cc ae ac 368 (bY368 c) := y_of (g := bY368) (ct := ctY368) (fun vs l ls h K => (congrFun (congrFun (congrFun (congrFun (congrFun (congrFun (congrFun (congrFun ey368 RT) HTr) _) vs) l) ls) h) K).symm.trans (pfY368 c vs l ls h K)) (aR hc (by
  intro p hp
  cases hp))
noncomputable def tabW (c : ab) : Tr FB := (.node nf (.node nf (.node nf (.node nf (.node nf (.node nf .leaf (.node (w95 c) .leaf .leaf)) (.node (w47 c) (.node (w79 c) .leaf .leaf) .leaf)) (.node nf (.node nf .leaf (.node (w103 c) .leaf .leaf)) (.node (w55 c) .leaf .leaf))) (.node nf (.node nf (.node nf .leaf (.node (w99 c) .leaf .leaf)) (.node nf (.node (w83 c) .leaf .leaf) .leaf)) (.node nf (.node (w43 c) (.node (w75 c) .leaf .leaf) .leaf) (.node nf (.node (w91 c) .leaf .leaf) .leaf)))) (.node nf (.node nf (.node nf (.node nf .leaf (.node (w97 c) .leaf .leaf)) .leaf) (.node nf (.node (w41 c) .leaf (.node (w105 c) .leaf .leaf)) .leaf)) (.node nf (.node nf (.node nf .leaf (.node (w101 c) .leaf .leaf)) (.node nf (.node (w85 c) .leaf .leaf) .leaf)) .leaf))) (.node nf (.node nf (.node nf (.node nf (.node nf .leaf (.node (w96 c) .leaf .leaf)) (.node (w48 c) (.node (w80 c) .leaf .leaf) .leaf)) (.node nf (.node (w40 c) .leaf (.node (w104 c) .leaf .leaf)) .leaf)) (.node nf (.node nf (.node nf .leaf (.node (w100 c) .leaf .leaf)) (.node (w52 c) .leaf .leaf)) (.node nf (.node (w44 c) .leaf .leaf) (.node nf (.node (w92 c) .leaf .leaf) .leaf)))) (.node nf (.node nf (.node nf (.node nf (.node (w66 c) .leaf .leaf) (.node (w98 c) .leaf .leaf)) (.node (w50 c) (.node (w82 c) .leaf .leaf) .leaf)) (.node nf (.node nf (.node (w74 c) .leaf .leaf) (.node (w106 c) .leaf .leaf)) (.node nf (.node (w90 c) .leaf .leaf) .leaf))) (.node nf (.node nf (.node nf .leaf (.node (w102 c) .leaf .leaf)) .leaf) (.node nf (.node nf (.node (w78 c) .leaf .leaf) .leaf) (.node nf (.node (w94 c) .leaf .leaf) .leaf))))))
noncomputable def stepF (c : ab) : ab := fun ck => match ck with
 | .f f => match Nat.blt f 107 with
  | true => (bw f).get nf (tabW c)
  | false => nf
 | .y κ vs l => lookY [(368, bY368 c)] κ (fun vs l ls h K => pF (BA ae ac c) (xc 0) ae drN (ac κ) vs l ls h K) vs l
noncomputable def runF (n : Nat) : ab := Nat.rec (motive := fun _ => ab) (fun _ _ _ _ => none) (fun _ c => stepF c) n
noncomputable def isT (l : List Lf) (_ : HTr) : RT := match l with | [.b t] => ans t | _ => none
theorem aP {k : Nat} (h1 : (fun c => (bw k).get nf (tabW c)) = fun _ => nf) (c : ab) : Ent k ((bw k).get nf (tabW c)) := by
 intro ls h K w hls hk
 rw [congrFun h1 c] at hk
 cases hk
theorem cd {k : Nat} {g : ab → FB} (h1 : (fun c => (bw k).get nf (tabW c)) = g) {c : ab} (h : Ent k (g c)) : Ent k ((bw k).get nf (tabW c)) := by
 rw [congrFun h1 c]; exact h
theorem tabW_ok {c : ab} (hc : Cok c) : ∀ f, Nat.blt f 107 = true → Ent f ((bw f).get nf (tabW c))
 | 0, _ => aP (by kernel_rfl) c
 | 1, _ => aP (by kernel_rfl) c
 | 2, _ => aP (by kernel_rfl) c
 | 3, _ => aP (by kernel_rfl) c
 | 4, _ => aP (by kernel_rfl) c
 | 5, _ => aP (by kernel_rfl) c
 | 6, _ => aP (by kernel_rfl) c
 | 7, _ => aP (by kernel_rfl) c
 | 8, _ => aP (by kernel_rfl) c
 | 9, _ => aP (by kernel_rfl) c
 | 10, _ => aP (by kernel_rfl) c
 | 11, _ => aP (by kernel_rfl) c
 | 12, _ => aP (by kernel_rfl) c
 | 13, _ => aP (by kernel_rfl) c
 | 14, _ => aP (by kernel_rfl) c
 | 15, _ => aP (by kernel_rfl) c
 | 16, _ => aP (by kernel_rfl) c
 | 17, _ => aP (by kernel_rfl) c
 | 18, _ => aP (by kernel_rfl) c
 | 19, _ => aP (by kernel_rfl) c
 | 20, _ => aP (by kernel_rfl) c
 | 21, _ => aP (by kernel_rfl) c
 | 22, _ => aP (by kernel_rfl) c
 | 23, _ => aP (by kernel_rfl) c
 | 24, _ => aP (by kernel_rfl) c
 | 25, _ => aP (by kernel_rfl) c
 | 26, _ => aP (by kernel_rfl) c
 | 27, _ => aP (by kernel_rfl) c
 | 28, _ => aP (by kernel_rfl) c
 | 29, _ => aP (by kernel_rfl) c
 | 30, _ => aP (by kernel_rfl) c
 | 31, _ => aP (by kernel_rfl) c
 | 32, _ => aP (by kernel_rfl) c
 | 33, _ => aP (by kernel_rfl) c
 | 34, _ => aP (by kernel_rfl) c
 | 35, _ => aP (by kernel_rfl) c
 | 36, _ => aP (by kernel_rfl) c
 | 37, _ => aP (by kernel_rfl) c
 | 38, _ => aP (by kernel_rfl) c
 | 39, _ => aP (by kernel_rfl) c
 | 40, _ => cd (g := fun c => w40 c) (by kernel_rfl) (ok40 hc)
 | 41, _ => cd (g := fun c => w41 c) (by kernel_rfl) (ok41 hc)
 | 42, _ => aP (by kernel_rfl) c
 | 43, _ => cd (g := fun c => w43 c) (by kernel_rfl) (ok43 hc)
 | 44, _ => cd (g := fun c => w44 c) (by kernel_rfl) (ok44 hc)
 | 45, _ => aP (by kernel_rfl) c
 | 46, _ => aP (by kernel_rfl) c
 | 47, _ => cd (g := fun c => w47 c) (by kernel_rfl) (ok47 hc)
 | 48, _ => cd (g := fun c => w48 c) (by kernel_rfl) (ok48 hc)
 | 49, _ => aP (by kernel_rfl) c
 | 50, _ => cd (g := fun c => w50 c) (by kernel_rfl) (ok50 hc)
 | 51, _ => aP (by kernel_rfl) c
 | 52, _ => cd (g := fun c => w52 c) (by kernel_rfl) (ok52 hc)
 | 53, _ => aP (by kernel_rfl) c
 | 54, _ => aP (by kernel_rfl) c
 | 55, _ => cd (g := fun c => w55 c) (by kernel_rfl) (ok55 hc)
 | 56, _ => aP (by kernel_rfl) c
 | 57, _ => aP (by kernel_rfl) c
 | 58, _ => aP (by kernel_rfl) c
 | 59, _ => aP (by kernel_rfl) c
 | 60, _ => aP (by kernel_rfl) c
 | 61, _ => aP (by kernel_rfl) c
 | 62, _ => aP (by kernel_rfl) c
 | 63, _ => aP (by kernel_rfl) c
 | 64, _ => aP (by kernel_rfl) c
 | 65, _ => aP (by kernel_rfl) c
 | 66, _ => cd (g := fun c => w66 c) (by kernel_rfl) (ok66 hc)
 | 67, _ => aP (by kernel_rfl) c
 | 68, _ => aP (by kernel_rfl) c
 | 69, _ => aP (by kernel_rfl) c
 | 70, _ => aP (by kernel_rfl) c
 | 71, _ => aP (by kernel_rfl) c
 | 72, _ => aP (by kernel_rfl) c
 | 73, _ => aP (by kernel_rfl) c
 | 74, _ => cd (g := fun c => w74 c) (by kernel_rfl) (ok74 hc)
 | 75, _ => cd (g := fun c => w75 c) (by kernel_rfl) (ok75 hc)
 | 76, _ => aP (by kernel_rfl) c
 | 77, _ => aP (by kernel_rfl) c
 | 78, _ => cd (g := fun c => w78 c) (by kernel_rfl) (ok78 hc)
 | 79, _ => cd (g := fun c => w79 c) (by kernel_rfl) (ok79 hc)
 | 80, _ => cd (g := fun c => w80 c) (by kernel_rfl) (ok80 hc)
 | 81, _ => aP (by kernel_rfl) c
 | 82, _ => cd (g := fun c => w82 c) (by kernel_rfl) (ok82 hc)
 | 83, _ => cd (g := fun c => w83 c) (by kernel_rfl) (ok83 hc)
 | 84, _ => aP (by kernel_rfl) c
 | 85, _ => cd (g := fun c => w85 c) (by kernel_rfl) (ok85 hc)
 | 86, _ => aP (by kernel_rfl) c
 | 87, _ => aP (by kernel_rfl) c
 | 88, _ => aP (by kernel_rfl) c
 | 89, _ => aP (by kernel_rfl) c
 | 90, _ => cd (g := fun c => w90 c) (by kernel_rfl) (ok90 hc)
 | 91, _ => cd (g := fun c => w91 c) (by kernel_rfl) (ok91 hc)
 | 92, _ => cd (g := fun c => w92 c) (by kernel_rfl) (ok92 hc)
 | 93, _ => aP (by kernel_rfl) c
 | 94, _ => cd (g := fun c => w94 c) (by kernel_rfl) (ok94 hc)
 | 95, _ => cd (g := fun c => w95 c) (by kernel_rfl) (ok95 hc)
 | 96, _ => cd (g := fun c => w96 c) (by kernel_rfl) (ok96 hc)
 | 97, _ => cd (g := fun c => w97 c) (by kernel_rfl) (ok97 hc)
 | 98, _ => cd (g := fun c => w98 c) (by kernel_rfl) (ok98 hc)
 | 99, _ => cd (g := fun c => w99 c) (by kernel_rfl) (ok99 hc)
 | 100, _ => cd (g := fun c => w100 c) (by kernel_rfl) (ok100 hc)
 | 101, _ => cd (g := fun c => w101 c) (by kernel_rfl) (ok101 hc)
 | 102, _ => cd (g := fun c => w102 c) (by kernel_rfl) (ok102 hc)
 | 103, _ => cd (g := fun c => w103 c) (by kernel_rfl) (ok103 hc)
 | 104, _ => cd (g := fun c => w104 c) (by kernel_rfl) (ok104 hc)
 | 105, _ => cd (g := fun c => w105 c) (by kernel_rfl) (ok105 hc)
 | 106, _ => cd (g := fun c => w106 c) (by kernel_rfl) (ok106 hc)
 | n + 107, h => by rw [Nat.blt_eq] at h; omega
theorem stepF_ok {c : ab} (hc : Cok c) : Cok (stepF c) := by
 refine ⟨fun f ls h K w hls hk => ?_, fun κ vs l ls h K w st pd xs e hy hk => ?_⟩
 ·have hk : (match Nat.blt f 107 with | true => (bw f).get nf (tabW c) | false => nf) ls h K = some w := hk
  cases e : Nat.blt f 107 with
  | true => rw [e] at hk; exact tabW_ok hc f e ls h K w hls hk
  | false => rw [e] at hk; cases hk
 ·have hd : YOk cc ae ac κ (fun vs l ls h K => pF (BA ae ac c) (xc 0) ae drN (ac κ) vs l ls h K) := y_of (g := fun c vs l ls h K => pF (BA ae ac c) (xc 0) ae drN (ac κ) vs l ls h K) (ct := fun c => c) (fun _ _ _ _ _ => rfl) hc
  refine qC hd (l := [(368, bY368 c)]) (fun p hp => ?_) vs l ls h K w st pd xs e hy hk
  simp only [List.mem_cons, List.not_mem_nil, or_false] at hp
  subst hp
  exact okY368 hc
theorem runF_ok : ∀ n, Cok (runF n)
 | 0 => ⟨fun _ _ _ _ _ _ h => by (cases h), fun _ _ _ _ _ _ _ _ _ _ _ _ h => by (cases h)⟩
 | n + 1 => stepF_ok (runF_ok n)
theorem known_of {g n : Nat} {ls : List Lf} {sg : Sig} (hs : ae g = some sg) (hp : sg.plain = true) (hr : sg.rs = [lb]) (hg : aE ls = true) (h : runF n (.f g) ls .empty isT = yes) : ∀ H, bm cc ae g ls H [.b true] H := by
 obtain ⟨rs, h', a1, a2⟩ := (runF_ok n).f g ls .empty isT [] (dM hg) h
 have : rs = [.b true] := by
  match rs, a2 with
  | [.b true], _ => rfl
  | [.b false], hk => cases (show (none : RT) = yes from hk)
 subst this
 exact qX g sg ls _ _ hs hp a1
end Go.Am

/-
 THE ALGEBRA OF PROPOSITIONS OVER THE HEAPS OF RUNS; what a run shows holds in it.
-/
namespace Go.Am
namespace Sx
section
variable [Val] [Kno]
def peekH (T : Nat → Site) (f : Pk) (h : HL) (K : List Value → Prop) : Prop := ∃ cs, f.run (getH T h) = some cs ∧ K cs
def heapH (T : Nat → Site) (f : Hp) (h : HL) (K : List Value → HL → Prop) : Prop := ∃ acts cs, f.run (getH T h) h.length = some (acts, cs) ∧ K cs (gk h acts)
def callH (C : Cfg) (Sg : FuncId → Option Sig) (T : Nat → Site) (g : FuncId) (ls : List Lf) (h : HL) (K : List Lf → HL → Prop) : Prop := ∃ rs h', bm C Sg g ls (absH T h) rs (absH T h') ∧ K rs h'
def callvH (C : Cfg) (T : Nat → Site) (v : Value) (args : List Value) (hs : List SK) (h : HL) (K : List Lf → HL → Prop) : Prop := ∃ rs h', CallV C v args hs (absH T h) rs (absH T h') ∧ K rs h'
noncomputable def itH (F : (List Lf → HL → Prop) → List Lf → HL → Prop) (n : Nat) : List Lf → HL → Prop :=
 match n with
 | 0 => fun _ _ => False
 | n + 1 => F (itH F n)
def loopH (F : (List Lf → HL → Prop) → List Lf → HL → Prop) (ls : List Lf) (h : HL) : Prop := ∃ n, itH F n ls h
def rfunH (C : Cfg) (T : Nat → Site) (κ : Nat) (v : Value) (vals : List Value) (h : HL) (K : Option Code → HL → Prop) : Prop :=
 ∃ g first cap r H1 lp h2, v = .func (.func g) first cap ∧
  gc C g (first.toList ++ [.func (.yield (absH T h).length) #[] #[]] ++ cap.toList) (absH T h ++ [.loop (lpOf (T κ) κ vals)]) r H1 ∧
  cY H1 (absH T h).length = some lp ∧ lp.state ≠ .busy ∧ absH T h2 = H1.set (absH T h).length (.loop { lp with state := .exhausted }) ∧ K lp.pending h2
def lp1H (T : Nat → Site) (l : Nat) (h : HL) (K : HL → Prop) : Prop := ∃ lp h', cY (absH T h) l = some lp ∧ lp.state = .ready ∧ absH T h' = (absH T h).set l (.loop { lp with state := .busy }) ∧ K h'
def lp2H (T : Nat → Site) (l : Nat) (j : Option Code) (h : HL) (K : HL → Prop) : Prop := ∃ lp h', cY (absH T h) l = some lp ∧ absH T h' = (absH T h).set l (.loop { lp with state := if j.isNone then .ready else .done, pending := j }) ∧ K h'
noncomputable def PH (C : Cfg) (Sg : FuncId → Option Sig) (T : Nat → Site) : Alg Prop HL where
 fail := False
 cond := condP
 ari := ariP
 shf := fun op k a k' b K => ∃ n, ShRun op k a k' b n ∧ K n
 cmp := cmpP
 eqs := fun l K => K (cr l)
 conv := fun k a K => K (k.wrap a)
 sel := fun t a b K => K (if t then a else b)
 opt := optP
 chk := fun v K => cA v = true ∧ K
 unI := unIP
 unB := unBP
 unV := unVP
 un0 := un0P
 ucI := ucIP
 ucB := ucBP
 ucV := ucVP
 uc0 := uc0P
 peek := peekH T
 heap := heapH T
 new := fun o h K => K h.length (h ++ [.o o])
 call := callH C Sg T
 callv := callvH C T
 join := fun b m => m b
 loop := loopH
 rfun := rfunH C T
 pend := pendP
 lp1 := lp1H T
 lp2 := lp2H T
theorem PH_ok (C : Cfg) (Sg : FuncId → Option Sig) (T : Nat → Site) : AlgOk (PH C Sg T) C Sg T id (absH T) where
 fail := (dR C Sg T).fail
 cond := (dR C Sg T).cond
 ari := (dR C Sg T).ari
 shf := (dR C Sg T).shf
 cmp := (dR C Sg T).cmp
 eqs := (dR C Sg T).eqs
 conv := (dR C Sg T).conv
 sel := (dR C Sg T).sel
 opt := (dR C Sg T).opt
 chk := (dR C Sg T).chk
 unI := (dR C Sg T).unI
 unB := (dR C Sg T).unB
 unV := (dR C Sg T).unV
 un0 := (dR C Sg T).un0
 ucI := (dR C Sg T).ucI
 ucB := (dR C Sg T).ucB
 ucV := (dR C Sg T).ucV
 uc0 := (dR C Sg T).uc0
 peek := by
  intro f h K hk
  obtain ⟨cs, h1, h2⟩ := hk
  exact ⟨cs, by rw [← jW]; exact h1, h2⟩
 heap := by
  intro f h K hk
  obtain ⟨acts, cs, h1, h2⟩ := hk
  exact ⟨acts, cs, _, by rw [← jW, gE]; exact h1, ig T acts h, h2⟩
 new := fun o h K hk => ⟨_, gF T h _, by rw [gE]; exact hk⟩
 call := fun g ls h K hk => hk
 callv := fun v args hs h K hk => hk
 join := fun b m h => h
 loop := by
  intro F ls h hk
  obtain ⟨n, hk⟩ := hk
  exact ⟨itH F, fun ls h => (id : False → False), fun n ls h => rfl, n, hk⟩
 rfun := fun κ v vals h K hk => hk
 pend := (dR C Sg T).pend
 lp1 := fun l h K hk => hk
 lp2 := fun l j h K hk => hk
section
variable {C : Cfg} {Sg : FuncId → Option Sig} {T : Nat → Site} {call : ab} (hc : CallBOk C Sg T call)
include hc
inductive SL2 : List (Nat × RT) → List (Nat × Prop) → Prop
 |nil : SL2 [] []
 |cons {id : Nat} {x : RT} {x' : Prop} {l : List (Nat × RT)} {l' : List (Nat × Prop)} (hx : x = yes → x') (hl : SL2 l l') : SL2 ((id, x) :: l) ((id, x') :: l')
omit hc in
end
theorem qA {F : (List Lf → HL → Prop) → List Lf → HL → Prop} (Inv : Nat → List Lf → HL → Prop)
  (step : ∀ m ls h, Inv m ls h → ∀ self : List Lf → HL → Prop, (∀ m' ls h, m' < m → Inv m' ls h → self ls h) → F self ls h) : ∀ n m ls h, m < n → Inv m ls h → itH F n ls h
 | 0, _, _, _, hm, _ => absurd hm (Nat.not_lt_zero _)
 | n + 1, m, ls, h, hm, hi => step m ls h hi (itH F n) fun m' ls h h' hi' => qA Inv step n m' ls h (by omega) hi'
theorem rN {F : (List Lf → HL → Prop) → List Lf → HL → Prop} (Inv : Nat → List Lf → HL → Prop) {m : Nat} {ls : List Lf} {h : HL} (hi : Inv m ls h)
  (step : ∀ m ls h, Inv m ls h → ∀ self : List Lf → HL → Prop, (∀ m' ls h, m' < m → Inv m' ls h → self ls h) → F self ls h) : loopH F ls h :=
 ⟨m + 1, qA Inv step (m + 1) m ls h (Nat.lt_succ_self m) hi⟩
end
end Sx
end Go.Am

/-
 THE ALGEBRA OF PROPOSITIONS, its rules as equations: a step each.
-/
namespace Go.Am
namespace Sx
class Bx (α : Sort _) where
 v : α
noncomputable def hid {α : Sort _} [b : Bx α] : α := b.v
section
variable [Val] [Kno] {C : Cfg} {Sg : FuncId → Option Sig} {T : Nat → Site}
theorem b_unI {n : Int} {r : List Lf} {K : Int → List Lf → Prop} : (PH C Sg T).unI (.i n :: r) K = K n r := rfl
theorem b_unB {n : Bool} {r : List Lf} {K : Bool → List Lf → Prop} : (PH C Sg T).unB (.b n :: r) K = K n r := rfl
theorem b_unV {n : Value} {r : List Lf} {K : Value → List Lf → Prop} : (PH C Sg T).unV (.v n :: r) K = K n r := rfl
theorem b_un0 {K : Prop} : (PH C Sg T).un0 [] K = K := rfl
theorem b_ucI {k : IntKind} {n : Int} {r : List Value} {K : Int → List Value → Prop} : (PH C Sg T).ucI k (.int k n :: r) K = K n r := by
 show (k = k ∧ K n r) = K n r
 simp
theorem b_ucB {n : Bool} {r : List Value} {K : Bool → List Value → Prop} : (PH C Sg T).ucB (.bool n :: r) K = K n r := rfl
theorem b_ucV {n : Value} {r : List Value} {K : Value → List Value → Prop} : (PH C Sg T).ucV (n :: r) K = K n r := rfl
theorem b_uc0 {K : Prop} : (PH C Sg T).uc0 [] K = K := rfl
theorem b_cond_t {X Y : Prop} : (PH C Sg T).cond true X Y = X := by
 show ((true = true → X) ∧ (true = false → Y)) = X
 simp
theorem b_cond_f {X Y : Prop} : (PH C Sg T).cond false X Y = Y := by
 show ((false = true → X) ∧ (false = false → Y)) = Y
 simp
theorem b_lss_t {a b : Int} {K : Bool → Prop} (h : a < b) : (PH C Sg T).cmp .lss a b K = K true := by
 show K (decide (a < b)) = _; rw [decide_eq_true h]
theorem b_lss_f {a b : Int} {K : Bool → Prop} (h : b ≤ a) : (PH C Sg T).cmp .lss a b K = K false := by
 show K (decide (a < b)) = _; rw [decide_eq_false (by omega)]
theorem b_leq_t {a b : Int} {K : Bool → Prop} (h : a ≤ b) : (PH C Sg T).cmp .leq a b K = K true := by
 show K (decide (a ≤ b)) = _; rw [decide_eq_true h]
theorem b_leq_f {a b : Int} {K : Bool → Prop} (h : b < a) : (PH C Sg T).cmp .leq a b K = K false := by
 show K (decide (a ≤ b)) = _; rw [decide_eq_false (by omega)]
theorem b_gtr_t {a b : Int} {K : Bool → Prop} (h : b < a) : (PH C Sg T).cmp .gtr a b K = K true := by
 show K (decide (a > b)) = _; rw [decide_eq_true h]
theorem b_gtr_f {a b : Int} {K : Bool → Prop} (h : a ≤ b) : (PH C Sg T).cmp .gtr a b K = K false := by
 show K (decide (a > b)) = _; rw [decide_eq_false (by omega)]
theorem b_geq_t {a b : Int} {K : Bool → Prop} (h : b ≤ a) : (PH C Sg T).cmp .geq a b K = K true := by
 show K (decide (a ≥ b)) = _; rw [decide_eq_true h]
theorem b_geq_f {a b : Int} {K : Bool → Prop} (h : a < b) : (PH C Sg T).cmp .geq a b K = K false := by
 show K (decide (a ≥ b)) = _; rw [decide_eq_false (by omega)]
theorem b_eql_t {a b : Int} {K : Bool → Prop} (h : a = b) : (PH C Sg T).cmp .eql a b K = K true := by
 show K (a == b) = _; rw [beq_iff_eq.2 h]
theorem b_eql_f {a b : Int} {K : Bool → Prop} (h : a ≠ b) : (PH C Sg T).cmp .eql a b K = K false := by
 show K (a == b) = _; rw [beq_false_of_ne h]
theorem b_neq_t {a b : Int} {K : Bool → Prop} (h : a ≠ b) : (PH C Sg T).cmp .neq a b K = K true := by
 show K (a != b) = _; rw [bne_iff_ne.2 h]
theorem b_neq_f {a b : Int} {K : Bool → Prop} (h : a = b) : (PH C Sg T).cmp .neq a b K = K false := by
 show K (a != b) = _; subst h; simp
theorem b_add {a b : Int} {K : Int → Prop} (h1 : -9223372036854775808 ≤ a + b) (h2 : a + b ≤ 9223372036854775807) : (PH C Sg T).ari .add .i64 a b K = K (a + b) := by
 show K (IntKind.wrap .i64 (a + b)) = _; rw [ce h1 h2]
theorem b_sub {a b : Int} {K : Int → Prop} (h1 : -9223372036854775808 ≤ a - b) (h2 : a - b ≤ 9223372036854775807) : (PH C Sg T).ari .sub .i64 a b K = K (a - b) := by
 show K (IntKind.wrap .i64 (a - b)) = _; rw [ce h1 h2]
theorem b_mul {a b : Int} {K : Int → Prop} (h1 : -9223372036854775808 ≤ a * b) (h2 : a * b ≤ 9223372036854775807) : (PH C Sg T).ari .mul .i64 a b K = K (a * b) := by
 show K (IntKind.wrap .i64 (a * b)) = _; rw [ce h1 h2]
theorem b_add8 {a b : Int} {K : Int → Prop} (h1 : 0 ≤ a + b) (h2 : a + b ≤ 255) : (PH C Sg T).ari .add .u8 a b K = K (a + b) := by
 show K (IntKind.wrap .u8 (a + b)) = _; rw [nI h1 h2]
theorem b_sub8 {a b : Int} {K : Int → Prop} (h1 : 0 ≤ a - b) (h2 : a - b ≤ 255) : (PH C Sg T).ari .sub .u8 a b K = K (a - b) := by
 show K (IntKind.wrap .u8 (a - b)) = _; rw [nI h1 h2]
theorem b_mul8 {a b : Int} {K : Int → Prop} (h1 : 0 ≤ a * b) (h2 : a * b ≤ 255) : (PH C Sg T).ari .mul .u8 a b K = K (a * b) := by
 show K (IntKind.wrap .u8 (a * b)) = _; rw [nI h1 h2]
theorem tdiv_nn {a b : Int} (h : 0 ≤ a) : a.tdiv b = a / b := Int.tdiv_eq_ediv_of_nonneg h
theorem b_quo_nn {a b : Int} {K : Int → Prop} (h : 0 ≤ a) (hb : 0 < b) (h2 : a ≤ 9223372036854775807) : (PH C Sg T).ari .quo .i64 a b K = K (a / b) := by
 show (b ≠ 0 ∧ K (IntKind.wrap .i64 (a.tdiv b))) = _
 have h3 : a / b ≤ a := Int.ediv_le_self b h
 have h4 : 0 ≤ a / b := Int.ediv_nonneg h (by omega)
 rw [tdiv_nn h, ce (by omega) (by omega)]
 simp; intro _ h; omega
theorem b_quo_dv {a b : Int} {K : Int → Prop} (h : a % b = 0) (hb : 0 < b) (h1 : -9223372036854775808 ≤ a) (h2 : a ≤ 9223372036854775807) : (PH C Sg T).ari .quo .i64 a b K = K (a / b) := by
 show (b ≠ 0 ∧ K (IntKind.wrap .i64 (a.tdiv b))) = _
 obtain ⟨q, rfl⟩ := Int.dvd_of_emod_eq_zero h
 rw [Int.mul_tdiv_cancel_left q (by omega), Int.mul_ediv_cancel_left q (by omega)]
 have hq : -9223372036854775808 ≤ q ∧ q ≤ 9223372036854775807 := by
  rcases Int.le_total 0 q with hs | hs
  ·have := Int.mul_le_mul_of_nonneg_right (show (1 : Int) ≤ b by omega) hs
   omega
  ·have := Int.mul_le_mul_of_nonneg_right (show (1 : Int) ≤ b by omega) (show 0 ≤ -q by omega)
   rw [Int.mul_neg b q] at this
   omega
 rw [ce hq.1 hq.2]
 simp; intro _ h; omega
theorem b_rem_nn {k : IntKind} {a b : Int} {K : Int → Prop} (h : 0 ≤ a) (hb : 0 < b) : (PH C Sg T).ari .rem k a b K = K (a % b) := by
 show (b ≠ 0 ∧ K (a.tmod b)) = _
 rw [Int.tmod_eq_emod_of_nonneg h]
 simp; intro _ h; omega
theorem b_rem_np {k : IntKind} {a b : Int} {K : Int → Prop} (h : a ≤ 0) (hb : 0 < b) : (PH C Sg T).ari .rem k a b K = K (-((-a) % b)) := by
 show (b ≠ 0 ∧ K (a.tmod b)) = _
 have : a.tmod b = -((-a) % b) := by
  have h1 := Int.neg_tmod a b
  rw [Int.tmod_eq_emod_of_nonneg (a := -a) (by omega)] at h1
  omega
 rw [this]
 simp; intro _ h; omega
theorem b_and1 {a : Int} {K : Int → Prop} : (PH C Sg T).ari .and .i64 a 1 K = K (a % 2) := by
 show (((1 : Int) = 1 ∧ K (a % 2)) ∨ ((1 : Int) ≠ 1 ∧ ∃ n, pv .and .i64 a 1 n ∧ K n)) = K (a % 2)
 simp
theorem b_conv {a : Int} {K : Int → Prop} (h1 : -9223372036854775808 ≤ a) (h2 : a ≤ 9223372036854775807) : (PH C Sg T).conv .i64 a K = K a := by
 show K (IntKind.wrap .i64 a) = _; rw [ce h1 h2]
theorem b_conv8 {a : Int} {K : Int → Prop} (h1 : 0 ≤ a) (h2 : a ≤ 255) : (PH C Sg T).conv .u8 a K = K a := by
 show K (IntKind.wrap .u8 a) = _; rw [nI h1 h2]
theorem b_sel_t {a b : Int} {K : Int → Prop} : (PH C Sg T).sel true a b K = K a := rfl
theorem b_sel_f {a b : Int} {K : Int → Prop} : (PH C Sg T).sel false a b K = K b := rfl
theorem b_opt {α : Type} {x : α} {K : α → Prop} : (PH C Sg T).opt (some x) K = K x := by
 show (∃ y, some x = some y ∧ K y) = K x
 simp
theorem b_inB {n : Nat} {i : Int} {K : Unit → Prop} (h1 : 0 ≤ i) (h2 : i < (n : Int)) : (PH C Sg T).opt (inB n i) K = K () := by
 rw [show inB n i = some () from (inB_eq n i).trans (if_pos ⟨h1, h2⟩), b_opt]
theorem b_join {b : List Lf → HL → Prop} {m : (List Lf → HL → Prop) → Prop} : (PH C Sg T).join b m = m b := rfl
theorem b_eqs0 {K : Bool → Prop} : (PH C Sg T).eqs [] K = K true := rfl
theorem b_eqs_t {a b : Int} {l : List (Lf × Lf)} {K : Bool → Prop} (h : a = b) : (PH C Sg T).eqs ((.i a, .i b) :: l) K = (PH C Sg T).eqs l K := by
 show K (cr _) = K (cr l)
 subst h
 simp [cr, gN]
theorem b_eqs_f {a b : Int} {l : List (Lf × Lf)} {K : Bool → Prop} (h : a ≠ b) : (PH C Sg T).eqs ((.i a, .i b) :: l) K = K false := by
 show K (cr _) = K false
 have : (a == b) = false := beq_false_of_ne h
 simp [cr, gN, this]
theorem au {F : (List Lf → HL → Prop) → List Lf → HL → Prop} {ls : List Lf} {h : HL} (n : Nat) (hn : itH F n ls h) : (PH C Sg T).loop F ls h := ⟨n, hn⟩
theorem b_it {F : (List Lf → HL → Prop) → List Lf → HL → Prop} {n : Nat} {ls : List Lf} {h : HL} : itH F (n + 1) ls h = F (itH F n) ls h := rfl
theorem aa {g : FuncId} {ls rs : List Lf} {h : HL} {K : List Lf → HL → Prop} (hc : ∀ H, bm C Sg g ls H rs H) (hk : K rs h) : (PH C Sg T).call g ls h (@hid _ ⟨K⟩) := ⟨rs, h, hc _, hk⟩
theorem b_eqsb_t {a b : Bool} {l : List (Lf × Lf)} {K : Bool → Prop} (h : a = b) : (PH C Sg T).eqs ((.b a, .b b) :: l) K = (PH C Sg T).eqs l K := by
 show K (cr _) = K (cr l)
 subst h
 simp [cr, gN]
theorem b_eqsb_tf {l : List (Lf × Lf)} {K : Bool → Prop} : (PH C Sg T).eqs ((.b true, .b false) :: l) K = K false := rfl
theorem b_eqsb_ft {l : List (Lf × Lf)} {K : Bool → Prop} : (PH C Sg T).eqs ((.b false, .b true) :: l) K = K false := rfl
theorem b_mul_1 {b : Int} {K : Int → Prop} (h1 : -9223372036854775808 ≤ b) (h2 : b ≤ 9223372036854775807) : (PH C Sg T).ari .mul .i64 1 b K = K b := by
 show K (IntKind.wrap .i64 (1 * b)) = _; rw [Int.one_mul, ce h1 h2]
theorem b_mul_0 {b : Int} {K : Int → Prop} : (PH C Sg T).ari .mul .i64 0 b K = K 0 := by
 show K (IntKind.wrap .i64 (0 * b)) = _; rw [Int.zero_mul]; rfl
theorem b_mul_m {b : Int} {K : Int → Prop} (h1 : -9223372036854775808 ≤ -b) (h2 : -b ≤ 9223372036854775807) : (PH C Sg T).ari .mul .i64 (-1) b K = K (-b) := by
 show K (IntKind.wrap .i64 (-1 * b)) = _
 have : (-1 * b : Int) = -b := by omega
 rw [this, ce h1 h2]
theorem b_mul_r1 {b : Int} {K : Int → Prop} (h1 : -9223372036854775808 ≤ b) (h2 : b ≤ 9223372036854775807) : (PH C Sg T).ari .mul .i64 b 1 K = K b := by
 show K (IntKind.wrap .i64 (b * 1)) = _; rw [Int.mul_one, ce h1 h2]
theorem b_mul_r0 {b : Int} {K : Int → Prop} : (PH C Sg T).ari .mul .i64 b 0 K = K 0 := by
 show K (IntKind.wrap .i64 (b * 0)) = _; rw [Int.mul_zero]; rfl
theorem b_mul_rm {b : Int} {K : Int → Prop} (h1 : -9223372036854775808 ≤ -b) (h2 : -b ≤ 9223372036854775807) : (PH C Sg T).ari .mul .i64 b (-1) K = K (-b) := by
 show K (IntKind.wrap .i64 (b * -1)) = _
 have : (b * -1 : Int) = -b := by omega
 rw [this, ce h1 h2]
theorem b_add_0 {b : Int} {K : Int → Prop} (h1 : -9223372036854775808 ≤ b) (h2 : b ≤ 9223372036854775807) : (PH C Sg T).ari .add .i64 0 b K = K b := by
 show K (IntKind.wrap .i64 (0 + b)) = _; rw [Int.zero_add, ce h1 h2]
theorem b_add_r0 {b : Int} {K : Int → Prop} (h1 : -9223372036854775808 ≤ b) (h2 : b ≤ 9223372036854775807) : (PH C Sg T).ari .add .i64 b 0 K = K b := by
 show K (IntKind.wrap .i64 (b + 0)) = _; rw [Int.add_zero, ce h1 h2]
theorem b_add_11 {K : Int → Prop} : (PH C Sg T).ari .add .i64 1 1 K = K 2 := by
 show K (IntKind.wrap .i64 (1 + 1)) = _; rfl
theorem b_quo_1 {a : Int} {K : Int → Prop} (h1 : -9223372036854775808 ≤ a) (h2 : a ≤ 9223372036854775807) : (PH C Sg T).ari .quo .i64 a 1 K = K a := by
 show ((1 : Int) ≠ 0 ∧ K (IntKind.wrap .i64 (a.tdiv 1))) = _
 rw [Int.tdiv_one, ce h1 h2]; simp
theorem az {α : Type} {o : Option α} {x : α} {K : α → Prop} (h : o = some x) (hk : K x) : (PH C Sg T).opt o (@hid _ ⟨K⟩) := ⟨x, h, hk⟩
theorem p_unI {n : Int} {r : List Lf} {K : Int → List Lf → Prop} : (PH C Sg T).unI (.i n :: r) (@hid _ ⟨K⟩) = K n r := b_unI
theorem p_unB {n : Bool} {r : List Lf} {K : Bool → List Lf → Prop} : (PH C Sg T).unB (.b n :: r) (@hid _ ⟨K⟩) = K n r := b_unB
theorem p_unV {n : Value} {r : List Lf} {K : Value → List Lf → Prop} : (PH C Sg T).unV (.v n :: r) (@hid _ ⟨K⟩) = K n r := b_unV
theorem p_un0 {K : Prop} : (PH C Sg T).un0 [] (@hid _ ⟨K⟩) = K := b_un0
theorem p_ucI {k : IntKind} {n : Int} {r : List Value} {K : Int → List Value → Prop} : (PH C Sg T).ucI k (.int k n :: r) (@hid _ ⟨K⟩) = K n r := b_ucI
theorem p_ucB {n : Bool} {r : List Value} {K : Bool → List Value → Prop} : (PH C Sg T).ucB (.bool n :: r) (@hid _ ⟨K⟩) = K n r := b_ucB
theorem p_ucV {n : Value} {r : List Value} {K : Value → List Value → Prop} : (PH C Sg T).ucV (n :: r) (@hid _ ⟨K⟩) = K n r := b_ucV
theorem p_uc0 {K : Prop} : (PH C Sg T).uc0 [] (@hid _ ⟨K⟩) = K := b_uc0
theorem p_cond_t {X Y : Prop} : (PH C Sg T).cond true (@hid _ ⟨X⟩) Y = X := b_cond_t
theorem p_cond_f {X Y : Prop} : (PH C Sg T).cond false X (@hid _ ⟨Y⟩) = Y := b_cond_f
theorem p_lss_t {a b : Int} {K : Bool → Prop} (h : a < b) : (PH C Sg T).cmp .lss a b (@hid _ ⟨K⟩) = K true := b_lss_t h
theorem p_lss_f {a b : Int} {K : Bool → Prop} (h : b ≤ a) : (PH C Sg T).cmp .lss a b (@hid _ ⟨K⟩) = K false := b_lss_f h
theorem p_leq_t {a b : Int} {K : Bool → Prop} (h : a ≤ b) : (PH C Sg T).cmp .leq a b (@hid _ ⟨K⟩) = K true := b_leq_t h
theorem p_leq_f {a b : Int} {K : Bool → Prop} (h : b < a) : (PH C Sg T).cmp .leq a b (@hid _ ⟨K⟩) = K false := b_leq_f h
theorem p_gtr_t {a b : Int} {K : Bool → Prop} (h : b < a) : (PH C Sg T).cmp .gtr a b (@hid _ ⟨K⟩) = K true := b_gtr_t h
theorem p_gtr_f {a b : Int} {K : Bool → Prop} (h : a ≤ b) : (PH C Sg T).cmp .gtr a b (@hid _ ⟨K⟩) = K false := b_gtr_f h
theorem p_geq_t {a b : Int} {K : Bool → Prop} (h : b ≤ a) : (PH C Sg T).cmp .geq a b (@hid _ ⟨K⟩) = K true := b_geq_t h
theorem p_geq_f {a b : Int} {K : Bool → Prop} (h : a < b) : (PH C Sg T).cmp .geq a b (@hid _ ⟨K⟩) = K false := b_geq_f h
theorem p_eql_t {a b : Int} {K : Bool → Prop} (h : a = b) : (PH C Sg T).cmp .eql a b (@hid _ ⟨K⟩) = K true := b_eql_t h
theorem p_eql_f {a b : Int} {K : Bool → Prop} (h : a ≠ b) : (PH C Sg T).cmp .eql a b (@hid _ ⟨K⟩) = K false := b_eql_f h
theorem p_neq_t {a b : Int} {K : Bool → Prop} (h : a ≠ b) : (PH C Sg T).cmp .neq a b (@hid _ ⟨K⟩) = K true := b_neq_t h
theorem p_neq_f {a b : Int} {K : Bool → Prop} (h : a = b) : (PH C Sg T).cmp .neq a b (@hid _ ⟨K⟩) = K false := b_neq_f h
theorem p_add {a b : Int} {K : Int → Prop} (h1 : -9223372036854775808 ≤ a + b) (h2 : a + b ≤ 9223372036854775807) : (PH C Sg T).ari .add .i64 a b (@hid _ ⟨K⟩) = K (a + b) := b_add h1 h2
theorem p_sub {a b : Int} {K : Int → Prop} (h1 : -9223372036854775808 ≤ a - b) (h2 : a - b ≤ 9223372036854775807) : (PH C Sg T).ari .sub .i64 a b (@hid _ ⟨K⟩) = K (a - b) := b_sub h1 h2
theorem p_mul {a b : Int} {K : Int → Prop} (h1 : -9223372036854775808 ≤ a * b) (h2 : a * b ≤ 9223372036854775807) : (PH C Sg T).ari .mul .i64 a b (@hid _ ⟨K⟩) = K (a * b) := b_mul h1 h2
theorem p_add8 {a b : Int} {K : Int → Prop} (h1 : 0 ≤ a + b) (h2 : a + b ≤ 255) : (PH C Sg T).ari .add .u8 a b (@hid _ ⟨K⟩) = K (a + b) := b_add8 h1 h2
theorem p_sub8 {a b : Int} {K : Int → Prop} (h1 : 0 ≤ a - b) (h2 : a - b ≤ 255) : (PH C Sg T).ari .sub .u8 a b (@hid _ ⟨K⟩) = K (a - b) := b_sub8 h1 h2
theorem p_mul8 {a b : Int} {K : Int → Prop} (h1 : 0 ≤ a * b) (h2 : a * b ≤ 255) : (PH C Sg T).ari .mul .u8 a b (@hid _ ⟨K⟩) = K (a * b) := b_mul8 h1 h2
theorem p_quo_nn {a b : Int} {K : Int → Prop} (h : 0 ≤ a) (hb : 0 < b) (h2 : a ≤ 9223372036854775807) : (PH C Sg T).ari .quo .i64 a b (@hid _ ⟨K⟩) = K (a / b) := b_quo_nn h hb h2
theorem p_quo_dv {a b : Int} {K : Int → Prop} (h : a % b = 0) (hb : 0 < b) (h1 : -9223372036854775808 ≤ a) (h2 : a ≤ 9223372036854775807) : (PH C Sg T).ari .quo .i64 a b (@hid _ ⟨K⟩) = K (a / b) := b_quo_dv h hb h1 h2
theorem p_rem_nn {k : IntKind} {a b : Int} {K : Int → Prop} (h : 0 ≤ a) (hb : 0 < b) : (PH C Sg T).ari .rem k a b (@hid _ ⟨K⟩) = K (a % b) := b_rem_nn h hb
theorem p_rem_np {k : IntKind} {a b : Int} {K : Int → Prop} (h : a ≤ 0) (hb : 0 < b) : (PH C Sg T).ari .rem k a b (@hid _ ⟨K⟩) = K (-((-a) % b)) := b_rem_np h hb
theorem p_and1 {a : Int} {K : Int → Prop} : (PH C Sg T).ari .and .i64 a 1 (@hid _ ⟨K⟩) = K (a % 2) := b_and1
theorem p_conv {a : Int} {K : Int → Prop} (h1 : -9223372036854775808 ≤ a) (h2 : a ≤ 9223372036854775807) : (PH C Sg T).conv .i64 a (@hid _ ⟨K⟩) = K a := b_conv h1 h2
theorem p_conv8 {a : Int} {K : Int → Prop} (h1 : 0 ≤ a) (h2 : a ≤ 255) : (PH C Sg T).conv .u8 a (@hid _ ⟨K⟩) = K a := b_conv8 h1 h2
theorem p_sel_t {a b : Int} {K : Int → Prop} : (PH C Sg T).sel true a b (@hid _ ⟨K⟩) = K a := b_sel_t
theorem p_sel_f {a b : Int} {K : Int → Prop} : (PH C Sg T).sel false a b (@hid _ ⟨K⟩) = K b := b_sel_f
theorem p_opt {α : Type} {x : α} {K : α → Prop} : (PH C Sg T).opt (some x) (@hid _ ⟨K⟩) = K x := b_opt
theorem p_inB {n : Nat} {i : Int} {K : Unit → Prop} (h1 : 0 ≤ i) (h2 : i < (n : Int)) : (PH C Sg T).opt (inB n i) (@hid _ ⟨K⟩) = K () := b_inB h1 h2
theorem p_join {b : List Lf → HL → Prop} {m : (List Lf → HL → Prop) → Prop} : (PH C Sg T).join (@hid _ ⟨b⟩) (@hid _ ⟨m⟩) = m (@hid _ ⟨b⟩) := b_join
theorem p_eqs0 {K : Bool → Prop} : (PH C Sg T).eqs [] (@hid _ ⟨K⟩) = K true := b_eqs0
theorem p_eqs_t {a b : Int} {l : List (Lf × Lf)} {K : Bool → Prop} (h : a = b) : (PH C Sg T).eqs ((.i a, .i b) :: l) (@hid _ ⟨K⟩) = (PH C Sg T).eqs l (@hid _ ⟨K⟩) := b_eqs_t h
theorem p_eqs_f {a b : Int} {l : List (Lf × Lf)} {K : Bool → Prop} (h : a ≠ b) : (PH C Sg T).eqs ((.i a, .i b) :: l) (@hid _ ⟨K⟩) = K false := b_eqs_f h
theorem p_it {F : (List Lf → HL → Prop) → List Lf → HL → Prop} {n : Nat} {ls : List Lf} {h : HL} : itH (@hid _ ⟨F⟩) (n + 1) ls h = F (itH (@hid _ ⟨F⟩) n) ls h := b_it
theorem p_eqsb_t {a b : Bool} {l : List (Lf × Lf)} {K : Bool → Prop} (h : a = b) : (PH C Sg T).eqs ((.b a, .b b) :: l) (@hid _ ⟨K⟩) = (PH C Sg T).eqs l (@hid _ ⟨K⟩) := b_eqsb_t h
theorem p_eqsb_tf {l : List (Lf × Lf)} {K : Bool → Prop} : (PH C Sg T).eqs ((.b true, .b false) :: l) (@hid _ ⟨K⟩) = K false := b_eqsb_tf
theorem p_eqsb_ft {l : List (Lf × Lf)} {K : Bool → Prop} : (PH C Sg T).eqs ((.b false, .b true) :: l) (@hid _ ⟨K⟩) = K false := b_eqsb_ft
theorem p_mul_1 {b : Int} {K : Int → Prop} (h1 : -9223372036854775808 ≤ b) (h2 : b ≤ 9223372036854775807) : (PH C Sg T).ari .mul .i64 1 b (@hid _ ⟨K⟩) = K b := b_mul_1 h1 h2
theorem p_mul_0 {b : Int} {K : Int → Prop} : (PH C Sg T).ari .mul .i64 0 b (@hid _ ⟨K⟩) = K 0 := b_mul_0
theorem p_mul_m {b : Int} {K : Int → Prop} (h1 : -9223372036854775808 ≤ -b) (h2 : -b ≤ 9223372036854775807) : (PH C Sg T).ari .mul .i64 (-1) b (@hid _ ⟨K⟩) = K (-b) := b_mul_m h1 h2
theorem p_mul_r1 {b : Int} {K : Int → Prop} (h1 : -9223372036854775808 ≤ b) (h2 : b ≤ 9223372036854775807) : (PH C Sg T).ari .mul .i64 b 1 (@hid _ ⟨K⟩) = K b := b_mul_r1 h1 h2
theorem p_mul_r0 {b : Int} {K : Int → Prop} : (PH C Sg T).ari .mul .i64 b 0 (@hid _ ⟨K⟩) = K 0 := b_mul_r0
theorem p_mul_rm {b : Int} {K : Int → Prop} (h1 : -9223372036854775808 ≤ -b) (h2 : -b ≤ 9223372036854775807) : (PH C Sg T).ari .mul .i64 b (-1) (@hid _ ⟨K⟩) = K (-b) := b_mul_rm h1 h2
theorem p_add_0 {b : Int} {K : Int → Prop} (h1 : -9223372036854775808 ≤ b) (h2 : b ≤ 9223372036854775807) : (PH C Sg T).ari .add .i64 0 b (@hid _ ⟨K⟩) = K b := b_add_0 h1 h2
theorem p_add_r0 {b : Int} {K : Int → Prop} (h1 : -9223372036854775808 ≤ b) (h2 : b ≤ 9223372036854775807) : (PH C Sg T).ari .add .i64 b 0 (@hid _ ⟨K⟩) = K b := b_add_r0 h1 h2
theorem p_add_11 {K : Int → Prop} : (PH C Sg T).ari .add .i64 1 1 (@hid _ ⟨K⟩) = K 2 := b_add_11
theorem p_quo_1 {a : Int} {K : Int → Prop} (h1 : -9223372036854775808 ≤ a) (h2 : a ≤ 9223372036854775807) : (PH C Sg T).ari .quo .i64 a 1 (@hid _ ⟨K⟩) = K a := b_quo_1 h1 h2
theorem p_hid2 {f : List Lf → HL → Prop} {a : List Lf} {b : HL} : @hid _ ⟨f⟩ a b = f a b := rfl
theorem p_eqs2_f {a b c d : Int} {K : Bool → Prop} (h : ¬ (a = c ∧ b = d)) : (PH C Sg T).eqs [(.i a, .i c), (.i b, .i d)] (@hid _ ⟨K⟩) = K false := by
 show K (cr _) = K false
 have : cr [(.i a, .i c), (.i b, .i d)] = false := by
  rw [Bool.eq_false_iff]
  simpa [cr, gN] using h
 rw [this]
theorem p_eqs3_f {a b c d e f : Int} {K : Bool → Prop} (h : ¬ (a = d ∧ b = e ∧ c = f)) : (PH C Sg T).eqs [(.i a, .i d), (.i b, .i e), (.i c, .i f)] (@hid _ ⟨K⟩) = K false := by
 show K (cr _) = K false
 have : cr [(.i a, .i d), (.i b, .i e), (.i c, .i f)] = false := by
  rw [Bool.eq_false_iff]
  simpa [cr, gN] using h
 rw [this]
theorem p_new {o : HObj} {h : HL} {K : Nat → HL → Prop} : (PH C Sg T).new o h (@hid _ ⟨K⟩) = K h.length (h ++ [.o o]) := rfl
theorem p_peek_r {f : Pk} {h : HL} {K : List Value → Prop} {cs : List Value} (e : f.run (getH T h) = some cs) (hk : K cs) : (PH C Sg T).peek f h (@hid _ ⟨K⟩) := ⟨cs, e, hk⟩
noncomputable def pxs (C : Cfg) (Sg : FuncId → Option Sig) (T : Nat → Site) := And.intro @p_hid2 (And.intro (@p_new _ _ C Sg T) (And.intro (@p_unI _ _ C Sg T) (And.intro (@p_unB _ _ C Sg T) (And.intro (@p_unV _ _ C Sg T) (And.intro (@p_un0 _ _ C Sg T) (And.intro (@p_ucI _ _ C Sg T) (And.intro (@p_ucB _ _ C Sg T) (And.intro (@p_ucV _ _ C Sg T) (And.intro (@p_uc0 _ _ C Sg T) (And.intro (@p_cond_t _ _ C Sg T) (And.intro (@p_cond_f _ _ C Sg T) (And.intro (@p_opt _ _ C Sg T) (And.intro (@p_inB _ _ C Sg T) (And.intro (@p_join _ _ C Sg T) (And.intro (@p_sel_t _ _ C Sg T) (And.intro (@p_sel_f _ _ C Sg T) ((@p_it))))))))))))))))))
noncomputable def pxc (C : Cfg) (Sg : FuncId → Option Sig) (T : Nat → Site) := And.intro (@p_lss_t _ _ C Sg T) (And.intro (@p_lss_f _ _ C Sg T) (And.intro (@p_leq_t _ _ C Sg T) (And.intro (@p_leq_f _ _ C Sg T) (And.intro (@p_gtr_t _ _ C Sg T) (And.intro (@p_gtr_f _ _ C Sg T) (And.intro (@p_geq_t _ _ C Sg T) (And.intro (@p_geq_f _ _ C Sg T) (And.intro (@p_eql_t _ _ C Sg T) (And.intro (@p_eql_f _ _ C Sg T) (And.intro (@p_neq_t _ _ C Sg T) (And.intro (@p_neq_f _ _ C Sg T) (And.intro (@p_eqs0 _ _ C Sg T) (And.intro (@p_eqs_t _ _ C Sg T) (And.intro (@p_eqs_f _ _ C Sg T) (And.intro (@p_eqs2_f _ _ C Sg T) (And.intro (@p_eqs3_f _ _ C Sg T) (And.intro (@p_eqsb_t _ _ C Sg T) (And.intro (@p_eqsb_tf _ _ C Sg T) ((@p_eqsb_ft _ _ C Sg T))))))))))))))))))))
noncomputable def pxa (C : Cfg) (Sg : FuncId → Option Sig) (T : Nat → Site) := And.intro (@p_mul_1 _ _ C Sg T) (And.intro (@p_mul_0 _ _ C Sg T) (And.intro (@p_mul_m _ _ C Sg T) (And.intro (@p_mul_r1 _ _ C Sg T) (And.intro (@p_mul_r0 _ _ C Sg T) (And.intro (@p_mul_rm _ _ C Sg T) (And.intro (@p_add_0 _ _ C Sg T) (And.intro (@p_add_r0 _ _ C Sg T) (And.intro (@p_add_11 _ _ C Sg T) (And.intro (@p_quo_1 _ _ C Sg T) (And.intro (@p_add _ _ C Sg T) (And.intro (@p_sub _ _ C Sg T) (And.intro (@p_mul _ _ C Sg T) (And.intro (@p_add8 _ _ C Sg T) (And.intro (@p_sub8 _ _ C Sg T) (And.intro (@p_mul8 _ _ C Sg T) (And.intro (@p_quo_nn _ _ C Sg T) (And.intro (@p_quo_dv _ _ C Sg T) (And.intro (@p_rem_nn _ _ C Sg T) (And.intro (@p_rem_np _ _ C Sg T) (And.intro (@p_and1 _ _ C Sg T) (And.intro (@p_conv _ _ C Sg T) ((@p_conv8 _ _ C Sg T)))))))))))))))))))))))
end
end Sx
end Go.Am

/-
 THE SEAT'S CALLS: what is known of them, and how it is shown (over the heaps of runs).
-/
set_option maxRecDepth 100000
namespace Go.Am
open Sx Go.Proofs
theorem gl_cell (g : Nat) (vs : List Value) (h : cc.G g = some vs) : vs.all aY = true := by
 unfold cc at h
 simp only at h
 split at h <;> first | (cases h; done) | (obtain rfl := Option.some.inj h; kernel_rfl)
noncomputable abbrev P1 : Alg Prop HL := PH cc ae ac
abbrev Cc (g : FuncId) (ls rs : List Lf) : Prop := ∀ H, bm cc ae g ls H rs H
theorem dI {f : FuncId} {fn : Fn1} (hi : FnIs (xc f) ae f fn) {ls : List Lf} {H : HL} {K : List Lf → HL → Prop} (hls : aE ls = true)
  (h : aQ P1 (xc f) ae drN fn ls H K) : ∃ rs H', bm cc ae f ls (absH ac H) rs (absH ac H') ∧ K rs H' := by
 obtain ⟨rs, h', a1, _, a3⟩ := mz (X := xc f) (holds := id) (abs := absH ac) (PH_ok cc ae ac) qo hi (dM hls) h
 exact ⟨rs, h', a1, a3⟩
theorem fn_okG {f : FuncId} {fn : Fn1} (hi : FnIs (xc f) ae f fn) {ls : List Lf} {H : HL} {K : List Lf → HL → Prop} (hls : dg ls)
  (h : aQ P1 (xc f) ae drN fn ls H K) : ∃ rs H', bm cc ae f ls (absH ac H) rs (absH ac H') ∧ K rs H' := by
 obtain ⟨rs, h', a1, _, a3⟩ := mz (X := xc f) (holds := id) (abs := absH ac) (PH_ok cc ae ac) qo hi hls h
 exact ⟨rs, h', a1, a3⟩
theorem gls0 : dg [] := fun _ h => by cases h
theorem glsI {n : Int} {ls : List Lf} (h : dg ls) : dg (.i n :: ls) := fun l hl => by
 rcases List.mem_cons.1 hl with rfl | hl
 ·trivial
 ·exact h l hl
theorem glsV {x : Value} {ls : List Lf} (hx : cA x = true) (h : dg ls) : dg (.v x :: ls) := fun l hl => by
 rcases List.mem_cons.1 hl with rfl | hl
 ·exact hx
 ·exact h l hl
def qxs := pxs cc ae ac
def qxc := pxc cc ae ac
def qxa := pxa cc ae ac
end Go.Am

/-
 THE FUNCTIONS OVER THE ALGEBRA OF PROPOSITIONS, BY PROGRAM.
-/
set_option maxRecDepth 100000
namespace Go.Am
open Sx Go.Proofs
/-- crimp/crimplaw03.CellsWay -/
def p15 (A : Alg Prop (HL)) (ls : List Lf) (h : HL) (K : List Lf → HL → Prop) : Prop := A.unI ls (@hid _ ⟨fun a3 a9 => A.unI a9 (@hid _ ⟨fun a4 b0 => A.unI b0 (@hid _ ⟨fun a5 b1 => A.unV b1 (@hid _ ⟨fun J b2 => A.un0 b2 (@hid _ ⟨A.opt (lenS J) (@hid _ ⟨fun b3 => A.cmp .gtr b3 30 (@hid _ ⟨fun b4 => A.cond b4 (@hid _ ⟨K [(.b true)] h⟩) (@hid _ ⟨A.call 59 [(.i a3), (.i a4), (.i a5)] h (@hid _ ⟨fun b5 b6 => A.unI b5 (@hid _ ⟨fun b7 b8 => A.unI b8 (@hid _ ⟨fun b9 c0 => A.unI c0 (@hid _ ⟨fun c1 d0 => A.un0 d0 (@hid _ ⟨A.call 60 [] b6 (@hid _ ⟨fun d1 d2 => A.unI d1 (@hid _ ⟨fun d3 d4 => A.unI d4 (@hid _ ⟨fun d5 d6 => A.unI d6 (@hid _ ⟨fun d7 d8 => A.un0 d8 (@hid _ ⟨A.loop (@hid _ ⟨fun d9 e0 U => A.unI e0 (@hid _ ⟨fun O e1 => A.unI e1 (@hid _ ⟨fun V e2 => A.unI e2 (@hid _ ⟨fun a0 e3 => A.unI e3 (@hid _ ⟨fun n41 e4 => A.unI e4 (@hid _ ⟨fun n43 e5 => A.unI e5 (@hid _ ⟨fun a1 e6 => A.unI e6 (@hid _ ⟨fun n47 e7 => A.un0 e7 (@hid _ ⟨A.opt (lenS J) (@hid _ ⟨fun e8 => A.cmp .lss O e8 (@hid _ ⟨fun e9 => A.cond e9 (@hid _ ⟨A.opt (idS 1 J O) (@hid _ ⟨fun f0 => A.peek (.lg cc 1 f0) U (@hid _ ⟨fun f1 => A.ucI .u8 f1 (@hid _ ⟨fun f2 f3 => A.uc0 f3 (@hid _ ⟨A.ari .rem .u8 f2 3 (@hid _ ⟨fun n55 => A.call 40 [(.i n43), (.i a1), (.i n47), (.i n55)] U (@hid _ ⟨fun f4 a6 => A.unI f4 (@hid _ ⟨fun f5 f6 => A.unI f6 (@hid _ ⟨fun n60 f7 => A.unI f7 (@hid _ ⟨fun n62 f8 => A.un0 f8 (@hid _ ⟨A.opt (idS 1 J O) (@hid _ ⟨fun f9 => A.peek (.lg cc 1 f9) a6 (@hid _ ⟨fun gl => A.ucI .u8 gl (@hid _ ⟨fun n66 gq => A.uc0 gq (@hid _ ⟨A.ari .rem .u8 n66 3 (@hid _ ⟨fun gt => A.call 47 [(.i n43), (.i a1), (.i n47), (.i gt)] a6 (@hid _ ⟨fun g0 g1 => A.unI g0 (@hid _ ⟨fun g2 g3 => A.unI g3 (@hid _ ⟨fun g4 g5 => A.unI g5 (@hid _ ⟨fun n75 g6 => A.unI g6 (@hid _ ⟨fun g7 g8 => A.un0 g8 (@hid _ ⟨A.call 61 [(.i f5), (.i n60)] g1 (@hid _ ⟨fun g9 h80 => A.unI g9 (@hid _ ⟨fun h0 h1 => A.unI h1 (@hid _ ⟨fun n83 h2 => A.unI h2 (@hid _ ⟨fun n85 h3 => A.unI h3 (@hid _ ⟨fun n87 h4 => A.un0 h4 (@hid _ ⟨A.cmp .neq n62 0 (@hid _ ⟨fun h5 => A.cond h5 (@hid _ ⟨K [(.b false)] h80⟩) (@hid _ ⟨A.cmp .neq g7 0 (@hid _ ⟨fun h6 => A.cond h6 (@hid _ ⟨K [(.b false)] h80⟩) (@hid _ ⟨A.cmp .neq n87 0 (@hid _ ⟨fun h7 => A.cond h7 (@hid _ ⟨K [(.b false)] h80⟩) (@hid _ ⟨A.call 62 [(.i V), (.i a0), (.i n41), (.i h0), (.i n83), (.i n85)] h80 (@hid _ ⟨fun h8 a7 => A.unI h8 (@hid _ ⟨fun n94 h9 => A.unI h9 (@hid _ ⟨fun n96 i0 => A.unI i0 (@hid _ ⟨fun n98 i1 => A.unI i1 (@hid _ ⟨fun n100 i2 => A.un0 i2 (@hid _ ⟨A.cmp .neq n100 0 (@hid _ ⟨fun i3 => A.cond i3 (@hid _ ⟨K [(.b false)] a7⟩) (@hid _ ⟨A.ari .add .i64 O 1 (@hid _ ⟨fun n103 => d9 [(.i n103), (.i n94), (.i n96), (.i n98), (.i g2), (.i g4), (.i n75)] a7⟩)⟩)⟩)⟩)⟩)⟩)⟩)⟩)⟩)⟩)⟩)⟩)⟩)⟩)⟩)⟩)⟩)⟩)⟩)⟩)⟩)⟩)⟩)⟩)⟩)⟩)⟩)⟩)⟩)⟩)⟩)⟩)⟩)⟩)⟩)⟩)⟩)⟩)⟩)⟩)⟩)⟩)⟩) (@hid _ ⟨A.call 59 [(.i a3), (.i a4), (.i a5)] U (@hid _ ⟨fun i4 i5 => A.unI i4 (@hid _ ⟨fun n106 i6 => A.unI i6 (@hid _ ⟨fun i7 i8 => A.unI i8 (@hid _ ⟨fun i9 j0 => A.un0 j0 (@hid _ ⟨A.call 55 [(.i n106), (.i i7), (.i i9), (.i n43), (.i a1), (.i n47)] i5 (@hid _ ⟨fun j1 a2 => A.unI j1 (@hid _ ⟨fun j2 j3 => A.unI j3 (@hid _ ⟨fun j4 j5 => A.unI j5 (@hid _ ⟨fun j6 j7 => A.unI j7 (@hid _ ⟨fun j8 j9 => A.un0 j9 (@hid _ ⟨A.join (@hid _ ⟨fun k0 k1 => A.unB k0 (@hid _ ⟨fun k2 k3 => A.un0 k3 (@hid _ ⟨K [(.b k2)] k1⟩)⟩)⟩) (@hid _ ⟨fun Q => A.cmp .eql j8 0 (@hid _ ⟨fun k4 => A.cond k4 (@hid _ ⟨A.eqs [((.i j2), (.i V)), ((.i j4), (.i a0)), ((.i j6), (.i n41))] (@hid _ ⟨fun k5 => A.cond k5 (@hid _ ⟨A.call 63 [(.i V), (.i a0), (.i n41)] a2 (@hid _ ⟨fun k6 a8 => A.unB k6 (@hid _ ⟨fun k7 k8 => A.un0 k8 (@hid _ ⟨A.opt (lenS J) (@hid _ ⟨fun k9 => A.ari .rem .i64 k9 2 (@hid _ ⟨fun l0 => A.cmp .eql l0 1 (@hid _ ⟨fun l1 => A.eqs [((.b k7), (.b l1))] (@hid _ ⟨fun l2 => A.cond l2 (@hid _ ⟨A.call 44 [] a8 (@hid _ ⟨fun l3 l4 => A.unB l3 (@hid _ ⟨fun l5 l6 => A.un0 l6 (@hid _ ⟨Q [(.b l5)] l4⟩)⟩)⟩)⟩) (@hid _ ⟨Q [(.b false)] a8⟩)⟩)⟩)⟩)⟩)⟩)⟩)⟩)⟩) (@hid _ ⟨Q [(.b false)] a2⟩)⟩)⟩) (@hid _ ⟨Q [(.b false)] a2⟩)⟩)⟩)⟩)⟩)⟩)⟩)⟩)⟩)⟩)⟩)⟩)⟩)⟩)⟩)⟩)⟩)⟩)⟩)⟩)⟩)⟩)⟩)⟩)⟩)⟩) [(.i 0), (.i d3), (.i d5), (.i d7), (.i b7), (.i b9), (.i c1)] d2⟩)⟩)⟩)⟩)⟩)⟩)⟩)⟩)⟩)⟩)⟩)⟩)⟩)⟩)⟩)⟩)⟩)⟩)
theorem g15 : (fun A : Alg Prop (HL) => p15 A) = fun A => f15 A := by kernel_rfl
theorem h15 (ls : List Lf) (H : HL) (K : List Lf → HL → Prop) : p15 P1 ls H K = aQ P1 (xc 15) ae drN n15 ls H K :=
 congrFun (congrFun (congrFun ((congrFun g15 P1).trans (congrFun (congrFun (congrFun e15 Prop) (HL)) P1)) ls) H) K
theorem x15 {ls : List Lf} {H : HL} {K : List Lf → HL → Prop} (hls : dg ls) (h : p15 P1 ls H K) : ∃ rs H', bm cc ae 15 ls (absH ac H) rs (absH ac H') ∧ K rs H' :=
 fn_okG i15 hls (h15 ls H K ▸ h)
/-- crimp/cells.Line -/
def p40 (A : Alg Prop (HL)) (ls : List Lf) (h : HL) (K : List Lf → HL → Prop) : Prop := A.unI ls (@hid _ ⟨fun J a5 => A.unI a5 (@hid _ ⟨fun O a6 => A.unI a6 (@hid _ ⟨fun Q a7 => A.unI a7 (@hid _ ⟨fun U a8 => A.un0 a8 (@hid _ ⟨A.call 43 [(.i J), (.i O), (.i Q)] h (@hid _ ⟨fun a9 h15 => A.unI a9 (@hid _ ⟨fun b0 b1 => A.un0 b1 (@hid _ ⟨A.cmp .neq b0 0 (@hid _ ⟨fun b2 => A.cond b2 (@hid _ ⟨K [(.i 0), (.i 0), (.i 1)] h15⟩) (@hid _ ⟨A.cmp .gtr U 2 (@hid _ ⟨fun b3 => A.cond b3 (@hid _ ⟨K [(.i 0), (.i 0), (.i 1)] h15⟩) (@hid _ ⟨A.opt (inB 4 Q) (@hid _ ⟨fun gq => A.opt (bo gl0 0 [(Q, 17)] 17) (@hid _ ⟨fun b4 => A.ucI .i64 b4 (@hid _ ⟨fun gt b5 => A.ucI .i64 b5 (@hid _ ⟨fun g0 b6 => A.ucI .u8 b6 (@hid _ ⟨fun V b7 => A.ucI .i64 b7 (@hid _ ⟨fun a0 b8 => A.ucI .i64 b8 (@hid _ ⟨fun g1 b9 => A.ucI .i64 b9 (@hid _ ⟨fun g2 c0 => A.ucI .u8 c0 (@hid _ ⟨fun g3 c1 => A.ucI .i64 c1 (@hid _ ⟨fun g4 d0 => A.ucI .i64 d0 (@hid _ ⟨fun g5 d1 => A.ucI .u8 d1 (@hid _ ⟨fun n40 d2 => A.ucI .i64 d2 (@hid _ ⟨fun g6 d3 => A.ucI .i64 d3 (@hid _ ⟨fun n44 d4 => A.ucI .u8 d4 (@hid _ ⟨fun g7 d5 => A.ucI .i64 d5 (@hid _ ⟨fun n48 d6 => A.ucI .i64 d6 (@hid _ ⟨fun n50 d7 => A.ucI .i64 d7 (@hid _ ⟨fun n52 d8 => A.ucI .i64 d8 (@hid _ ⟨fun g8 d9 => A.uc0 d9 (@hid _ ⟨A.ari .add .i64 J a0 (@hid _ ⟨fun e0 => A.cmp .eql U 1 (@hid _ ⟨fun e1 => A.join (@hid _ ⟨fun e2 h59 => A.unI e2 (@hid _ ⟨fun n60 e3 => A.unI e3 (@hid _ ⟨fun n62 e4 => A.un0 e4 (@hid _ ⟨A.call 74 [(.i n60), (.i n62)] h59 (@hid _ ⟨fun e5 a1 => A.unI e5 (@hid _ ⟨fun n66 e6 => A.un0 e6 (@hid _ ⟨A.cmp .neq n66 0 (@hid _ ⟨fun e7 => A.cond e7 (@hid _ ⟨K [(.i 0), (.i 0), (.i 3)] a1⟩) (@hid _ ⟨K [(.i n60), (.i n62), (.i 0)] a1⟩)⟩)⟩)⟩)⟩)⟩)⟩)⟩)⟩) (@hid _ ⟨fun a2 => A.cond e1 (@hid _ ⟨A.ari .add .i64 J O (@hid _ ⟨fun e8 => A.ari .add .i64 e8 1 (@hid _ ⟨fun e9 => a2 [(.i 3), (.i e9)] h15⟩)⟩)⟩) (@hid _ ⟨A.cmp .eql U 2 (@hid _ ⟨fun f0 => A.join (@hid _ ⟨fun f1 h74 => A.unI f1 (@hid _ ⟨fun n75 f2 => A.unI f2 (@hid _ ⟨fun f3 f4 => A.un0 f4 (@hid _ ⟨a2 [(.i n75), (.i f3)] h74⟩)⟩)⟩)⟩) (@hid _ ⟨fun a3 => A.cond f0 (@hid _ ⟨A.ari .sub .i64 O J (@hid _ ⟨fun n80 => a3 [(.i 4), (.i n80)] h15⟩)⟩) (@hid _ ⟨A.cmp .eql V 2 (@hid _ ⟨fun f5 => A.join (@hid _ ⟨fun f6 h83 => A.unI f6 (@hid _ ⟨fun f7 f8 => A.unI f8 (@hid _ ⟨fun n86 f9 => A.un0 f9 (@hid _ ⟨a3 [(.i f7), (.i n86)] h83⟩)⟩)⟩)⟩) (@hid _ ⟨fun a4 => A.cond f5 (@hid _ ⟨A.ari .add .i64 O a0 (@hid _ ⟨fun gl => a4 [(.i V), (.i gl)] h15⟩)⟩) (@hid _ ⟨a4 [(.i V), (.i e0)] h15⟩)⟩)⟩)⟩)⟩)⟩)⟩)⟩)⟩)⟩)⟩)⟩)⟩)⟩)⟩)⟩)⟩)⟩)⟩)⟩)⟩)⟩)⟩)⟩)⟩)⟩)⟩)⟩)⟩)⟩)⟩)⟩)⟩)⟩)⟩)⟩)⟩)⟩)⟩)⟩)⟩)⟩)
theorem g40 : (fun A : Alg Prop (HL) => p40 A) = fun A => f40 A := by kernel_rfl
theorem h40 (ls : List Lf) (H : HL) (K : List Lf → HL → Prop) : p40 P1 ls H K = aQ P1 (xc 40) ae drN n40 ls H K :=
 congrFun (congrFun (congrFun ((congrFun g40 P1).trans (congrFun (congrFun (congrFun e40 Prop) (HL)) P1)) ls) H) K
theorem u40 {ls : List Lf} {H : HL} {K : List Lf → HL → Prop} (hls : aE ls = true) (h : p40 P1 ls H K) : ∃ rs H', bm cc ae 40 ls (absH ac H) rs (absH ac H') ∧ K rs H' :=
 dI i40 hls (h40 ls H K ▸ h)
theorem q40 {ls rs : List Lf} (hls : aE ls = true) (h : p40 P1 ls [] fun rs' _ => rs' = rs) : Cc 40 ls rs := by
 obtain ⟨_, _, h1, rfl⟩ := u40 hls h
 exact dw dm br (sg := ⟨[.agg [.i .i64, .i .i64, .i .u8], .leaf (.i .u8)], [.agg [.i .u8, .i .i64], li]⟩) rfl (by kernel_rfl) h1
/-- crimp/cells.Check -/
def p43 (A : Alg Prop (HL)) (ls : List Lf) (h : HL) (K : List Lf → HL → Prop) : Prop := A.unI ls (@hid _ ⟨fun J Q => A.unI Q (@hid _ ⟨fun O U => A.unI U (@hid _ ⟨fun V a0 => A.un0 a0 (@hid _ ⟨A.cmp .lss J (-4096) (@hid _ ⟨fun a1 => A.cond a1 (@hid _ ⟨K [(.i 1)] h⟩) (@hid _ ⟨A.cmp .gtr J 4096 (@hid _ ⟨fun a2 => A.cond a2 (@hid _ ⟨K [(.i 1)] h⟩) (@hid _ ⟨A.cmp .lss O (-4096) (@hid _ ⟨fun a3 => A.cond a3 (@hid _ ⟨K [(.i 1)] h⟩) (@hid _ ⟨A.cmp .gtr O 4096 (@hid _ ⟨fun a4 => A.cond a4 (@hid _ ⟨K [(.i 1)] h⟩) (@hid _ ⟨A.cmp .gtr V 3 (@hid _ ⟨fun a5 => A.cond a5 (@hid _ ⟨K [(.i 1)] h⟩) (@hid _ ⟨K [(.i 0)] h⟩)⟩)⟩)⟩)⟩)⟩)⟩)⟩)⟩)⟩)⟩)⟩)⟩)⟩)
theorem g43 : (fun A : Alg Prop (HL) => p43 A) = fun A => f43 A := by kernel_rfl
theorem h43 (ls : List Lf) (H : HL) (K : List Lf → HL → Prop) : p43 P1 ls H K = aQ P1 (xc 43) ae drN n43 ls H K :=
 congrFun (congrFun (congrFun ((congrFun g43 P1).trans (congrFun (congrFun (congrFun e43 Prop) (HL)) P1)) ls) H) K
theorem u43 {ls : List Lf} {H : HL} {K : List Lf → HL → Prop} (hls : aE ls = true) (h : p43 P1 ls H K) : ∃ rs H', bm cc ae 43 ls (absH ac H) rs (absH ac H') ∧ K rs H' :=
 dI i43 hls (h43 ls H K ▸ h)
theorem q43 {ls rs : List Lf} (hls : aE ls = true) (h : p43 P1 ls [] fun rs' _ => rs' = rs) : Cc 43 ls rs := by
 obtain ⟨_, _, h1, rfl⟩ := u43 hls h
 exact dw dm br (sg := ⟨[.agg [.i .i64, .i .i64, .i .u8]], [li]⟩) rfl (by kernel_rfl) h1
/-- crimp/cells.Neighbour -/
def p47 (A : Alg Prop (HL)) (ls : List Lf) (h : HL) (K : List Lf → HL → Prop) : Prop := A.unI ls (@hid _ ⟨fun Q a3 => A.unI a3 (@hid _ ⟨fun U a4 => A.unI a4 (@hid _ ⟨fun J a5 => A.unI a5 (@hid _ ⟨fun O a6 => A.un0 a6 (@hid _ ⟨A.call 43 [(.i Q), (.i U), (.i J)] h (@hid _ ⟨fun a7 h15 => A.unI a7 (@hid _ ⟨fun a8 a9 => A.un0 a9 (@hid _ ⟨A.cmp .neq a8 0 (@hid _ ⟨fun b0 => A.cond b0 (@hid _ ⟨K [(.i 0), (.i 0), (.i 0), (.i 1)] h15⟩) (@hid _ ⟨A.cmp .gtr O 2 (@hid _ ⟨fun b1 => A.cond b1 (@hid _ ⟨K [(.i 0), (.i 0), (.i 0), (.i 1)] h15⟩) (@hid _ ⟨A.opt (inB 4 J) (@hid _ ⟨fun d0 => A.opt (inB 3 O) (@hid _ ⟨fun d1 => A.opt (bo gl0 4 [(J, 17), (O, 3)] 3) (@hid _ ⟨fun b2 => A.ucI .i64 b2 (@hid _ ⟨fun b3 b4 => A.ucI .i64 b4 (@hid _ ⟨fun b5 b6 => A.ucI .u8 b6 (@hid _ ⟨fun V b7 => A.uc0 b7 (@hid _ ⟨A.ari .add .i64 b3 Q (@hid _ ⟨fun a0 => A.ari .add .i64 b5 U (@hid _ ⟨fun a1 => A.call 43 [(.i a0), (.i a1), (.i V)] h15 (@hid _ ⟨fun b8 a2 => A.unI b8 (@hid _ ⟨fun b9 c0 => A.un0 c0 (@hid _ ⟨A.cmp .neq b9 0 (@hid _ ⟨fun c1 => A.cond c1 (@hid _ ⟨K [(.i 0), (.i 0), (.i 0), (.i 3)] a2⟩) (@hid _ ⟨K [(.i a0), (.i a1), (.i V), (.i 0)] a2⟩)⟩)⟩)⟩)⟩)⟩)⟩)⟩)⟩)⟩)⟩)⟩)⟩)⟩)⟩)⟩)⟩)⟩)⟩)⟩)⟩)⟩)⟩)⟩)⟩)⟩)
theorem g47 : (fun A : Alg Prop (HL) => p47 A) = fun A => f47 A := by kernel_rfl
theorem h47 (ls : List Lf) (H : HL) (K : List Lf → HL → Prop) : p47 P1 ls H K = aQ P1 (xc 47) ae drN n47 ls H K :=
 congrFun (congrFun (congrFun ((congrFun g47 P1).trans (congrFun (congrFun (congrFun e47 Prop) (HL)) P1)) ls) H) K
theorem u47 {ls : List Lf} {H : HL} {K : List Lf → HL → Prop} (hls : aE ls = true) (h : p47 P1 ls H K) : ∃ rs H', bm cc ae 47 ls (absH ac H) rs (absH ac H') ∧ K rs H' :=
 dI i47 hls (h47 ls H K ▸ h)
theorem q47 {ls rs : List Lf} (hls : aE ls = true) (h : p47 P1 ls [] fun rs' _ => rs' = rs) : Cc 47 ls rs := by
 obtain ⟨_, _, h1, rfl⟩ := u47 hls h
 exact dw dm br (sg := ⟨[.agg [.i .i64, .i .i64, .i .u8], .leaf (.i .u8)], [.agg [.i .i64, .i .i64, .i .u8], li]⟩) rfl (by kernel_rfl) h1
/-- crimp/cells.Between -/
def p55 (A : Alg Prop (HL)) (ls : List Lf) (h : HL) (K : List Lf → HL → Prop) : Prop := A.unI ls (@hid _ ⟨fun O a8 => A.unI a8 (@hid _ ⟨fun Q a9 => A.unI a9 (@hid _ ⟨fun U b0 => A.unI b0 (@hid _ ⟨fun V b1 => A.unI b1 (@hid _ ⟨fun a0 b2 => A.unI b2 (@hid _ ⟨fun a1 b3 => A.un0 b3 (@hid _ ⟨A.call 43 [(.i O), (.i Q), (.i U)] h (@hid _ ⟨fun b4 a3 => A.unI b4 (@hid _ ⟨fun b5 b6 => A.un0 b6 (@hid _ ⟨A.cmp .neq b5 0 (@hid _ ⟨fun b7 => A.cond b7 (@hid _ ⟨K [(.i 0), (.i 0), (.i 0), (.i 1)] a3⟩) (@hid _ ⟨A.call 43 [(.i V), (.i a0), (.i a1)] a3 (@hid _ ⟨fun b8 a4 => A.unI b8 (@hid _ ⟨fun b9 c0 => A.un0 c0 (@hid _ ⟨A.cmp .neq b9 0 (@hid _ ⟨fun c1 => A.cond c1 (@hid _ ⟨K [(.i 0), (.i 0), (.i 0), (.i 1)] a4⟩) (@hid _ ⟨A.call 82 [(.i V), (.i a0), (.i a1)] a4 (@hid _ ⟨fun d0 d1 => A.unI d0 (@hid _ ⟨fun d2 d3 => A.unI d3 (@hid _ ⟨fun d4 d5 => A.un0 d5 (@hid _ ⟨A.loop (@hid _ ⟨fun a5 d6 a6 => A.unI d6 (@hid _ ⟨fun J d7 => A.un0 d7 (@hid _ ⟨A.cmp .lss J 8 (@hid _ ⟨fun d8 => A.cond d8 (@hid _ ⟨A.call 82 [(.i O), (.i Q), (.i U)] a6 (@hid _ ⟨fun d9 e0 => A.unI d9 (@hid _ ⟨fun e1 e2 => A.unI e2 (@hid _ ⟨fun n44 e3 => A.un0 e3 (@hid _ ⟨A.call 83 [(.i J), (.i 0), (.i 0), (.i e1), (.i n44)] e0 (@hid _ ⟨fun e4 h47 => A.unI e4 (@hid _ ⟨fun n48 e5 => A.unI e5 (@hid _ ⟨fun n50 e6 => A.unI e6 (@hid _ ⟨fun n52 e7 => A.un0 e7 (@hid _ ⟨A.ari .sub .i64 d2 n48 (@hid _ ⟨fun e8 => A.ari .quo .i64 e8 2 (@hid _ ⟨fun n55 => A.ari .sub .i64 d4 n50 (@hid _ ⟨fun e9 => A.ari .quo .i64 e9 2 (@hid _ ⟨fun a2 => A.call 79 [(.i J), (.i n55), (.i a2)] h47 (@hid _ ⟨fun f0 h59 => A.unI f0 (@hid _ ⟨fun n60 f1 => A.un0 f1 (@hid _ ⟨A.cmp .eql n60 0 (@hid _ ⟨fun f2 => A.cond f2 (@hid _ ⟨A.call 80 [(.i J), (.i n55), (.i a2), (.i O), (.i Q), (.i U)] h59 (@hid _ ⟨fun f3 a7 => A.unI f3 (@hid _ ⟨fun f4 f5 => A.unI f5 (@hid _ ⟨fun f6 f7 => A.unI f7 (@hid _ ⟨fun f8 f9 => A.un0 f9 (@hid _ ⟨A.eqs [((.i f4), (.i V)), ((.i f6), (.i a0)), ((.i f8), (.i a1))] (@hid _ ⟨fun gl => A.cond gl (@hid _ ⟨K [(.i J), (.i n55), (.i a2), (.i 0)] a7⟩) (@hid _ ⟨A.ari .add .u8 J 1 (@hid _ ⟨fun gq => a5 [(.i gq)] a7⟩)⟩)⟩)⟩)⟩)⟩)⟩)⟩)⟩) (@hid _ ⟨A.ari .add .u8 J 1 (@hid _ ⟨fun gt => a5 [(.i gt)] h59⟩)⟩)⟩)⟩)⟩)⟩)⟩)⟩)⟩)⟩)⟩)⟩)⟩)⟩)⟩)⟩)⟩)⟩)⟩)⟩) (@hid _ ⟨K [(.i 0), (.i 0), (.i 0), (.i 7)] a6⟩)⟩)⟩)⟩)⟩) [(.i 0)] d1⟩)⟩)⟩)⟩)⟩)⟩)⟩)⟩)⟩)⟩)⟩)⟩)⟩)⟩)⟩)⟩)⟩)⟩)⟩)⟩)⟩)
theorem g55 : (fun A : Alg Prop (HL) => p55 A) = fun A => f55 A := by kernel_rfl
theorem h55 (ls : List Lf) (H : HL) (K : List Lf → HL → Prop) : p55 P1 ls H K = aQ P1 (xc 55) ae drN n55 ls H K :=
 congrFun (congrFun (congrFun ((congrFun g55 P1).trans (congrFun (congrFun (congrFun e55 Prop) (HL)) P1)) ls) H) K
theorem u55 {ls : List Lf} {H : HL} {K : List Lf → HL → Prop} (hls : aE ls = true) (h : p55 P1 ls H K) : ∃ rs H', bm cc ae 55 ls (absH ac H) rs (absH ac H') ∧ K rs H' :=
 dI i55 hls (h55 ls H K ▸ h)
theorem q55 {ls rs : List Lf} (hls : aE ls = true) (h : p55 P1 ls [] fun rs' _ => rs' = rs) : Cc 55 ls rs := by
 obtain ⟨_, _, h1, rfl⟩ := u55 hls h
 exact dw dm br (sg := ⟨[.agg [.i .i64, .i .i64, .i .u8], .agg [.i .i64, .i .i64, .i .u8]], [.agg [.i .u8, .i .i64, .i .i64], li]⟩) rfl (by kernel_rfl) h1
/-- (crimp/crimplaw03.C).Of -/
def p59 (A : Alg Prop (HL)) (ls : List Lf) (h : HL) (K : List Lf → HL → Prop) : Prop := A.unI ls (@hid _ ⟨fun J O => A.unI O (@hid _ ⟨fun Q U => A.unI U (@hid _ ⟨fun V a0 => A.un0 a0 (@hid _ ⟨A.conv .i64 J (@hid _ ⟨fun a1 => A.conv .i64 Q (@hid _ ⟨fun a2 => A.ari .rem .u8 V 4 (@hid _ ⟨fun a3 => A.call 66 [(.i a1), (.i a2), (.i a3)] h (@hid _ ⟨fun a4 a5 => A.unI a4 (@hid _ ⟨fun a6 a7 => A.unI a7 (@hid _ ⟨fun a8 a9 => A.unI a9 (@hid _ ⟨fun b0 b1 => A.un0 b1 (@hid _ ⟨K [(.i a6), (.i a8), (.i b0)] a5⟩)⟩)⟩)⟩)⟩)⟩)⟩)⟩)⟩)⟩)⟩)⟩)
theorem g59 : (fun A : Alg Prop (HL) => p59 A) = fun A => f59 A := by kernel_rfl
theorem h59 (ls : List Lf) (H : HL) (K : List Lf → HL → Prop) : p59 P1 ls H K = aQ P1 (xc 59) ae drN n59 ls H K :=
 congrFun (congrFun (congrFun ((congrFun g59 P1).trans (congrFun (congrFun (congrFun e59 Prop) (HL)) P1)) ls) H) K
theorem u59 {ls : List Lf} {H : HL} {K : List Lf → HL → Prop} (hls : aE ls = true) (h : p59 P1 ls H K) : ∃ rs H', bm cc ae 59 ls (absH ac H) rs (absH ac H') ∧ K rs H' :=
 dI i59 hls (h59 ls H K ▸ h)
theorem q59 {ls rs : List Lf} (hls : aE ls = true) (h : p59 P1 ls [] fun rs' _ => rs' = rs) : Cc 59 ls rs := by
 obtain ⟨_, _, h1, rfl⟩ := u59 hls h
 exact dw dm br (sg := ⟨[.agg [.i .i8, .i .i8, .i .u8]], [.agg [.i .i64, .i .i64, .i .u8]]⟩) rfl (by kernel_rfl) h1
/-- crimp/moves.Identity -/
def p60 (A : Alg Prop (HL)) (ls : List Lf) (h : HL) (K : List Lf → HL → Prop) : Prop := A.un0 ls (@hid _ ⟨K [(.i 0), (.i 0), (.i 0)] h⟩)
theorem g60 : (fun A : Alg Prop (HL) => p60 A) = fun A => f60 A := by kernel_rfl
theorem h60 (ls : List Lf) (H : HL) (K : List Lf → HL → Prop) : p60 P1 ls H K = aQ P1 (xc 60) ae drN n60 ls H K :=
 congrFun (congrFun (congrFun ((congrFun g60 P1).trans (congrFun (congrFun (congrFun e60 Prop) (HL)) P1)) ls) H) K
theorem u60 {ls : List Lf} {H : HL} {K : List Lf → HL → Prop} (hls : aE ls = true) (h : p60 P1 ls H K) : ∃ rs H', bm cc ae 60 ls (absH ac H) rs (absH ac H') ∧ K rs H' :=
 dI i60 hls (h60 ls H K ▸ h)
theorem q60 {ls rs : List Lf} (hls : aE ls = true) (h : p60 P1 ls [] fun rs' _ => rs' = rs) : Cc 60 ls rs := by
 obtain ⟨_, _, h1, rfl⟩ := u60 hls h
 exact dw dm br (sg := ⟨[], [.agg [.i .u8, .i .i64, .i .i64]]⟩) rfl (by kernel_rfl) h1
/-- crimp/moves.Of -/
def p61 (A : Alg Prop (HL)) (ls : List Lf) (h : HL) (K : List Lf → HL → Prop) : Prop := A.unI ls (@hid _ ⟨fun Q U => A.unI U (@hid _ ⟨fun J V => A.un0 V (@hid _ ⟨A.call 74 [(.i Q), (.i J)] h (@hid _ ⟨fun a0 O => A.unI a0 (@hid _ ⟨fun a1 a2 => A.un0 a2 (@hid _ ⟨A.cmp .neq a1 0 (@hid _ ⟨fun a3 => A.cond a3 (@hid _ ⟨K [(.i 0), (.i 0), (.i 0), (.i 1)] O⟩) (@hid _ ⟨A.cmp .eql Q 1 (@hid _ ⟨fun a4 => A.cond a4 (@hid _ ⟨A.ari .mul .i64 2 J (@hid _ ⟨fun a5 => K [(.i 4), (.i a5), (.i 0), (.i 0)] O⟩)⟩) (@hid _ ⟨A.cmp .eql Q 2 (@hid _ ⟨fun a6 => A.cond a6 (@hid _ ⟨A.ari .mul .i64 2 J (@hid _ ⟨fun a7 => K [(.i 6), (.i 0), (.i a7), (.i 0)] O⟩)⟩) (@hid _ ⟨A.cmp .eql Q 3 (@hid _ ⟨fun a8 => A.cond a8 (@hid _ ⟨K [(.i 5), (.i J), (.i J), (.i 0)] O⟩) (@hid _ ⟨A.ari .sub .i64 0 J (@hid _ ⟨fun a9 => K [(.i 7), (.i a9), (.i J), (.i 0)] O⟩)⟩)⟩)⟩)⟩)⟩)⟩)⟩)⟩)⟩)⟩)⟩)⟩)⟩)⟩)
theorem g61 : (fun A : Alg Prop (HL) => p61 A) = fun A => f61 A := by kernel_rfl
theorem h61 (ls : List Lf) (H : HL) (K : List Lf → HL → Prop) : p61 P1 ls H K = aQ P1 (xc 61) ae drN n61 ls H K :=
 congrFun (congrFun (congrFun ((congrFun g61 P1).trans (congrFun (congrFun (congrFun e61 Prop) (HL)) P1)) ls) H) K
theorem u61 {ls : List Lf} {H : HL} {K : List Lf → HL → Prop} (hls : aE ls = true) (h : p61 P1 ls H K) : ∃ rs H', bm cc ae 61 ls (absH ac H) rs (absH ac H') ∧ K rs H' :=
 dI i61 hls (h61 ls H K ▸ h)
theorem q61 {ls rs : List Lf} (hls : aE ls = true) (h : p61 P1 ls [] fun rs' _ => rs' = rs) : Cc 61 ls rs := by
 obtain ⟨_, _, h1, rfl⟩ := u61 hls h
 exact dw dm br (sg := ⟨[.agg [.i .u8, .i .i64]], [.agg [.i .u8, .i .i64, .i .i64], li]⟩) rfl (by kernel_rfl) h1
/-- crimp/moves.Then -/
def p62 (A : Alg Prop (HL)) (ls : List Lf) (h : HL) (K : List Lf → HL → Prop) : Prop := A.unI ls (@hid _ ⟨fun O a3 => A.unI a3 (@hid _ ⟨fun Q a4 => A.unI a4 (@hid _ ⟨fun U a5 => A.unI a5 (@hid _ ⟨fun J a6 => A.unI a6 (@hid _ ⟨fun V a7 => A.unI a7 (@hid _ ⟨fun a0 a8 => A.un0 a8 (@hid _ ⟨A.call 79 [(.i O), (.i Q), (.i U)] h (@hid _ ⟨fun a9 a1 => A.unI a9 (@hid _ ⟨fun b0 b1 => A.un0 b1 (@hid _ ⟨A.cmp .neq b0 0 (@hid _ ⟨fun b2 => A.cond b2 (@hid _ ⟨K [(.i 0), (.i 0), (.i 0), (.i 1)] a1⟩) (@hid _ ⟨A.call 79 [(.i J), (.i V), (.i a0)] a1 (@hid _ ⟨fun b3 a2 => A.unI b3 (@hid _ ⟨fun b4 b5 => A.un0 b5 (@hid _ ⟨A.cmp .neq b4 0 (@hid _ ⟨fun b6 => A.cond b6 (@hid _ ⟨K [(.i 0), (.i 0), (.i 0), (.i 1)] a2⟩) (@hid _ ⟨A.opt (inB 8 J) (@hid _ ⟨fun g9 => A.opt (bo gl1 0 [(J, 4)] 4) (@hid _ ⟨fun b7 => A.ucI .i64 b7 (@hid _ ⟨fun b8 b9 => A.ucI .i64 b9 (@hid _ ⟨fun c0 c1 => A.ucI .i64 c1 (@hid _ ⟨fun d0 d1 => A.ucI .i64 d1 (@hid _ ⟨fun d2 d3 => A.uc0 d3 (@hid _ ⟨A.call 85 [(.i b8), (.i c0), (.i d0), (.i d2), (.i Q), (.i U)] a2 (@hid _ ⟨fun d4 d5 => A.unI d4 (@hid _ ⟨fun n40 d6 => A.unI d6 (@hid _ ⟨fun d7 d8 => A.un0 d8 (@hid _ ⟨A.opt (inB 8 O) (@hid _ ⟨fun h0 => A.opt (bo gl1 0 [(O, 4)] 4) (@hid _ ⟨fun d9 => A.ucI .i64 d9 (@hid _ ⟨fun e0 e1 => A.ucI .i64 e1 (@hid _ ⟨fun n48 e2 => A.ucI .i64 e2 (@hid _ ⟨fun n50 e3 => A.ucI .i64 e3 (@hid _ ⟨fun n52 e4 => A.uc0 e4 (@hid _ ⟨A.opt (inB 8 J) (@hid _ ⟨fun h1 => A.opt (bo gl1 0 [(J, 4)] 4) (@hid _ ⟨fun e5 => A.ucI .i64 e5 (@hid _ ⟨fun e6 e7 => A.ucI .i64 e7 (@hid _ ⟨fun e8 e9 => A.ucI .i64 e9 (@hid _ ⟨fun n60 f0 => A.ucI .i64 f0 (@hid _ ⟨fun n62 f1 => A.uc0 f1 (@hid _ ⟨A.call 88 [(.i e0), (.i n48), (.i n50), (.i n52), (.i e6), (.i e8), (.i n60), (.i n62)] d5 (@hid _ ⟨fun f2 f3 => A.unI f2 (@hid _ ⟨fun n66 f4 => A.unI f4 (@hid _ ⟨fun f5 f6 => A.unI f6 (@hid _ ⟨fun f7 f8 => A.unI f8 (@hid _ ⟨fun f9 gl => A.un0 gl (@hid _ ⟨A.call 87 [(.i n66), (.i f5), (.i f7), (.i f9)] f3 (@hid _ ⟨fun gq gt => A.unI gq (@hid _ ⟨fun g0 g1 => A.un0 g1 (@hid _ ⟨A.ari .add .i64 n40 V (@hid _ ⟨fun n78 => A.ari .add .i64 d7 a0 (@hid _ ⟨fun n79 => A.call 86 [(.i g0), (.i n78), (.i n79)] gt (@hid _ ⟨fun g2 g3 => A.unI g2 (@hid _ ⟨fun n82 g4 => A.unI g4 (@hid _ ⟨fun g5 g6 => A.unI g6 (@hid _ ⟨fun n86 g7 => A.unI g7 (@hid _ ⟨fun n88 g8 => A.un0 g8 (@hid _ ⟨K [(.i n82), (.i g5), (.i n86), (.i n88)] g3⟩)⟩)⟩)⟩)⟩)⟩)⟩)⟩)⟩)⟩)⟩)⟩)⟩)⟩)⟩)⟩)⟩)⟩)⟩)⟩)⟩)⟩)⟩)⟩)⟩)⟩)⟩)⟩)⟩)⟩)⟩)⟩)⟩)⟩)⟩)⟩)⟩)⟩)⟩)⟩)⟩)⟩)⟩)⟩)⟩)⟩)⟩)⟩)⟩)⟩)⟩)⟩)⟩)⟩)⟩)⟩)⟩)⟩)⟩)
theorem g62 : (fun A : Alg Prop (HL) => p62 A) = fun A => f62 A := by kernel_rfl
theorem h62 (ls : List Lf) (H : HL) (K : List Lf → HL → Prop) : p62 P1 ls H K = aQ P1 (xc 62) ae drN n62 ls H K :=
 congrFun (congrFun (congrFun ((congrFun g62 P1).trans (congrFun (congrFun (congrFun e62 Prop) (HL)) P1)) ls) H) K
theorem u62 {ls : List Lf} {H : HL} {K : List Lf → HL → Prop} (hls : aE ls = true) (h : p62 P1 ls H K) : ∃ rs H', bm cc ae 62 ls (absH ac H) rs (absH ac H') ∧ K rs H' :=
 dI i62 hls (h62 ls H K ▸ h)
theorem q62 {ls rs : List Lf} (hls : aE ls = true) (h : p62 P1 ls [] fun rs' _ => rs' = rs) : Cc 62 ls rs := by
 obtain ⟨_, _, h1, rfl⟩ := u62 hls h
 exact dw dm br (sg := ⟨[.agg [.i .u8, .i .i64, .i .i64], .agg [.i .u8, .i .i64, .i .i64]], [.agg [.i .u8, .i .i64, .i .i64], li]⟩) rfl (by kernel_rfl) h1
/-- crimp/moves.Flips -/
def p63 (A : Alg Prop (HL)) (ls : List Lf) (h : HL) (K : List Lf → HL → Prop) : Prop := A.unI ls (@hid _ ⟨fun J U => A.unI U (@hid _ ⟨fun V a0 => A.unI a0 (@hid _ ⟨fun a1 a2 => A.un0 a2 (@hid _ ⟨A.join (@hid _ ⟨fun a3 a4 => A.unB a3 (@hid _ ⟨fun a5 a6 => A.un0 a6 (@hid _ ⟨K [(.b a5)] a4⟩)⟩)⟩) (@hid _ ⟨fun O => A.call 79 [(.i J), (.i V), (.i a1)] h (@hid _ ⟨fun a7 Q => A.unI a7 (@hid _ ⟨fun a8 a9 => A.un0 a9 (@hid _ ⟨A.cmp .eql a8 0 (@hid _ ⟨fun b0 => A.cond b0 (@hid _ ⟨A.cmp .geq J 4 (@hid _ ⟨fun b1 => O [(.b b1)] Q⟩)⟩) (@hid _ ⟨O [(.b false)] Q⟩)⟩)⟩)⟩)⟩)⟩)⟩)⟩)⟩)⟩)
theorem g63 : (fun A : Alg Prop (HL) => p63 A) = fun A => f63 A := by kernel_rfl
theorem h63 (ls : List Lf) (H : HL) (K : List Lf → HL → Prop) : p63 P1 ls H K = aQ P1 (xc 63) ae drN n63 ls H K :=
 congrFun (congrFun (congrFun ((congrFun g63 P1).trans (congrFun (congrFun (congrFun e63 Prop) (HL)) P1)) ls) H) K
theorem u63 {ls : List Lf} {H : HL} {K : List Lf → HL → Prop} (hls : aE ls = true) (h : p63 P1 ls H K) : ∃ rs H', bm cc ae 63 ls (absH ac H) rs (absH ac H') ∧ K rs H' :=
 dI i63 hls (h63 ls H K ▸ h)
theorem q63 {ls rs : List Lf} (hls : aE ls = true) (h : p63 P1 ls [] fun rs' _ => rs' = rs) : Cc 63 ls rs := by
 obtain ⟨_, _, h1, rfl⟩ := u63 hls h
 exact dw dm br (sg := ⟨[.agg [.i .u8, .i .i64, .i .i64]], [lb]⟩) rfl (by kernel_rfl) h1
/-- crimp/crimplaw03.cell -/
def p66 (A : Alg Prop (HL)) (ls : List Lf) (h : HL) (K : List Lf → HL → Prop) : Prop := A.unI ls (@hid _ ⟨fun J O => A.unI O (@hid _ ⟨fun Q U => A.unI U (@hid _ ⟨fun V a0 => A.un0 a0 (@hid _ ⟨K [(.i J), (.i Q), (.i V)] h⟩)⟩)⟩)⟩)
theorem g66 : (fun A : Alg Prop (HL) => p66 A) = fun A => f66 A := by kernel_rfl
theorem h66 (ls : List Lf) (H : HL) (K : List Lf → HL → Prop) : p66 P1 ls H K = aQ P1 (xc 66) ae drN n66 ls H K :=
 congrFun (congrFun (congrFun ((congrFun g66 P1).trans (congrFun (congrFun (congrFun e66 Prop) (HL)) P1)) ls) H) K
theorem u66 {ls : List Lf} {H : HL} {K : List Lf → HL → Prop} (hls : aE ls = true) (h : p66 P1 ls H K) : ∃ rs H', bm cc ae 66 ls (absH ac H) rs (absH ac H') ∧ K rs H' :=
 dI i66 hls (h66 ls H K ▸ h)
theorem q66 {ls rs : List Lf} (hls : aE ls = true) (h : p66 P1 ls [] fun rs' _ => rs' = rs) : Cc 66 ls rs := by
 obtain ⟨_, _, h1, rfl⟩ := u66 hls h
 exact dw dm br (sg := ⟨[li, li, .leaf (.i .u8)], [.agg [.i .i64, .i .i64, .i .u8]]⟩) rfl (by kernel_rfl) h1
/-- crimp/lines.Check -/
def p74 (A : Alg Prop (HL)) (ls : List Lf) (h : HL) (K : List Lf → HL → Prop) : Prop := A.unI ls (@hid _ ⟨fun J Q => A.unI Q (@hid _ ⟨fun O U => A.un0 U (@hid _ ⟨A.cmp .lss J 1 (@hid _ ⟨fun V => A.cond V (@hid _ ⟨K [(.i 1)] h⟩) (@hid _ ⟨A.cmp .gtr J 4 (@hid _ ⟨fun a0 => A.cond a0 (@hid _ ⟨K [(.i 1)] h⟩) (@hid _ ⟨A.cmp .lss O (-4096) (@hid _ ⟨fun a1 => A.cond a1 (@hid _ ⟨K [(.i 1)] h⟩) (@hid _ ⟨A.cmp .gtr O 4096 (@hid _ ⟨fun a2 => A.cond a2 (@hid _ ⟨K [(.i 1)] h⟩) (@hid _ ⟨K [(.i 0)] h⟩)⟩)⟩)⟩)⟩)⟩)⟩)⟩)⟩)⟩)⟩)
theorem g74 : (fun A : Alg Prop (HL) => p74 A) = fun A => f74 A := by kernel_rfl
theorem h74 (ls : List Lf) (H : HL) (K : List Lf → HL → Prop) : p74 P1 ls H K = aQ P1 (xc 74) ae drN n74 ls H K :=
 congrFun (congrFun (congrFun ((congrFun g74 P1).trans (congrFun (congrFun (congrFun e74 Prop) (HL)) P1)) ls) H) K
theorem u74 {ls : List Lf} {H : HL} {K : List Lf → HL → Prop} (hls : aE ls = true) (h : p74 P1 ls H K) : ∃ rs H', bm cc ae 74 ls (absH ac H) rs (absH ac H') ∧ K rs H' :=
 dI i74 hls (h74 ls H K ▸ h)
theorem q74 {ls rs : List Lf} (hls : aE ls = true) (h : p74 P1 ls [] fun rs' _ => rs' = rs) : Cc 74 ls rs := by
 obtain ⟨_, _, h1, rfl⟩ := u74 hls h
 exact dw dm br (sg := ⟨[.agg [.i .u8, .i .i64]], [li]⟩) rfl (by kernel_rfl) h1
/-- crimp/moves.Check -/
def p79 (A : Alg Prop (HL)) (ls : List Lf) (h : HL) (K : List Lf → HL → Prop) : Prop := A.unI ls (@hid _ ⟨fun U V => A.unI V (@hid _ ⟨fun O a0 => A.unI a0 (@hid _ ⟨fun Q a1 => A.un0 a1 (@hid _ ⟨A.conv .i64 U (@hid _ ⟨fun a2 => A.cmp .geq a2 8 (@hid _ ⟨fun a3 => A.cond a3 (@hid _ ⟨K [(.i 1)] h⟩) (@hid _ ⟨A.call 92 [(.i O)] h (@hid _ ⟨fun a4 h15 => A.unB a4 (@hid _ ⟨fun a5 a6 => A.un0 a6 (@hid _ ⟨A.cond a5 (@hid _ ⟨K [(.i 1)] h15⟩) (@hid _ ⟨A.call 92 [(.i Q)] h15 (@hid _ ⟨fun a7 J => A.unB a7 (@hid _ ⟨fun a8 a9 => A.un0 a9 (@hid _ ⟨A.cond a8 (@hid _ ⟨K [(.i 1)] J⟩) (@hid _ ⟨A.ari .add .i64 O Q (@hid _ ⟨fun b0 => A.ari .rem .i64 b0 2 (@hid _ ⟨fun b1 => A.cmp .neq b1 0 (@hid _ ⟨fun b2 => A.cond b2 (@hid _ ⟨K [(.i 1)] J⟩) (@hid _ ⟨K [(.i 0)] J⟩)⟩)⟩)⟩)⟩)⟩)⟩)⟩)⟩)⟩)⟩)⟩)⟩)⟩)⟩)⟩)⟩)⟩)⟩)
theorem g79 : (fun A : Alg Prop (HL) => p79 A) = fun A => f79 A := by kernel_rfl
theorem h79 (ls : List Lf) (H : HL) (K : List Lf → HL → Prop) : p79 P1 ls H K = aQ P1 (xc 79) ae drN n79 ls H K :=
 congrFun (congrFun (congrFun ((congrFun g79 P1).trans (congrFun (congrFun (congrFun e79 Prop) (HL)) P1)) ls) H) K
theorem u79 {ls : List Lf} {H : HL} {K : List Lf → HL → Prop} (hls : aE ls = true) (h : p79 P1 ls H K) : ∃ rs H', bm cc ae 79 ls (absH ac H) rs (absH ac H') ∧ K rs H' :=
 dI i79 hls (h79 ls H K ▸ h)
theorem q79 {ls rs : List Lf} (hls : aE ls = true) (h : p79 P1 ls [] fun rs' _ => rs' = rs) : Cc 79 ls rs := by
 obtain ⟨_, _, h1, rfl⟩ := u79 hls h
 exact dw dm br (sg := ⟨[.agg [.i .u8, .i .i64, .i .i64]], [li]⟩) rfl (by kernel_rfl) h1
/-- crimp/cells.moved -/
def p80 (A : Alg Prop (HL)) (ls : List Lf) (h : HL) (K : List Lf → HL → Prop) : Prop := A.unI ls (@hid _ ⟨fun U a2 => A.unI a2 (@hid _ ⟨fun a3 a4 => A.unI a4 (@hid _ ⟨fun a5 a6 => A.unI a6 (@hid _ ⟨fun a7 a8 => A.unI a8 (@hid _ ⟨fun a9 b0 => A.unI b0 (@hid _ ⟨fun J b1 => A.un0 b1 (@hid _ ⟨A.call 82 [(.i a7), (.i a9), (.i J)] h (@hid _ ⟨fun b2 b3 => A.unI b2 (@hid _ ⟨fun b4 b5 => A.unI b5 (@hid _ ⟨fun b6 b7 => A.un0 b7 (@hid _ ⟨A.opt (inB 4 J) (@hid _ ⟨fun h7 => A.opt (bo gl0 0 [(J, 17)] 2) (@hid _ ⟨fun b8 => A.ucI .i64 b8 (@hid _ ⟨fun b9 c0 => A.ucI .i64 c0 (@hid _ ⟨fun c1 d0 => A.uc0 d0 (@hid _ ⟨A.call 83 [(.i U), (.i a3), (.i a5), (.i b4), (.i b6)] b3 (@hid _ ⟨fun d1 d2 => A.unI d1 (@hid _ ⟨fun V d3 => A.unI d3 (@hid _ ⟨fun a0 d4 => A.unI d4 (@hid _ ⟨fun h8 d5 => A.un0 d5 (@hid _ ⟨A.call 83 [(.i U), (.i 0), (.i 0), (.i b9), (.i c1)] d2 (@hid _ ⟨fun d6 d7 => A.unI d6 (@hid _ ⟨fun n40 d8 => A.unI d8 (@hid _ ⟨fun d9 e0 => A.unI e0 (@hid _ ⟨fun n44 e1 => A.un0 e1 (@hid _ ⟨A.ari .and .i64 V 1 (@hid _ ⟨fun e2 => A.ari .sub .i64 V e2 (@hid _ ⟨fun n47 => A.ari .quo .i64 n47 2 (@hid _ ⟨fun n48 => A.ari .and .i64 a0 1 (@hid _ ⟨fun e3 => A.ari .sub .i64 a0 e3 (@hid _ ⟨fun n50 => A.ari .quo .i64 n50 2 (@hid _ ⟨fun e4 => A.loop (@hid _ ⟨fun e5 e6 O => A.unI e6 (@hid _ ⟨fun n55 e7 => A.unI e7 (@hid _ ⟨fun Q e8 => A.unI e8 (@hid _ ⟨fun n59 e9 => A.unI e9 (@hid _ ⟨fun n61 f0 => A.un0 f0 (@hid _ ⟨A.cmp .lss n55 4 (@hid _ ⟨fun f1 => A.cond f1 (@hid _ ⟨A.opt (inB 4 n55) (@hid _ ⟨fun h9 => A.opt (aW [(.i 0), (.i (-1)), (.i 2), (.i 0), (.i 0), (.i (-1)), (.i 2), (.i 0), (.i 0), (.i 1), (.i 0), (.i 0), (.i 3), (.i 0), (.i 0), (.i 2), (.i 0), (.i 1), (.i 0), (.i 1), (.i 1), (.i 1), (.i 0), (.i 3), (.i 0), (.i 0), (.i 0), (.i 0), (.i 0), (.i 2), (.i 2), (.i 2), (.i 2), (.i 0), (.i 0), (.i 1), (.i 2), (.i 1), (.i 0), (.i 1), (.i 0), (.i 0), (.i 0), (.i 3), (.i 0), (.i 0), (.i 1), (.i 2), (.i 2), (.i 0), (.i 2), (.i (-1)), (.i 0), (.i 1), (.i 0), (.i (-1)), (.i 0), (.i 1), (.i 0), (.i 0), (.i 2), (.i 0), (.i 0), (.i 0), (.i 0), (.i 0), (.i 0), (.i 2)] 0 [(n55, 17)] 17) (@hid _ ⟨fun f2 => A.unI f2 (@hid _ ⟨fun n66 f3 => A.unI f3 (@hid _ ⟨fun f4 f5 => A.unI f5 (@hid _ ⟨fun i0 f6 => A.unI f6 (@hid _ ⟨fun i1 f7 => A.unI f7 (@hid _ ⟨fun n74 f8 => A.unI f8 (@hid _ ⟨fun i2 f9 => A.unI f9 (@hid _ ⟨fun n78 gl => A.unI gl (@hid _ ⟨fun n80 gq => A.unI gq (@hid _ ⟨fun n82 gt => A.unI gt (@hid _ ⟨fun i3 g0 => A.unI g0 (@hid _ ⟨fun n86 g1 => A.unI g1 (@hid _ ⟨fun n88 g2 => A.unI g2 (@hid _ ⟨fun n90 g3 => A.unI g3 (@hid _ ⟨fun n92 g4 => A.unI g4 (@hid _ ⟨fun n94 g5 => A.unI g5 (@hid _ ⟨fun n96 g6 => A.unI g6 (@hid _ ⟨fun n98 g7 => A.un0 g7 (@hid _ ⟨A.eqs [((.i n66), (.i n40)), ((.i f4), (.i d9))] (@hid _ ⟨fun g8 => A.join (@hid _ ⟨fun g9 h0 => A.unI g9 (@hid _ ⟨fun n103 h1 => A.unI h1 (@hid _ ⟨fun n105 h2 => A.unI h2 (@hid _ ⟨fun h3 h4 => A.un0 h4 (@hid _ ⟨A.ari .add .i64 n55 1 (@hid _ ⟨fun h5 => e5 [(.i h5), (.i n103), (.i n105), (.i h3)] h0⟩)⟩)⟩)⟩)⟩)⟩) (@hid _ ⟨fun a1 => A.cond g8 (@hid _ ⟨A.conv .u8 n55 (@hid _ ⟨fun h6 => a1 [(.i Q), (.i n59), (.i h6)] O⟩)⟩) (@hid _ ⟨a1 [(.i Q), (.i n59), (.i n61)] O⟩)⟩)⟩)⟩)⟩)⟩)⟩)⟩)⟩)⟩)⟩)⟩)⟩)⟩)⟩)⟩)⟩)⟩)⟩)⟩)⟩)⟩)⟩)⟩) (@hid _ ⟨K [(.i Q), (.i n59), (.i n61)] O⟩)⟩)⟩)⟩)⟩)⟩)⟩)⟩) [(.i 0), (.i n48), (.i e4), (.i 0)] d7⟩)⟩)⟩)⟩)⟩)⟩)⟩)⟩)⟩)⟩)⟩)⟩)⟩)⟩)⟩)⟩)⟩)⟩)⟩)⟩)⟩)⟩)⟩)⟩)⟩)⟩)⟩)⟩)⟩)⟩)⟩)⟩)
theorem g80 : (fun A : Alg Prop (HL) => p80 A) = fun A => f80 A := by kernel_rfl
theorem h80 (ls : List Lf) (H : HL) (K : List Lf → HL → Prop) : p80 P1 ls H K = aQ P1 (xc 80) ae drN n80 ls H K :=
 congrFun (congrFun (congrFun ((congrFun g80 P1).trans (congrFun (congrFun (congrFun e80 Prop) (HL)) P1)) ls) H) K
theorem u80 {ls : List Lf} {H : HL} {K : List Lf → HL → Prop} (hls : aE ls = true) (h : p80 P1 ls H K) : ∃ rs H', bm cc ae 80 ls (absH ac H) rs (absH ac H') ∧ K rs H' :=
 dI i80 hls (h80 ls H K ▸ h)
theorem q80 {ls rs : List Lf} (hls : aE ls = true) (h : p80 P1 ls [] fun rs' _ => rs' = rs) : Cc 80 ls rs := by
 obtain ⟨_, _, h1, rfl⟩ := u80 hls h
 exact dw dm br (sg := ⟨[.agg [.i .u8, .i .i64, .i .i64], .agg [.i .i64, .i .i64, .i .u8]], [.agg [.i .i64, .i .i64, .i .u8]]⟩) rfl (by kernel_rfl) h1
/-- crimp/cells.middle -/
def p82 (A : Alg Prop (HL)) (ls : List Lf) (h : HL) (K : List Lf → HL → Prop) : Prop := A.unI ls (@hid _ ⟨fun J O => A.unI O (@hid _ ⟨fun Q U => A.unI U (@hid _ ⟨fun a3 V => A.un0 V (@hid _ ⟨A.ari .mul .i64 2 J (@hid _ ⟨fun a0 => A.ari .add .i64 a0 1 (@hid _ ⟨fun a1 => A.ari .mul .i64 2 Q (@hid _ ⟨fun a2 => A.ari .add .i64 a2 1 (@hid _ ⟨fun n15 => K [(.i a1), (.i n15)] h⟩)⟩)⟩)⟩)⟩)⟩)⟩)⟩)
theorem g82 : (fun A : Alg Prop (HL) => p82 A) = fun A => f82 A := by kernel_rfl
theorem h82 (ls : List Lf) (H : HL) (K : List Lf → HL → Prop) : p82 P1 ls H K = aQ P1 (xc 82) ae drN n82 ls H K :=
 congrFun (congrFun (congrFun ((congrFun g82 P1).trans (congrFun (congrFun (congrFun e82 Prop) (HL)) P1)) ls) H) K
theorem u82 {ls : List Lf} {H : HL} {K : List Lf → HL → Prop} (hls : aE ls = true) (h : p82 P1 ls H K) : ∃ rs H', bm cc ae 82 ls (absH ac H) rs (absH ac H') ∧ K rs H' :=
 dI i82 hls (h82 ls H K ▸ h)
theorem q82 {ls rs : List Lf} (hls : aE ls = true) (h : p82 P1 ls [] fun rs' _ => rs' = rs) : Cc 82 ls rs := by
 obtain ⟨_, _, h1, rfl⟩ := u82 hls h
 exact dw dm br (sg := ⟨[.agg [.i .i64, .i .i64, .i .u8]], [.agg [.i .i64, .i .i64]]⟩) rfl (by kernel_rfl) h1
/-- crimp/moves.Point -/
def p83 (A : Alg Prop (HL)) (ls : List Lf) (h : HL) (K : List Lf → HL → Prop) : Prop := A.unI ls (@hid _ ⟨fun J a3 => A.unI a3 (@hid _ ⟨fun O a4 => A.unI a4 (@hid _ ⟨fun Q a5 => A.unI a5 (@hid _ ⟨fun U a6 => A.unI a6 (@hid _ ⟨fun V a7 => A.un0 a7 (@hid _ ⟨A.call 79 [(.i J), (.i O), (.i Q)] h (@hid _ ⟨fun a8 a0 => A.unI a8 (@hid _ ⟨fun a9 b0 => A.un0 b0 (@hid _ ⟨A.cmp .neq a9 0 (@hid _ ⟨fun b1 => A.cond b1 (@hid _ ⟨K [(.i 0), (.i 0), (.i 1)] a0⟩) (@hid _ ⟨A.call 90 [(.i U), (.i V)] a0 (@hid _ ⟨fun b2 a1 => A.unI b2 (@hid _ ⟨fun b3 b4 => A.un0 b4 (@hid _ ⟨A.cmp .neq b3 0 (@hid _ ⟨fun b5 => A.cond b5 (@hid _ ⟨K [(.i 0), (.i 0), (.i 1)] a1⟩) (@hid _ ⟨A.opt (inB 8 J) (@hid _ ⟨fun e2 => A.opt (bo gl1 0 [(J, 4)] 4) (@hid _ ⟨fun b6 => A.ucI .i64 b6 (@hid _ ⟨fun b7 b8 => A.ucI .i64 b8 (@hid _ ⟨fun b9 c0 => A.ucI .i64 c0 (@hid _ ⟨fun c1 d0 => A.ucI .i64 d0 (@hid _ ⟨fun d1 d2 => A.uc0 d2 (@hid _ ⟨A.call 85 [(.i b7), (.i b9), (.i c1), (.i d1), (.i U), (.i V)] a1 (@hid _ ⟨fun d3 d4 => A.unI d3 (@hid _ ⟨fun d5 d6 => A.unI d6 (@hid _ ⟨fun n40 d7 => A.un0 d7 (@hid _ ⟨A.ari .mul .i64 2 O (@hid _ ⟨fun d8 => A.ari .add .i64 d5 d8 (@hid _ ⟨fun n43 => A.ari .mul .i64 2 Q (@hid _ ⟨fun n44 => A.ari .add .i64 n40 n44 (@hid _ ⟨fun a2 => A.call 90 [(.i n43), (.i a2)] d4 (@hid _ ⟨fun d9 h47 => A.unI d9 (@hid _ ⟨fun n48 e0 => A.un0 e0 (@hid _ ⟨A.cmp .neq n48 0 (@hid _ ⟨fun e1 => A.cond e1 (@hid _ ⟨K [(.i 0), (.i 0), (.i 3)] h47⟩) (@hid _ ⟨K [(.i n43), (.i a2), (.i 0)] h47⟩)⟩)⟩)⟩)⟩)⟩)⟩)⟩)⟩)⟩)⟩)⟩)⟩)⟩)⟩)⟩)⟩)⟩)⟩)⟩)⟩)⟩)⟩)⟩)⟩)⟩)⟩)⟩)⟩)⟩)⟩)⟩)⟩)⟩)⟩)⟩)
theorem g83 : (fun A : Alg Prop (HL) => p83 A) = fun A => f83 A := by kernel_rfl
theorem h83 (ls : List Lf) (H : HL) (K : List Lf → HL → Prop) : p83 P1 ls H K = aQ P1 (xc 83) ae drN n83 ls H K :=
 congrFun (congrFun (congrFun ((congrFun g83 P1).trans (congrFun (congrFun (congrFun e83 Prop) (HL)) P1)) ls) H) K
theorem u83 {ls : List Lf} {H : HL} {K : List Lf → HL → Prop} (hls : aE ls = true) (h : p83 P1 ls H K) : ∃ rs H', bm cc ae 83 ls (absH ac H) rs (absH ac H') ∧ K rs H' :=
 dI i83 hls (h83 ls H K ▸ h)
theorem q83 {ls rs : List Lf} (hls : aE ls = true) (h : p83 P1 ls [] fun rs' _ => rs' = rs) : Cc 83 ls rs := by
 obtain ⟨_, _, h1, rfl⟩ := u83 hls h
 exact dw dm br (sg := ⟨[.agg [.i .u8, .i .i64, .i .i64], .agg [.i .i64, .i .i64]], [.agg [.i .i64, .i .i64], li]⟩) rfl (by kernel_rfl) h1
/-- (crimp/moves.matrix).of -/
def p85 (A : Alg Prop (HL)) (ls : List Lf) (h : HL) (K : List Lf → HL → Prop) : Prop := A.unI ls (@hid _ ⟨fun Q U => A.unI U (@hid _ ⟨fun V a0 => A.unI a0 (@hid _ ⟨fun a1 a2 => A.unI a2 (@hid _ ⟨fun a3 a4 => A.unI a4 (@hid _ ⟨fun J a5 => A.unI a5 (@hid _ ⟨fun O a6 => A.un0 a6 (@hid _ ⟨A.ari .mul .i64 Q J (@hid _ ⟨fun a7 => A.ari .mul .i64 V O (@hid _ ⟨fun a8 => A.ari .add .i64 a7 a8 (@hid _ ⟨fun a9 => A.ari .mul .i64 a1 J (@hid _ ⟨fun b0 => A.ari .mul .i64 a3 O (@hid _ ⟨fun b1 => A.ari .add .i64 b0 b1 (@hid _ ⟨fun b2 => K [(.i a9), (.i b2)] h⟩)⟩)⟩)⟩)⟩)⟩)⟩)⟩)⟩)⟩)⟩)⟩)⟩)
theorem g85 : (fun A : Alg Prop (HL) => p85 A) = fun A => f85 A := by kernel_rfl
theorem h85 (ls : List Lf) (H : HL) (K : List Lf → HL → Prop) : p85 P1 ls H K = aQ P1 (xc 85) ae drN n85 ls H K :=
 congrFun (congrFun (congrFun ((congrFun g85 P1).trans (congrFun (congrFun (congrFun e85 Prop) (HL)) P1)) ls) H) K
theorem u85 {ls : List Lf} {H : HL} {K : List Lf → HL → Prop} (hls : aE ls = true) (h : p85 P1 ls H K) : ∃ rs H', bm cc ae 85 ls (absH ac H) rs (absH ac H') ∧ K rs H' :=
 dI i85 hls (h85 ls H K ▸ h)
theorem q85 {ls rs : List Lf} (hls : aE ls = true) (h : p85 P1 ls [] fun rs' _ => rs' = rs) : Cc 85 ls rs := by
 obtain ⟨_, _, h1, rfl⟩ := u85 hls h
 exact dw dm br (sg := ⟨[.agg [.i .i64, .i .i64, .i .i64, .i .i64], li, li], [li, li]⟩) rfl (by kernel_rfl) h1
/-- crimp/moves.limited -/
def p86 (A : Alg Prop (HL)) (ls : List Lf) (h : HL) (K : List Lf → HL → Prop) : Prop := A.unI ls (@hid _ ⟨fun J V => A.unI V (@hid _ ⟨fun O a0 => A.unI a0 (@hid _ ⟨fun Q a1 => A.un0 a1 (@hid _ ⟨A.call 79 [(.i J), (.i O), (.i Q)] h (@hid _ ⟨fun a2 U => A.unI a2 (@hid _ ⟨fun a3 a4 => A.un0 a4 (@hid _ ⟨A.cmp .neq a3 0 (@hid _ ⟨fun a5 => A.cond a5 (@hid _ ⟨K [(.i 0), (.i 0), (.i 0), (.i 3)] U⟩) (@hid _ ⟨K [(.i J), (.i O), (.i Q), (.i 0)] U⟩)⟩)⟩)⟩)⟩)⟩)⟩)⟩)⟩)
theorem g86 : (fun A : Alg Prop (HL) => p86 A) = fun A => f86 A := by kernel_rfl
theorem h86 (ls : List Lf) (H : HL) (K : List Lf → HL → Prop) : p86 P1 ls H K = aQ P1 (xc 86) ae drN n86 ls H K :=
 congrFun (congrFun (congrFun ((congrFun g86 P1).trans (congrFun (congrFun (congrFun e86 Prop) (HL)) P1)) ls) H) K
theorem u86 {ls : List Lf} {H : HL} {K : List Lf → HL → Prop} (hls : aE ls = true) (h : p86 P1 ls H K) : ∃ rs H', bm cc ae 86 ls (absH ac H) rs (absH ac H') ∧ K rs H' :=
 dI i86 hls (h86 ls H K ▸ h)
theorem q86 {ls rs : List Lf} (hls : aE ls = true) (h : p86 P1 ls [] fun rs' _ => rs' = rs) : Cc 86 ls rs := by
 obtain ⟨_, _, h1, rfl⟩ := u86 hls h
 exact dw dm br (sg := ⟨[.agg [.i .u8, .i .i64, .i .i64]], [.agg [.i .u8, .i .i64, .i .i64], li]⟩) rfl (by kernel_rfl) h1
/-- crimp/moves.number -/
def p87 (A : Alg Prop (HL)) (ls : List Lf) (h : HL) (K : List Lf → HL → Prop) : Prop := A.unI ls (@hid _ ⟨fun Q U => A.unI U (@hid _ ⟨fun V a0 => A.unI a0 (@hid _ ⟨fun a1 a2 => A.unI a2 (@hid _ ⟨fun a3 a4 => A.un0 a4 (@hid _ ⟨A.loop (@hid _ ⟨fun a5 a6 O => A.unI a6 (@hid _ ⟨fun J a7 => A.un0 a7 (@hid _ ⟨A.cmp .lss J 8 (@hid _ ⟨fun a8 => A.cond a8 (@hid _ ⟨A.opt (inB 8 J) (@hid _ ⟨fun c1 => A.opt (aW [(.i 1), (.i 0), (.i 0), (.i 1), (.i 0), (.i (-1)), (.i 1), (.i 0), (.i (-1)), (.i 0), (.i 0), (.i (-1)), (.i 0), (.i 1), (.i (-1)), (.i 0), (.i (-1)), (.i 0), (.i 0), (.i 1), (.i 0), (.i (-1)), (.i (-1)), (.i 0), (.i 1), (.i 0), (.i 0), (.i (-1)), (.i 0), (.i 1), (.i 1), (.i 0)] 0 [(J, 4)] 4) (@hid _ ⟨fun a9 => A.unI a9 (@hid _ ⟨fun b0 b1 => A.unI b1 (@hid _ ⟨fun b2 b3 => A.unI b3 (@hid _ ⟨fun b4 b5 => A.unI b5 (@hid _ ⟨fun b6 b7 => A.un0 b7 (@hid _ ⟨A.eqs [((.i b0), (.i Q)), ((.i b2), (.i V)), ((.i b4), (.i a1)), ((.i b6), (.i a3))] (@hid _ ⟨fun b8 => A.cond b8 (@hid _ ⟨A.conv .u8 J (@hid _ ⟨fun b9 => K [(.i b9)] O⟩)⟩) (@hid _ ⟨A.ari .add .i64 J 1 (@hid _ ⟨fun c0 => a5 [(.i c0)] O⟩)⟩)⟩)⟩)⟩)⟩)⟩)⟩)⟩)⟩)⟩) (@hid _ ⟨K [(.i 0)] O⟩)⟩)⟩)⟩)⟩) [(.i 0)] h⟩)⟩)⟩)⟩)⟩)
theorem g87 : (fun A : Alg Prop (HL) => p87 A) = fun A => f87 A := by kernel_rfl
theorem h87 (ls : List Lf) (H : HL) (K : List Lf → HL → Prop) : p87 P1 ls H K = aQ P1 (xc 87) ae drN n87 ls H K :=
 congrFun (congrFun (congrFun ((congrFun g87 P1).trans (congrFun (congrFun (congrFun e87 Prop) (HL)) P1)) ls) H) K
theorem u87 {ls : List Lf} {H : HL} {K : List Lf → HL → Prop} (hls : aE ls = true) (h : p87 P1 ls H K) : ∃ rs H', bm cc ae 87 ls (absH ac H) rs (absH ac H') ∧ K rs H' :=
 dI i87 hls (h87 ls H K ▸ h)
theorem q87 {ls rs : List Lf} (hls : aE ls = true) (h : p87 P1 ls [] fun rs' _ => rs' = rs) : Cc 87 ls rs := by
 obtain ⟨_, _, h1, rfl⟩ := u87 hls h
 exact dw dm br (sg := ⟨[.agg [.i .i64, .i .i64, .i .i64, .i .i64]], [.leaf (.i .u8)]⟩) rfl (by kernel_rfl) h1
/-- (crimp/moves.matrix).then -/
def p88 (A : Alg Prop (HL)) (ls : List Lf) (h : HL) (K : List Lf → HL → Prop) : Prop := A.unI ls (@hid _ ⟨fun V a0 => A.unI a0 (@hid _ ⟨fun a1 a2 => A.unI a2 (@hid _ ⟨fun a3 a4 => A.unI a4 (@hid _ ⟨fun a5 a6 => A.unI a6 (@hid _ ⟨fun J a7 => A.unI a7 (@hid _ ⟨fun O a8 => A.unI a8 (@hid _ ⟨fun Q a9 => A.unI a9 (@hid _ ⟨fun U b0 => A.un0 b0 (@hid _ ⟨A.call 85 [(.i J), (.i O), (.i Q), (.i U), (.i V), (.i a3)] h (@hid _ ⟨fun b1 b2 => A.unI b1 (@hid _ ⟨fun b3 b4 => A.unI b4 (@hid _ ⟨fun b5 b6 => A.un0 b6 (@hid _ ⟨A.call 85 [(.i J), (.i O), (.i Q), (.i U), (.i a1), (.i a5)] b2 (@hid _ ⟨fun b7 b8 => A.unI b7 (@hid _ ⟨fun b9 c0 => A.unI c0 (@hid _ ⟨fun c1 d0 => A.un0 d0 (@hid _ ⟨K [(.i b3), (.i b9), (.i b5), (.i c1)] b8⟩)⟩)⟩)⟩)⟩)⟩)⟩)⟩)⟩)⟩)⟩)⟩)⟩)⟩)⟩)⟩)⟩)
theorem g88 : (fun A : Alg Prop (HL) => p88 A) = fun A => f88 A := by kernel_rfl
theorem h88 (ls : List Lf) (H : HL) (K : List Lf → HL → Prop) : p88 P1 ls H K = aQ P1 (xc 88) ae drN n88 ls H K :=
 congrFun (congrFun (congrFun ((congrFun g88 P1).trans (congrFun (congrFun (congrFun e88 Prop) (HL)) P1)) ls) H) K
theorem u88 {ls : List Lf} {H : HL} {K : List Lf → HL → Prop} (hls : aE ls = true) (h : p88 P1 ls H K) : ∃ rs H', bm cc ae 88 ls (absH ac H) rs (absH ac H') ∧ K rs H' :=
 dI i88 hls (h88 ls H K ▸ h)
theorem q88 {ls rs : List Lf} (hls : aE ls = true) (h : p88 P1 ls [] fun rs' _ => rs' = rs) : Cc 88 ls rs := by
 obtain ⟨_, _, h1, rfl⟩ := u88 hls h
 exact dw dm br (sg := ⟨[.agg [.i .i64, .i .i64, .i .i64, .i .i64], .agg [.i .i64, .i .i64, .i .i64, .i .i64]], [.agg [.i .i64, .i .i64, .i .i64, .i .i64]]⟩) rfl (by kernel_rfl) h1
/-- crimp/lines.CheckPoint -/
def p90 (A : Alg Prop (HL)) (ls : List Lf) (h : HL) (K : List Lf → HL → Prop) : Prop := A.unI ls (@hid _ ⟨fun J Q => A.unI Q (@hid _ ⟨fun O U => A.un0 U (@hid _ ⟨A.cmp .lss J (-65536) (@hid _ ⟨fun V => A.cond V (@hid _ ⟨K [(.i 1)] h⟩) (@hid _ ⟨A.cmp .gtr J 65536 (@hid _ ⟨fun a0 => A.cond a0 (@hid _ ⟨K [(.i 1)] h⟩) (@hid _ ⟨A.cmp .lss O (-65536) (@hid _ ⟨fun a1 => A.cond a1 (@hid _ ⟨K [(.i 1)] h⟩) (@hid _ ⟨A.cmp .gtr O 65536 (@hid _ ⟨fun a2 => A.cond a2 (@hid _ ⟨K [(.i 1)] h⟩) (@hid _ ⟨K [(.i 0)] h⟩)⟩)⟩)⟩)⟩)⟩)⟩)⟩)⟩)⟩)⟩)
theorem g90 : (fun A : Alg Prop (HL) => p90 A) = fun A => f90 A := by kernel_rfl
theorem h90 (ls : List Lf) (H : HL) (K : List Lf → HL → Prop) : p90 P1 ls H K = aQ P1 (xc 90) ae drN n90 ls H K :=
 congrFun (congrFun (congrFun ((congrFun g90 P1).trans (congrFun (congrFun (congrFun e90 Prop) (HL)) P1)) ls) H) K
theorem u90 {ls : List Lf} {H : HL} {K : List Lf → HL → Prop} (hls : aE ls = true) (h : p90 P1 ls H K) : ∃ rs H', bm cc ae 90 ls (absH ac H) rs (absH ac H') ∧ K rs H' :=
 dI i90 hls (h90 ls H K ▸ h)
theorem q90 {ls rs : List Lf} (hls : aE ls = true) (h : p90 P1 ls [] fun rs' _ => rs' = rs) : Cc 90 ls rs := by
 obtain ⟨_, _, h1, rfl⟩ := u90 hls h
 exact dw dm br (sg := ⟨[.agg [.i .i64, .i .i64]], [li]⟩) rfl (by kernel_rfl) h1
/-- crimp/moves.beyond -/
def p92 (A : Alg Prop (HL)) (ls : List Lf) (h : HL) (K : List Lf → HL → Prop) : Prop := A.unI ls (@hid _ ⟨fun J Q => A.un0 Q (@hid _ ⟨A.join (@hid _ ⟨fun U V => A.unB U (@hid _ ⟨fun a0 a1 => A.un0 a1 (@hid _ ⟨K [(.b a0)] V⟩)⟩)⟩) (@hid _ ⟨fun O => A.cmp .lss J (-16384) (@hid _ ⟨fun a2 => A.cond a2 (@hid _ ⟨O [(.b true)] h⟩) (@hid _ ⟨A.cmp .gtr J 16384 (@hid _ ⟨fun a3 => O [(.b a3)] h⟩)⟩)⟩)⟩)⟩)⟩)
theorem g92 : (fun A : Alg Prop (HL) => p92 A) = fun A => f92 A := by kernel_rfl
theorem h92 (ls : List Lf) (H : HL) (K : List Lf → HL → Prop) : p92 P1 ls H K = aQ P1 (xc 92) ae drN n92 ls H K :=
 congrFun (congrFun (congrFun ((congrFun g92 P1).trans (congrFun (congrFun (congrFun e92 Prop) (HL)) P1)) ls) H) K
theorem u92 {ls : List Lf} {H : HL} {K : List Lf → HL → Prop} (hls : aE ls = true) (h : p92 P1 ls H K) : ∃ rs H', bm cc ae 92 ls (absH ac H) rs (absH ac H') ∧ K rs H' :=
 dI i92 hls (h92 ls H K ▸ h)
theorem q92 {ls rs : List Lf} (hls : aE ls = true) (h : p92 P1 ls [] fun rs' _ => rs' = rs) : Cc 92 ls rs := by
 obtain ⟨_, _, h1, rfl⟩ := u92 hls h
 exact dw dm br (sg := ⟨[li], [lb]⟩) rfl (by kernel_rfl) h1
end Go.Am

/-
 CONTRACTS, BY PROGRAM: checks, far, mirror images, corners.
-/
set_option maxRecDepth 100000
namespace Go.Am
open Sx Go.Proofs
theorem ai {x y q : Int} (h : ¬ (x < -4096) ∧ ¬ (4096 < x) ∧ ¬ (y < -4096) ∧ ¬ (4096 < y) ∧ ¬ (3 < q)) : Cc 43 [.i x, .i y, .i q] [.i 0] := by
 refine q43 rfl ?_; unfold p43
 simp (disch := omega) only [↓qxs, ↓qxc, ↓qxa]
theorem aD {k c : Int} (h : ¬ (k < 1) ∧ ¬ (4 < k) ∧ ¬ (c < -4096) ∧ ¬ (4096 < c)) : Cc 74 [.i k, .i c] [.i 0] := by
 refine q74 rfl ?_; unfold p74
 simp (disch := omega) only [↓qxs, ↓qxc, ↓qxa]
theorem bz {x y : Int} (h : ¬ (x < -65536) ∧ ¬ (65536 < x) ∧ ¬ (y < -65536) ∧ ¬ (65536 < y)) : Cc 90 [.i x, .i y] [.i 0] := by
 refine q90 rfl ?_; unfold p90
 simp (disch := omega) only [↓qxs, ↓qxc, ↓qxa]
end Go.Am
/-
 CONTRACTS, BY PROGRAM: neighbours, corners, lines of cells.
-/
set_option maxRecDepth 100000
namespace Go.Am
open Sx Go.Proofs
theorem gq0 : bo gl0 0 [(0, 17)] 17 = some [.int .i64 0, .int .i64 (-1), .int .u8 2, .int .i64 0, .int .i64 0, .int .i64 (-1), .int .u8 2, .int .i64 0, .int .i64 0, .int .u8 1, .int .i64 0, .int .i64 0, .int .u8 3, .int .i64 0, .int .i64 0, .int .i64 2, .int .i64 0] := by kernel_rfl
theorem gs0 : bo gl0 0 [(0, 17)] 2 = some [.int .i64 0, .int .i64 (-1)] := by kernel_rfl
theorem gn00 : bo gl0 4 [(0, 17), (0, 3)] 3 = some [.int .i64 0, .int .i64 (-1), .int .u8 2] := by kernel_rfl
theorem gn01 : bo gl0 4 [(0, 17), (1, 3)] 3 = some [.int .i64 0, .int .i64 0, .int .u8 1] := by kernel_rfl
theorem gn02 : bo gl0 4 [(0, 17), (2, 3)] 3 = some [.int .i64 0, .int .i64 0, .int .u8 3] := by kernel_rfl
theorem gq1 : bo gl0 0 [(1, 17)] 17 = some [.int .i64 1, .int .i64 0, .int .u8 1, .int .i64 1, .int .i64 1, .int .i64 0, .int .u8 3, .int .i64 0, .int .i64 0, .int .u8 0, .int .i64 0, .int .i64 0, .int .u8 2, .int .i64 2, .int .i64 2, .int .i64 2, .int .i64 0] := by kernel_rfl
theorem gs1 : bo gl0 0 [(1, 17)] 2 = some [.int .i64 1, .int .i64 0] := by kernel_rfl
theorem gn10 : bo gl0 4 [(1, 17), (0, 3)] 3 = some [.int .i64 1, .int .i64 0, .int .u8 3] := by kernel_rfl
theorem gn11 : bo gl0 4 [(1, 17), (1, 3)] 3 = some [.int .i64 0, .int .i64 0, .int .u8 0] := by kernel_rfl
theorem gn12 : bo gl0 4 [(1, 17), (2, 3)] 3 = some [.int .i64 0, .int .i64 0, .int .u8 2] := by kernel_rfl
theorem gq2 : bo gl0 0 [(2, 17)] 17 = some [.int .i64 0, .int .i64 1, .int .u8 2, .int .i64 1, .int .i64 0, .int .i64 1, .int .u8 0, .int .i64 0, .int .i64 0, .int .u8 3, .int .i64 0, .int .i64 0, .int .u8 1, .int .i64 2, .int .i64 2, .int .i64 0, .int .i64 2] := by kernel_rfl
theorem gs2 : bo gl0 0 [(2, 17)] 2 = some [.int .i64 0, .int .i64 1] := by kernel_rfl
theorem gn20 : bo gl0 4 [(2, 17), (0, 3)] 3 = some [.int .i64 0, .int .i64 1, .int .u8 0] := by kernel_rfl
theorem gn21 : bo gl0 4 [(2, 17), (1, 3)] 3 = some [.int .i64 0, .int .i64 0, .int .u8 3] := by kernel_rfl
theorem gn22 : bo gl0 4 [(2, 17), (2, 3)] 3 = some [.int .i64 0, .int .i64 0, .int .u8 1] := by kernel_rfl
theorem gq3 : bo gl0 0 [(3, 17)] 17 = some [.int .i64 (-1), .int .i64 0, .int .u8 1, .int .i64 0, .int .i64 (-1), .int .i64 0, .int .u8 1, .int .i64 0, .int .i64 0, .int .u8 2, .int .i64 0, .int .i64 0, .int .u8 0, .int .i64 0, .int .i64 0, .int .i64 0, .int .i64 2] := by kernel_rfl
theorem gs3 : bo gl0 0 [(3, 17)] 2 = some [.int .i64 (-1), .int .i64 0] := by kernel_rfl
theorem gn30 : bo gl0 4 [(3, 17), (0, 3)] 3 = some [.int .i64 (-1), .int .i64 0, .int .u8 1] := by kernel_rfl
theorem gn31 : bo gl0 4 [(3, 17), (1, 3)] 3 = some [.int .i64 0, .int .i64 0, .int .u8 2] := by kernel_rfl
theorem gn32 : bo gl0 4 [(3, 17), (2, 3)] 3 = some [.int .i64 0, .int .i64 0, .int .u8 0] := by kernel_rfl
theorem oa {x y : Int} (h : -4096 ≤ x ∧ x ≤ 4096 ∧ -4096 ≤ y ∧ y ≤ 4096 ∧ -4096 ≤ x ∧ x ≤ 4096 ∧ -4096 ≤ y - 1 ∧ y - 1 ≤ 4096) : Cc 47 [.i x, .i y, .i 0, .i 0] [.i x, .i (y - 1), .i 2, .i 0] := by
 refine q47 rfl ?_; unfold p47
 repeat (first | simp (disch := omega) only [↓qxs, ↓qxc, ↓qxa, ↓gn00] | refine aa (ai (by omega)) ?_)
 (try simp only [List.cons.injEq, Lf.i.injEq, and_true, true_and]); (try omega)
theorem ob {x y : Int} (h : -4096 ≤ x ∧ x ≤ 4096 ∧ -4096 ≤ y ∧ y ≤ 4096 ∧ -4096 ≤ x ∧ x ≤ 4096 ∧ -4096 ≤ y ∧ y ≤ 4096) : Cc 47 [.i x, .i y, .i 0, .i 1] [.i x, .i y, .i 1, .i 0] := by
 refine q47 rfl ?_; unfold p47
 repeat (first | simp (disch := omega) only [↓qxs, ↓qxc, ↓qxa, ↓gn01] | refine aa (ai (by omega)) ?_)
 (try simp only [List.cons.injEq, Lf.i.injEq, and_true, true_and]); (try omega)
theorem oc {x y : Int} (h : -4096 ≤ x ∧ x ≤ 4096 ∧ -4096 ≤ y ∧ y ≤ 4096 ∧ -4096 ≤ x ∧ x ≤ 4096 ∧ -4096 ≤ y ∧ y ≤ 4096) : Cc 47 [.i x, .i y, .i 0, .i 2] [.i x, .i y, .i 3, .i 0] := by
 refine q47 rfl ?_; unfold p47
 repeat (first | simp (disch := omega) only [↓qxs, ↓qxc, ↓qxa, ↓gn02] | refine aa (ai (by omega)) ?_)
 (try simp only [List.cons.injEq, Lf.i.injEq, and_true, true_and]); (try omega)
theorem od {x y : Int} (h : -4096 ≤ x ∧ x ≤ 4096 ∧ -4096 ≤ y ∧ y ≤ 4096 ∧ -4096 ≤ x + 1 ∧ x + 1 ≤ 4096 ∧ -4096 ≤ y ∧ y ≤ 4096) : Cc 47 [.i x, .i y, .i 1, .i 0] [.i (x + 1), .i y, .i 3, .i 0] := by
 refine q47 rfl ?_; unfold p47
 repeat (first | simp (disch := omega) only [↓qxs, ↓qxc, ↓qxa, ↓gn10] | refine aa (ai (by omega)) ?_)
 (try simp only [List.cons.injEq, Lf.i.injEq, and_true, true_and]); (try omega)
theorem oe {x y : Int} (h : -4096 ≤ x ∧ x ≤ 4096 ∧ -4096 ≤ y ∧ y ≤ 4096 ∧ -4096 ≤ x ∧ x ≤ 4096 ∧ -4096 ≤ y ∧ y ≤ 4096) : Cc 47 [.i x, .i y, .i 1, .i 1] [.i x, .i y, .i 0, .i 0] := by
 refine q47 rfl ?_; unfold p47
 repeat (first | simp (disch := omega) only [↓qxs, ↓qxc, ↓qxa, ↓gn11] | refine aa (ai (by omega)) ?_)
 (try simp only [List.cons.injEq, Lf.i.injEq, and_true, true_and]); (try omega)
theorem og {x y : Int} (h : -4096 ≤ x ∧ x ≤ 4096 ∧ -4096 ≤ y ∧ y ≤ 4096 ∧ -4096 ≤ x ∧ x ≤ 4096 ∧ -4096 ≤ y ∧ y ≤ 4096) : Cc 47 [.i x, .i y, .i 1, .i 2] [.i x, .i y, .i 2, .i 0] := by
 refine q47 rfl ?_; unfold p47
 repeat (first | simp (disch := omega) only [↓qxs, ↓qxc, ↓qxa, ↓gn12] | refine aa (ai (by omega)) ?_)
 (try simp only [List.cons.injEq, Lf.i.injEq, and_true, true_and]); (try omega)
theorem oh {x y : Int} (h : -4096 ≤ x ∧ x ≤ 4096 ∧ -4096 ≤ y ∧ y ≤ 4096 ∧ -4096 ≤ x ∧ x ≤ 4096 ∧ -4096 ≤ y + 1 ∧ y + 1 ≤ 4096) : Cc 47 [.i x, .i y, .i 2, .i 0] [.i x, .i (y + 1), .i 0, .i 0] := by
 refine q47 rfl ?_; unfold p47
 repeat (first | simp (disch := omega) only [↓qxs, ↓qxc, ↓qxa, ↓gn20] | refine aa (ai (by omega)) ?_)
 (try simp only [List.cons.injEq, Lf.i.injEq, and_true, true_and]); (try omega)
theorem ol {x y : Int} (h : -4096 ≤ x ∧ x ≤ 4096 ∧ -4096 ≤ y ∧ y ≤ 4096 ∧ -4096 ≤ x ∧ x ≤ 4096 ∧ -4096 ≤ y ∧ y ≤ 4096) : Cc 47 [.i x, .i y, .i 2, .i 1] [.i x, .i y, .i 3, .i 0] := by
 refine q47 rfl ?_; unfold p47
 repeat (first | simp (disch := omega) only [↓qxs, ↓qxc, ↓qxa, ↓gn21] | refine aa (ai (by omega)) ?_)
 (try simp only [List.cons.injEq, Lf.i.injEq, and_true, true_and]); (try omega)
theorem om {x y : Int} (h : -4096 ≤ x ∧ x ≤ 4096 ∧ -4096 ≤ y ∧ y ≤ 4096 ∧ -4096 ≤ x ∧ x ≤ 4096 ∧ -4096 ≤ y ∧ y ≤ 4096) : Cc 47 [.i x, .i y, .i 2, .i 2] [.i x, .i y, .i 1, .i 0] := by
 refine q47 rfl ?_; unfold p47
 repeat (first | simp (disch := omega) only [↓qxs, ↓qxc, ↓qxa, ↓gn22] | refine aa (ai (by omega)) ?_)
 (try simp only [List.cons.injEq, Lf.i.injEq, and_true, true_and]); (try omega)
theorem oo {x y : Int} (h : -4096 ≤ x ∧ x ≤ 4096 ∧ -4096 ≤ y ∧ y ≤ 4096 ∧ -4096 ≤ x - 1 ∧ x - 1 ≤ 4096 ∧ -4096 ≤ y ∧ y ≤ 4096) : Cc 47 [.i x, .i y, .i 3, .i 0] [.i (x - 1), .i y, .i 1, .i 0] := by
 refine q47 rfl ?_; unfold p47
 repeat (first | simp (disch := omega) only [↓qxs, ↓qxc, ↓qxa, ↓gn30] | refine aa (ai (by omega)) ?_)
 (try simp only [List.cons.injEq, Lf.i.injEq, and_true, true_and]); (try omega)
theorem oq {x y : Int} (h : -4096 ≤ x ∧ x ≤ 4096 ∧ -4096 ≤ y ∧ y ≤ 4096 ∧ -4096 ≤ x ∧ x ≤ 4096 ∧ -4096 ≤ y ∧ y ≤ 4096) : Cc 47 [.i x, .i y, .i 3, .i 1] [.i x, .i y, .i 2, .i 0] := by
 refine q47 rfl ?_; unfold p47
 repeat (first | simp (disch := omega) only [↓qxs, ↓qxc, ↓qxa, ↓gn31] | refine aa (ai (by omega)) ?_)
 (try simp only [List.cons.injEq, Lf.i.injEq, and_true, true_and]); (try omega)
theorem ot {x y : Int} (h : -4096 ≤ x ∧ x ≤ 4096 ∧ -4096 ≤ y ∧ y ≤ 4096 ∧ -4096 ≤ x ∧ x ≤ 4096 ∧ -4096 ≤ y ∧ y ≤ 4096) : Cc 47 [.i x, .i y, .i 3, .i 2] [.i x, .i y, .i 0, .i 0] := by
 refine q47 rfl ?_; unfold p47
 repeat (first | simp (disch := omega) only [↓qxs, ↓qxc, ↓qxa, ↓gn32] | refine aa (ai (by omega)) ?_)
 (try simp only [List.cons.injEq, Lf.i.injEq, and_true, true_and]); (try omega)
theorem eA {x y : Int} (h : -4096 ≤ x ∧ x ≤ 4096 ∧ -4096 ≤ y ∧ y ≤ 4096 ∧ -4096 ≤ y ∧ y ≤ 4096) : Cc 40 [.i x, .i y, .i 0, .i 0] [.i 2, .i y, .i 0] := by
 refine q40 rfl ?_; unfold p40
 repeat (first | simp (disch := omega) only [↓qxs, ↓qxc, ↓qxa, ↓gq0] | refine aa (ai (by omega)) ?_ | refine aa (aD (by omega)) ?_)
 (try simp only [List.cons.injEq, Lf.i.injEq, and_true, true_and]); (try omega)
theorem eB {x y : Int} (h : -4096 ≤ x ∧ x ≤ 4096 ∧ -4096 ≤ y ∧ y ≤ 4096 ∧ -4096 ≤ x + y + 1 ∧ x + y + 1 ≤ 4096) : Cc 40 [.i x, .i y, .i 0, .i 1] [.i 3, .i (x + y + 1), .i 0] := by
 refine q40 rfl ?_; unfold p40
 repeat (first | simp (disch := omega) only [↓qxs, ↓qxc, ↓qxa, ↓gq0] | refine aa (ai (by omega)) ?_ | refine aa (aD (by omega)) ?_)
 (try simp only [List.cons.injEq, Lf.i.injEq, and_true, true_and]); (try omega)
theorem eC {x y : Int} (h : -4096 ≤ x ∧ x ≤ 4096 ∧ -4096 ≤ y ∧ y ≤ 4096 ∧ -4096 ≤ y - x ∧ y - x ≤ 4096) : Cc 40 [.i x, .i y, .i 0, .i 2] [.i 4, .i (y - x), .i 0] := by
 refine q40 rfl ?_; unfold p40
 repeat (first | simp (disch := omega) only [↓qxs, ↓qxc, ↓qxa, ↓gq0] | refine aa (ai (by omega)) ?_ | refine aa (aD (by omega)) ?_)
 (try simp only [List.cons.injEq, Lf.i.injEq, and_true, true_and]); (try omega)
theorem eD {x y : Int} (h : -4096 ≤ x ∧ x ≤ 4096 ∧ -4096 ≤ y ∧ y ≤ 4096 ∧ -4096 ≤ x + 1 ∧ x + 1 ≤ 4096) : Cc 40 [.i x, .i y, .i 1, .i 0] [.i 1, .i (x + 1), .i 0] := by
 refine q40 rfl ?_; unfold p40
 repeat (first | simp (disch := omega) only [↓qxs, ↓qxc, ↓qxa, ↓gq1] | refine aa (ai (by omega)) ?_ | refine aa (aD (by omega)) ?_)
 (try simp only [List.cons.injEq, Lf.i.injEq, and_true, true_and]); (try omega)
theorem eE {x y : Int} (h : -4096 ≤ x ∧ x ≤ 4096 ∧ -4096 ≤ y ∧ y ≤ 4096 ∧ -4096 ≤ x + y + 1 ∧ x + y + 1 ≤ 4096) : Cc 40 [.i x, .i y, .i 1, .i 1] [.i 3, .i (x + y + 1), .i 0] := by
 refine q40 rfl ?_; unfold p40
 repeat (first | simp (disch := omega) only [↓qxs, ↓qxc, ↓qxa, ↓gq1] | refine aa (ai (by omega)) ?_ | refine aa (aD (by omega)) ?_)
 (try simp only [List.cons.injEq, Lf.i.injEq, and_true, true_and]); (try omega)
theorem eF {x y : Int} (h : -4096 ≤ x ∧ x ≤ 4096 ∧ -4096 ≤ y ∧ y ≤ 4096 ∧ -4096 ≤ y - x ∧ y - x ≤ 4096) : Cc 40 [.i x, .i y, .i 1, .i 2] [.i 4, .i (y - x), .i 0] := by
 refine q40 rfl ?_; unfold p40
 repeat (first | simp (disch := omega) only [↓qxs, ↓qxc, ↓qxa, ↓gq1] | refine aa (ai (by omega)) ?_ | refine aa (aD (by omega)) ?_)
 (try simp only [List.cons.injEq, Lf.i.injEq, and_true, true_and]); (try omega)
theorem eG {x y : Int} (h : -4096 ≤ x ∧ x ≤ 4096 ∧ -4096 ≤ y ∧ y ≤ 4096 ∧ -4096 ≤ y + 1 ∧ y + 1 ≤ 4096) : Cc 40 [.i x, .i y, .i 2, .i 0] [.i 2, .i (y + 1), .i 0] := by
 refine q40 rfl ?_; unfold p40
 repeat (first | simp (disch := omega) only [↓qxs, ↓qxc, ↓qxa, ↓gq2] | refine aa (ai (by omega)) ?_ | refine aa (aD (by omega)) ?_)
 (try simp only [List.cons.injEq, Lf.i.injEq, and_true, true_and]); (try omega)
theorem eH {x y : Int} (h : -4096 ≤ x ∧ x ≤ 4096 ∧ -4096 ≤ y ∧ y ≤ 4096 ∧ -4096 ≤ x + y + 1 ∧ x + y + 1 ≤ 4096) : Cc 40 [.i x, .i y, .i 2, .i 1] [.i 3, .i (x + y + 1), .i 0] := by
 refine q40 rfl ?_; unfold p40
 repeat (first | simp (disch := omega) only [↓qxs, ↓qxc, ↓qxa, ↓gq2] | refine aa (ai (by omega)) ?_ | refine aa (aD (by omega)) ?_)
 (try simp only [List.cons.injEq, Lf.i.injEq, and_true, true_and]); (try omega)
theorem eI {x y : Int} (h : -4096 ≤ x ∧ x ≤ 4096 ∧ -4096 ≤ y ∧ y ≤ 4096 ∧ -4096 ≤ y - x ∧ y - x ≤ 4096) : Cc 40 [.i x, .i y, .i 2, .i 2] [.i 4, .i (y - x), .i 0] := by
 refine q40 rfl ?_; unfold p40
 repeat (first | simp (disch := omega) only [↓qxs, ↓qxc, ↓qxa, ↓gq2] | refine aa (ai (by omega)) ?_ | refine aa (aD (by omega)) ?_)
 (try simp only [List.cons.injEq, Lf.i.injEq, and_true, true_and]); (try omega)
theorem eJ {x y : Int} (h : -4096 ≤ x ∧ x ≤ 4096 ∧ -4096 ≤ y ∧ y ≤ 4096 ∧ -4096 ≤ x ∧ x ≤ 4096) : Cc 40 [.i x, .i y, .i 3, .i 0] [.i 1, .i x, .i 0] := by
 refine q40 rfl ?_; unfold p40
 repeat (first | simp (disch := omega) only [↓qxs, ↓qxc, ↓qxa, ↓gq3] | refine aa (ai (by omega)) ?_ | refine aa (aD (by omega)) ?_)
 (try simp only [List.cons.injEq, Lf.i.injEq, and_true, true_and]); (try omega)
theorem eK {x y : Int} (h : -4096 ≤ x ∧ x ≤ 4096 ∧ -4096 ≤ y ∧ y ≤ 4096 ∧ -4096 ≤ x + y + 1 ∧ x + y + 1 ≤ 4096) : Cc 40 [.i x, .i y, .i 3, .i 1] [.i 3, .i (x + y + 1), .i 0] := by
 refine q40 rfl ?_; unfold p40
 repeat (first | simp (disch := omega) only [↓qxs, ↓qxc, ↓qxa, ↓gq3] | refine aa (ai (by omega)) ?_ | refine aa (aD (by omega)) ?_)
 (try simp only [List.cons.injEq, Lf.i.injEq, and_true, true_and]); (try omega)
theorem eL {x y : Int} (h : -4096 ≤ x ∧ x ≤ 4096 ∧ -4096 ≤ y ∧ y ≤ 4096 ∧ -4096 ≤ y - x ∧ y - x ≤ 4096) : Cc 40 [.i x, .i y, .i 3, .i 2] [.i 4, .i (y - x), .i 0] := by
 refine q40 rfl ?_; unfold p40
 repeat (first | simp (disch := omega) only [↓qxs, ↓qxc, ↓qxa, ↓gq3] | refine aa (ai (by omega)) ?_ | refine aa (aD (by omega)) ?_)
 (try simp only [List.cons.injEq, Lf.i.injEq, and_true, true_and]); (try omega)
end Go.Am
/-
 CONTRACTS, BY PROGRAM: moves of points.
-/
set_option maxRecDepth 100000
namespace Go.Am
open Sx Go.Proofs
theorem bey_f {n : Int} (h : -16384 ≤ n ∧ n ≤ 16384) : Cc 92 [.i n] [.b false] := by
 refine q92 rfl ?_; unfold p92
 simp (disch := omega) only [↓qxs, ↓qxc, ↓qxa]
theorem bey_t {n : Int} (h : ¬ (-16384 ≤ n ∧ n ≤ 16384)) : Cc 92 [.i n] [.b true] := by
 refine q92 rfl ?_; unfold p92
 by_cases h1 : n < -16384
 ·simp (disch := omega) only [↓qxs, ↓qxc, ↓qxa]
 simp (disch := omega) only [↓qxs, ↓qxc, ↓qxa]
theorem af {t x y : Int} (h : (0 ≤ t ∧ t ≤ 7 ∧ -16384 ≤ x ∧ x ≤ 16384 ∧ -16384 ≤ y ∧ y ≤ 16384) ∧ (x + y) % 2 = 0) : Cc 79 [.i t, .i x, .i y] [.i 0] := by
 refine q79 rfl ?_; unfold p79
 rcases Int.le_total 0 (x + y) with hs | hs
 all_goals
  (repeat (first | simp (disch := omega) only [↓qxs, ↓qxc, ↓qxa] | refine aa (bey_f (by omega)) ?_); (try simp only [List.cons.injEq, Lf.i.injEq, and_true, true_and]); (try omega))
theorem ay {t x y : Int} (h : (0 ≤ t ∧ t ≤ 255) ∧ ¬ ((0 ≤ t ∧ t ≤ 7 ∧ -16384 ≤ x ∧ x ≤ 16384 ∧ -16384 ≤ y ∧ y ≤ 16384) ∧ (x + y) % 2 = 0)) : Cc 79 [.i t, .i x, .i y] [.i 1] := by
 refine q79 rfl ?_; unfold p79
 by_cases h1 : 7 < t
 ·simp (disch := omega) only [↓qxs, ↓qxc, ↓qxa]
 by_cases h2 : -16384 ≤ x ∧ x ≤ 16384
 ·by_cases h3 : -16384 ≤ y ∧ y ≤ 16384
  ·rcases Int.le_total 0 (x + y) with hs | hs
   all_goals (repeat (first | simp (disch := omega) only [↓qxs, ↓qxc, ↓qxa] | refine aa (bey_f (by omega)) ?_); (try simp only [List.cons.injEq, Lf.i.injEq, and_true, true_and]); (try omega))
  ·repeat (first | simp (disch := omega) only [↓qxs, ↓qxc, ↓qxa] | refine aa (bey_f (by omega)) ?_ | refine aa (bey_t (by omega)) ?_); (try simp only [List.cons.injEq, Lf.i.injEq, and_true, true_and]); (try omega)
 ·repeat (first | simp (disch := omega) only [↓qxs, ↓qxc, ↓qxa] | refine aa (bey_t (by omega)) ?_); (try simp only [List.cons.injEq, Lf.i.injEq, and_true, true_and]); (try omega)
theorem gt0 : bo gl1 0 [(0, 4)] 4 = some [.int .i64 1, .int .i64 0, .int .i64 0, .int .i64 1] := by kernel_rfl
theorem mof0 {x y : Int} (h : -1000000 ≤ x ∧ x ≤ 1000000 ∧ -1000000 ≤ y ∧ y ≤ 1000000) : Cc 85 [.i 1, .i 0, .i 0, .i 1, .i x, .i y] [.i x, .i y] := by
 refine q85 rfl ?_; unfold p85
 repeat (first | simp (disch := omega) only [↓qxs, ↓qxc, ↓qxa])
 (try simp only [List.cons.injEq, Lf.i.injEq, and_true, true_and]); (try omega)
theorem gt1 : bo gl1 0 [(1, 4)] 4 = some [.int .i64 0, .int .i64 (-1), .int .i64 1, .int .i64 0] := by kernel_rfl
theorem mof1 {x y : Int} (h : -1000000 ≤ x ∧ x ≤ 1000000 ∧ -1000000 ≤ y ∧ y ≤ 1000000) : Cc 85 [.i 0, .i (-1), .i 1, .i 0, .i x, .i y] [.i (-(y)), .i x] := by
 refine q85 rfl ?_; unfold p85
 repeat (first | simp (disch := omega) only [↓qxs, ↓qxc, ↓qxa])
 (try simp only [List.cons.injEq, Lf.i.injEq, and_true, true_and]); (try omega)
theorem gt2 : bo gl1 0 [(2, 4)] 4 = some [.int .i64 (-1), .int .i64 0, .int .i64 0, .int .i64 (-1)] := by kernel_rfl
theorem mof2 {x y : Int} (h : -1000000 ≤ x ∧ x ≤ 1000000 ∧ -1000000 ≤ y ∧ y ≤ 1000000) : Cc 85 [.i (-1), .i 0, .i 0, .i (-1), .i x, .i y] [.i (-(x)), .i (-(y))] := by
 refine q85 rfl ?_; unfold p85
 repeat (first | simp (disch := omega) only [↓qxs, ↓qxc, ↓qxa])
 (try simp only [List.cons.injEq, Lf.i.injEq, and_true, true_and]); (try omega)
theorem gt3 : bo gl1 0 [(3, 4)] 4 = some [.int .i64 0, .int .i64 1, .int .i64 (-1), .int .i64 0] := by kernel_rfl
theorem mof3 {x y : Int} (h : -1000000 ≤ x ∧ x ≤ 1000000 ∧ -1000000 ≤ y ∧ y ≤ 1000000) : Cc 85 [.i 0, .i 1, .i (-1), .i 0, .i x, .i y] [.i y, .i (-(x))] := by
 refine q85 rfl ?_; unfold p85
 repeat (first | simp (disch := omega) only [↓qxs, ↓qxc, ↓qxa])
 (try simp only [List.cons.injEq, Lf.i.injEq, and_true, true_and]); (try omega)
theorem gt4 : bo gl1 0 [(4, 4)] 4 = some [.int .i64 (-1), .int .i64 0, .int .i64 0, .int .i64 1] := by kernel_rfl
theorem mof4 {x y : Int} (h : -1000000 ≤ x ∧ x ≤ 1000000 ∧ -1000000 ≤ y ∧ y ≤ 1000000) : Cc 85 [.i (-1), .i 0, .i 0, .i 1, .i x, .i y] [.i (-(x)), .i y] := by
 refine q85 rfl ?_; unfold p85
 repeat (first | simp (disch := omega) only [↓qxs, ↓qxc, ↓qxa])
 (try simp only [List.cons.injEq, Lf.i.injEq, and_true, true_and]); (try omega)
theorem gt5 : bo gl1 0 [(5, 4)] 4 = some [.int .i64 0, .int .i64 (-1), .int .i64 (-1), .int .i64 0] := by kernel_rfl
theorem mof5 {x y : Int} (h : -1000000 ≤ x ∧ x ≤ 1000000 ∧ -1000000 ≤ y ∧ y ≤ 1000000) : Cc 85 [.i 0, .i (-1), .i (-1), .i 0, .i x, .i y] [.i (-(y)), .i (-(x))] := by
 refine q85 rfl ?_; unfold p85
 repeat (first | simp (disch := omega) only [↓qxs, ↓qxc, ↓qxa])
 (try simp only [List.cons.injEq, Lf.i.injEq, and_true, true_and]); (try omega)
theorem gt6 : bo gl1 0 [(6, 4)] 4 = some [.int .i64 1, .int .i64 0, .int .i64 0, .int .i64 (-1)] := by kernel_rfl
theorem mof6 {x y : Int} (h : -1000000 ≤ x ∧ x ≤ 1000000 ∧ -1000000 ≤ y ∧ y ≤ 1000000) : Cc 85 [.i 1, .i 0, .i 0, .i (-1), .i x, .i y] [.i x, .i (-(y))] := by
 refine q85 rfl ?_; unfold p85
 repeat (first | simp (disch := omega) only [↓qxs, ↓qxc, ↓qxa])
 (try simp only [List.cons.injEq, Lf.i.injEq, and_true, true_and]); (try omega)
theorem gt7 : bo gl1 0 [(7, 4)] 4 = some [.int .i64 0, .int .i64 1, .int .i64 1, .int .i64 0] := by kernel_rfl
theorem mof7 {x y : Int} (h : -1000000 ≤ x ∧ x ≤ 1000000 ∧ -1000000 ≤ y ∧ y ≤ 1000000) : Cc 85 [.i 0, .i 1, .i 1, .i 0, .i x, .i y] [.i y, .i x] := by
 refine q85 rfl ?_; unfold p85
 repeat (first | simp (disch := omega) only [↓qxs, ↓qxc, ↓qxa])
 (try simp only [List.cons.injEq, Lf.i.injEq, and_true, true_and]); (try omega)
theorem aG {m n x y : Int} (h : (-16384 ≤ m ∧ m ≤ 16384 ∧ -16384 ≤ n ∧ n ≤ 16384 ∧ (m + n) % 2 = 0) ∧ -65536 ≤ x ∧ x ≤ 65536 ∧ -65536 ≤ y ∧ y ≤ 65536 ∧ -65536 ≤ x + 2 * m ∧ x + 2 * m ≤ 65536 ∧ -65536 ≤ y + 2 * n ∧ y + 2 * n ≤ 65536) : Cc 83 [.i 0, .i m, .i n, .i x, .i y] [.i (x + 2 * m), .i (y + 2 * n), .i 0] := by
 refine q83 rfl ?_; unfold p83
 repeat (first | simp (disch := omega) only [↓qxs, ↓qxc, ↓qxa, ↓gt0] | refine aa (af (by omega)) ?_ | refine aa (bz (by omega)) ?_ | refine aa (mof0 (by omega)) ?_)
 (try simp only [List.cons.injEq, Lf.i.injEq, and_true, true_and]); (try omega)
theorem aH {m n x y : Int} (h : (-16384 ≤ m ∧ m ≤ 16384 ∧ -16384 ≤ n ∧ n ≤ 16384 ∧ (m + n) % 2 = 0) ∧ -65536 ≤ x ∧ x ≤ 65536 ∧ -65536 ≤ y ∧ y ≤ 65536 ∧ -65536 ≤ -(y) + 2 * m ∧ -(y) + 2 * m ≤ 65536 ∧ -65536 ≤ x + 2 * n ∧ x + 2 * n ≤ 65536) : Cc 83 [.i 1, .i m, .i n, .i x, .i y] [.i (-(y) + 2 * m), .i (x + 2 * n), .i 0] := by
 refine q83 rfl ?_; unfold p83
 repeat (first | simp (disch := omega) only [↓qxs, ↓qxc, ↓qxa, ↓gt1] | refine aa (af (by omega)) ?_ | refine aa (bz (by omega)) ?_ | refine aa (mof1 (by omega)) ?_)
 (try simp only [List.cons.injEq, Lf.i.injEq, and_true, true_and]); (try omega)
theorem aI {m n x y : Int} (h : (-16384 ≤ m ∧ m ≤ 16384 ∧ -16384 ≤ n ∧ n ≤ 16384 ∧ (m + n) % 2 = 0) ∧ -65536 ≤ x ∧ x ≤ 65536 ∧ -65536 ≤ y ∧ y ≤ 65536 ∧ -65536 ≤ -(x) + 2 * m ∧ -(x) + 2 * m ≤ 65536 ∧ -65536 ≤ -(y) + 2 * n ∧ -(y) + 2 * n ≤ 65536) : Cc 83 [.i 2, .i m, .i n, .i x, .i y] [.i (-(x) + 2 * m), .i (-(y) + 2 * n), .i 0] := by
 refine q83 rfl ?_; unfold p83
 repeat (first | simp (disch := omega) only [↓qxs, ↓qxc, ↓qxa, ↓gt2] | refine aa (af (by omega)) ?_ | refine aa (bz (by omega)) ?_ | refine aa (mof2 (by omega)) ?_)
 (try simp only [List.cons.injEq, Lf.i.injEq, and_true, true_and]); (try omega)
theorem aJ {m n x y : Int} (h : (-16384 ≤ m ∧ m ≤ 16384 ∧ -16384 ≤ n ∧ n ≤ 16384 ∧ (m + n) % 2 = 0) ∧ -65536 ≤ x ∧ x ≤ 65536 ∧ -65536 ≤ y ∧ y ≤ 65536 ∧ -65536 ≤ y + 2 * m ∧ y + 2 * m ≤ 65536 ∧ -65536 ≤ -(x) + 2 * n ∧ -(x) + 2 * n ≤ 65536) : Cc 83 [.i 3, .i m, .i n, .i x, .i y] [.i (y + 2 * m), .i (-(x) + 2 * n), .i 0] := by
 refine q83 rfl ?_; unfold p83
 repeat (first | simp (disch := omega) only [↓qxs, ↓qxc, ↓qxa, ↓gt3] | refine aa (af (by omega)) ?_ | refine aa (bz (by omega)) ?_ | refine aa (mof3 (by omega)) ?_)
 (try simp only [List.cons.injEq, Lf.i.injEq, and_true, true_and]); (try omega)
theorem aK {m n x y : Int} (h : (-16384 ≤ m ∧ m ≤ 16384 ∧ -16384 ≤ n ∧ n ≤ 16384 ∧ (m + n) % 2 = 0) ∧ -65536 ≤ x ∧ x ≤ 65536 ∧ -65536 ≤ y ∧ y ≤ 65536 ∧ -65536 ≤ -(x) + 2 * m ∧ -(x) + 2 * m ≤ 65536 ∧ -65536 ≤ y + 2 * n ∧ y + 2 * n ≤ 65536) : Cc 83 [.i 4, .i m, .i n, .i x, .i y] [.i (-(x) + 2 * m), .i (y + 2 * n), .i 0] := by
 refine q83 rfl ?_; unfold p83
 repeat (first | simp (disch := omega) only [↓qxs, ↓qxc, ↓qxa, ↓gt4] | refine aa (af (by omega)) ?_ | refine aa (bz (by omega)) ?_ | refine aa (mof4 (by omega)) ?_)
 (try simp only [List.cons.injEq, Lf.i.injEq, and_true, true_and]); (try omega)
theorem aL {m n x y : Int} (h : (-16384 ≤ m ∧ m ≤ 16384 ∧ -16384 ≤ n ∧ n ≤ 16384 ∧ (m + n) % 2 = 0) ∧ -65536 ≤ x ∧ x ≤ 65536 ∧ -65536 ≤ y ∧ y ≤ 65536 ∧ -65536 ≤ -(y) + 2 * m ∧ -(y) + 2 * m ≤ 65536 ∧ -65536 ≤ -(x) + 2 * n ∧ -(x) + 2 * n ≤ 65536) : Cc 83 [.i 5, .i m, .i n, .i x, .i y] [.i (-(y) + 2 * m), .i (-(x) + 2 * n), .i 0] := by
 refine q83 rfl ?_; unfold p83
 repeat (first | simp (disch := omega) only [↓qxs, ↓qxc, ↓qxa, ↓gt5] | refine aa (af (by omega)) ?_ | refine aa (bz (by omega)) ?_ | refine aa (mof5 (by omega)) ?_)
 (try simp only [List.cons.injEq, Lf.i.injEq, and_true, true_and]); (try omega)
theorem aM {m n x y : Int} (h : (-16384 ≤ m ∧ m ≤ 16384 ∧ -16384 ≤ n ∧ n ≤ 16384 ∧ (m + n) % 2 = 0) ∧ -65536 ≤ x ∧ x ≤ 65536 ∧ -65536 ≤ y ∧ y ≤ 65536 ∧ -65536 ≤ x + 2 * m ∧ x + 2 * m ≤ 65536 ∧ -65536 ≤ -(y) + 2 * n ∧ -(y) + 2 * n ≤ 65536) : Cc 83 [.i 6, .i m, .i n, .i x, .i y] [.i (x + 2 * m), .i (-(y) + 2 * n), .i 0] := by
 refine q83 rfl ?_; unfold p83
 repeat (first | simp (disch := omega) only [↓qxs, ↓qxc, ↓qxa, ↓gt6] | refine aa (af (by omega)) ?_ | refine aa (bz (by omega)) ?_ | refine aa (mof6 (by omega)) ?_)
 (try simp only [List.cons.injEq, Lf.i.injEq, and_true, true_and]); (try omega)
theorem aO {m n x y : Int} (h : (-16384 ≤ m ∧ m ≤ 16384 ∧ -16384 ≤ n ∧ n ≤ 16384 ∧ (m + n) % 2 = 0) ∧ -65536 ≤ x ∧ x ≤ 65536 ∧ -65536 ≤ y ∧ y ≤ 65536 ∧ -65536 ≤ y + 2 * m ∧ y + 2 * m ≤ 65536 ∧ -65536 ≤ x + 2 * n ∧ x + 2 * n ≤ 65536) : Cc 83 [.i 7, .i m, .i n, .i x, .i y] [.i (y + 2 * m), .i (x + 2 * n), .i 0] := by
 refine q83 rfl ?_; unfold p83
 repeat (first | simp (disch := omega) only [↓qxs, ↓qxc, ↓qxa, ↓gt7] | refine aa (af (by omega)) ?_ | refine aa (bz (by omega)) ?_ | refine aa (mof7 (by omega)) ?_)
 (try simp only [List.cons.injEq, Lf.i.injEq, and_true, true_and]); (try omega)
end Go.Am
